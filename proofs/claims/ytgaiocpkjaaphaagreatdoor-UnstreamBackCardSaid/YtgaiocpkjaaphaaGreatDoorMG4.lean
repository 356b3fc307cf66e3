/- Several texts in one: Ma, M20, Q24, Qs, Q25, A18, P37, P32, P2l, P34, P24, P25, P14, P33, P38, W2w, Y20, B2r, O2a, Y2l, P3s, Y21, Y2w, Rd, U22, W2s, O2c. -/
import Derived.Test.YtgaiocpkjaaphaaGreatDoorMG2
import Derived.Test.YtgaiocpkjaaphaaGreatDoorMG3
import Derived.Test.YtgaiocpkjaaphaaGreatDoorMG0
import Derived.Test.YtgaiocpkjaaphaaGreatDoorMG1
import Derived.Test.YtgaiocpkjaaphaaGreatDoorRows
import Derived.Lib.LaidTab
import Derived.LaidMore
import Derived.Lib.SmallJoins
set_option linter.unusedVariables false
set_option linter.unusedSimpArgs false
open Go.RowKit (intOf)
open List (drop_append_of_le_length drop_drop drop_left drop_of_length_le drop_zero flatMap_nil getElem_mem length_cons length_nil map_append map_congr_left mem_cons mem_map mem_of_mem_take mem_range replicate_succ' take_add take_append_of_le_length take_left take_zero)
namespace Go.Ma
open Go.M01 Go.Mb Go.Mp Go.M10 Go.Mc Go.Mz Go.Mk Go.Q20 Go.Q21 Go.Q22 Go.Mw Go.Mx Go.Mv
theorem Ycz {T:Nat->Bool}{i k:Nat}(hk:k < 16) (h:T (16*i+k)=true):someB T i=true:=by
 unfold someB;rw[List.any_eq_true];exact⟨k,mem_range.2 hk,h⟩
theorem Zip {T:Nat->Bool}{i:Nat}(h:i < 16):(whichB T 16).getD i false=someB T i:=by
 rw[Zeu T 16 i h,decide_eq_true h,Bool.true_and]
theorem Zjf (T:Nat->Bool):marksL (whichB T 16)=(List.range 16).filter (someB T):=by
 unfold marksL;exact List.filter_congr λi hi=>Zip (mem_range.1 hi)
theorem Zvq {T:Nat->Bool}{i:Nat}(h:i<=16):Q21.cnt (whichB T 16) i=((List.range i).filter (someB T)).length:=by
 unfold Q21.cnt
 congr 1
 exact List.filter_congr λj hj=>Zip (by have:=mem_range.1 hj;omega)
theorem Zf4 (T:Nat->Bool):∀ j,(rowsB T j).length=16*((List.range j).filter (someB T)).length
 |0=>rfl
 |j+1=>by
  rw[rowsB,gD,Zf4 T j,List.range_succ,List.filter_append,gD]
  cases h:someB T j with
  |true=>rw[if_pos rfl,Zb6,List.filter_cons_of_pos h];simp;omega
  |false=>rw[if_neg (by simp),List.filter_cons_of_neg (by simp[h])];simp
theorem Zo7 (T:Nat->Bool) (j:Nat):∀ d,∃ r,rowsB T (j+d)=rowsB T j++r
 |0=>⟨[],by simp⟩
 |d+1=>by
  obtain⟨r,hr⟩:=Zo7 T j d;exact⟨r++_,by rw[<-hG_,rowsB,hr,gI]⟩
theorem Zoo (T:Nat->Bool):(usedB T).length=16+16*((List.range 16).filter (someB T)).length:=by
 unfold usedB;rw[gD,Zah,Zf4]
theorem Zy8 (T:Nat->Bool) (rest:List Bool) (hne:listed T≠[]):∃ T',uread (usedB T++rest)=.ok T' (usedB T).length/\listed T'=listed T:=by
 have hl:=Zoo T
 have ht:(usedB T++rest).take 16=whichB T 16:=by
  unfold usedB;rw[gI,take_append_of_le_length (by rw[Zah];exact Nat.le_refl _),gK (by rw[Zah];exact Nat.le_refl _)]
 have hT:∀ b,b < 256->usedOf (usedB T++rest) b=T b:=by
  intro b hb
  have hi:b/16 < 16:=by omega
  have hk:b%16 < 16:=Nat.mod_lt _ (by decide);have h1:=Ycv (l:=usedB T++rest) hi hk (by rw[gD,hl];omega);rw[show 16*(b/16)+b%16=b by omega,ht,Zvq (by omega)] at h1;rw[h1]
  have h2:(usedB T++rest).getD (b/16) false=someB T (b/16):=by
   rw[<-Zip hi];unfold usedB;rw[gI,gB,gB,gM (by rw[Zah];exact hi)]
  rw[h2]
  cases hs:someB T (b/16) with
  |false=>
   rw[Bool.false_and]
   cases hb2:T b with
   |false=>rfl
   |true=>
    have:=Ycz (T:=T) (i:=b/16) hk (by rw[show 16*(b/16)+b%16=b by omega];exact hb2);rw[hs] at this;cases this
  |true=>
   rw[Bool.true_and];obtain⟨r,hr⟩:=Zo7 T (b/16+1) (15 - b/16)
   have hr2:rowsB T (b/16+1)=rowsB T (b/16)++bitR T (b/16):=by rw[rowsB,hs,if_pos rfl]
   rw[show b/16+1+(15 - b/16)=16 by omega,hr2] at hr
   have h3:(usedB T++rest)=whichB T 16++(rowsB T (b/16)++(bitR T (b/16)++(r++rest))):=by
    unfold usedB;rw[hr];simp only[gI]
   have h4:=Zf4 T (b/16)
   rw[h3,gB,gT (by rw[Zah];omega),Zah,gT (by omega),h4,
    show 16+16*((List.range (b/16)).filter (someB T)).length+b%16 - 16 - 16*((List.range (b/16)).filter (someB T)).length=b%16 by omega,
    gM (by rw[Zb6];exact hk),<-gB,Zfx _ _ _ hk]
   congr 1
   omega
 have hL:listed (usedOf (usedB T++rest))=listed T:=by
  unfold listed
  congr 1
  exact List.filter_congr λb hb=>hT b (mem_range.1 hb)
 refine⟨usedOf (usedB T++rest),?_,hL⟩;unfold uread;rw[ht,Zjf,if_neg (by rw[gD,hl];omega),if_neg (by rw[gD,hl];omega),hl]
 have e:usedT ((List.range 16).filter (someB T)) ((usedB T++rest).drop 16)=usedOf (usedB T++rest):=by
  unfold usedOf;rw[ht,Zjf]
 rw[e,if_neg (by rw[hL];exact hne)]
theorem Zyz (o:List UInt8) (s:List UInt8) (hs:∀ c∈s,c∈o):mall o (mtfE o s).2=((mtfE o s).1,s):=by
 have key:∀ i,i<=s.length->mall o (mtfE o (s.take i)).2=((mtfE o (s.take i)).1,s.take i):=by
  intro i
  induction i with
  |zero=>intro _;rfl
  |succ i ih=>
   intro hi
   have e:s.take (i+1)=s.take i++[s[i]]:=by rw[gO,gA (by omega)];rfl
   have hm:=(Zhl (o:=o) (s:=s.take i) λc hc=>hs c (mem_of_mem_take hc)).1;have hc:s[i]∈(mtfE o (s.take i)).1:=(hm _).2 (hs _ (getElem_mem _));rw[e,Zd3];unfold mE;simp only;rw[Zvv,ih (by omega)];unfold mstep;simp only;rw[Yb8 hc]
 have:=key s.length (Nat.le_refl _);rw[hF_] at this;exact this
def zfold (x:Option (ZS × List Nat)) (L:List Nat):Option (ZS × List Nat):=L.foldl zstep x
theorem Zi5 (x:Option (ZS × List Nat)) (c:Nat):zfold x [c]=zstep x c:=rfl
theorem Zeh (x:Option (ZS × List Nat)) (A B:List Nat):zfold x (A++B)=zfold (zfold x A) B:=by simp[zfold]
theorem Zgy:∀ (r:List Nat) (a w:Nat),r.foldl (λx c=>(x.1+x.2*2^c,2*x.2)) (a,w)=(a+w*(valR r).1,w*(valR r).2)
 |[],a,w=>by simp[valR]
 |c::r,a,w=>by
  have h1:=Zgy r (a+w*2^c) (2*w);have h2:=Zgy r (0+1*2^c) (2*1)
  have e:valR (c::r)=(0+1*2^c+2*1*(valR r).1,2*1*(valR r).2):=by rw[<-h2];rfl
  rw[List.foldl_cons,h1,e];refine Prod.ext ?_ ?_
  ·show a+w*2^c+2*w*(valR r).1=a+w*(0+1*2^c+2*1*(valR r).1);rw[Nat.mul_add,Nat.zero_add,Nat.one_mul,Nat.mul_one,<-Nat.mul_assoc,Nat.mul_comm w 2,hG_]
  ·show 2*w*(valR r).2=w*(2*1*(valR r).2);rw[Nat.mul_one,<-Nat.mul_assoc,Nat.mul_comm w 2]
theorem Zws (c:Nat) (r:List Nat):(valR (c::r)).1=2^c+2*(valR r).1:=by
 have h2:=Zgy r (0+1*2^c) (2*1)
 have e:valR (c::r)=(0+1*2^c+2*1*(valR r).1,2*1*(valR r).2):=by rw[<-h2];rfl
 rw[e];simp
theorem Zdz:∀ (n m:Nat),m<=n->(valR (rowZ m)).1=m
 |0,m,h=>by
  rw[show m=0 by omega,Zd7];rfl
 |n+1,m,h=>by
  by_cases hm:m=0
  ·subst hm;rw[Zd7];rfl
  ·rw[Zg1 hm,Zws,Zdz n _ (by omega)];split
   ·simp;omega
   ·simp;omega
theorem Zrc (n most told:Nat) (pl:List Nat) (hd:Bool):∀ (row:List Nat),(∀ c∈row,c<=1)->told+(valR row).1<=most->
  zfold (some (⟨n,most,told,0,1,hd⟩,pl)) row=some (⟨n,most,told,(valR row).1,(valR row).2,if row=[] then hd else false⟩,pl):=by
 intro row;refine snocRec (motive:=λrow=>(∀ c∈row,c<=1)->told+(valR row).1<=most->zfold (some (⟨n,most,told,0,1,hd⟩,pl)) row=some (⟨n,most,told,(valR row).1,(valR row).2,if row=[] then hd else false⟩,pl)) row ?_ ?_
 ·intro _ _;rfl
 ·intro t c ih hc hm;have h1:=(Zv3 t [c]).1;rw[Zeh,ih (λx hx=>hc x (List.mem_append_left _ hx)) (by omega)];rw[Zi5];have hc1:=hc c (by simp);rw[Zo2] at hm ⊢;simp only at hm;unfold zstep zput;simp only;rw[if_pos hc1,if_neg (by omega)]
  have e1:¬ t++[c]=[]:=by simp
  simp only[if_neg e1,zone];simp[Nat.mul_comm]
theorem Zty {n room:Nat}{l:List Nat}(hn:1<=n) (hp:∀ p∈l,p < n) (hl:l.length<=room):∃ z,zall (z0 n room) (rowE l n)=some (z,l):=by
 have key:∀ i,i<=l.length->∃ hd,zfold (some (z0 n room,[])) (zenc (l.take i)).1=some (⟨n,room,i - (zenc (l.take i)).2,0,1,hd⟩,(l.take i).take (i - (zenc (l.take i)).2))/\
   (zenc (l.take i)).2<=i/\l.take i=(l.take i).take (i - (zenc (l.take i)).2)++List.replicate (zenc (l.take i)).2 0:=by
  intro i
  induction i with
  |zero=>intro _;exact⟨false,rfl,Nat.le_refl _,by simp[zenc]⟩
  |succ i ih=>
   intro hi;obtain⟨hd,h1,h2,h3⟩:=ih (by omega)
   have e:l.take (i+1)=l.take i++[l[i]]:=by rw[gO,gA (by omega)];rfl
   have hpi:=hp _ (getElem_mem (show i < l.length by omega))
   have hlen:(l.take i).length=i:=by rw[gN];omega
   rw[e,Zcl];generalize hq:l[i]=p at *;generalize hz:zenc (l.take i)=x at *;obtain⟨A,m⟩:=x;simp only at h1 h2 h3;unfold zE
   by_cases h0:p=0
   ·rw[if_pos h0];simp only;refine⟨hd,?_,by omega,?_⟩
    ·rw[h1,show i+1 - (m+1)=i - m by omega,take_append_of_le_length (by omega)]
    ·rw[show i+1 - (m+1)=i - m by omega,take_append_of_le_length (by omega),replicate_succ',<-gI,<-h3,h0]
   ·rw[if_neg h0];simp only;have hlr:(l.take i).take (i - m)++List.replicate m 0=l.take i:=h3.symm;refine⟨false,?_,hE _,by rw[Nat.sub_zero,gK (i:=i+1) (l:=l.take i++[p]) (by rw[gD,hlen];exact Nat.le_refl _)];simp⟩;rw[Zeh,Zeh,h1,Zrc n room (i - m) _ hd (rowZ m) (Zil m) (by rw[Zdz m m (Nat.le_refl _)];omega),Zdz m m (Nat.le_refl _)];rw[Zi5];unfold zstep zput;simp only;rw[if_neg (by omega),if_neg (by omega),if_neg (by omega)];simp only[zone];rw[if_pos (by omega),show i - m+1+m=i+1 by omega,Nat.sub_zero]
    have e3:(((p+1:Nat):Int) - 1).toNat=p:=by omega
    rw[e3,<-gI,hlr,gK (i:=i+1) (l:=l.take i++[p]) (by rw[gD,hlen];exact Nat.le_refl _)]
 obtain⟨hd,h1,h2,h3⟩:=key l.length (Nat.le_refl _);rw[hF_] at h1 h2 h3;generalize hz:zenc l=x at *;obtain⟨A,m⟩:=x;simp only at h1 h2 h3
 have hrow:rowE l n=A++rowZ m++[n+1]:=by unfold rowE;rw[hz]
 refine⟨⟨n,room,l.length - m+m,0,1,true⟩,?_⟩;show zfold (some (z0 n room,[])) (rowE l n)=_;rw[hrow,Zeh,Zeh,h1,Zrc n room (l.length - m) _ hd (rowZ m) (Zil m) (by rw[Zdz m m (Nat.le_refl _)];omega),Zdz m m (Nat.le_refl _)];rw[Zi5];unfold zstep zput;simp only;rw[if_neg (by omega),if_pos trivial];simp only[zone];rw[if_neg (by omega),gU,<-h3]
theorem Zzk (a:Nat) (rest:List Bool):lead (List.replicate a true++(false::rest))=a:=by
 induction a with
 |zero=>rfl
 |succ a ih=>rw[List.replicate_succ,List.cons_append,lead,ih]
theorem Zt8 {o:List Nat}{i t:Nat}(hi:i < t) (ht:t<=o.length) (p:Nat):p∈(front o i).take t↔p∈o.take t:=by
 have h1:o.take t=o.take i++o.getD i 0::(o.drop (i+1)).take (t - 1 - i):=by
  rw[show t=i+(1+(t - 1 - i)) by omega,take_add,List.drop_eq_getElem_cons (by omega),Nat.add_comm 1,List.take_succ_cons,gB,gA (by omega)];simp
 have h2:(front o i).take t=o.getD i 0::(o.take i++(o.drop (i+1)).take (t - 1 - i)):=by
  unfold front;obtain⟨u,hu⟩:∃ u,t=u+1:=⟨t - 1,by omega⟩;subst hu
  have hl:(o.take i).length=i:=by rw[gN];omega
  rw[List.take_succ_cons,List.take_append,hl,gK (by omega),show u+1 - 1 - i=u - i by omega]
 rw[h1,h2];simp only[mem_cons,hT_]
 constructor
 ·rintro (h|h|h)
  ·exact .inr (.inl h)
  ·exact .inl h
  ·exact .inr (.inr h)
 ·rintro (h|h|h)
  ·exact .inr (.inl h)
  ·exact .inl h
  ·exact .inr (.inr h)
theorem Ya8 {o:List Nat}{t p:Nat}(h:p∈o.take t):o.idxOf p < t:=by
 have e:o=o.take t++o.drop t:=(hN_ t o).symm
 have h1:o.idxOf p=(o.take t).idxOf p:=by
  conv=>lhs;rw[e]
  rw[List.idxOf_append,if_pos h]
 rw[h1];have:=List.idxOf_lt_length_of_mem h;rw[gN] at this;omega
theorem Zt9 {picks:List Nat}{t:Nat}(ht:2<=t/\t<=6) (h0:picks≠[]) (hl:picks.length<=32767) (hp:∀ p∈picks,p < t) (rest:List Bool) :
  ∃ p,PRun (picksB picks t++rest) p (picksB picks t).length/\p.t=t/\p.picks=picks/\p.done=true:=by
 have hpos:=gZ.2 h0;have h3:(bitsOf t 3).length=3:=Za1 _ _;have h15:(bitsOf picks.length 15).length=15:=Za1 _ _;generalize hl0:picksB picks t++rest=l
 have hl1:l=bitsOf t 3++(bitsOf picks.length 15++(onesB (pickE [0,1,2,3,4,5] picks).2++rest)):=by rw[<-hl0];unfold picksB;simp only[gI]
 have hlen18:18<=l.length:=by rw[hl1];simp only[gD];omega
 have hv:=Yc5 hlen18
 have e3:l.take 3=bitsOf t 3:=by rw[hl1,take_append_of_le_length (by omega),gK (by omega)]
 have e15:(l.drop 3).take 15=bitsOf picks.length 15:=by
  rw[hl1,drop_append_of_le_length (by omega),drop_of_length_le (by omega),hO_,take_append_of_le_length (by omega),gK (by omega)]
 rw[e3,e15,valB_bitsOf _ _ (show t < 2^3 by omega),valB_bitsOf _ _ (show picks.length < 2^15 by omega)] at hv
 have hstart:PRun l ⟨t,picks.length,[0,1,2,3,4,5],[]⟩ (0+18):=by
  refine Run.next .start rfl ?_;rw[drop_zero];unfold pstep;rw[if_pos (show p0.count=0 from rfl),if_neg (by omega),hv.1,hv.2,if_neg (by omega)];rfl
 have key:∀ i,i<=picks.length->PRun l ⟨t,picks.length,(pickE [0,1,2,3,4,5] (picks.take i)).1,picks.take i⟩ (18+(onesB (pickE [0,1,2,3,4,5] (picks.take i)).2).length)/\
   (∀ p,p < t->p∈(pickE [0,1,2,3,4,5] (picks.take i)).1.take t)/\(pickE [0,1,2,3,4,5] (picks.take i)).1.length=6:=by
  intro i
  induction i with
  |zero=>
   intro _;refine⟨hstart,λp hp=>?_,rfl⟩;show p∈([0,1,2,3,4,5]:List Nat).take t;have ht2:=ht.2
   have e:([0,1,2,3,4,5]:List Nat).take t=List.range t:=by
    rcases (show t=2\/t=3\/t=4\/t=5\/t=6 by omega) with h|h|h|h|h <;> subst h <;> rfl
   rw[e];exact mem_range.2 hp
  |succ i ih=>
   intro hi;obtain⟨hr,hm,h6⟩:=ih (by omega)
   have e:picks.take (i+1)=picks.take i++[picks[i]]:=by rw[gO,gA (by omega)];rfl
   have hpi:=hp _ (getElem_mem (show i < picks.length by omega))
   have hsplit:(pickE [0,1,2,3,4,5] picks).2=(pickE [0,1,2,3,4,5] (picks.take (i+1))).2++((pickE [0,1,2,3,4,5] picks).2).drop (i+1):=by
    have hpre:∀ d,∃ r,(pickE [0,1,2,3,4,5] (picks.take (i+1+d))).2=(pickE [0,1,2,3,4,5] (picks.take (i+1))).2++r:=by
     intro d
     induction d with
     |zero=>exact⟨[],by simp⟩
     |succ d ihd=>
      obtain⟨r,hr⟩:=ihd;rcases hU_ (i+1+d) picks.length with q|q
      ·have e5:picks.take (i+1+(d+1))=picks.take (i+1+d)++[picks[i+1+d]]:=by rw[<-hG_,gO,gA q];rfl
       rw[e5,Zck];unfold pE;simp only;exact⟨r++_,by rw[hr,gI]⟩
      ·have e5:picks.take (i+1+(d+1))=picks.take (i+1+d):=by rw[gK (i:=i+1+(d+1)) (by omega),gK (i:=i+1+d) (by omega)]
       rw[e5];exact⟨r,hr⟩
    obtain⟨r,hr⟩:=hpre (picks.length - (i+1));rw[show i+1+(picks.length - (i+1))=picks.length by omega,hF_] at hr
    have hlen:(pickE [0,1,2,3,4,5] (picks.take (i+1))).2.length=i+1:=by
     have:=(Zdd (o:=[0,1,2,3,4,5]) (l:=picks.take (i+1)) λc hc=>by
      have:=hp c (mem_of_mem_take hc)
      rcases (show c=0\/c=1\/c=2\/c=3\/c=4\/c=5 by omega) with h|h|h|h|h|h <;> rw[h] <;> simp).2.2.1
     rw[this,gN];omega
    rw[hr,drop_append_of_le_length (by omega),drop_of_length_le (by omega),hO_]
   rw[e,Zck] at hsplit ⊢;generalize hx:pickE [0,1,2,3,4,5] (picks.take i)=x at *;obtain⟨O,A⟩:=x;unfold pE at hsplit ⊢;simp only at hr hm h6 hsplit ⊢;have hc:=hm _ hpi;have ha:=Ya8 hc;have hcm:picks[i]∈O:=mem_of_mem_take hc;generalize hq:picks[i]=c at *
   have hdrop:l.drop (18+(onesB A).length)=List.replicate (O.idxOf c) true++(false::(onesB (((pickE [0,1,2,3,4,5] picks).2).drop (i+1))++rest)):=by
    rw[hl1]
    have e6:onesB (pickE [0,1,2,3,4,5] picks).2=onesB A++(List.replicate (O.idxOf c) true++[false])++onesB (((pickE [0,1,2,3,4,5] picks).2).drop (i+1)):=by
     conv=>lhs;rw[hsplit]
     simp only[onesB,hL_,hM_,flatMap_nil,gU]
    rw[e6]
    have e7:bitsOf t 3++(bitsOf picks.length 15++(onesB A++(List.replicate (O.idxOf c) true++[false])++onesB (((pickE [0,1,2,3,4,5] picks).2).drop (i+1))++rest)) =
      (bitsOf t 3++bitsOf picks.length 15++onesB A)++(List.replicate (O.idxOf c) true++(false::(onesB (((pickE [0,1,2,3,4,5] picks).2).drop (i+1))++rest))):=by
     simp only[gI,List.cons_append,hO_]
    rw[e7,drop_append_of_le_length (by simp only[gD];omega),drop_of_length_le (by simp only[gD];omega),hO_]
   have hlead:lead (l.drop (18+(onesB A).length))=O.idxOf c:=by rw[hdrop,Zzk]
   refine⟨?_,λp hp=>(Zt8 ha (by omega) p).2 (hm p hp),by rw[Zfj (List.idxOf_lt_length_of_mem hcm)];exact h6⟩
   have hstep:=Run.next (n:=O.idxOf c+1) (s':=⟨t,picks.length,front O (O.idxOf c),picks.take i++[c]⟩) hr (by
    unfold PS.done
    exact decide_eq_false (by simp only[gN];omega)) (by
    unfold pstep;simp only
    rw[if_neg (by omega),hlead,if_neg (by omega),if_neg (by rw[hdrop,gD,gP,length_cons];omega),Zvd hcm])
   rw[Zgu,gD,gD,gP,gQ,<-hG_];exact hstep
 obtain⟨hr,_,_⟩:=key picks.length (Nat.le_refl _);rw[hF_] at hr
 have hlb:(picksB picks t).length=18+(onesB (pickE [0,1,2,3,4,5] picks).2).length:=by
  unfold picksB;rw[gD,gD,h3,h15]
 rw[hlb];refine⟨_,hr,rfl,rfl,?_⟩;unfold PS.done;exact decide_eq_true ⟨hpos,rfl⟩
theorem Zpm {d:DS}{n:Nat}{k:Nat}(h:1<=n/\n<=20):turn d (n:Int) k=.ok ⟨d.size,n,d.lens⟩ k:=by
 unfold turn;rw[if_neg (by omega)];rfl
theorem Zrz (j:Nat) (x y:Bool):(List.replicate j [x,y]).flatten.length=2*j:=by
 induction j with
 |zero=>rfl
 |succ j ih=>rw[List.replicate_succ,List.flatten_cons,gD,ih];simp;omega
theorem ups {size:Nat}{l rest:List Bool}{lens:List Nat}{a:Nat}(hd:lens.length < size) (ha:1<=a):∀ (j k:Nat),a+j<=20->DRun size l ⟨size,a,lens⟩ k->l.drop k=(List.replicate j [true,false]).flatten++rest->DRun size l ⟨size,a+j,lens⟩ (k+2*j)/\l.drop (k+2*j)=rest
 |0,k,_,hr,he=>⟨hr,by rw[Nat.mul_zero,Nat.add_zero,he];rfl⟩
 |j+1,k,hj,hr,he=>by
  rw[replicate_succ',List.flatten_append] at he
  have he2:l.drop k=(List.replicate j [true,false]).flatten++([true,false]++rest):=by rw[he];simp
  have ih:=ups (rest:=[true,false]++rest) hd ha j k (by omega) hr he2
  have hs:=Run.next (n:=2) (s':=⟨size,a+(j+1),lens⟩) ih.1 (by unfold DS.done;exact decide_eq_false (by simp only;omega)) (by
   rw[ih.2];unfold dstep;simp only;rw[if_neg (by omega)];show turn _ (((a+j:Nat):Int)+1 - 2*((false.toNat:Nat):Int)) 2=_;rw[show ((a+j:Nat):Int)+1 - 2*((false.toNat:Nat):Int)=((a+(j+1):Nat):Int) by simp;omega]
   exact Zpm (by omega))
  refine⟨by rw[show k+2*(j+1)=k+2*j+2 by omega];exact hs,?_⟩;rw[show k+2*(j+1)=k+2*j+2 by omega,<-drop_drop,ih.2];rfl
theorem downs {size:Nat}{l rest:List Bool}{lens:List Nat}{a:Nat}(hd:lens.length < size) (ha:a<=20):∀ (j k:Nat),j+1<=a->DRun size l ⟨size,a,lens⟩ k->l.drop k=(List.replicate j [true,true]).flatten++rest->DRun size l ⟨size,a - j,lens⟩ (k+2*j)/\l.drop (k+2*j)=rest
 |0,k,_,hr,he=>⟨hr,by rw[Nat.mul_zero,Nat.add_zero,he];rfl⟩
 |j+1,k,hj,hr,he=>by
  rw[replicate_succ',List.flatten_append] at he
  have he2:l.drop k=(List.replicate j [true,true]).flatten++([true,true]++rest):=by rw[he];simp
  have ih:=downs (rest:=[true,true]++rest) hd ha j k (by omega) hr he2
  have hs:=Run.next (n:=2) (s':=⟨size,a - (j+1),lens⟩) ih.1 (by unfold DS.done;exact decide_eq_false (by simp only;omega)) (by
   rw[ih.2];unfold dstep;simp only;rw[if_neg (by omega)];show turn _ (((a - j:Nat):Int)+1 - 2*((true.toNat:Nat):Int)) 2=_;rw[show ((a - j:Nat):Int)+1 - 2*((true.toNat:Nat):Int)=((a - (j+1):Nat):Int) by simp;omega]
   exact Zpm (by omega))
  refine⟨by rw[show k+2*(j+1)=k+2*j+2 by omega];exact hs,?_⟩;rw[show k+2*(j+1)=k+2*j+2 by omega,<-drop_drop,ih.2];rfl
theorem Zkr {size:Nat}{l rest:List Bool}:∀ (xs lens:List Nat) (a k:Nat),lens.length+xs.length<=size->1<=a/\a<=20->(∀ x∈xs,1<=x/\x<=20)->DRun size l ⟨size,a,lens⟩ k->l.drop k=stepsB a xs++rest->
  ∃ b,DRun size l ⟨size,b,lens++xs⟩ (k+(stepsB a xs).length)/\l.drop (k+(stepsB a xs).length)=rest
 |[],lens,a,k,_,_,_,hr,he=>⟨a,by rw[gU];exact hr,he⟩
 |x::xs,lens,a,k,hs,ha,hx,hr,he=>by
  have hx0:=hx x (hJ_ ..);simp only[length_cons] at hs
  have e:stepsB a (x::xs)=moves a x++[false]++stepsB x xs:=by rfl
  rw[e] at he ⊢
  have he1:l.drop k=(List.replicate (x - a) [true,false]).flatten++((List.replicate (a - x) [true,true]).flatten++([false]++(stepsB x xs++rest))):=by
   rw[he];unfold moves;simp only[gI]
  obtain⟨r1,d1⟩:=ups (by omega) ha.1 (x - a) k (by omega) hr he1;have h2:DRun size l ⟨size,a+(x - a) - (a - x),lens⟩ (k+2*(x - a)+2*(a - x))/\l.drop (k+2*(x - a)+2*(a - x))=[false]++(stepsB x xs++rest):=downs (by omega) (by omega) (a - x) _ (by omega) r1 d1;rw[show a+(x - a) - (a - x)=x by omega] at h2;obtain⟨r2,d2⟩:=h2
  have r3:=Run.next (n:=1) (s':=⟨size,x,lens++[x]⟩) r2 (by unfold DS.done;exact decide_eq_false (by simp only;omega)) (by
   rw[d2];unfold dstep;simp only;rw[if_neg (by omega)]
   rfl)
  have d3:l.drop (k+2*(x - a)+2*(a - x)+1)=stepsB x xs++rest:=by rw[<-drop_drop,d2];rfl
  have hml:(moves a x).length=2*(x - a)+2*(a - x):=by unfold moves;rw[gD,Zrz,Zrz]
  obtain⟨b,r4,d4⟩:=Zkr xs (lens++[x]) x _ (by rw[gD,gQ];omega) hx0 (λy hy=>hx y (hK_ _ hy)) r3 d3;refine⟨b,?_,?_⟩
  ·rw[gD,gD,gQ,hml,show k+(2*(x - a)+2*(a - x)+1+(stepsB x xs).length)=k+2*(x - a)+2*(a - x)+1+(stepsB x xs).length by omega];rw[gI] at r4;exact r4
  ·rw[gD,gD,gQ,hml,show k+(2*(x - a)+2*(a - x)+1+(stepsB x xs).length)=k+2*(x - a)+2*(a - x)+1+(stepsB x xs).length by omega];exact d4
theorem Zuc {lens:List Nat}(hne:lens≠[]) (hs:Sized lens) (rest:List Bool):∃ d,DRun lens.length (lensB lens++rest) d (lensB lens).length/\d.lens=lens/\d.done=true:=by
 have hpos:=gZ.2 hne
 have h0:1<=lens.getD 0 0/\lens.getD 0 0<=20:=by
  rw[gB,gA hpos];exact hs _ (getElem_mem hpos)
 have h5:(bitsOf (lens.getD 0 0) 5).length=5:=Za1 _ _;generalize ha:lens.getD 0 0=a at *
 have hl:lensB lens++rest=bitsOf a 5++(stepsB a lens++rest):=by unfold lensB;rw[ha,gI]
 have hstart:DRun lens.length (lensB lens++rest) ⟨lens.length,a,[]⟩ (0+5):=by
  refine Run.next .start (by unfold DS.done d0;exact decide_eq_false (by simp only[length_nil];omega)) ?_;rw[drop_zero,hl];unfold dstep d0;simp only;rw[if_pos trivial,if_neg (by simp only[gD];omega),take_append_of_le_length (by omega),gK (by omega),valB_bitsOf _ _ (show a < 2^5 by omega)];exact Zpm h0
 have hdrop:(lensB lens++rest).drop (0+5)=stepsB a lens++rest:=by
  rw[hl,drop_append_of_le_length (by omega),drop_of_length_le (by omega),hO_]
 obtain⟨b,hr,_⟩:=Zkr lens [] a _ (by simp) h0 hs hstart hdrop
 have e:(lensB lens).length=0+5+(stepsB a lens).length:=by unfold lensB;rw[ha,gD,h5]
 refine⟨_,by rw[e];exact hr,rfl,?_⟩;unfold DS.done;exact decide_eq_true (by simp)
end Go.Ma
namespace Go.M20
open Go.M02 Go.M03 Go.M18
def opnR (s:Int):Option (List UInt8)->List UInt8 × Int
 |none=>([],25)
 |some t=>if ((crcOf t:Nat):Int)=s then (t,0) else ([],21)
def opn (l:List UInt8) (o s:Int):List UInt8 × Int:=
 if l.length=0 then ([],1) else if o < 0\/(l.length:Int)<=o then ([],23) else
  opnR s (rle (text l o.toNat))
theorem text_len (l:List UInt8) (o:Nat):(text l o).length=l.length:=Zhi _ _ _
theorem Ycw (l:List UInt8) (o s:Int):(opn l o s).1.length<=255*l.length:=by
 unfold opn;split
 ·exact hE _
 ·split
  ·exact hE _
  ·cases ht:rle (text l o.toNat) with
   |none=>exact hE _
   |some t=>
    unfold opnR;simp only;split
    ·have:=Zfb _ _ _ _ _ ht;rw[text_len] at this;simpa using this
    ·exact hE _
theorem Zxs (l:List UInt8) (o s:Int):(opn l o s).2=0\/((opn l o s).1=[]/\((opn l o s).2=1\/(opn l o s).2=23\/(opn l o s).2=25\/(opn l o s).2=21)):=by
 unfold opn;split
 ·exact .inr ⟨rfl,.inl rfl⟩
 ·split
  ·exact .inr ⟨rfl,.inr (.inl rfl)⟩
  ·cases ht:rle (text l o.toNat) with
   |none=>exact .inr ⟨rfl,.inr (.inr (.inl rfl))⟩
   |some t=>
    unfold opnR;simp only;split
    ·exact .inl rfl
    ·exact .inr ⟨rfl,.inr (.inr (.inr rfl))⟩
end Go.M20
namespace Go.Q24
open Go.M01 Go.Mb Go.Mp Go.M10 Go.Mc Go.Mz Go.Mk Go.Q20 Go.M02 Go.M03 Go.M20
structure US where
 unit:Nat
 due:Nat
 at_:Nat
 level:Nat
 blk:Option BS
 last:List UInt8
 frm:Nat
 sum:Nat
 total:Nat
 ended:Bool
def u0 (unit:Nat):US:=⟨unit,0,0,0,none,[],0,0,0,false⟩
def US.mayEnd (u:US):Bool:=u.ended&&decide (u.due=0)&&decide (u.at_=0)
def letters:List Nat:=[66,90,104]
def uletter (u:US) (l:List Bool):Res (US × Nat):=
 if l.length < 8 then .short
 else if u.at_ < 3 then
  if valB (l.take 8)=letters.getD u.at_ 0 then .ok (⟨u.unit,u.due,u.at_+1,u.level,u.blk,u.last,u.frm,u.sum,u.total,u.ended⟩,0) 8 else .bad 20
 else if valB (l.take 8) < 49\/57 < valB (l.take 8) then .bad 20
 else .ok (⟨u.unit,1,0,valB (l.take 8) - 48,u.blk,u.last,u.frm,u.sum,0,u.ended⟩,0) 8
def umagic (u:US) (l:List Bool):Res (US × Nat):=
 if l.length < 48 then .short
 else if valB (l.take 48)=54156738319193 then .ok (⟨u.unit,2,u.at_,u.level,some (b0 (u.level*u.unit)),u.last,u.frm,u.sum,u.total,u.ended⟩,0) 48
 else if valB (l.take 48)=25779555029136 then .ok (⟨u.unit,3,u.at_,u.level,u.blk,u.last,u.frm,u.sum,u.total,u.ended⟩,0) 48
 else .bad 20
def uwith (u:US):Res BS->Res (US × Nat)
 |.short=>.short
 |.bad e=>.bad e
 |.ok b n=>if b.done=true then .ok (⟨u.unit,1,u.at_,u.level,none,b.last,b.frm,b.sum,comb u.total b.sum,u.ended⟩,1) n
  else .ok (⟨u.unit,u.due,u.at_,u.level,some b,u.last,u.frm,u.sum,u.total,u.ended⟩,0) n
def ubody (u:US) (l:List Bool):Res (US × Nat):=match u.blk with
 |none=>.bad 7
 |some b=>uwith u (bstep b l)
def usum (u:US) (l:List Bool):Res (US × Nat):=
 if l.length < 32 then .short
 else if valB (l.take 32)=u.total then .ok (⟨u.unit,0,u.at_,u.level,u.blk,u.last,u.frm,u.sum,u.total,true⟩,2) (32+(l.length - 32)%8)
 else .bad 21
def ustep (u:US) (l:List Bool):Res (US × Nat):=
 if u.due=0 then uletter u l else if u.due=1 then umagic u l else if u.due=2 then ubody u l else usum u l
structure US.Ok (u:US):Prop where
 unit:24<=u.unit/\u.unit<=100000
 due:u.due<=3
 at_:u.at_<=3
 at0:u.due≠0->u.at_=0
 lev:u.level<=9
 lev1:u.due≠0->1<=u.level
 blk:∀ b,u.blk=some b->u.due=2/\b.Ok/\b.done=false/\b.room=u.level*u.unit
 body:u.due=2->u.blk≠none
 last:u.last.length<=900000
 frm:u.frm < 16777216
 sum:u.sum < 4294967296
 total:u.total < 4294967296
theorem u0_ok {unit:Nat}(h:24<=unit/\unit<=100000):(u0 unit).Ok:=
 ⟨h,by simp[u0],by simp[u0],λ_=>rfl,by simp[u0],λh=>absurd rfl h,λb h=>by simp[u0] at h,λh=>by simp[u0] at h,by simp[u0],by simp[u0],by simp[u0],by simp[u0]⟩
theorem US.Ok.none_ {u:US}(h:u.Ok) (hd:u.due≠2):u.blk=none:=by
 cases hb:u.blk with
 |none=>rfl
 |some b=>exact absurd (h.blk b hb).1 hd
theorem Ziw {b b':BS}{l:List Bool}{n:Nat}(hb:b.Ok) (hd:b.done=false) (h:bstep b l=.ok b' n):b'.Ok:=by
 unfold bstep at h;split at h
 ·rename_i hh;unfold bhead at h;split at h
  ·cases h
  ·split at h
   ·cases h
   ·have h1:=Zae l 32;have h2:=Zae (l.drop 33) 24;exact (Zgi (Zfo hb hh (by omega) (by omega)).2 h).1
 ·rename_i hh;split at h
  ·rename_i hr;unfold buse at h;split at h
   ·cases h
   ·cases h
   ·rename_i T k hu;exact (Zgi (Zye hb (by simpa using hh) hr (Q23.Zmt hu).2.2) h).1
  ·rename_i r hr;split at h
   ·rename_i hw;exact (Zgi (Zs2 hb hd hr hw) h).1
   ·rename_i hw;unfold bsym at h;split at h
    ·cases h
    ·cases h
    ·rename_i c k hc;exact (Zgi (Zxr hb hd hr hc) h).1
    ·rename_i c s k hc;unfold btold at h;split at h
     ·cases h
     ·rename_i z d p hz;exact (Zgi (Zri hb hd hr (by simpa using hw) hc hz) h).1
theorem Zfa {u u':US}{l:List Bool}{n w:Nat}(hu:u.Ok) (h:ustep u l=.ok (u',w) n):u'.Ok/\u'.unit=u.unit:=by
 have hun:=hu.unit;have hlev:=hu.lev;unfold ustep at h;split at h
 ·rename_i hd;have hbn:=hu.none_ (by omega);unfold uletter at h;split at h
  ·cases h
  ·split at h
   ·split at h
    ·cases h;exact⟨⟨hun,hu.due,by show u.at_+1<=3;omega,λh=>absurd hd h,hlev,hu.lev1,λb hb=>(by rw[hbn] at hb;cases hb),hu.body,hu.last,hu.frm,hu.sum,hu.total⟩,rfl⟩
    ·cases h
   ·split at h
    ·cases h
    ·cases h;exact⟨⟨hun,by show 1<=3;omega,hE _,λ_=>rfl,by show valB (l.take 8) - 48<=9;omega,λ_=>by show 1<=valB (l.take 8) - 48;omega,λb hb=>(by rw[hbn] at hb;cases hb),λh=>(by cases h),hu.last,hu.frm,hu.sum,by show 0 < 4294967296;omega⟩,rfl⟩
 ·rename_i hd0;have hat:=hu.at0 hd0;have hl1:=hu.lev1 hd0;split at h
  ·rename_i hd;have hbn:=hu.none_ (by omega);unfold umagic at h;split at h
   ·cases h
   ·split at h
    ·cases h;refine⟨⟨hun,by show 2<=3;omega,hu.at_,λ_=>hat,hlev,λ_=>hl1,λb hb=>?_,λ_ h=>(by cases h),hu.last,hu.frm,hu.sum,hu.total⟩,rfl⟩;cases hb;refine⟨rfl,b0_ok ?_,rfl,rfl⟩;exact Nat.le_trans (Nat.mul_le_mul hlev hun.2) (by omega)
    ·split at h
     ·cases h;exact⟨⟨hun,by show 3<=3;omega,hu.at_,λ_=>hat,hlev,λ_=>hl1,λb hb=>(by rw[hbn] at hb;cases hb),λh=>(by cases h),hu.last,hu.frm,hu.sum,hu.total⟩,rfl⟩
     ·cases h
  ·split at h
   ·rename_i hd;unfold ubody at h;split at h
    ·cases h
    ·rename_i b hb;obtain⟨_,hbo,hbd,hbr⟩:=hu.blk b hb;unfold uwith at h;split at h
     ·cases h
     ·cases h
     ·rename_i b' n' hs;have hok:=Ziw hbo hbd hs;have hrm:=(Q23.Zes hbo hs).1;split at h
      ·cases h;have:=Q23.Ze2 hok;have:=hok.room;exact⟨⟨hun,by show 1<=3;omega,hu.at_,λ_=>hat,hlev,λ_=>hl1,λb hb=>(by cases hb),λh=>(by cases h),by show b'.last.length<=900000;omega,hok.frm,hok.sum,comb_lt hu.total hok.sum⟩,rfl⟩
      ·rename_i hnd;cases h;refine⟨⟨hun,hu.due,hu.at_,hu.at0,hlev,hu.lev1,λb2 hb2=>?_,λ_ h=>(by cases h),hu.last,hu.frm,hu.sum,hu.total⟩,rfl⟩;cases hb2;exact⟨hd,hok,by simpa using hnd,by rw[hrm];exact hbr⟩
   ·rename_i hd1 hd2
    have hd3:u.due=3:=by have:=hu.due;omega
    have hbn:=hu.none_ (by omega);unfold usum at h;split at h
    ·cases h
    ·split at h
     ·cases h;exact⟨⟨hun,hE _,hu.at_,λh=>absurd rfl h,hlev,λh=>absurd rfl h,λb hb=>(by rw[hbn] at hb;cases hb),λh=>(by cases h),hu.last,hu.frm,hu.sum,hu.total⟩,rfl⟩
     ·cases h
theorem Zny {u:US}{l:List Bool}{e:Nat}(hu:u.Ok) (h:ustep u l=.bad e):e=20\/e=21\/e=22\/e=23\/e=25:=by
 unfold ustep at h;split at h
 ·unfold uletter at h
  repeat' split at h
  all_goals first
   |(cases h;omega)
   |cases h
 ·split at h
  ·unfold umagic at h
   repeat' split at h
   all_goals first
    |(cases h;omega)
    |cases h
  ·split at h
   ·rename_i hd;unfold ubody at h;split at h
    ·rename_i hb;exact absurd hb (hu.body hd)
    ·unfold uwith at h;split at h
     ·cases h
     ·rename_i hb;cases h
      rcases Zfv hb with h|h|h <;> omega
     ·split at h <;> cases h
   ·unfold usum at h
    repeat' split at h
    all_goals first
     |(cases h;omega)
     |cases h
def tnext (t:List UInt8):Res (US × Nat)->Res (US × List UInt8)
 |.short=>.short
 |.bad e=>.bad e
 |.ok (u,w) n=>if w=1 then (if (opn u.last u.frm u.sum).2=0 then .ok (u,t++(opn u.last u.frm u.sum).1) n else .bad (opn u.last u.frm u.sum).2.toNat) else .ok (u,t) n
def tstep (x:US × List UInt8) (l:List Bool):Res (US × List UInt8):=
 if x.1.mayEnd=true/\l=[] then .bad 0 else tnext x.2 (ustep x.1 l)
def nod (x:US × List UInt8):Bool:=false
abbrev TRun (x0:US × List UInt8) (l:List Bool) (x:US × List UInt8) (k:Nat):Prop:=Run tstep nod x0 l x k
inductive TOut where
 |bad (e:Nat)
 |got (t:List UInt8)
def Last (x:US × List UInt8) (l:List Bool) (o:TOut):Prop:=
 (tstep x l=.short/\o=.bad 24)\/(tstep x l=.bad 0/\o=.got x.2)\/∃ e,e≠0/\tstep x l=.bad e/\o=.bad e
def TComes (x0:US × List UInt8) (l:List Bool) (o:TOut):Prop:=∃ x k,TRun x0 l x k/\Last x (l.drop k) o
theorem Last.stop {x:US × List UInt8}{l:List Bool}{k:Nat}{o:TOut}(h:Last x (l.drop k) o):Stop tstep nod l x k:=by
 rcases h with⟨h,_⟩|⟨h,_⟩|⟨e,_,h,_⟩
 ·exact Zen h
 ·exact Zfu h
 ·exact Zfu h
theorem Last.det {x:US × List UInt8}{l:List Bool}{o o2:TOut}(h:Last x l o) (h2:Last x l o2):o=o2:=by
 rcases h with⟨h,rfl⟩|⟨h,rfl⟩|⟨e,he,h,rfl⟩ <;> rcases h2 with⟨h3,rfl⟩|⟨h3,rfl⟩|⟨e2,he2,h3,rfl⟩ <;> rw[h] at h3 <;> first
  |rfl
  |(cases h3 <;> first
   |rfl
   |(exact absurd rfl he2)
   |(exact absurd rfl he))
theorem TComes.det {x0:US × List UInt8}{l:List Bool}{o o2:TOut}(h:TComes x0 l o) (h2:TComes x0 l o2):o=o2:=by
 obtain⟨x,k,hr,hl⟩:=h;obtain⟨x2,k2,hr2,hl2⟩:=h2;obtain⟨rfl,rfl⟩:=hr.stop_eq hl.stop hr2 hl2.stop;exact hl.det hl2
theorem TComes.after {x0 x:US × List UInt8}{l:List Bool}{k:Nat}{o:TOut}(h:TRun x0 l x k) (h2:TComes x (l.drop k) o):TComes x0 l o:=by
 obtain⟨x2,k2,hr,hl⟩:=h2;rw[drop_drop] at hl;exact⟨x2,k+k2,h.trans hr,hl⟩
theorem TComes.here {x:US × List UInt8}{l:List Bool}{o:TOut}(h:Last x l o):TComes x l o:=⟨x,0,.start,h⟩
theorem Zcn {x:US × List UInt8}{l:List Bool}(h:x.1.due≠0\/x.1.at_≠0\/l≠[]):tstep x l=tnext x.2 (ustep x.1 l):=by
 unfold tstep;rw[if_neg];rintro⟨h1,h2⟩;unfold US.mayEnd at h1;simp only[Bool.and_eq_true,decide_eq_true_eq] at h1;rcases h with h|h|h
 ·exact h h1.1.2
 ·exact h h1.2
 ·exact h h2
def inB (unit level:Nat) (last:List UInt8) (frm sum total:Nat) (en:Bool) (b:BS):US:=⟨unit,2,0,level,some b,last,frm,sum,total,en⟩
section
variable {unit level frm sum total:Nat}{last t:List UInt8}{en:Bool}
theorem Zyb {b:BS}{l:List Bool}:tstep (inB unit level last frm sum total en b,t) l=tnext t (uwith (inB unit level last frm sum total en b) (bstep b l)):=by
 rw[Zcn (.inl (by simp[inB]))];unfold ustep inB;simp only[if_neg (show ¬ (2=0) by omega),if_neg (show ¬ (2=1) by omega),if_true,ubody]
theorem Ye7 {b0:BS}{l:List Bool}(h0:b0.done=false):∀ {i:Nat}{b:BS}{k:Nat},RunN bstep BS.done b0 l i b k->
  if b.done=true then ∃ b1 k1 n,TRun (inB unit level last frm sum total en b0,t) l (inB unit level last frm sum total en b1,t) k1/\bstep b1 (l.drop k1)=.ok b n/\k=k1+n
  else TRun (inB unit level last frm sum total en b0,t) l (inB unit level last frm sum total en b,t) k:=by
 intro i b k h
 induction h with
 |start=>rw[if_neg (by rw[h0];decide)];exact .start
 |next h hd hs ih=>
  rename_i j b b' k n;rw[if_neg (by rw[hd];decide)] at ih
  by_cases hb:b'.done=true
  ·rw[if_pos hb];exact⟨b,k,n,ih,hs,rfl⟩
  ·rw[if_neg hb];refine ih.next rfl ?_;rw[Zyb,hs];simp only[uwith,if_neg hb,tnext,if_neg (show ¬ (0=1) by omega)];rfl
theorem Yec {room o u n held:Nat}{l:List Bool}{lst:List UInt8}(h:Q20.Comes room l (.got lst o u n held)) :
  if (opn lst o u).2=0 then TRun (inB unit level last frm sum total en (b0 room),t) l (⟨unit,1,0,level,none,lst,o,u,comb total u,en⟩,t++(opn lst o u).1) n
  else TComes (inB unit level last frm sum total en (b0 room),t) l (.bad (opn lst o u).2.toNat):=by
 obtain⟨b,k,⟨i,hr⟩,h⟩:=h;have hin:=Ye7 (unit:=unit) (level:=level) (last:=last) (frm:=frm) (sum:=sum) (total:=total) (en:=en) (t:=t) (b0:=b0 room) rfl hr;rcases h with⟨hd,h⟩|⟨_,_,h⟩|⟨_,_,_,h⟩
 ·cases h;rw[if_pos hd] at hin;obtain⟨b1,k1,n,hrun,hs,rfl⟩:=hin
  have hst:tstep (inB unit level last frm sum total en b1,t) (l.drop k1)=tnext t (.ok (⟨unit,1,0,level,none,b.last,b.frm,b.sum,comb total b.sum,en⟩,1) n):=by
   rw[Zyb,hs];simp only[uwith,if_pos hd,inB]
  simp only[tnext,if_true] at hst;split
  ·rename_i h0;rw[if_pos h0] at hst;exact hrun.next rfl hst
  ·rename_i h0;rw[if_neg h0] at hst;refine⟨_,_,hrun,.inr (.inr ⟨_,?_,hst,rfl⟩)⟩;rcases Zxs b.last b.frm b.sum with h|⟨_,h⟩
   ·exact absurd h h0
   ·omega
 ·cases h
 ·cases h
end
def atL (u:US) (i:Nat):US:=⟨u.unit,0,i,u.level,u.blk,u.last,u.frm,u.sum,u.total,u.ended⟩
theorem Zw9 {u:US}{i:Nat}{l:List Bool}{t:List UInt8}(h:l.length < 8) (hl:i≠0\/l≠[]\/u.ended=false):TComes (atL u i,t) l (.bad 24):=by
 refine .here (.inl ⟨?_,rfl⟩)
 have hs:ustep (atL u i) l=.short:=by
  unfold ustep uletter atL;simp only[if_true,if_pos h]
 unfold tstep;rw[if_neg,hs]
 ·rfl
 ·rintro⟨h1,h2⟩;unfold US.mayEnd atL at h1;simp only[Bool.and_eq_true,decide_eq_true_eq] at h1;rcases hl with h|h|h
  ·exact h h1.2
  ·exact h h2
  ·rw[h] at h1;exact Bool.noConfusion h1.1.1
theorem Zqm {l:List Bool}(h:¬ l.length < 8):l≠[]:=by rintro rfl;exact h (by simp)
theorem Zn7 {u:US}{i:Nat}{l:List Bool}{t:List UInt8}(h:¬ l.length < 8) (hi:i < 3) (hv:valB (l.take 8)≠letters.getD i 0):TComes (atL u i,t) l (.bad 20):=by
 refine .here (.inr (.inr ⟨20,by omega,?_,rfl⟩));rw[Zcn (.inr (.inr (Zqm h)))];unfold ustep uletter atL;simp only[if_true,if_neg h,if_pos hi,if_neg hv,tnext]
theorem Zlu {u:US}{i:Nat}{l:List Bool}{t:List UInt8}(h:¬ l.length < 8) (hi:i < 3) (hv:valB (l.take 8)=letters.getD i 0):tstep (atL u i,t) l=.ok (atL u (i+1),t) 8:=by
 rw[Zcn (.inr (.inr (Zqm h)))];unfold ustep uletter atL;simp only[if_true,if_neg h,if_pos hi,if_pos hv,tnext,if_neg (show ¬ (0=1) by omega)]
theorem Yeg {u:US}{l:List Bool}{t:List UInt8}(h:¬ l.length < 8) (hv:valB (l.take 8) < 49\/57 < valB (l.take 8)):TComes (atL u 3,t) l (.bad 20):=by
 refine .here (.inr (.inr ⟨20,by omega,?_,rfl⟩));rw[Zcn (.inr (.inr (Zqm h)))];unfold ustep uletter atL;simp only[if_true,if_neg h,if_neg (show ¬ (3 < 3) by omega),if_pos hv,tnext]
def atM (u:US) (level total:Nat) (blk:Option BS):US:=⟨u.unit,1,0,level,blk,u.last,u.frm,u.sum,total,u.ended⟩
theorem Zyl {u:US}{l:List Bool}{t:List UInt8}(h:¬ l.length < 8) (hv:¬ (valB (l.take 8) < 49\/57 < valB (l.take 8))):tstep (atL u 3,t) l=.ok (atM u (valB (l.take 8) - 48) 0 u.blk,t) 8:=by
 rw[Zcn (.inr (.inr (Zqm h)))];unfold ustep uletter atL atM;simp only[if_true,if_neg h,if_neg (show ¬ (3 < 3) by omega),if_neg hv,tnext,if_neg (show ¬ (0=1) by omega)]
theorem Zsa {u:US}(hd:u.due=1){l:List Bool}{t:List UInt8}:tstep (u,t) l=tnext t (umagic u l):=by
 rw[Zcn (.inl (by show u.due≠0;omega))];unfold ustep;simp only[hd,if_neg (show ¬ (1=0) by omega),if_true]
theorem Zy5 {u:US}(hd:u.due=1) (ha:u.at_=0){l:List Bool}{t:List UInt8}(h:¬ l.length < 48) (h1:valB (l.take 48)=54156738319193) :
  tstep (u,t) l=.ok (inB u.unit u.level u.last u.frm u.sum u.total u.ended (b0 (u.level*u.unit)),t) 48:=by
 rw[Zsa hd,umagic,if_neg h,if_pos h1];simp only[tnext,if_neg (show ¬ (0=1) by omega),inB,ha]
theorem Yd4 {u:US}(hd:u.due=1){l:List Bool}{t:List UInt8}(h:¬ l.length < 48) (h1:valB (l.take 48)=25779555029136) :
  tstep (u,t) l=.ok (⟨u.unit,3,u.at_,u.level,u.blk,u.last,u.frm,u.sum,u.total,u.ended⟩,t) 48:=by
 rw[Zsa hd,umagic,if_neg h,if_neg (by rw[h1];decide),if_pos h1];simp only[tnext,if_neg (show ¬ (0=1) by omega)]
theorem Zr3 {u:US}(hd:u.due=3){l:List Bool}{t:List UInt8}:tstep (u,t) l=tnext t (usum u l):=by
 rw[Zcn (.inl (by show u.due≠0;omega))];unfold ustep;simp only[hd,if_neg (show ¬ (3=0) by omega),if_neg (show ¬ (3=1) by omega),if_neg (show ¬ (3=2) by omega)]
theorem Zx8 {u:US}(hd:u.due=3){l:List Bool}{t:List UInt8}(h:l.length < 32):TComes (u,t) l (.bad 24):=by
 refine .here (.inl ⟨?_,rfl⟩);rw[Zr3 hd,usum,if_pos h];rfl
theorem Zyi {u:US}(hd:u.due=3){l:List Bool}{t:List UInt8}(h:¬ l.length < 32) (h1:valB (l.take 32)=u.total) :
  tstep (u,t) l=.ok (⟨u.unit,0,u.at_,u.level,u.blk,u.last,u.frm,u.sum,u.total,true⟩,t) (32+(l.length - 32)%8):=by
 rw[Zr3 hd,usum,if_neg h,if_pos h1];simp only[tnext,if_neg (show ¬ (2=1) by omega)]
theorem foldl_val (l:List Bool):∀ a:Nat,l.foldl (λa b=>2*a+b.toNat) a=a*2^l.length+valB l:=by
 induction l with
 |nil=>intro a;simp[valB]
 |cons x l ih=>
  intro a;have h0:=ih x.toNat
  have e:valB (x::l)=x.toNat*2^l.length+valB l:=by
   rw[<-h0];simp[valB]
  rw[e,List.foldl_cons,ih,length_cons,Nat.pow_succ,Nat.add_mul]
  have:2*a*2^l.length=a*(2^l.length*2):=by
   rw[Nat.mul_comm 2 a,Nat.mul_assoc,Nat.mul_comm 2]
  omega
theorem valB_cons (x:Bool) (l:List Bool):valB (x::l)=x.toNat*2^l.length+valB l:=by
 have:=foldl_val l x.toNat;rw[<-this];simp[valB]
theorem valB_inj:∀ {a b:List Bool},a.length=b.length->valB a=valB b->a=b
 |[],[],_,_=>rfl
 |[],_::_,h,_=>by simp at h
 |_::_,[],h,_=>by simp at h
 |x::a,y::b,h,hv=>by
  have hl:a.length=b.length:=by simpa using h
  rw[valB_cons,valB_cons,hl] at hv;have h1:=Zb1 a;have h2:=Zb1 b;rw[hl] at h1
  have hx:x=y/\valB a=valB b:=by
   cases x <;> cases y <;> simp only[Bool.toNat_true,Bool.toNat_false,Nat.one_mul,Nat.zero_mul,Nat.zero_add] at hv
   ·exact⟨rfl,hv⟩
   ·omega
   ·omega
   ·exact⟨rfl,by omega⟩
  rw[hx.1,valB_inj hl hx.2]
theorem valB_app (a b:List Bool):valB (a++b)=valB a*2^b.length+valB b:=by
 have:=foldl_val b (valB a);rw[<-this];simp[valB]
end Go.Q24
namespace Go.Qs
open Go.M01 Go.Mb Go.Mp Go.M10 Go.Mc Go.Mz Go.Mk Go.Q20 Go.M02 Go.M03 Go.M20 Go.Q24
def magW:List Bool:=bitsOf 54156738319193 48
def endW:List Bool:=bitsOf 25779555029136 48
def headB (level:Nat):List Bool:=bitsOf 66 8++(bitsOf 90 8++(bitsOf 104 8++bitsOf (48+level) 8))
abbrev Bk:Type:=List UInt8 × List Bool
def blksB (bs:List Bk):List Bool:=bs.flatMap λx=>magW++x.2
def sumOf (a:Nat) (bs:List Bk):Nat:=bs.foldl (λa x=>comb a (crcOf x.1)) a
def textOf (bs:List Bk):List UInt8:=bs.flatMap λx=>x.1
def preB (level:Nat) (bs:List Bk):List Bool:=headB level++(blksB bs++endW)
def strB (level:Nat) (bs:List Bk):List Bool:=preB level bs++bitsOf (sumOf 0 bs) 32
theorem Zge (level:Nat):(headB level).length=32:=by unfold headB;simp only[gD,Za1]
theorem Zdj:magW.length=48:=Za1 _ _
theorem Zcd:endW.length=48:=Za1 _ _
def Gb (room:Nat) (x:Bk):Prop:=∀ rest,∃ last o held,Q20.Comes room (x.2++rest) (.got last o (crcOf x.1) x.2.length held)/\opn last (o:Int) ((crcOf x.1:Nat):Int)=(x.1,0)
theorem Zbs {a r:List Bool}{n:Nat}(h:a.length=n):(a++r).take n=a:=by subst h;exact take_left
theorem Zd2 {a r:List Bool}{n:Nat}(h:a.length=n):(a++r).drop n=r:=by subst h;exact drop_left
variable {x0:US × List UInt8}{l rest:List Bool}{t:List UInt8}{k level:Nat}{u:US}
theorem Zz4 (h1:1<=level/\level<=9) (hr:TRun x0 l (atL u 0,t) k) (hl:l.drop k=headB level++rest):TRun x0 l (atM u level 0 u.blk,t) (k+32)/\l.drop (k+32)=rest:=by
 have e0:l.drop k=bitsOf 66 8++(bitsOf 90 8++(bitsOf 104 8++(bitsOf (48+level) 8++rest))):=by rw[hl];unfold headB;simp only[gI]
 have b8:∀ v,(bitsOf v 8).length=8:=λv=>Za1 _ _
 have st:∀ {i k v:Nat} {q:List Bool},i < 3->v < 256->v=letters.getD i 0->TRun x0 l (atL u i,t) k->l.drop k=bitsOf v 8++q->TRun x0 l (atL u (i+1),t) (k+8)/\l.drop (k+8)=q:=by
  intro i k v q hi hv he hr hq;refine⟨hr.next rfl ?_,?_⟩
  ·rw[hq];refine Zlu (by rw[gD,b8];omega) hi ?_;rw[Zbs (b8 v),valB_bitsOf _ _ (show v < 2^8 from hv),he]
  ·rw[<-drop_drop,hq,Zd2 (b8 v)]
 obtain⟨r1,d1⟩:=st (v:=66) (by omega) (by omega) rfl hr e0;obtain⟨r2,d2⟩:=st (v:=90) (by omega) (by omega) rfl r1 d1;obtain⟨r3,d3⟩:=st (v:=104) (by omega) (by omega) rfl r2 d2
 have hv:valB ((l.drop (k+8+8+8)).take 8)=48+level:=by rw[d3,Zbs (b8 _),valB_bitsOf _ _ (show 48+level < 2^8 by omega)]
 have r4:=r3.next (n:=8) rfl (Zyl (by rw[d3,gD,b8];omega) (by rw[hv];omega));rw[hv,show 48+level - 48=level by omega] at r4;exact⟨r4,by rw[show k+32=k+8+8+8+8 by omega,<-drop_drop,d3,Zd2 (b8 _)]⟩
structure Mid (unit level total:Nat) (u:US):Prop where
 due:u.due=1
 at_:u.at_=0
 lev:u.level=level
 unit:u.unit=unit
 total:u.total=total
theorem Zqk {unit:Nat}:∀ (bs:List Bk) (u:US) (t:List UInt8) (k total:Nat),Mid unit level total u->(∀ x∈bs,Gb (level*unit) x)->TRun x0 l (u,t) k->l.drop k=blksB bs++rest->
  ∃ u',Mid unit level (sumOf total bs) u'/\TRun x0 l (u',t++textOf bs) (k+(blksB bs).length)/\l.drop (k+(blksB bs).length)=rest
 |[],u,t,k,total,hm,_,hr,hl=>⟨u,hm,by show TRun x0 l (u,t++[]) (k+0);rw[gU];exact hr,hl⟩
 |x::bs,u,t,k,total,hm,hg,hr,hl=>by
  have e:blksB (x::bs)=magW++(x.2++blksB bs):=by unfold blksB;rw[hM_,gI]
  have e2:textOf (x::bs)=x.1++textOf bs:=by unfold textOf;rw[hM_]
  rw[e,gI,gI] at hl
  have hlen:¬ (l.drop k).length < 48:=by rw[hl,gD,Zdj];omega
  have hv:valB ((l.drop k).take 48)=54156738319193:=by rw[hl,Zbs Zdj];exact valB_bitsOf _ _ (by decide)
  have r1:=hr.next (n:=48) rfl (Zy5 hm.due hm.at_ hlen hv)
  have d1:l.drop (k+48)=x.2++(blksB bs++rest):=by rw[<-drop_drop,hl,Zd2 Zdj]
  obtain⟨last,o,held,hc,ho⟩:=hg x (hJ_ ..) (blksB bs++rest);rw[<-d1] at hc;have h2:=Yec (unit:=u.unit) (level:=u.level) (last:=u.last) (frm:=u.frm) (sum:=u.sum) (total:=u.total) (en:=u.ended) (t:=t) (room:=u.level*u.unit) (by rw[hm.lev,hm.unit];exact hc);rw[ho,if_pos rfl] at h2;have r2:=Run.trans r1 h2
  have d2:l.drop (k+48+x.2.length)=blksB bs++rest:=by rw[<-drop_drop,d1,drop_left]
  obtain⟨u',hm',r3,d3⟩:=Zqk bs ⟨u.unit,1,0,u.level,none,last,o,crcOf x.1,comb u.total (crcOf x.1),u.ended⟩ (t++x.1) _ _ ⟨rfl,rfl,hm.lev,hm.unit,rfl⟩ (λy hy=>hg y (hK_ _ hy)) r2 d2
  have e3:k+(blksB (x::bs)).length=k+48+x.2.length+(blksB bs).length:=by rw[e,gD,gD,Zdj];omega
  refine⟨u',?_,?_,by rw[e3];exact d3⟩
  ·rw[hm.total] at hm';exact hm'
  ·rw[e2,e3,<-gI];exact r3
theorem Zv2 {unit:Nat}{bs:List Bk}(h1:1<=level/\level<=9) (hu:u.unit=unit) (hg:∀ x∈bs,Gb (level*unit) x) (hr:TRun x0 l (atL u 0,t) k) (hl:l.drop k=preB level bs++rest) :
  ∃ u',u'.due=3/\u'.at_=0/\u'.unit=unit/\u'.total=sumOf 0 bs/\TRun x0 l (u',t++textOf bs) (k+(preB level bs).length)/\l.drop (k+(preB level bs).length)=rest:=by
 have e:preB level bs++rest=headB level++(blksB bs++(endW++rest)):=by unfold preB;simp only[gI]
 obtain⟨r1,d1⟩:=Zz4 h1 hr (hl.trans e);obtain⟨u',hm,r2,d2⟩:=Zqk bs (atM u level 0 u.blk) t _ 0 ⟨rfl,rfl,rfl,hu,rfl⟩ hg r1 d1
 have hv:valB ((l.drop (k+32+(blksB bs).length)).take 48)=25779555029136:=by rw[d2,Zbs Zcd];exact valB_bitsOf _ _ (by decide)
 have r3:=r2.next (n:=48) rfl (Yd4 hm.due (by rw[d2,gD,Zcd];omega) hv)
 have e2:k+(preB level bs).length=k+32+(blksB bs).length+48:=by unfold preB;rw[gD,gD,Zge,Zcd];omega
 refine⟨⟨u'.unit,3,u'.at_,u'.level,u'.blk,u'.last,u'.frm,u'.sum,u'.total,u'.ended⟩,rfl,hm.at_,hm.unit,hm.total,by rw[e2];exact r3,?_⟩;rw[e2,<-drop_drop,d2,Zd2 Zcd]
theorem comb_lt {a c:Nat}(ha:a < 4294967296) (hc:c < 4294967296):comb a c < 4294967296:=by
 unfold comb;exact Nat.xor_lt_two_pow (n:=32) (Nat.xor_lt_two_pow (n:=32) (by show _ < 2^32;omega) (by show _ < 2^32;omega)) hc
theorem Zmg:∀ (bs:List Bk){a:Nat},a < 4294967296->sumOf a bs < 4294967296
 |[],a,h=>h
 |x::bs,a,h=>Zmg bs (comb_lt h (Zgc _))
theorem Zm5 {unit pad:Nat}{bs:List Bk}(h1:1<=level/\level<=9) (hu:u.unit=unit) (hg:∀ x∈bs,Gb (level*unit) x) (hr:TRun x0 l (atL u 0,t) k) (hp:pad < 8) (h8:rest.length%8=0)
  (hl:l.drop k=strB level bs++(List.replicate pad false++rest)) :
  ∃ u',u'.unit=unit/\u'.ended=true/\TRun x0 l (atL u' 0,t++textOf bs) (k+((strB level bs).length+pad))/\l.drop (k+((strB level bs).length+pad))=rest:=by
 have e:strB level bs++(List.replicate pad false++rest)=preB level bs++(bitsOf (sumOf 0 bs) 32++(List.replicate pad false++rest)):=by unfold strB;simp only[gI]
 obtain⟨u',hd,ha,hun,ht,r1,d1⟩:=Zv2 h1 hu hg hr (hl.trans e);have h32:(bitsOf (sumOf 0 bs) 32).length=32:=Za1 _ _
 have hv:valB ((l.drop (k+(preB level bs).length)).take 32)=u'.total:=by rw[d1,Zbs h32,ht];exact valB_bitsOf _ _ (Zmg bs (by decide))
 have hlen:(l.drop (k+(preB level bs).length)).length=32+pad+rest.length:=by rw[d1,gD,gD,h32,gP];omega
 have r2:=r1.next rfl (Zyi hd (by omega) hv)
 have ep:32+((l.drop (k+(preB level bs).length)).length - 32)%8=32+pad:=by rw[hlen];omega
 rw[ep] at r2
 have es:k+((strB level bs).length+pad)=k+(preB level bs).length+(32+pad):=by unfold strB;rw[gD,h32];omega
 refine⟨⟨u'.unit,0,u'.at_,u'.level,u'.blk,u'.last,u'.frm,u'.sum,u'.total,true⟩,hun,rfl,?_,?_⟩
 ·rw[es];unfold atL;simp only;rw[ha] at r2;exact r2
 ·rw[es,<-drop_drop,d1,<-gI];exact Zd2 (by rw[gD,h32,gP])
theorem Zpo (h:u.ended=true):TComes (atL u 0,t) [] (.got t):=by
 refine .here (.inr (.inl ⟨?_,rfl⟩));unfold tstep;rw[if_pos];refine⟨?_,rfl⟩;unfold US.mayEnd atL;simp[h]
theorem Zyf {q:List Bool}:TComes (atL u 0,t) (bitsOf 0 8++q) (.bad 20):=by
 have b8:(bitsOf 0 8).length=8:=Za1 _ _;refine Zn7 (by rw[gD,b8];omega) (by omega) ?_;rw[Zbs b8,valB_bitsOf _ _ (by decide)];decide
theorem Zw5 {unit:Nat}{bs:List Bk}{q:List Bool}(h1:1<=level/\level<=9) (hu:u.unit=unit) (hg:∀ x∈bs,Gb (level*unit) x) (hq:q.length < 32):TComes (atL u 0,t) (preB level bs++q) (.bad 24):=by
 obtain⟨u',hd,ha,hun,ht,r1,d1⟩:=Zv2 (l:=preB level bs++q) (k:=0) h1 hu hg .start (by rw[drop_zero]);exact .after r1 (Zx8 hd (by rw[d1];exact hq))
end Go.Qs
namespace Go.Q25
open Go.M01 Go.Mb Go.Mp Go.M10 Go.Mc Go.Mz Go.Mk Go.Q20 Go.Q24
def ccost (c:CS):Nat:=(if 0 < c.picks.count then 18 else 0)+c.size*c.codes.length+c.lens.lens.length
def CJ (c:CS):Prop:=c.done=true->0 < c.picks.count/\2<=c.codes.length
theorem Zv6 {p p':PS}{l:List Bool}{n:Nat}(h:pstep p l=.ok p' n):(0 < p.count->0 < p'.count)/\(if 0 < p'.count then 18 else 0)<=(if 0 < p.count then 18 else 0)+n:=by
 unfold pstep at h;split at h
 ·rename_i h0;split at h
  ·cases h
  ·split at h
   ·cases h
   ·cases h;refine⟨λh=>by omega,?_⟩
    split <;> split <;> omega
 ·rename_i h0
  repeat' split at h
  all_goals first
   |(cases h;exact⟨λh=>h,Nat.le_add_right _ _⟩)
   |cases h
theorem Zw6 {d d':DS}{l:List Bool}{n:Nat}(h:dstep d l=.ok d' n):d'.size=d.size/\d'.lens.length<=d.lens.length+1:=by
 unfold dstep turn at h
 repeat' split at h
 all_goals first
  |(cases h;refine⟨rfl,?_⟩;simp)
  |cases h
theorem Znq {c c':CS}{l:List Bool}{o:Option Nat}{n:Nat}(hc:c.Ok) (hj:CJ c) (h:cstep c l=.ok (c',o) n):CJ c'/\ccost c'<=ccost c+n/\c'.size=c.size:=by
 have hpos:=Q23.Zig hc h;unfold cstep at h;split at h
 ·unfold withPicks at h;split at h
  ·cases h
  ·cases h
  ·rename_i p k hp;cases h;have:=Zv6 hp;refine⟨λhd=>⟨this.1 (hj hd).1,(hj hd).2⟩,?_,rfl⟩;unfold ccost;simp only;omega
 ·rename_i hpd;split at h
  ·unfold withLens at h;split at h
   ·cases h
   ·cases h
   ·rename_i d k hd;have h1:=Zw6 hd;have h2:=hc.ds;split at h
    ·rename_i hdn;split at h
     ·cases h;refine⟨λhd=>⟨(hj hd).1,?_⟩,?_,rfl⟩
      ·have:=(hj hd).2;simp only[gD,gQ];omega
      ·unfold ccost
       have hdl:d.lens.length=c.size:=by
        unfold DS.done at hdn;rw[decide_eq_true_eq] at hdn;omega
       simp only[gD,gQ,Nat.mul_add,Nat.mul_one,d0,length_nil];omega
     ·cases h
    ·cases h;refine⟨hj,?_,rfl⟩;unfold ccost;simp only;omega
  ·rename_i hlt;split at h
   ·cases h
   ·unfold withSymbol at h;split at h
    ·cases h
    ·cases h
     have hpd2:c.picks.done=true:=by simpa using hpd
     unfold PS.done at hpd2;rw[decide_eq_true_eq] at hpd2;have:=hc.pk.tbl hpd2.1;refine⟨λ_=>⟨hpd2.1,by show 2<=c.codes.length;omega⟩,?_,rfl⟩;unfold ccost;simp only;omega
def bcost (b:BS):Nat:=(if b.head=true then 57 else 0)+match b.row with
 |none=>0
 |some r=>32+ccost r.code
def BJ (b:BS):Prop:=∀ r,b.row=some r->CJ r.code
theorem Zgg {b b':BS}{k n:Nat}(h:bend b k=.ok b' n):n=k/\b'.row=b.row/\b'.head=b.head/\(b'.done=true->b.done=true\/∃ r,b.row=some r/\r.code.done=true):=by
 unfold bend at h;split at h
 ·cases h;exact⟨rfl,rfl,rfl,λh=>.inl h⟩
 ·rename_i r hr;split at h
  ·cases h;exact⟨rfl,rfl,rfl,λh=>.inl h⟩
  ·rename_i hn;split at h
   ·cases h
   ·cases h;refine⟨rfl,rfl,rfl,λ_=>.inr ⟨r,hr,?_⟩⟩
    cases hd:r.code.done with
    |true=>rfl
    |false=>exact absurd (.inl hd) hn
theorem Zxf (l:List Bool):usedT [] l=λ_=>false:=by
 funext b;rfl
theorem Zzr {l:List Bool}{T:Nat->Bool}{n:Nat}(h:uread l=.ok T n):32<=n:=by
 unfold uread at h;split at h
 ·cases h
 ·split at h
  ·cases h
  ·split at h
   ·cases h
   ·rename_i hne;cases h;rcases hm:marksL (l.take 16) with _|⟨a,t⟩
    ·rw[hm] at hne;exfalso;apply hne;unfold listed;rw[Zxf];simp
    ·simp only[length_cons];omega
theorem Zua {b b':BS}{l:List Bool}{n:Nat}(hb:b.Ok) (hj:BJ b) (hd:b.done=false) (h:bstep b l=.ok b' n) :
  BJ b'/\bcost b'<=bcost b+n/\(b'.done=true->112<=bcost b'):=by
 have hok:=Ziw hb hd h
 have fin:(BJ b'/\bcost b'<=bcost b+n/\(b'.done=true->∃ r,b'.row=some r/\r.code.done=true))->BJ b'/\bcost b'<=bcost b+n/\(b'.done=true->112<=bcost b'):=by
  rintro⟨h1,h2,h3⟩;refine⟨h1,h2,λhdn=>?_⟩;obtain⟨r,hr,hrd⟩:=h3 hdn;obtain⟨g1,g2,_⟩:=hok.some_ r hr;have:=h1 r hr hrd;have hs:=g2.code.s1;unfold bcost ccost;rw[g1,hr,if_pos rfl];simp only[if_pos this.1];have:3*2<=r.code.size*r.code.codes.length:=Nat.mul_le_mul hs this.2;omega
 apply fin;unfold bstep at h;split at h
 ·rename_i hh;unfold bhead at h;split at h
  ·cases h
  ·split at h
   ·cases h
   ·have hrn:=(Zfo (s:=0) (f:=0) hb hh (by omega) (by omega)).1;obtain⟨rfl,h1,h2,h3⟩:=Zgg h;simp only at h1 h2 h3;refine⟨λr hr=>(by rw[h1,hrn] at hr;cases hr),?_,λhdn=>?_⟩
    ·unfold bcost;rw[h1,h2,hrn,hh];simp
    ·rcases h3 hdn with h|⟨r,hr,_⟩
     ·rw[hd] at h;cases h
     ·rw[hrn] at hr;cases hr
 ·rename_i hh
  have hh2:b.head=true:=by simpa using hh
  split at h
  ·rename_i hrn;unfold buse at h;split at h
   ·cases h
   ·cases h
   ·rename_i T k hu;obtain⟨rfl,h1,h2,h3⟩:=Zgg h;simp only at h1 h2 h3;have h32:=Zzr hu;refine⟨λr hr=>?_,?_,λhdn=>?_⟩
    ·rw[h1] at hr;cases hr;intro hx;cases hx
    ·unfold bcost;rw[h1,h2,hrn,hh2];simp only[rowOf,ccost,c0,p0,d0,length_nil,Nat.mul_zero,Nat.lt_irrefl,if_false,if_true];omega
    ·rcases h3 hdn with h|⟨r,hr,hx⟩
     ·rw[hd] at h;cases h
     ·cases hr;cases hx
  ·rename_i r hr;have hjr:=hj r hr;split at h
   ·unfold bnext at h;obtain⟨rfl,h1,h2,h3⟩:=Zgg h;simp only at h1 h2 h3;refine⟨λr' hr'=>?_,?_,λhdn=>?_⟩
    ·rw[h1] at hr';cases hr';exact hjr
    ·unfold bcost;rw[h1,h2,hr];simp only[RS.next];omega
    ·rcases h3 hdn with h|⟨r',hr',hx⟩
     ·rw[hd] at h;cases h
     ·exact⟨r',by rw[h1];exact hr',hx⟩
   ·have hco:=(hb.some_ r hr).2.1.code;unfold bsym at h;split at h
    ·cases h
    ·cases h
    ·rename_i c k hc;have hcc:=Znq hco hjr hc;obtain⟨rfl,h1,h2,h3⟩:=Zgg h;simp only at h1 h2 h3;refine⟨λr' hr'=>?_,?_,λhdn=>?_⟩
     ·rw[h1] at hr';cases hr';exact hcc.1
     ·unfold bcost;rw[h1,h2,hr];simp only;omega
     ·rcases h3 hdn with h|⟨r',hr',hx⟩
      ·rw[hd] at h;cases h
      ·exact⟨r',by rw[h1];exact hr',hx⟩
    ·rename_i c s k hc;have hcc:=Znq hco hjr hc;unfold btold at h;split at h
     ·cases h
     ·rename_i z d p hz;obtain⟨rfl,h1,h2,h3⟩:=Zgg h;simp only at h1 h2 h3;refine⟨λr' hr'=>?_,?_,λhdn=>?_⟩
      ·rw[h1] at hr';cases hr';exact hcc.1
      ·unfold bcost;rw[h1,h2,hr];simp only;omega
      ·rcases h3 hdn with h|⟨r',hr',hx⟩
       ·rw[hd] at h;cases h
       ·exact⟨r',by rw[h1];exact hr',hx⟩
def bkL:Option BS->Nat
 |none=>0
 |some b=>b.last.length
def bkC:Option BS->Nat
 |none=>0
 |some b=>48+bcost b
structure Cnt (u:US) (q i m:Nat):Prop where
 bits:bkC u.blk+160*m<=q
 steps:i<=q+9*u.unit*m+bkL u.blk
 bj:∀ b,u.blk=some b->BJ b
theorem cnt0 (unit:Nat):Cnt (u0 unit) 0 0 0:=⟨by simp[u0,bkC],by simp,λb h=>by simp[u0] at h⟩
theorem Zx1 {u u':US}{l:List Bool}{n w q i m:Nat}(hu:u.Ok) (hc:Cnt u q i m) (h:ustep u l=.ok (u',w) n):Cnt u' (q+n) (i+1) (m+if w=1 then 1 else 0):=by
 have hlev:=hu.lev;have h1:=hc.bits;have h2:=hc.steps;unfold ustep at h;split at h
 ·rename_i hd;have hbn:=hu.none_ (by omega);rw[hbn] at h1 h2;unfold uletter at h
  repeat' split at h
  all_goals first
   |(cases h;exact⟨by show bkC u.blk+160*m<=q+8;rw[hbn];omega,by show i+1<=q+8+9*u.unit*m+bkL u.blk;rw[hbn];omega,λb hb=>(by rw[hbn] at hb;cases hb)⟩)
   |cases h
 ·split at h
  ·rename_i hd;have hbn:=hu.none_ (by omega);rw[hbn] at h1 h2;simp only[bkC,bkL] at h1 h2;unfold umagic at h;split at h
   ·cases h
   ·split at h
    ·cases h;refine⟨?_,?_,λb hb=>?_⟩
     ·show bkC (some (b0 (u.level*u.unit)))+160*m<=q+48;simp only[bkC,bcost,b0];simp;omega
     ·show i+1<=q+48+9*u.unit*m+bkL (some (b0 (u.level*u.unit)));omega
     ·cases hb;intro r hr;simp[b0] at hr
    ·split at h
     ·cases h;refine⟨?_,?_,λb hb=>(by rw[hbn] at hb;cases hb)⟩
      ·show bkC u.blk+160*m<=q+48;rw[hbn];simp only[bkC];omega
      ·show i+1<=q+48+9*u.unit*m+bkL u.blk;omega
     ·cases h
  ·split at h
   ·rename_i hd;unfold ubody at h;split at h
    ·cases h
    ·rename_i b hb;obtain⟨_,hbo,hbd,hbr⟩:=hu.blk b hb;rw[hb] at h1 h2;simp only[bkC,bkL] at h1 h2;unfold uwith at h;split at h
     ·cases h
     ·cases h
     ·rename_i b' n' hs;obtain⟨c1,c2,c3⟩:=Zua hbo (hc.bj b hb) hbd hs;have hok:=Ziw hbo hbd hs;have hpg:=Q23.Zes hbo hs;have hlr:=Q23.Ze2 hok;have hle:u.level*u.unit<=9*u.unit:=Nat.mul_le_mul_right _ hlev;split at h
      ·rename_i hdn;cases h;have:=c3 hdn;refine⟨?_,?_,λb hb=>(by cases hb)⟩
       ·show bkC none+160*(m+1)<=q+n;simp only[bkC];omega
       ·show i+1<=q+n+9*u.unit*(m+1)+bkL none;rw[Nat.mul_add,Nat.mul_one];simp only[bkL];rcases hpg.2 with⟨h3,h4⟩|⟨h3,h4⟩
        ·rw[h4] at hlr;omega
        ·omega
      ·cases h;refine⟨?_,?_,λb2 hb2=>(by cases hb2;exact c1)⟩
       ·show bkC (some b')+160*m<=q+n;simp only[bkC];omega
       ·show i+1<=q+n+9*u.unit*m+bkL (some b');simp only[bkL];rcases hpg.2 with⟨h3,h4⟩|⟨h3,h4⟩
        ·rw[h4];omega
        ·omega
   ·rename_i hd1 hd2;have hbn:=hu.none_ hd2;rw[hbn] at h1 h2;simp only[bkC,bkL] at h1 h2;unfold usum at h;split at h
    ·cases h
    ·split at h
     ·cases h;refine⟨?_,?_,λb hb=>(by rw[hbn] at hb;cases hb)⟩
      ·show bkC u.blk+160*m<=q+(32+(l.length - 32)%8);rw[hbn];simp only[bkC];omega
      ·show i+1<=q+(32+(l.length - 32)%8)+9*u.unit*m+bkL u.blk;omega
     ·cases h
theorem Yds {u:US}(hu:u.Ok):bkL u.blk<=9*u.unit:=by
 cases hb:u.blk with
 |none=>exact hE _
 |some b=>
  obtain⟨_,hbo,_,hbr⟩:=hu.blk b hb;have hlr:=Q23.Ze2 hbo;have hle:u.level*u.unit<=9*u.unit:=Nat.mul_le_mul_right _ hu.lev;show b.last.length<=_;omega
end Go.Q25
namespace Go.Proofs.YtgaiocpkjaaphaaGreatDoor
open Go Go.Vc Go.Proofs.Tryz
attribute [local irreducible] Vc.Nc Vc.Ld Vc.LdA Vc.St Vc.StA Vc.Fo Vc.Iaa Vc.Ias Vc.Ixs Vc.Ixa Vc.Fd Vc.FdA Vc.Bp Vc.Bb Vc.Bn Vc.Up Vc.Ci Vc.Lns Vc.Lnl Vc.Ex Vc.Sst Vc.Ssl Vc.New Vc.Vif Vc.VJoin Vc.VLoop Vc.KE Vc.Dr Vc.Rk Vc.Cl Vc.Cx Vc.Inv Vc.Be Vc.Cv Vc.Cw Vc.Mf Vc.Sl Vc.Lk Vc.Bd Vc.Bs Vc.Ms Vc.Mm Vc.Mu Vc.Me Vc.Es Vc.Rg Vc.Nx Vc.Ta Vc.Ap Vc.Usd Vc.Ust Vc.Cp Vc.Ln Vc.Bc Vc.Bmin Vc.Bmax Vc.Bdel Vc.Bclr Vc.Pk
namespace U18
open Go.M18
variable {w:World}{L:List HProp}{K:KT}
theorem Zdq {s:List UInt8}{i:Nat}(H:Holds w L) (hl:s.length<=1000000) (hi:i<=s.length)
  (post:∀ w',Same w w'->Holds w' L->K (.string ⟨(rot s i).toArray⟩) w') :
  Cl prog 125 #[.string ⟨s.toArray⟩,.int .i64 i] w K:=by
 refine Tz125 ?_;unfold Vz125;have S:=Same.refl w
 have hsz:(⟨s.toArray⟩:ByteArray).size=s.length:=by simp[ByteArray.size]
 refine r_dr H ?_;clear H;intro _ S_ H;replace S:=S.trans S_;clear S_;refine Zxe (by omega) ?_;refine Yba (by omega) ?_;refine Zad (by simp;omega) ?_;exact post _ S H
theorem Ztt {s:List UInt8}{i k:Nat}(H:Holds w L) (hl:s.length<=1000000) (hi:i<=s.length) (hk:k<=s.length)
  (post:∀ w',Same w w'->Holds w' L->K (.bool (aheadP s i k)) w') :
  Cl prog 126 #[.string ⟨s.toArray⟩,.int .i64 i,.int .i64 k] w K:=by
 refine Tz126 ?_;unfold Vz126;refine Zdq H hl hi λw1 S1 H1=>?_;refine Zdq H1 hl hk λw2 S2 H2=>?_;refine Yeh ?_;have S:=S1.trans S2;refine r_vif (λh=>?_) λh=>?_
 ·have e:aheadP s i k=true:=by unfold aheadP;rw[Bool.or_eq_true];exact .inl h
  have:=post _ S H2;rw[e] at this;exact this
 ·refine Zke ?_;refine r_ifD (λh2=>?_) λh2=>?_
  ·refine r_lss ?_
   have e:aheadP s i k=decide ((i:Int) < (k:Int)):=by
    unfold aheadP;rw[show bl (rot s i) (rot s k)=false from h,Bool.false_or,decide_eq_true h2,Bool.true_and,Bool.eq_iff_iff,decide_eq_true_iff,decide_eq_true_iff];omega
   rw[<-e];exact post _ S H2
  ·have e:aheadP s i k=false:=by
    unfold aheadP;rw[show bl (rot s i) (rot s k)=false from h,Bool.false_or,decide_eq_false h2,Bool.false_and]
   have:=post _ S H2;rw[e] at this;exact this
theorem Zpt {s:List UInt8}(H:Holds w L) (hl:s.length<=1000000)
  (post:∀ v w',Same w w'->Holds w' (SL nv tI v (sortP s s.length)::L)->K v w') :
  Cl prog 66 #[.string ⟨s.toArray⟩] w K:=by
 refine Tz66 ?_;unfold Vz66
 have hsz:(⟨s.toArray⟩:ByteArray).size=s.length:=by simp[ByteArray.size]
 refine r_lns ?_;rw[hsz]
 refine Za7 (λv x w'=>∃ i:Nat,i<=s.length/\x=nv i/\Same w w'/\Holds w' (SL nv tI v (sortP s i)::L))
  (λ_ x _=>s.length - (intOf x).toNat) ⟨0,by omega,rfl,.refl w,H.nilSL nv tI⟩ ?_
 clear H;rintro _ out _ w2 ⟨i,hi,rfl,S,H⟩
 repeat (refine r_lss ?_)
 refine r_ifD (λh=>?_) λh=>?_
 ·have hlt:i < s.length:=by omega
  have hsl:=Zb4 s i;have hsm:=Zc9 s i;have hnext:sortP s (i+1)=insP s i (sortP s i):=rfl;generalize sortP s i=so at *;obtain⟨oa,sp,rfl,H⟩:=H.open 0 rfl;rw[gJ] at H
  repeat (refine r_lnl ?_)
  refine Zb9 (λv p x w'=>∃ (j:Nat) (b:Bool) (nx:List Nat),j<=so.length/\x=nv j/\p=.bool b/\nx.length=j+b.toNat/\nx++(if b then so.drop j else insP s i (so.drop j))=insP s i so/\
    Same w w'/\Holds w' (SL nv tI v nx::slb nv tI oa so sp::L))
   (λ_ _ x _=>so.length - (intOf x).toNat) ⟨0,false,[],by omega,rfl,rfl,by simp,by simp,S,H.nilSL nv tI⟩ ?_
  clear S H;rintro _ nxv _ _ w3 ⟨j,b,nx,hj,rfl,rfl,hnl,hinv,S,H⟩
  repeat (refine r_lss ?_)
  refine r_ifD (λh2=>?_) λh2=>?_
  ·have hjl:j < so.length:=by omega
   obtain⟨k,hk⟩:∃ k,so[j]?=some k:=⟨_,gA hjl⟩;have hkm:=(hsm k).1 (List.mem_of_getElem? hk)
   have hdrop:so.drop j=k::so.drop (j+1):=by
    rw[List.drop_eq_getElem_cons hjl];obtain⟨_,h4⟩:=gH.1 hk;rw[h4]
   refine Zi3 1 H rfl hjl (Nat.le_refl _) ?_;rintro b2 rfl;refine Zmr 1 H rfl hk ?_
   refine Zvn (λv p w'=>∃ (b':Bool) (nx':List Nat),p=.bool b'/\nx'.length=j+b'.toNat/\(nx'++[k])++(if b' then so.drop (j+1) else insP s i (so.drop (j+1)))=insP s i so/\
    Same w w'/\Holds w' (SL nv tI v nx'::slb nv tI (some ⟨b2,0,none⟩) so sp::L)) ?_ ?_
   ·rintro _ v _ w4 ⟨b',nx',rfl,hnl',hinv',S,H⟩;refine Zam H 0 rfl k (λ_=>rfl) (by have:=Bool.toNat_le b';omega) λv5 w5 S5 H5=>?_
    repeat (first|refine r_ke ?_|(refine Za0 (by omega) ?_))
    refine⟨⟨j+1,b',_,by omega,rfl,rfl,by rw[gD,gQ];omega,hinv',S.trans S5,H5⟩,?_⟩;simp only[nv,intOf,gC];omega
   ·refine Za2 (λx w'=>x=.bool (!b&&aheadP s i k)/\Same w w'/\Holds w' (SL nv tI nxv nx::slb nv tI (some ⟨b2,0,none⟩) so sp::L)) ?_ ?_
    ·rintro _ _ w4 ⟨rfl,S,H⟩;refine r_vif (λh3=>?_) λh3=>?_
     ·have hb:b=false/\aheadP s i k=true:=by simpa using h3
      obtain⟨rfl,ha⟩:=hb;refine Zam H 0 rfl i (λ_=>rfl) (by rw[hnl];show j+0+1<=_;omega) λv5 w5 S5 H5=>?_;refine r_ke ⟨true,_,rfl,?_,?_,S.trans S5,H5⟩
      ·rw[gD,gQ,hnl];rfl
      ·rw[<-hinv,hdrop];simp[insP,ha]
     ·refine r_ke ⟨b,_,rfl,hnl,?_,S,H⟩;rw[<-hinv,hdrop]
      cases b with
      |true=>simp
      |false=>
       have ha:aheadP s i k=false:=by simpa using h3
       simp[insP,ha]
    ·repeat (refine r_not ?_)
     refine r_vif (λh3=>?_) λh3=>?_
     ·have hb:b=false:=by simpa using h3
      subst hb;refine Ztt H hl (by omega) (by omega) λw5 S5 H5=>?_;exact r_ke ⟨by simp,S.trans S5,H5⟩
     ·have hb:b=true:=by simpa using h3
      subst hb;exact r_ke ⟨by simp,S,H⟩
  ·have hjj:j=so.length:=by omega
   subst hjj;rw[List.drop_length] at hinv;refine Za2 (λv w'=>Same w w'/\Holds w' (SL nv tI v (insP s i so)::L)) ?_ ?_
   ·rintro _ v w4 ⟨S,H⟩
    repeat (first|refine r_ke ?_|(refine Za0 (by omega) ?_))
    refine⟨⟨i+1,by omega,rfl,S,by rw[hnext];exact H⟩,?_⟩;simp only[nv,intOf,gC];omega
   ·repeat (refine r_not ?_)
    refine r_vif (λh3=>?_) λh3=>?_
    ·have hb:b=false:=by simpa using h3
     subst hb;refine Zam H 0 rfl i (λ_=>rfl) (by rw[hnl];show so.length+0+1<=_;omega) λv5 w5 S5 H5=>?_;refine r_ke ⟨S.trans S5,?_⟩
     have hi2:nx++[i]=insP s i so:=by rw[<-hinv];simp[insP]
     rw[gJ,hi2] at H5;exact H5.swap.drop
    ·have hb:b=true:=by simpa using h3
     subst hb
     have hi2:nx=insP s i so:=by rw[<-hinv];simp
     rw[hi2] at H;exact r_ke ⟨S,H.swap.drop⟩
 ·have e:i=s.length:=by omega
  subst e;exact post _ _ S H
theorem Ztr (r:List UInt8) (h:0 < r.length):r.drop (r.length - 1)=[lastB r]:=by
 have h2:=Zg2 r h
 have h3:(r.take (r.length - 1)).length=r.length - 1:=by simp
 have:=congrArg (List.drop (r.length - 1)) h2;rw[drop_append_of_le_length (by omega),drop_of_length_le (Nat.le_of_eq h3),hO_] at this;exact this
abbrev tT:Nat:=48
theorem Zvh {s:List UInt8}{v:Value}{xs:List Nat}{o:Nat}(H:Holds w (SL nv tI v xs::L)) (hl:s.length<=1000000) (h0:0 < s.length) (hx:xs.length<=1000000) (hm:∀ x∈xs,x < s.length) (hd:xs.Nodup) (ho:xs[o]?=some 0)
  (post:∀ w',Same w w'->Holds w' L->K (.agg #[.string ⟨(xs.map λi=>lastB (rot s i)).toArray⟩,nv o]) w') :
  Cl prog 65 #[.string ⟨s.toArray⟩,v] w K:=by
 refine Tz65 ?_;unfold Vz65
 have hsz:(⟨s.toArray⟩:ByteArray).size=s.length:=by simp[ByteArray.size]
 obtain⟨oa,sp,rfl,H⟩:=H.open 0 rfl;rw[gJ] at H
 have hz:(zeroP prog tT).cells.toList=[.string ⟨#[]⟩,nv 0]:=by kernel_rfl
 refine r_new H λb1 w1 S1 H1=>?_;rw[hz] at H1;refine r_bd (v:=.agg #[.string ⟨#[]⟩,nv 0]) (by kernel_rfl) ?_;refine r_new H1 λb2 w2 S2 H2=>?_;rw[hz] at H2;refine r_stA 0 H2 (vs:=[.string ⟨#[]⟩,nv 0]) rfl (by decide) rfl rfl λw3 S3 H3=>?_;replace H3:Holds w3 (blk b2 tT [.string ⟨[].toArray⟩,nv 0]::blk b1 tT [.string ⟨#[]⟩,nv 0]::slb nv tI oa xs sp::L):=H3
 repeat (refine r_lnl ?_)
 refine Za8 (λx w'=>∃ i og:Nat,i<=xs.length/\x=nv i/\(o < i->og=o)/\Same w w'/\
   Holds w' (blk b2 tT [.string ⟨((xs.take i).map λi=>lastB (rot s i)).toArray⟩,nv og]::blk b1 tT [.string ⟨#[]⟩,nv 0]::slb nv tI oa xs sp::L))
  (λx _=>xs.length - (intOf x).toNat) ⟨0,0,by omega,rfl,by omega,(S1.trans S2).trans S3,H3⟩ ?_
 clear H H1 H2 H3 S1 S2 S3;rintro _ _ w4 ⟨i,og,hi,rfl,hog,S,H⟩
 repeat (refine r_lss ?_)
 refine r_ifD (λh=>?_) λh=>?_
 ·have hlt:i < xs.length:=by omega
  obtain⟨k,hk⟩:∃ k,xs[i]?=some k:=⟨_,gA hlt⟩;have hkm:=hm k (List.mem_of_getElem? hk)
  have htk:xs.take (i+1)=xs.take i++[k]:=by rw[gO,hk];rfl
  refine Zi3 2 H rfl hlt (Nat.le_refl _) ?_;rintro b3 rfl;refine Zmr 2 H rfl hk ?_;refine Zdq H hl (by omega) λw5 S5 H5=>?_;replace S:=S.trans S5;clear S5 H;have H:=H5;clear H5;have hrl:=Zco s k (by omega)
  have hrz:(⟨(rot s k).toArray⟩:ByteArray).size=(rot s k).length:=by simp[ByteArray.size]
  have hdl:=Ztr (rot s k) (by omega)
  repeat (first|refine r_fo0 ?_|refine r_lns ?_|(refine Zaa (by omega) (by omega) ?_)|(refine r_dr H ?_;clear H;intro _ S_ H;replace S:=S.trans S_;clear S_)|refine r_ld 0 H rfl rfl ?_)
  refine Zxe (by omega) ?_;rw[hrz];rw[show (⟨(rot s k).toArray⟩:ByteArray).data.toList=rot s k by simp,hdl];refine Zad (by rw[hS_,gN,gQ];omega) ?_
  have hmap:(xs.take i).map (λi=>lastB (rot s i))++[lastB (rot s k)]=(xs.take (i+1)).map λi=>lastB (rot s i):=by rw[htk,map_append];rfl
  rw[hmap]
  repeat (refine r_fo0 ?_)
  refine r_st 0 H rfl (by simp) rfl λw6 S6 H6=>?_;rw[gJ,gJ] at H6;replace S:=S.trans S6;clear S6 H;have H:=H6;clear H6
  repeat (refine r_eql ?_)
  refine r_ifE (λh2=>?_) λh2=>?_
  ·have hk0:k=0:=by omega
   subst hk0
   have hio:i=o:=by
    obtain⟨h3,h4⟩:=gH.1 hk;obtain⟨h5,h6⟩:=gH.1 ho;exact (List.getElem_inj hd).1 (h4.trans h6.symm)
   repeat (refine r_fo0 ?_)
   refine r_st 0 H rfl (by simp) rfl λw7 S7 H7=>?_;rw[gJ,gW,gJ] at H7
   repeat (first|refine r_ke ?_|(refine Za0 (by omega) ?_))
   refine⟨⟨i+1,i,by omega,rfl,by omega,S.trans S7,H7⟩,?_⟩;simp only[nv,intOf,gC];omega
  ·have h2':¬ k=0:=by omega
   repeat (first|refine r_ke ?_|(refine Za0 (by omega) ?_))
   refine⟨⟨i+1,og,by omega,rfl,λh3=>?_,S,H⟩,?_⟩
   ·rcases hU_ o i with h4|h4
    ·exact hog h4
    ·have h5:o=i:=by omega
     rw[h5,hk] at ho;exact absurd (Option.some.inj ho) h2'
   ·simp only[nv,intOf,gC];omega
 ·have e:i=xs.length:=by omega
  subst e;have h1:o < xs.length:=(gH.1 ho).1;rw[hog h1,hF_] at H;refine r_ldA 0 H [.string ⟨(xs.map λi=>lastB (rot s i)).toArray⟩,nv o] rfl rfl rfl ?_;refine r_stA 1 H (vs:=[_,_]) rfl (by decide) rfl rfl λw5 S5 H5=>?_;refine r_ldA 1 H5 [.string ⟨(xs.map λi=>lastB (rot s i)).toArray⟩,nv o] rfl rfl rfl ?_;exact post _ (S.trans S5) H5.drop.drop.drop
theorem Zzl {s:List UInt8}(H:Holds w L) (hl:s.length<=1000000) (h0:0 < s.length)
  (post:∀ o w',o < s.length->(sortP s s.length)[o]?=some 0->Same w w'->Holds w' L->K (.agg #[.string ⟨(lastL s).toArray⟩,nv o]) w') :
  Cl prog 24 #[.string ⟨s.toArray⟩] w K:=by
 refine Tz24 ?_;unfold Vz24
 have hz:(zeroP prog tT).cells.toList=[.string ⟨#[]⟩,nv 0]:=by kernel_rfl
 refine r_new H λb1 w1 S1 H1=>?_;rw[hz] at H1;refine Zpt H1 hl λv w2 S2 H2=>?_;have hm0:=(Zc9 s s.length 0).2 h0;obtain⟨o,ho,hoe⟩:=List.getElem_of_mem hm0
 have ho2:(sortP s s.length)[o]?=some 0:=by rw[gA ho,hoe]
 refine Zvh H2 hl h0 (by rw[Zb4];omega) (λx hx=>(Zc9 s s.length x).1 hx) (Zio s _) ho2 λw3 S3 H3=>?_;refine r_stA 0 H3 (vs:=[_,_]) rfl (by decide) rfl rfl λw4 S4 H4=>?_;refine r_ldA 0 H4 [.string ⟨(lastL s).toArray⟩,nv o] rfl rfl rfl ?_;exact post o _ (by rw[Zb4] at ho;exact ho) ho2 (((S1.trans S2).trans S3).trans S4) H4.drop
end U18
namespace T12
open F08 Rw Go.Mh
variable {w:World}{L:List HProp}{K:KT}
def outG (l:List Nat) (u:Nat):List (List Nat):=if u=l.length then grps l else (List.range (u/50)).map (grp l)
def nowG (l:List Nat) (u:Nat):List Nat:=if u=l.length then [] else (l.take u).drop (u/50*50)
theorem Ycf {l:List Nat}{u:Nat}(h:u < l.length):(nowG l u).length=u%50:=by
 unfold nowG;rw[if_neg (by omega),gS,gN];omega
theorem Zze {l:List Nat}{u x:Nat}(h:u < l.length) (hx:l[u]?=some x):nowG l u++[x]=(l.drop (u/50*50)).take (u+1 - u/50*50):=by
 unfold nowG;rw[if_neg (by omega),<-List.drop_take,gO,hx,drop_append_of_le_length (by rw[gN];omega)];rfl
theorem Zod {v:Value}{l:List Nat}{i:Nat}(H:Holds w L) (hi:L[i]?=some (SL nv tI v l)) (hl:l.length<=100000000)
  (k:∀ gv w',Same w w'->Holds w' (RR gv (grps l)::L)->K gv w'):Cl prog 157 #[v] w K:=by
 refine Tz157 ?_;unfold Vz157;have hn:nGr l=(l.length+49)/50:=rfl;refine r_lnS i H hi ?_
 refine Zb9 (λgv rv x w'=>∃ u:Nat,x=nv u/\u<=l.length/\Same w w'/\Holds w' (SL nv tI rv (nowG l u)::RR gv (outG l u)::L)) (λ_ _ x _=>l.length - (intOf x).toNat)
  ⟨0,rfl,hE _,.refl _,by
   have e1:nowG l 0=[]:=by unfold nowG;split <;> simp
   have e2:outG l 0=[]:=by
    unfold outG;split
    ·rename_i q;unfold grps;rw[hn,<-q];rfl
    ·rfl
   rw[e1,e2]
   exact (Zmn H).nilSL nv tI⟩ ?_
 clear H;rintro _ gv rv _ w1 ⟨u,rfl,hu,S1,H1⟩;refine r_lss (r_ifD (λh=>?_) λh=>?_)
 ·have hlt:u < l.length:=by omega
  have hx:l[u]?=some l[u]:=gA hlt;refine Za6 (i+2) H1 (by rw[gF,gF];exact hi) hx ?_;generalize l[u]=x at *;have hnl:=Ycf hlt;have hnx:=Zze hlt hx;refine Zam (f:=nv) H1 0 rfl x (λ_=>rfl) (by omega) λrv2 w2 S2 H2=>?_;rw[gJ] at H2
  have hlen:(nowG l u++[x]).length=u%50+1:=by rw[gD,hnl];rfl
  have hout:outG l u=(List.range (u/50)).map (grp l):=by unfold outG;rw[if_neg (by omega)]
  refine Za2 (λt w'=>w2=w'/\t=.bool (decide (u%50=49\/u+1=l.length))) ?_ ?_
  rotate_left
  ·refine r_lnS 0 H2 rfl ?_;rw[hlen];refine r_eql (r_ifE (λq=>?_) λq=>?_)
   ·exact r_ke ⟨rfl,by rw[decide_eq_true (.inl (by omega))]⟩
   ·refine Za0 (by omega) (r_lnS (i+2) H2 (by rw[gF,gF];exact hi) (r_eql (r_ke ⟨rfl,?_⟩)))
    rw[show (((u+1:Nat):Int)==((l.length:Nat):Int))=decide (u%50=49\/u+1=l.length) from by
     rw[Bool.eq_iff_iff,beq_iff_eq,decide_eq_true_iff]
     omega]
  rintro _ _ _ ⟨rfl,rfl⟩;refine r_ifD (λq=>?_) λq=>?_
  ·refine Znu 0 H2 rfl (by rw[hout,hS_,hW_];omega) λgv2 w3 S3 H3=>?_;rw[gJ] at H3
   have hg:nowG l u++[x]=grp l (u/50):=by
    rw[hnx];unfold grp;rcases q with q|q
    ·rw[show u+1 - u/50*50=50 by omega]
    ·rw[gK (by rw[gS];omega),gK (by rw[gS];omega)]
   have ho:outG l u++[nowG l u++[x]]=outG l (u+1):=by
    rw[hg,hout]
    have e:(List.range (u/50)).map (grp l)++[grp l (u/50)]=(List.range (u/50+1)).map (grp l):=by rw[List.range_succ,map_append];rfl
    rw[e];unfold outG;split
    ·unfold grps;rw[show nGr l=u/50+1 by omega]
    ·rw[show (u+1)/50=u/50+1 by omega]
   have hn0:nowG l (u+1)=[]:=by
    unfold nowG;split
    ·rfl
    ·rw[drop_of_length_le (by rw[gN];omega)]
   rw[ho] at H3;refine Za0 (by omega) (r_ke ⟨⟨u+1,rfl,hlt,S1.trans (S2.trans S3),by rw[hn0];exact H3.nilSL nv tI⟩,?_⟩);simp only[nv,intOf,gC];omega
  ·have ho:outG l u=outG l (u+1):=by
    rw[hout];unfold outG;rw[if_neg (by omega),show (u+1)/50=u/50 by omega]
   have hn1:nowG l u++[x]=nowG l (u+1):=by
    rw[hnx];unfold nowG;rw[if_neg (by omega),List.drop_take,show (u+1)/50=u/50 by omega]
   rw[ho,hn1] at H2;refine Za0 (by omega) (r_ke ⟨⟨u+1,rfl,hlt,S1.trans S2,H2⟩,?_⟩);simp only[nv,intOf,gC];omega
 ·obtain rfl:u=l.length:=by omega
  have e:outG l l.length=grps l:=by unfold outG;rw[if_pos rfl]
  rw[e] at H1;exact k _ _ S1 H1.drop
abbrev tCd:Nat:=166
theorem Zyk {v:Value}{l:List Nat}{size i:Nat}(H:Holds w L) (hi:L[i]?=some (SL nv tI v l)) (h3:3<=size) (h258:size<=258) (h0:l≠[]) (hl:l.length<=1600000) (hx:∀ x∈l,x < size)
  (k:∀ ox px picks ts w',Cho l size picks ts->Same w w'->Holds w' (RR (sw ox) ts::SL nv tI (sw px) picks::L)->K (.agg #[sw ox,sw px]) w'):Cl prog 109 #[v,nv size] w K:=by
 refine Tz109 ?_;unfold Vz109
 have hz:(zeroP prog tCd).cells.toList=[.slice none 0 0,.slice none 0 0]:=by kernel_rfl
 have hl0:0 < l.length:=gZ.2 h0;have hng:nGr l=(l.length+49)/50:=rfl;refine r_new H λrb w1 S1 H1=>?_;rw[hz] at H1;refine Zh5 H1 (i:=i+1) (by rw[gF];exact hi) (by omega) (by omega) λcv w2 S2 H2=>?_;refine r_lnS (i+2) H2 (by rw[gF,gF];exact hi) ?_;refine Zpb H2 (i:=0) rfl (by rw[Zav];omega) (λx hx=>by have:=cnt_le _ _ x hx;omega) (by omega) (by omega) λfv w3 S3 H3=>?_;obtain⟨fx,rfl⟩:=rr_sw H3 (i:=0) rfl;refine r_bd (v:=.agg #[sw fx,.slice none 0 0]) (by kernel_rfl) ?_;refine r_new H3 λcb w4 S4 H4=>?_;rw[hz] at H4;refine r_stA 0 H4 (vs:=[sw fx,.slice none 0 0]) rfl (by decide) rfl rfl λw5 S5 H5=>?_;replace H5:Holds w5 (blk cb tCd [sw fx,.slice none 0 0]::RR (sw fx) (firstL (cnt l size) l.length (num l.length))::SL nv tI cv (cnt l size)::blk rb tCd [.slice none 0 0,.slice none 0 0]::L):=H5;refine Zod H5 (i:=i+4) (by rw[gF,gF,gF,gF];exact hi) (by omega) λgv w6 S6 H6=>?_;have H7:=H6.nilSL nv tI
 have H8:Holds w6 (RR (sw fx) (firstL (cnt l size) l.length (num l.length))::SL nv tI (.slice none 0 0) []::blk cb tCd [sw fx,.slice none 0 0]::RR gv (grps l)::SL nv tI cv (cnt l size)::blk rb tCd [.slice none 0 0,.slice none 0 0]::L):=by have h_:=Holds.ord 4 [3,0,2,1] H7 rfl;exact h_
 refine Za8 (λx w'=>∃ (m:Nat) (ox px:Sw) (picks:List Nat) (ts:List (List Nat)),x=nv m/\m<=4/\Rnds (grps l) size (firstL (cnt l size) l.length (num l.length)) m picks ts/\Same w w'/\
   Holds w' (RR (sw ox) ts::SL nv tI (sw px) picks::blk cb tCd [sw ox,sw px]::RR gv (grps l)::SL nv tI cv (cnt l size)::blk rb tCd [.slice none 0 0,.slice none 0 0]::L)) (λx _=>4 - (intOf x).toNat)
  ⟨0,fx,(none,0,0),[],_,rfl,by omega,.zero,((((S1.trans S2).trans S3).trans S4).trans S5).trans S6,H8⟩ ?_
 clear H H1 H2 H3 H4 H5 H6 H7 H8 S1 S2 S3 S4 S5 S6;rintro _ _ w7 ⟨m,ox,px,picks,ts,rfl,hm,hR,S7,H7⟩;have hG:Gp size (grps l):=Zvg (by omega) hx;refine r_lss (r_ifD (λh=>?_) λh=>?_)
 rotate_left
 ·obtain rfl:m=4:=by omega
  refine r_ldA 2 H7 [sw ox,sw px] rfl rfl rfl ?_;refine r_stA 5 H7 (vs:=[sw ox,sw px]) rfl (by simp) rfl rfl λw8 S8 H8=>?_;refine r_ldA 5 H8 [sw ox,sw px] rfl rfl rfl ?_
  have H9:Holds w8 (RR (sw ox) ts::SL nv tI (sw px) picks::L):=by have h_:=Holds.ord 6 [0,1] H8 rfl;exact h_
  exact k _ _ _ _ _ hR (S7.trans S8) H9
 have hTb:=(Rnds.tb hR (Zme l size)).1;have hn2:=hTb.n2;have hn6:=hTb.n6;have hgl:=hG.few
 have hm4:m < 4:=by omega
 generalize hgs:grps l=gs at *
 refine rr_ln 3 H7 rfl ?_
 refine Za7 (λpv x w'=>∃ u:Nat,x=nv u/\u<=gs.length/\Same w w'/\Holds w' (SL nv tI pv ((gs.take u).map λg=>pk g ts)::RR (sw ox) ts::SL nv tI (sw px) picks::blk cb tCd [sw ox,sw px]::RR gv gs::SL nv tI cv (cnt l size)::blk rb tCd [.slice none 0 0,.slice none 0 0]::L)) (λ_ x _=>gs.length - (intOf x).toNat)
  ⟨0,rfl,hE _,S7,H7.nilSL nv tI⟩ ?_
 clear H7 S7 h;rintro _ pv _ w8 ⟨u,rfl,hu,S8,H8⟩;refine r_lss (r_ifD (λh=>?_) λh=>?_)
 ·have hlt:u < gs.length:=by omega
  have hq:=Zcp hlt;have hmem:=Zaw hlt
  have e:gs.take (u+1)=gs.take u++[gs.getD u []]:=by rw[gO,hq];rfl
  generalize gs.getD u []=g at *;obtain⟨x,R,hld,H9,_,_,_,hRR⟩:=Zby 4 H8 rfl hq;refine hld _ _ λ_ hp_=>hp_ _ ?_;replace H9:Holds w8 (SL nv tI (sw x) g::SL nv tI pv ((gs.take u).map λg=>pk g ts)::RR (sw ox) ts::SL nv tI (sw px) picks::blk cb tCd [sw ox,sw px]::R::SL nv tI cv (cnt l size)::blk rb tCd [.slice none 0 0,.slice none 0 0]::L):=H9;refine r_fo0 (r_ld 4 H9 rfl rfl ?_);refine Zsr H9 (i:=0) (j:=2) rfl rfl (by omega) hTb h258 (hG.len g hmem) (hG.lt g hmem) λw9 S9 H10=>?_;refine Zam (f:=nv) H10 1 rfl (pk g ts) (λ_=>rfl) (by rw[hS_,gN];omega) λpv2 w10 S10 H11=>?_;replace H11:Holds w10 ([]++SL nv tI (sw x) g::SL nv tI pv2 (((gs.take u).map λg=>pk g ts)++[pk g ts])::RR (sw ox) ts::SL nv tI (sw px) picks::blk cb tCd [sw ox,sw px]::R::SL nv tI cv (cnt l size)::blk rb tCd [.slice none 0 0,.slice none 0 0]::L):=H11;have H12:=Zgs hRR [] 4 rfl H11;refine Za0 (by omega) (r_ke ⟨⟨u+1,rfl,hlt,S8.trans (S9.trans S10),?_⟩,?_⟩)
  ·rw[e,map_append];exact H12
  ·simp only[nv,intOf,gC];omega
 obtain rfl:u=gs.length:=by omega
 rw[hF_] at H8;clear h hu
 refine r_fo0 (r_ld 3 H8 rfl rfl ?_);refine rr_ln 1 H8 rfl ?_
 refine Za7 (λov x w'=>∃ (q:Nat) (ts':List (List Nat)),x=nv q/\q<=ts.length/\ts'.length=q/\(∀ p,p < q->LensOf (O09.ones (cnt (catP ts p gs) size)) (ts'.getD p []))/\Same w w'/\
   Holds w' (RR ov ts'::SL nv tI pv (gs.map λg=>pk g ts)::RR (sw ox) ts::SL nv tI (sw px) picks::blk cb tCd [sw ox,sw px]::RR gv gs::SL nv tI cv (cnt l size)::blk rb tCd [.slice none 0 0,.slice none 0 0]::L)) (λ_ x _=>ts.length - (intOf x).toNat)
  ⟨0,[],rfl,hE _,rfl,λp hp=>absurd hp (Nat.not_lt_zero p),S8,Zmn H8⟩ ?_
 clear H8 S8;rintro _ ov _ w9 ⟨q,ts',rfl,hq,hql,hqL,S9,H9⟩;refine r_lss (r_ifD (λh=>?_) λh=>?_)
 rotate_left
 ·obtain rfl:q=ts.length:=by omega
  obtain⟨oy,rfl⟩:=rr_sw H9 (i:=0) rfl;obtain⟨py,rfl⟩:=sl_sw H9 (i:=1) rfl;refine r_bd (v:=.agg #[sw oy,sw py]) (by kernel_rfl) ?_;refine r_stA 4 H9 (vs:=[sw oy,sw py]) rfl (by simp) rfl rfl λw10 S10 H10=>?_
  have H11:Holds w10 (RR (sw oy) ts'::SL nv tI (sw py) (gs.map λg=>pk g ts)::blk cb tCd [sw oy,sw py]::RR gv gs::SL nv tI cv (cnt l size)::blk rb tCd [.slice none 0 0,.slice none 0 0]::L):=by
   have h_:=Holds.ord 8 [0,1,4,5,6,7] H10 rfl;exact h_
  refine Za0 (by omega) (r_ke ⟨⟨m+1,oy,py,_,ts',rfl,by omega,.succ hR ⟨rfl,hql,hqL⟩,S9.trans S10,H11⟩,?_⟩);simp only[nv,intOf,gC];omega
 have hqt:q < ts.length:=by omega
 refine rr_ln 5 H9 rfl ?_
 refine Za7 (λav x w'=>∃ u:Nat,x=nv u/\u<=gs.length/\Same w w'/\Holds w' (SL nv tI av (catP ts q (gs.take u))::RR ov ts'::SL nv tI pv (gs.map λg=>pk g ts)::RR (sw ox) ts::SL nv tI (sw px) picks::blk cb tCd [sw ox,sw px]::RR gv gs::SL nv tI cv (cnt l size)::blk rb tCd [.slice none 0 0,.slice none 0 0]::L)) (λ_ x _=>gs.length - (intOf x).toNat)
  ⟨0,rfl,hE _,S9,H9.nilSL nv tI⟩ ?_
 clear H9 S9 h;rintro _ av _ w10 ⟨u,rfl,hu,S10,H10⟩;refine r_lss (r_ifD (λh=>?_) λh=>?_)
 ·have hlt:u < gs.length:=by omega
  have hgq:=Zcp hlt;have hmem:=Zaw hlt
  have e:gs.take (u+1)=gs.take u++[gs.getD u []]:=by rw[gO,hgq];rfl
  have hcl:=Zi0 (ts:=ts) (p:=q) hG u
  have hpk:(gs.map λg=>pk g ts)[u]?=some (pk (gs.getD u []) ts):=by rw[hV_,hgq];rfl
  generalize gs.getD u []=g at *;have hg50:=hG.len g hmem;obtain⟨x,R,hld,H11,hback,_,_,hRR⟩:=Zby 6 H10 rfl hgq;refine hld _ _ λ_ hp_=>hp_ _ ?_;replace H11:Holds w10 (SL nv tI (sw x) g::SL nv tI av (catP ts q (gs.take u))::RR ov ts'::SL nv tI pv (gs.map λg=>pk g ts)::RR (sw ox) ts::SL nv tI (sw px) picks::blk cb tCd [sw ox,sw px]::R::SL nv tI cv (cnt l size)::blk rb tCd [.slice none 0 0,.slice none 0 0]::L):=H11;refine Za6 3 H11 rfl hpk ?_;refine r_eql (r_ifE (λhpq=>?_) λhpq=>?_)
  ·refine r_apS H11 1 0 (by omega) rfl rfl sg_nv (by omega) λav2 w11 S11 H12=>?_;replace H12:Holds w11 ([]++SL nv tI (sw x) g::SL nv tI av2 (catP ts q (gs.take u)++g)::RR ov ts'::SL nv tI pv (gs.map λg=>pk g ts)::RR (sw ox) ts::SL nv tI (sw px) picks::blk cb tCd [sw ox,sw px]::R::SL nv tI cv (cnt l size)::blk rb tCd [.slice none 0 0,.slice none 0 0]::L):=H12;have H13:=Zgs hRR [] 6 rfl H12;refine Za0 (by omega) (r_ke ⟨⟨u+1,rfl,hlt,S10.trans S11,?_⟩,?_⟩)
   ·rw[e,Ze6,if_pos (by omega)];exact H13
   ·simp only[nv,intOf,gC];omega
  ·refine Za0 (by omega) (r_ke ⟨⟨u+1,rfl,hlt,S10,?_⟩,?_⟩)
   ·rw[e,Ze6,if_neg (by omega),gU];exact H10
   ·simp only[nv,intOf,gC];omega
 ·obtain rfl:u=gs.length:=by omega
  have hcl:=Zi0 (ts:=ts) (p:=q) hG gs.length;rw[hF_] at H10 hcl;refine Zh5 H10 (i:=0) rfl (by omega) (by omega) λnv' w11 S11 H11=>?_;refine P36.Of_spec H11 (i:=0) rfl (by rw[Zav];exact h3) (by rw[Zav];exact h258) (λx hx=>by have:=cnt_le _ _ x hx;omega) λlv out w12 hL S12 H12=>?_
  have H13:Holds w12 (SL nv tI lv out::RR ov ts'::SL nv tI pv (gs.map λg=>pk g ts)::RR (sw ox) ts::SL nv tI (sw px) picks::blk cb tCd [sw ox,sw px]::RR gv gs::SL nv tI cv (cnt l size)::blk rb tCd [.slice none 0 0,.slice none 0 0]::L):=by
   have h_:=Holds.ord 11 [0,3,4,5,6,7,8,9,10] H12 rfl;exact h_
  refine Znu 0 H13 rfl (by omega) λov2 w13 S13 H14=>?_;replace H14:Holds w13 (RR ov2 (ts'++[out])::SL nv tI pv (gs.map λg=>pk g ts)::RR (sw ox) ts::SL nv tI (sw px) picks::blk cb tCd [sw ox,sw px]::RR gv gs::SL nv tI cv (cnt l size)::blk rb tCd [.slice none 0 0,.slice none 0 0]::L):=H14;refine Za0 (by omega) (r_ke ⟨⟨q+1,_,rfl,hqt,by rw[gD,hql];rfl,λp hp=>?_,S10.trans (S11.trans (S12.trans S13)),H14⟩,?_⟩)
  ·rw[gB];rcases hU_ p q with z|z
   ·rw[gM (by omega),<-gB];exact hqL p z
   ·obtain rfl:p=q:=by omega
    rw[gT (by omega),hql,Nat.sub_self];exact hL
  ·simp only[nv,intOf,gC];omega
end T12
namespace P20
open Go.Mz Go.Mw
variable {w:World}{L:List HProp}{K:KT}
theorem Zki {o:List UInt8}{c:UInt8}(hc:c∈o) (hl:o.length<=1000000) (k:K (nv (o.idxOf c)) w):Cl prog 106 #[S_ o,bv c] w K:=by
 refine Tz106 ?_;unfold Vz106;refine Za8 (λx w'=>∃ i:Nat,i<=o.idxOf c/\x=nv i/\w=w') (λx _=>o.length - (intOf x).toNat) ⟨0,hE _,rfl,rfl⟩ ?_;rintro _ _ _ ⟨i,hi,rfl,rfl⟩;have hlt:=Zn3 hc;refine q_len ?_;refine r_lss (r_vtD (by omega) ?_);refine q_ix (m:=i) (by omega) ?_;refine r_eql (r_ifE (λh=>?_) λh=>?_)
 ·have hx:o[i]=c:=by
   have:(o.getD i 0).toNat=c.toNat:=by omega
   rw[gB,gA (by omega)] at this;exact UInt8.toNat_inj.1 this
  have:i=o.idxOf c:=by
   rcases hU_ i (o.idxOf c) with h1|h1
   ·exact absurd hx (by simpa using List.not_of_lt_findIdx (p:=(·==c)) h1)
   ·omega
  rw[<-this] at k;exact k
 ·have hne:i≠o.idxOf c:=by
   rintro rfl;rw[Yb8 hc] at h;exact h rfl
  refine Za0 (by omega) ?_;refine r_ke ⟨⟨i+1,by omega,rfl,rfl⟩,?_⟩;simp only[nv,intOf,gC];omega
theorem Zoj {T:Nat->Bool}{s:List UInt8}(H:Holds w L) (hne:listed T≠[]) (hs:∀ c∈s,c∈listed T) (hl:s.length<=1000000)
  (k:∀ v w',Same w w'->Holds w' (SL nv tI v (mtfE (listed T) s).2::L)->K (.tuple #[v,iv 0]) w'):Cl prog 49 #[S_ s,S_ (listed T)] w K:=by
 refine Tz49 ?_;unfold Vz49;have hll:=Zbf T;refine Is_spec H hne λw1 S1 H1=>?_;refine Zak (r_vf ?_)
 have hinv:∀ i,i<=s.length->(∀ x,x∈(mtfE (listed T) (s.take i)).1↔x∈listed T)/\(mtfE (listed T) (s.take i)).1.length=(listed T).length/\(mtfE (listed T) (s.take i)).2.length=i:=λi hi=>by
  have:=Zhl (o:=listed T) (s:=s.take i) λc hc=>hs c (mem_of_mem_take hc);exact⟨this.1,this.2.1,by rw[this.2.2.1,gN];omega⟩
 refine Zb9 (λov rv x w'=>∃ i:Nat,i<=s.length/\x=nv i/\rv=S_ (mtfE (listed T) (s.take i)).1/\Same w w'/\Holds w' (SL nv tI ov (mtfE (listed T) (s.take i)).2::L)) (λ_ _ x _=>s.length - (intOf x).toNat)
  ⟨0,hE _,rfl,rfl,S1,H1.nilSL nv tI⟩ ?_
 clear H H1 S1;rintro _ ov _ _ w2 ⟨i,hi,rfl,rfl,S,H⟩;obtain⟨hm,ho,hn⟩:=hinv i hi;refine q_len ?_;refine r_lss (r_ifD (λh=>?_) λh=>?_)
 ·have hlt:i < s.length:=by omega
  refine q_ix (m:=i) (by omega) ?_;rw[gB,gA hlt,Option.getD_some];have hc:s[i]∈(mtfE (listed T) (s.take i)).1:=(hm _).2 (hs _ (getElem_mem _))
  have hg:s.take (i+1)=s.take i++[s[i]]:=by rw[gO,gA hlt];rfl
  refine Zki hc (by omega) ?_;refine r_lss (r_vfD (by omega) ?_);refine Zam H 0 rfl ((mtfE (listed T) (s.take i)).1.idxOf s[i]) (λ_=>rfl) (by omega) λov2 w3 S3 H3=>?_;refine Zk9 H3 (by omega) (Zn3 hc) λw4 S4 H4=>?_;refine Za0 (by omega) ?_;refine r_ke ⟨⟨i+1,by omega,rfl,by rw[hg,Zd3];rfl,(S.trans S3).trans S4,by rw[hg,Zd3];exact H4⟩,?_⟩;simp only[nv,intOf,gC];omega
 ·obtain rfl:i=s.length:=by omega
  rw[hF_] at H;exact k _ _ S H
theorem Zrj (m:Nat):∀ {w:World}{L:List HProp}{K:KT}(H:Holds w L) (hm:m<=1000000) (k:∀ v w',Same w w'->Holds w' (SL nv tI v (rowZ m)::L)->K v w'),Cl prog 108 #[nv m] w K:=by
 induction m using Nat.strongRecOn with
 |_ m ih=>
  intro w L K H hm k;refine Tz108 ?_;unfold Vz108;have hrl:=Zdi ((m - 1)/2);refine r_eql (r_ifE (λh=>?_) λh=>?_)
  ·obtain rfl:m=0:=by omega
   rw[Zd7] at k;exact k _ _ (.refl w) (H.nilSL nv tI)
  have hm0:m≠0:=by omega
  rw[Zg1 hm0] at k
  have hr:((m:Nat):Int).tmod 2=((m%2:Nat):Int):=by rw[Int.tmod_eq_emod_of_nonneg (by omega)];simp
  refine Zff hr (by omega) ?_;refine r_eql (r_ifE (λh2=>?_) λh2=>?_)
  ·rw[if_pos (show m%2=1 by omega)] at k;refine Zam (H.nilSL nv tI) 0 rfl 0 (λ_=>rfl) (by simp) λv1 w1 S1 H1=>?_;refine Zaa (by omega) (by omega) ?_
   have hq:((m - 1:Nat):Int).tdiv 2=(((m - 1)/2:Nat):Int):=by rw[Int.tdiv_eq_ediv_of_nonneg (by omega)];simp
   refine Zic hq (by omega) (by omega) (by omega) ?_;refine ih ((m - 1)/2) (by omega) H1 (by omega) λv2 w2 S2 H2=>?_;refine r_apS H2 1 0 (by decide) rfl rfl (λ_=>rfl) (by simp;omega) λv3 w3 S3 H3=>?_;exact k _ _ ((S1.trans S2).trans S3) (show Holds w3 (SL nv tI v2 (rowZ ((m - 1)/2))::SL nv tI v3 ([]++[0]++rowZ ((m - 1)/2))::L) from H3).drop
  ·rw[if_neg (show ¬ m%2=1 by omega)] at k;refine Zam (H.nilSL nv tI) 0 rfl 1 (λ_=>rfl) (by simp) λv1 w1 S1 H1=>?_;refine r_sub (by omega) (by omega) ?_
   have hq:((m:Int) - 2).tdiv 2=(((m - 1)/2:Nat):Int):=by rw[Int.tdiv_eq_ediv_of_nonneg (by omega)];omega
   refine Zic hq (by omega) (by omega) (by omega) ?_;refine ih ((m - 1)/2) (by omega) H1 (by omega) λv2 w2 S2 H2=>?_;refine r_apS H2 1 0 (by decide) rfl rfl (λ_=>rfl) (by simp;omega) λv3 w3 S3 H3=>?_;exact k _ _ ((S1.trans S2).trans S3) (show Holds w3 (SL nv tI v2 (rowZ ((m - 1)/2))::SL nv tI v3 ([]++[1]++rowZ ((m - 1)/2))::L) from H3).drop
theorem Znv {v:Value}{l:List Nat}{n:Nat}(H:Holds w (SL nv tI v l::L)) (h1:1<=n) (h2:n<=256) (hl:l.length<=1000000) (hp:∀ p∈l,p < n)
  (k:∀ v' w',Same w w'->Holds w' (SL nv tI v' (rowE l n)::SL nv tI v l::L)->K (.tuple #[v',iv 0]) w'):Cl prog 50 #[v,nv n] w K:=by
 refine Tz50 ?_;unfold Vz50;refine Za2 (λx w'=>w=w'/\x=.bool false) ?_ ?_
 rotate_left
 ·refine r_lss (r_vfD (by omega) ?_);exact r_gtr (r_ke ⟨rfl,by rw[decide_eq_false (by omega)]⟩)
 rintro _ _ _ ⟨rfl,rfl⟩;refine r_vf ?_;refine r_lnS 0 H rfl ?_
 have hzl:∀ i,i<=l.length->(zenc (l.take i)).1.length+(zenc (l.take i)).2<=i:=λi hi=>by
  have:=Zly (l.take i);rw[gN] at this;omega
 refine Zb9 (λov zv x w'=>∃ i:Nat,i<=l.length/\x=nv i/\zv=nv (zenc (l.take i)).2/\Same w w'/\Holds w' (SL nv tI ov (zenc (l.take i)).1::SL nv tI v l::L)) (λ_ _ x _=>l.length - (intOf x).toNat)
  ⟨0,hE _,rfl,rfl,.refl w,H.nilSL nv tI⟩ ?_
 clear H;rintro _ ov _ _ w1 ⟨i,hi,rfl,rfl,S,H⟩;have hzi:=hzl i hi;refine r_lss (r_ifD (λh=>?_) λh=>?_)
 ·have hlt:i < l.length:=by omega
  have hg:l[i]?=some l[i]:=gA hlt
  have hgt:l.take (i+1)=l.take i++[l[i]]:=by rw[gO,hg];rfl
  have hpi:=hp _ (getElem_mem hlt);refine Za6 1 H rfl hg ?_;refine Za2 (λx w'=>w1=w'/\x=.bool false) ?_ ?_
  rotate_left
  ·refine r_lss (r_vfD (by omega) ?_);exact r_geq (r_ke ⟨rfl,by rw[decide_eq_false (by omega)]⟩)
  rintro _ _ _ ⟨rfl,rfl⟩;refine r_vf ?_;refine r_eql (r_ifE (λh3=>?_) λh3=>?_)
  ·have e1:zenc (l.take (i+1))=((zenc (l.take i)).1,(zenc (l.take i)).2+1):=by
    rw[hgt,Zcl];unfold zE;rw[if_pos (by omega)]
   refine Za0 (by omega) ?_;refine Za0 (by omega) ?_;refine r_ke ⟨⟨i+1,by omega,rfl,by rw[e1],S,by rw[e1];exact H⟩,?_⟩;simp only[nv,intOf,gC];omega
  ·have e1:zenc (l.take (i+1))=((zenc (l.take i)).1++rowZ (zenc (l.take i)).2++[l[i]+1],0):=by
    rw[hgt,Zcl];unfold zE;rw[if_neg (by omega)]
   have hrl:=Zdi (zenc (l.take i)).2;refine Zrj _ H (by omega) λrv w2 S2 H2=>?_;refine r_apS H2 1 0 (by decide) rfl rfl (λ_=>rfl) (by omega) λov2 w3 S3 H3=>?_;replace H3:Holds w3 (SL nv tI rv (rowZ (zenc (l.take i)).2)::SL nv tI ov2 ((zenc (l.take i)).1++rowZ (zenc (l.take i)).2)::SL nv tI v l::L):=H3;refine Za0 (by omega) ?_;refine Zam H3.drop 0 rfl (l[i]+1) (λ_=>rfl) (by rw[gD];omega) λov3 w4 S4 H4=>?_;refine Za0 (by omega) ?_;refine r_ke ⟨⟨i+1,by omega,rfl,by rw[e1];rfl,((S.trans S2).trans S3).trans S4,by rw[e1];exact H4⟩,?_⟩;simp only[nv,intOf,gC];omega
 ·obtain rfl:i=l.length:=by omega
  rw[hF_] at H hzi ⊢;have hrl:=Zdi (zenc l).2;refine Zrj _ H (by omega) λrv w2 S2 H2=>?_;refine r_apS H2 1 0 (by decide) rfl rfl (λ_=>rfl) (by omega) λov2 w3 S3 H3=>?_;replace H3:Holds w3 (SL nv tI rv (rowZ (zenc l).2)::SL nv tI ov2 ((zenc l).1++rowZ (zenc l).2)::SL nv tI v l::L):=H3;refine Za0 (by omega) ?_;refine Zam H3.drop 0 rfl (n+1) (λ_=>rfl) (by rw[gD];omega) λov3 w4 S4 H4=>?_;exact k _ _ (((S.trans S2).trans S3).trans S4) H4
end P20
namespace P20
open Go.M01 Go.Mb Go.Mp Go.M10 Go.Mc Go.Mz
variable {w:World}{L:List HProp}{K:KT}
abbrev nilV:Value:=.slice none 0 0
theorem Yab {α:Type}{f:α->Value}{e:TypeId}{v:Value}{xs:List α}(H:Holds w L) (i:Nat) (hi:L[i]?=some (SL f e v xs)):∃ oa l c,v=.slice oa l c:=by
 obtain⟨oa,sp,rfl,_⟩:=H.open i hi;exact⟨_,_,_,rfl⟩
def letters (o:List Nat):List UInt8:=o.map λx=>UInt8.ofNat (48+x)
theorem Zlm {o:List Nat}{i:Nat}(h:i < o.length):frontB (letters o) i=letters (front o i):=by
 unfold frontB front letters;rw[hR_,map_append,List.map_take,List.map_drop]
 congr 1
 simp[gB,h]
theorem Zq1 (o:List Nat):(letters o).length=o.length:=by simp[letters]
end P20
namespace P20
open Go.M01 Go.Mb Go.Mp Go.M10 Go.Mz Go.Mv
variable {w:World}{L:List HProp}{K:KT}
theorem Zof (j:Nat) (x:List Bool):(List.replicate (j+1) x).flatten=(List.replicate j x).flatten++x:=by
 rw[replicate_succ',List.flatten_append];simp
theorem Zxv {a b j:Nat}:(List.replicate (min (j+1) (b - a)) [true,false]).flatten++(List.replicate (min (j+1) (a - b)) [true,true]).flatten =
  ((List.replicate (min j (b - a)) [true,false]).flatten++(List.replicate (min j (a - b)) [true,true]).flatten)++((if j < b - a then [true,false] else [])++if j < a - b then [true,true] else []):=by
 by_cases h1:j < b - a
 ·have h2:¬ j < a - b:=by omega
  rw[if_pos h1,if_neg h2,show min (j+1) (b - a)=min j (b - a)+1 by omega,show a - b=0 by omega,Nat.min_zero,Nat.min_zero,Zof];simp
 ·rw[if_neg h1,show min (j+1) (b - a)=min j (b - a) by omega]
  by_cases h2:j < a - b
  ·rw[if_pos h2,show min (j+1) (a - b)=min j (a - b)+1 by omega,Zof];simp
  ·rw[if_neg h2,show min (j+1) (a - b)=min j (a - b) by omega];simp
theorem Ydj (A:List Bool):txt A++[49,48]=txt (A++[true,false]):=by rw[Zau];rfl
theorem Yeo (A:List Bool):txt A++[49,49]=txt (A++[true,true]):=by rw[Zau];rfl
theorem txt_0 (A:List Bool):txt A++[48]=txt (A++[false]):=by rw[Zau];rfl
theorem Zpq {v:Value}{lens:List Nat}(H:Holds w (SL nv tI v lens::L)) (hne:lens≠[]) (hll:lens.length<=258) (hs:Sized lens) (k:K (S_ (txt (lensB lens))) w):Cl prog 111 #[v] w K:=by
 refine Tz111 ?_;unfold Vz111;have h0:0 < lens.length:=gZ.2 hne
 have hsz:∀ i,i < lens.length->1<=lens.getD i 0/\lens.getD i 0<=20:=λi hi=>by
  rw[gB,gA hi];exact hs _ (getElem_mem hi)
 have hget:∀ i,i < lens.length->lens[i]?=some (lens.getD i 0):=λi hi=>by rw[gB,gA hi];rfl
 have hf0:=hsz 0 h0;refine Za6 0 H (j:=0) rfl (hget 0 h0) ?_;refine Zan (by omega) (by omega) ?_;refine Zbz (n:=5) (by omega) (by omega) ?_;refine Za6 0 H (j:=0) rfl (hget 0 h0) ?_;refine r_lnS 0 H rfl ?_;generalize ha:lens.getD 0 0=a at *
 have hlast:∀ i,i<=lens.length->lastB a (lens.take i)<=20/\1<=lastB a (lens.take i):=by
  intro i hi
  cases i with
  |zero=>exact⟨by unfold lastB;simp;omega,by unfold lastB;simp;omega⟩
  |succ i=>
   have hg:lens.take (i+1)=lens.take i++[lens.getD i 0]:=by rw[gO,hget i (by omega)];rfl
   rw[hg,lastB_snoc];have:=hsz i (by omega);omega
 have hsl:∀ i,i<=lens.length->(stepsB a (lens.take i)).length<=41*i:=by
  intro i
  induction i with
  |zero=>intro _;simp[stepsB]
  |succ i ih=>
   intro hi
   have hg:lens.take (i+1)=lens.take i++[lens.getD i 0]:=by rw[gO,hget i (by omega)];rfl
   have h1:=Ziv (lastB a (lens.take i)) (lens.getD i 0) (hlast i (by omega)).1 (hsz i (by omega)).2;have h2:=ih (by omega);rw[hg,Zbr];simp only[gD,gQ];omega
 have hb5:(bitsOf a 5).length=5:=Za1 _ _
 refine Zb9 (λov nw x w'=>∃ i:Nat,i<=lens.length/\x=nv i/\nw=nv (lastB a (lens.take i))/\ov=S_ (txt (bitsOf a 5++stepsB a (lens.take i)))/\w=w') (λ_ _ x _=>lens.length - (intOf x).toNat)
  ⟨0,by omega,rfl,rfl,by rw[take_zero,stepsB,gU],rfl⟩ ?_
 rintro _ _ _ _ _ ⟨i,hi,rfl,rfl,rfl,rfl⟩;have hsi:=hsl i hi;refine r_lss (r_ifD (λh=>?_) λh=>?_)
 rotate_left
 ·obtain rfl:i=lens.length:=by omega
  rw[hF_];unfold lensB at k;rw[ha] at k;exact k
 have hlt:i < lens.length:=by omega
 have hl2:=hlast i hi;have hxi:=hsz i hlt
 have hg:lens.take (i+1)=lens.take i++[lens.getD i 0]:=by rw[gO,hget i hlt];rfl
 refine Za6 0 H rfl (hget i hlt) ?_;generalize hx:lens.getD i 0=x at *;generalize hp:lastB a (lens.take i)=p at *;generalize hS0:bitsOf a 5++stepsB a (lens.take i)=B0 at *
 have hB0:B0.length<=5+41*258:=by rw[<-hS0,gD];omega
 refine Za7 (λov y w'=>∃ j:Nat,j<=40/\y=nv j/\ov=S_ (txt (B0++((List.replicate (min j (x - p)) [true,false]).flatten++(List.replicate (min j (p - x)) [true,true]).flatten)))/\w=w') (λ_ y _=>40 - (intOf y).toNat)
  ⟨0,hE _,rfl,by simp,rfl⟩ ?_
 rintro _ _ _ _ ⟨j,hj,rfl,rfl,rfl⟩
 have hml:((List.replicate (min j (x - p)) [true,false]).flatten++(List.replicate (min j (p - x)) [true,true]).flatten).length<=200:=by simp;omega
 refine r_lss (r_ifD (λh2=>?_) λh2=>?_)
 ·have hup:=Zxv (a:=p) (b:=x) (j:=j);generalize hm:(List.replicate (min j (x - p)) [true,false]).flatten++(List.replicate (min j (p - x)) [true,true]).flatten=M at *;refine Za2 (λy w'=>w=w'/\y=S_ (txt (B0++(M++if j < x - p then [true,false] else [])))) ?_ ?_
  rotate_left
  ·refine r_sub (by omega) (by omega) ?_;refine r_lss (r_ifD (λh3=>?_) λh3=>?_)
   ·refine Zad (ys:=[49,48]) (by rw[Za9,gD];simp;omega) ?_;refine r_ke ⟨rfl,?_⟩;rw[if_pos (by omega),Ydj,gI]
   ·refine r_ke ⟨rfl,?_⟩;rw[if_neg (by omega),gU]
  rintro _ _ _ ⟨rfl,rfl⟩
  have hl3:(M++if j < x - p then [true,false] else []).length<=202:=by rw[gD];split <;> simp <;> omega
  refine r_sub (by omega) (by omega) ?_;refine r_lss (r_ifD (λh3=>?_) λh3=>?_)
  ·refine Zad (ys:=[49,49]) (by rw[Za9,gD];simp only[length_cons,length_nil];omega) ?_;refine Za0 (by omega) ?_;refine r_ke ⟨⟨j+1,by omega,rfl,?_,rfl⟩,?_⟩
   ·rw[hup,if_pos (show j < p - x by omega),Yeo,gI,gI]
   ·simp only[nv,intOf,gC];omega
  ·refine Za0 (by omega) ?_;refine r_ke ⟨⟨j+1,by omega,rfl,?_,rfl⟩,?_⟩
   ·rw[hup,if_neg (show ¬ j < p - x by omega),gU]
   ·simp only[nv,intOf,gC];omega
 ·obtain rfl:j=40:=by omega
  refine Zad (ys:=[48]) (by rw[Za9,gD];simp only[length_cons,length_nil];omega) ?_;refine Za0 (by omega) ?_;refine r_ke ⟨⟨i+1,by omega,rfl,by rw[hg,lastB_snoc],?_,rfl⟩,?_⟩
  ·rw[hg,Zbr,hp,<-gI (bitsOf a 5),hS0];unfold moves;rw[show min 40 (x - p)=x - p by omega,show min 40 (p - x)=p - x by omega,txt_0,gI]
  ·simp only[nv,intOf,gC];omega
theorem Zph {o:List Nat}{p:Nat}(ho:∀ x∈o,x < 6) (hp:p∈o):(P20.letters o).idxOf (UInt8.ofNat (48+p))=o.idxOf p:=by
 have hp6:=ho p hp
 induction o with
 |nil=>cases hp
 |cons x o ih=>
  have hx:=ho x (hJ_ ..);unfold P20.letters at ih ⊢;rw[hR_,List.idxOf_cons,List.idxOf_cons]
  by_cases h:x=p
  ·subst h;simp
  ·have hne:UInt8.ofNat (48+x)≠UInt8.ofNat (48+p):=by
    intro e;have:=congrArg UInt8.toNat e;rw[UInt8.toNat_ofNat_of_lt' (show 48+x < UInt8.size by show _ < 256;omega),UInt8.toNat_ofNat_of_lt' (show 48+p < UInt8.size by show _ < 256;omega)] at this;omega
   have hm:p∈o:=by
    rcases mem_cons.1 hp with e|e
    ·exact absurd e.symm h
    ·exact e
   rw[show (UInt8.ofNat (48+x)==UInt8.ofNat (48+p))=false from beq_eq_false_iff_ne.2 hne,show (x==p)=false from beq_eq_false_iff_ne.2 h];simp only[cond_false];rw[ih (λy hy=>ho y (hK_ _ hy)) hm]
theorem ones6 {a:Nat}(h:a < 6):([49,49,49,49,49,49]:List UInt8).take a=txt (List.replicate a true):=by
 rcases (show a=0\/a=1\/a=2\/a=3\/a=4\/a=5 by omega) with h|h|h|h|h|h <;> subst h <;> rfl
theorem Zox {v:Value}{l:List Nat}{t:Nat}(H:Holds w (SL nv tI v l::L)) (ht:t<=6) (hll:l.length<=32767) (hp:∀ p∈l,p < 6) (k:∀ w',Same w w'->Holds w' (SL nv tI v l::L)->K (S_ (txt (picksB l t))) w'):Cl prog 110 #[v,nv t] w K:=by
 refine Tz110 ?_;unfold Vz110
 have hmem:∀ p∈l,p∈[0,1,2,3,4,5]:=λp h=>by
  have:=hp p h
  rcases (show p=0\/p=1\/p=2\/p=3\/p=4\/p=5 by omega) with h|h|h|h|h|h <;> rw[h] <;> simp
 refine Zan (by omega) (by omega) ?_;refine Zbz (n:=3) (by omega) (by omega) ?_;refine r_lnS 0 H rfl ?_;refine Zan (by omega) (by omega) ?_;refine Zbz (n:=15) (by omega) (by omega) ?_;have h3:(bitsOf t 3).length=3:=Za1 _ _;have h15:(bitsOf l.length 15).length=15:=Za1 _ _;refine Zad (by rw[Za9,Za9];omega) ?_;rw[<-Zau];refine r_lnS 0 H rfl ?_
 have hinv:∀ i,i<=l.length->(∀ x,x∈(pickE [0,1,2,3,4,5] (l.take i)).1↔x∈[0,1,2,3,4,5])/\(pickE [0,1,2,3,4,5] (l.take i)).1.length=6/\(onesB (pickE [0,1,2,3,4,5] (l.take i)).2).length<=6*i:=λi hi=>by
  have:=Zdd (o:=[0,1,2,3,4,5]) (l:=l.take i) λc hc=>hmem c (mem_of_mem_take hc);refine⟨this.1,this.2.1,?_⟩;have h4:=Zfg this.2.2.2;rw[this.2.2.1,gN,Nat.min_eq_left hi] at h4;exact h4
 refine Zb9 (λov rv x w'=>∃ i:Nat,i<=l.length/\x=nv i/\rv=S_ (P20.letters (pickE [0,1,2,3,4,5] (l.take i)).1)/\ov=S_ (txt (bitsOf t 3++bitsOf l.length 15++onesB (pickE [0,1,2,3,4,5] (l.take i)).2))/\Same w w'/\Holds w' (SL nv tI v l::L)) (λ_ _ x _=>l.length - (intOf x).toNat)
  ⟨0,hE _,rfl,rfl,by rw[take_zero];show _=S_ (txt (bitsOf t 3++bitsOf l.length 15++[]));rw[gU],.refl w,H⟩ ?_
 clear H;rintro _ _ _ _ w2 ⟨i,hi,rfl,rfl,rfl,S,H⟩;obtain⟨hm,h6,hol⟩:=hinv i hi;refine r_lss (r_ifD (λh=>?_) λh=>?_)
 ·have hlt:i < l.length:=by omega
  have hg:l.take (i+1)=l.take i++[l[i]]:=by rw[gO,gA hlt];rfl
  have hpi:=hp _ (getElem_mem hlt);have hc:l[i]∈(pickE [0,1,2,3,4,5] (l.take i)).1:=(hm _).2 (hmem _ (getElem_mem _));refine Za6 0 H rfl (gA hlt) ?_;generalize hO:(pickE [0,1,2,3,4,5] (l.take i)).1=O at *
  have hO6:∀ x∈O,x < 6:=λx hx=>by have:=(hm x).1 hx;simp at this;omega
  refine r_ixs (n:=((l[i]:Nat):Int)) (by omega) (by show ((l[i]:Nat):Int) < ((6:Nat):Int);omega) ?_;rw[gC]
  have hch:(⟨#[48,49,50,51,52,53]⟩:ByteArray).data.toList.getD l[i] 0=UInt8.ofNat (48+l[i]):=by
   rcases (show l[i]=0\/l[i]=1\/l[i]=2\/l[i]=3\/l[i]=4\/l[i]=5 by omega) with h|h|h|h|h|h <;> rw[h] <;> rfl
  rw[hch];have hlm:UInt8.ofNat (48+l[i])∈P20.letters O:=mem_map.2 ⟨l[i],hc,rfl⟩;have hidx:=Zph hO6 hc
  have hll2:(P20.letters O).length=6:=by rw[Zq1,h6]
  have hilt:=Zlz hc;refine Zki hlm (by omega) ?_;rw[hidx];refine Zk9 H (by omega) (by omega) λw3 S3 H3=>?_;rw[Zlm (by omega)];refine q_T (m:=O.idxOf l[i]) (t:=[49,49,49,49,49,49]) (by simp;omega) ?_;rw[ones6 (by omega)];refine Zad (by rw[Za9,Za9,gD,gD,gP];omega) ?_;refine Zad (ys:=[48]) (by rw[gD,Za9,Za9,gD,gD,gP];simp only[length_cons,length_nil];omega) ?_;refine Za0 (by omega) ?_
  have e1:pickE [0,1,2,3,4,5] (l.take (i+1))=(front O (O.idxOf l[i]),(pickE [0,1,2,3,4,5] (l.take i)).2++[O.idxOf l[i]]):=by rw[hg,Zck];unfold pE;rw[hO]
  refine r_ke ⟨⟨i+1,by omega,rfl,by rw[e1],?_,S.trans S3,H3⟩,?_⟩
  ·rw[e1,Zgu,<-Zau,txt_0];simp only[gI]
  ·simp only[nv,intOf,gC];omega
 ·obtain rfl:i=l.length:=by omega
  rw[hF_];exact k _ S H
end P20
namespace P20
open Go.M01 Go.Mb Go.Mp Go.M10 Go.Mc Go.Mz Go.Mk Go.Q20 Go.Q21 Go.Q22
variable {w:World}{L:List HProp}{K:KT}
theorem Zsk (t:List Nat) (x:Nat):share (t++[x])=share t+2^(20 - x):=by simp[share]
theorem share_le:∀ t:List Nat,Sized t->share t<=t.length*524288:=by
 intro t;refine snocRec (motive:=λt=>Sized t->share t<=t.length*524288) t (λ_=>by simp[share]) λt x ih h=>?_;have h1:=ih λy hy=>h y (List.mem_append_left _ hy);have h2:=h x (by simp);rw[Zsk,gD,gQ,Nat.add_mul];have h3:2^(20 - x)<=2^19:=Nat.pow_le_pow_right (by omega) (by omega);omega
theorem May_spec {v:Value}{lens:List Nat}(H:Holds w (SL nv tI v lens::L)) (hs:Sized lens) (hl:lens.length<=1000) (k:K (.bool true) w):Cl prog 207 #[v,iv 1,iv 20] w K:=by
 refine Tz207 ?_;unfold Vz207;refine r_lnS 0 H rfl ?_;refine Za8 (λi w'=>∃ j:Nat,j<=lens.length/\i=nv j/\w=w') (λi _=>lens.length - (intOf i).toNat) ⟨0,by omega,rfl,rfl⟩ ?_;rintro _ _ _ ⟨j,hj,rfl,rfl⟩
 repeat (refine r_lss ?_)
 refine r_ifD (λh=>?_) λh=>?_
 ·have hlt:j < lens.length:=by omega
  obtain⟨x,hg⟩:∃ x,lens[j]?=some x:=⟨_,gA hlt⟩;have hx:=hs x (List.mem_of_getElem? hg);refine Za6 0 H rfl hg ?_;refine Za2 (λy w'=>w=w'/\y=.bool false) ?_ ?_
  ·rintro _ _ _ ⟨rfl,rfl⟩;refine r_vf ?_
   repeat (first|refine r_ke ?_|(refine Za0 (by omega) ?_))
   refine⟨⟨j+1,by omega,rfl,(by trivial)⟩,?_⟩;simp[nv,intOf];omega
  ·repeat (first|refine r_ke ?_|refine r_lss ?_|refine r_gtr ?_|((with_reducible refine r_vfD ?h ?_);(case h=>omega)))
   exact⟨rfl,by rw[decide_eq_false (by omega)]⟩
 ·exact k
def szV:Value->Nat
 |.string b=>b.size
 |_=>0
theorem szV_S (t:List UInt8):szV (S_ t)=t.length:=sz t
theorem next_spec {code:List Bool}{n:Nat}(hc:code.length<=1000) (hn:n<=1000) (k:K (S_ (txt ((inc code).1++List.replicate (n - code.length) false))) w):Cl prog 160 #[S_ (txt code),nv n] w K:=by
 refine Tz160 ?_;unfold Vz160;refine q_len ?_;rw[Za9]
 repeat (refine r_sub (by omega) (by omega) ?_)
 refine Zb9 (λo c i w'=>∃ j:Nat,j<=code.length/\i=iv ((code.length:Int) - 1 - j)/\o=S_ (txt (inc (code.drop (code.length - j))).1)/\c=.bool (inc (code.drop (code.length - j))).2/\w=w') (λ_ _ i _=>(intOf i+1).toNat)
  ⟨0,by omega,by simp,by simp[inc,txt],by simp[inc],rfl⟩ ?_
 rintro _ _ _ _ _ ⟨j,hj,rfl,rfl,rfl,rfl⟩;have hil:=Zif (code.drop (code.length - j));rw[gS] at hil;refine r_geq (r_ifD (λh=>?_) λh=>?_)
 ·have hlt:code.length - 1 - j < code.length:=by omega
  rw[show (code.length:Int) - 1 - j=((code.length - 1 - j:Nat):Int) by omega];refine q_ix (by rw[Za9];exact hlt) ?_;rw[Ybm hlt]
  have hg:code[code.length - 1 - j]?=some (code.getD (code.length - 1 - j) false):=by rw[gB,gA hlt];rfl
  have hd:code.drop (code.length - (j+1))=code.getD (code.length - 1 - j) false::code.drop (code.length - j):=by
   rw[show code.length - (j+1)=code.length - 1 - j by omega,List.drop_eq_getElem_cons hlt,show code.length - 1 - j+1=code.length - j by omega]
   congr 1
   rw[gB,gA hlt];rfl
  generalize code.getD (code.length - 1 - j) false=b at *;refine r_eql ?_
  have eb:(((chr b).toNat:Int)==49)=b:=by cases b <;> rfl
  rw[eb]
  have hinc:inc (code.drop (code.length - (j+1)))=((b != (inc (code.drop (code.length - j))).2)::(inc (code.drop (code.length - j))).1,(inc (code.drop (code.length - j))).2&&b):=by rw[hd];rfl
  generalize inc (code.drop (code.length - j))=x at *;obtain⟨o,c⟩:=x;simp only at hil hinc ⊢;refine Za2 (λy w'=>w=w'/\y=S_ (txt ((b != c)::o))) ?_ ?_
  ·rintro _ _ _ ⟨rfl,rfl⟩;refine r_vif (λh2=>?_) λh2=>?_
   ·subst h2
    repeat (first|refine r_ke ?_|(refine r_sub (by omega) (by omega) ?_))
    refine⟨⟨j+1,by omega,?_,by rw[hinc],by rw[hinc];simp,(by trivial)⟩,?_⟩
    ·congr 1;omega
    ·simp[intOf]
   ·subst h2
    repeat (first|refine r_ke ?_|(refine r_sub (by omega) (by omega) ?_))
    refine⟨⟨j+1,by omega,?_,by rw[hinc],by rw[hinc];simp,(by trivial)⟩,?_⟩
    ·congr 1;omega
    ·simp[intOf]
  ·refine r_bb ?_
   cases b <;> cases c
   ·refine r_vf ?_;refine Zad (xs:=[48]) (by simp[Za9];omega) ?_
    repeat (refine r_ke ?_)
    exact⟨rfl,rfl⟩
   ·refine r_vt ?_;refine Zad (xs:=[49]) (by simp[Za9];omega) ?_
    repeat (refine r_ke ?_)
    exact⟨rfl,rfl⟩
   ·refine r_vt ?_;refine Zad (xs:=[49]) (by simp[Za9];omega) ?_
    repeat (refine r_ke ?_)
    exact⟨rfl,rfl⟩
   ·refine r_vf ?_;refine Zad (xs:=[48]) (by simp[Za9];omega) ?_
    repeat (refine r_ke ?_)
    exact⟨rfl,rfl⟩
 ·obtain rfl:j=code.length:=by omega
  rw[Nat.sub_self,drop_zero] at hil ⊢;have hil:=Zif code;refine Za8 (λo w'=>∃ m:Nat,m<=n - code.length/\o=S_ (txt ((inc code).1++List.replicate m false))/\w=w') (λo _=>n - szV o) ⟨0,by omega,by rw[List.replicate_zero,gU],rfl⟩ ?_;rintro _ _ _ ⟨m,hm,rfl,rfl⟩;refine q_len ?_;rw[Za9,gD,gP,hil];refine r_lss (r_ifD (λh2=>?_) λh2=>?_)
  ·refine Zad (ys:=[48]) (by simp[Za9,hil];omega) ?_;refine r_ke ?_;refine⟨⟨m+1,by omega,?_,rfl⟩,?_⟩
   ·rw[replicate_succ',<-gI,Zau (_++_)];rfl
   ·show n - szV (S_ _) < n - szV (S_ _);rw[szV_S,szV_S,gD,Za9,gD,hil,gP,gQ];omega
  ·have:m=n - code.length:=by omega
   subst this;exact k
end P20
namespace P20
open Go.M01 Go.Mb Go.Mp Go.M10 Go.Mc Go.Mz Go.Mk Go.Q20 Go.Q21 Go.Q22
variable {w:World}{L:List HProp}{K:KT}
abbrev tS:Nat:=9
instance rowS:Row prog 170 tS (.string ⟨#[]⟩):=⟨by kernel_rfl,⟨t9,by kernel_rfl,by kernel_rfl,by decide,by kernel_rfl⟩,rfl⟩
def outL (lens:List Nat) (n k:Nat):List (List UInt8):=(List.range lens.length).map λi=>if lens.getD i 0 < n\/lens.getD i 0=n/\i < k then txt (codeB lens i) else []
def codesL (lens:List Nat):List (List UInt8):=(List.range lens.length).map λi=>txt (codeB lens i)
theorem Yah (lens:List Nat) (n k:Nat):(outL lens n k).length=lens.length:=by simp[outL]
theorem Zxj {lens:List Nat}{n k:Nat}(h:lens.getD k 0≠n):outL lens n (k+1)=outL lens n k:=by
 unfold outL;apply map_congr_left;intro i hi
 by_cases h1:lens.getD i 0 < n
 ·rw[if_pos (.inl h1),if_pos (.inl h1)]
 ·by_cases h2:lens.getD i 0=n
  ·have:i≠k:=by rintro rfl;exact h h2
   by_cases h3:i < k
   ·rw[if_pos (.inr ⟨h2,by omega⟩),if_pos (.inr ⟨h2,h3⟩)]
   ·rw[if_neg (by omega),if_neg (by omega)]
  ·rw[if_neg (by omega),if_neg (by omega)]
theorem Yax {lens:List Nat}{n k:Nat}(h:lens.getD k 0=n) (hk:k < lens.length):outL lens n (k+1)=(outL lens n k).set k (txt (codeB lens k)):=by
 apply List.ext_getElem
 ·simp[outL]
 intro i h1 h2;rw[List.getElem_set];simp only[outL,List.getElem_map,List.getElem_range]
 by_cases hik:k=i
 ·subst hik;rw[if_pos rfl,if_pos (.inr ⟨h,by omega⟩)]
 ·rw[if_neg hik]
  by_cases h3:lens.getD i 0 < n\/lens.getD i 0=n/\i < k
  ·rw[if_pos h3,if_pos (by omega)]
  ·rw[if_neg h3,if_neg (by omega)]
theorem Yc6 (lens:List Nat) (n:Nat):outL lens (n+1) 0=outL lens n lens.length:=by
 unfold outL;apply map_congr_left;intro i hi;rw[mem_range] at hi
 by_cases h3:lens.getD i 0 < n+1
 ·rw[if_pos (.inl h3),if_pos (by omega)]
 ·rw[if_neg (by omega),if_neg (by omega)]
theorem Yao {lens:List Nat}(hs:Sized lens):outL lens 1 0=List.replicate lens.length []:=by
 apply List.ext_getElem
 ·simp[outL]
 intro i h1 h2
 have hi:i < lens.length:=by simpa [outL] using h1
 have hx:1<=lens.getD i 0:=by
  rw[gB,gA hi];exact (hs _ (getElem_mem hi)).1
 simp only[outL,List.getElem_map,List.getElem_range,List.getElem_replicate];rw[if_neg (by omega)]
theorem Ya1 {lens:List Nat}(hs:Sized lens):outL lens 21 0=codesL lens:=by
 unfold outL codesL;apply map_congr_left;intro i hi;rw[mem_range] at hi
 have hx:lens.getD i 0<=20:=by
  rw[gB,gA hi];exact (hs _ (getElem_mem hi)).2
 rw[if_pos (.inl (by omega))]
theorem Zwq {l:List Bool}:txt l=[]↔l=[]:=by simp[txt]
theorem Zu1 {v:Value}{lens:List Nat}(H:Holds w (SL nv tI v lens::L)) (hw:Whole lens) (hl:lens.length<=1000)
  (k:∀ cv w',Same w w'->Holds w' (SL S_ tS cv (codesL lens)::SL nv tI v lens::L)->K cv w'):Cl prog 112 #[v] w K:=by
 refine Tz112 ?_;unfold Vz112;refine r_lnS 0 H rfl ?_;refine r_ms (f:=S_) (x:=[]) H rfl (by omega) (by omega) λb w1 S1 H1=>?_;simp only[gC] at H1 ⊢;generalize hcv:(Value.slice (some ⟨b,0,none⟩) lens.length lens.length)=cv
 replace H1:Holds w1 (SL S_ tS cv (outL lens 1 0)::SL nv tI v lens::L):=by
  rw[Yao hw.sized];refine Holds.imp H1 λh hh=>⟨some ⟨b,0,none⟩,[],?_,hh⟩;rw[<-hcv];simp
 clear H hcv
 refine Za7 (λc n w'=>∃ (m:Nat) (code:List Bool),1<=m/\m<=21/\n=nv m/\c=S_ (txt code)/\code.length<=20/\LastC code m (fst_ lens m)/\Same w w'/\Holds w' (SL S_ tS cv (outL lens m 0)::SL nv tI v lens::L))
  (λ_ n _=>21 - (intOf n).toNat) ⟨1,[],by omega,by omega,rfl,rfl,by simp,.inl ⟨rfl,rfl⟩,S1,H1⟩ ?_
 clear H1 S1;rintro _ _ _ w2 ⟨m,code,hm1,hm,rfl,rfl,hcl,hlast,S,H⟩;refine r_leq (r_ifD (λh=>?_) λh=>?_)
 ·have hm20:m<=20:=by omega
  refine r_lnS 1 H rfl ?_
  refine Za7 (λc i w'=>∃ (j:Nat) (code:List Bool),j<=lens.length/\i=nv j/\c=S_ (txt code)/\code.length<=20/\LastC code m (fst_ lens m+(lens.take j).count m)/\Same w w'/\Holds w' (SL S_ tS cv (outL lens m j)::SL nv tI v lens::L))
   (λ_ i _=>lens.length - (intOf i).toNat) ⟨0,code,by omega,rfl,rfl,hcl,by simpa using hlast,S,H⟩ ?_
  clear S H hlast hcl;rintro _ _ _ w3 ⟨j,code,hj,rfl,rfl,hcl,hlast,S,H⟩;refine r_lss (r_ifD (λh2=>?_) λh2=>?_)
  ·have hlt:j < lens.length:=by omega
   have hg:lens[j]?=some (lens.getD j 0):=by rw[gB,gA hlt];rfl
   refine Za6 1 H rfl hg ?_;refine r_neq ?_
   have htk:(lens.take (j+1)).count m=(lens.take j).count m+if lens.getD j 0=m then 1 else 0:=by
    rw[Zai hg,List.count_append,List.count_cons,List.count_nil]
    by_cases he:lens.getD j 0=m
    ·rw[if_pos (by simpa using he),if_pos he]
    ·rw[if_neg (by simpa using he),if_neg he]
   refine r_ifN (λh3=>?_) λh3=>?_
   ·have hne:lens.getD j 0≠m:=by omega
    rw[if_neg hne] at htk
    repeat (first|refine r_ke ?_|(refine Za0 (by omega) ?_))
    refine⟨⟨j+1,code,by omega,rfl,rfl,hcl,by rw[htk];exact hlast,S,by rw[Zxj hne];exact H⟩,?_⟩;simp[nv,intOf];omega
   ·have he:lens.getD j 0=m:=by omega
    rw[if_pos he] at htk
    have hcode:codeB lens j=bitsOf (fst_ lens m+(lens.take j).count m) m:=by unfold codeB codeN;rw[he]
    have hlt2:=Yc9 hw hlt;rw[show codeN lens j=fst_ lens m+(lens.take j).count m by unfold codeN;rw[he],he] at hlt2;have hnx:=hlast.next hm1 hlt2;refine Za2 (λc w'=>w3=w'/\c=S_ (txt (codeB lens j))) ?_ ?_
    ·rintro _ _ _ ⟨rfl,rfl⟩;refine Zat 0 H (txt (codeB lens j)) rfl (by rw[Yah];exact hlt) rfl λw4 S4 H4=>?_;replace H4:Holds w4 (SL S_ tS cv ((outL lens m j).set j (txt (codeB lens j)))::SL nv tI v lens::L):=H4
     repeat (first|refine r_ke ?_|(refine Za0 (by omega) ?_))
     refine⟨⟨j+1,codeB lens j,by omega,rfl,rfl,by rw[hcode,Za1];omega,?_,S.trans S4,by rw[Yax he hlt];exact H4⟩,?_⟩
     ·rw[htk,hcode,<-hnx.1,<-hG_];exact hnx.2
     ·simp[nv,intOf];omega
    ·refine Zke (xs:=txt code) (ys:=[]) ?_;refine r_ifD (λh4=>?_) λh4=>?_
     ·rw[Zwq] at h4;subst h4;refine Za7 (λc i w'=>∃ q:Nat,q<=m/\i=nv q/\c=S_ (txt (List.replicate q false))/\w3=w') (λ_ i _=>m - (intOf i).toNat) ⟨0,by omega,rfl,rfl,rfl⟩ ?_;rintro _ _ _ _ ⟨q,hq,rfl,rfl,rfl⟩;refine r_lss (r_ifD (λh5=>?_) λh5=>?_)
      ·refine Zad (ys:=[48]) (by simp[Za9];omega) ?_
       repeat (first|refine r_ke ?_|(refine Za0 (by omega) ?_))
       refine⟨⟨q+1,by omega,rfl,?_,(by trivial)⟩,?_⟩
       ·rw[replicate_succ',Zau];rfl
       ·simp[nv,intOf];omega
      ·have:q=m:=by omega
       subst this
       repeat (refine r_ke ?_)
       refine⟨rfl,?_⟩;rw[hcode,<-hnx.1];unfold nextB;rw[if_pos rfl]
     ·rw[Zwq] at h4;refine next_spec (by omega) (by omega) ?_
      repeat (refine r_ke ?_)
      refine⟨rfl,?_⟩;rw[hcode,<-hnx.1];unfold nextB;rw[if_neg h4]
  ·obtain rfl:j=lens.length:=by omega
   rw[hF_,<-nx_eq lens m hm1] at hlast
   repeat (first|refine r_ke ?_|(refine Za0 (by omega) ?_))
   refine⟨⟨m+1,code,by omega,by omega,rfl,rfl,hcl,?_,S,by rw[Yc6];exact H⟩,?_⟩
   ·rw[fst_,Nat.add_sub_cancel];exact hlast.up
   ·simp[nv,intOf];omega
 ·obtain rfl:m=21:=by omega
  rw[Ya1 hw.sized] at H;exact k _ _ S H
theorem codeB_len (lens:List Nat) (i:Nat):(codeB lens i).length=lens.getD i 0:=by rw[codeB,Za1]
theorem Ztz {lens:List Nat}{i:Nat}(h:i < lens.length):(codesL lens)[i]?=some (txt (codeB lens i)):=by simp[codesL,h]
end P20
namespace P20
open Go.M01 Go.Mb Go.Mp Go.M10 Go.Mz Go.Mv Go.Mh F08 Rw T12 W14
variable {w:World}{L:List HProp}{K:KT}
abbrev tSr:Nat:=170
instance rowSr:Row prog 168 tSr (.slice none 0 0):=⟨by kernel_rfl,⟨t170,by kernel_rfl,by kernel_rfl,by decide,by kernel_rfl⟩,rfl⟩
def RwC (vs:List Sw) (cs:List (List Nat)):HProp:=Sat ((vs.zip cs).map λx=>SL S_ tS (sw x.1) (codesL x.2))
theorem Yd6 {vs:List Sw}{cs:List (List Nat)}{i:Nat}{b:Sw}{l:List Nat}(hb:vs[i]?=some b) (hc:cs[i]?=some l) (H:Holds w (RwC vs cs::L)):∃ A,Holds w (SL S_ tS (sw b) (codesL l)::A):=by
 have hz:((vs.zip cs).map λx=>SL S_ tS (sw x.1) (codesL x.2))[i]?=some (SL S_ tS (sw b) (codesL l)):=by
  rw[hV_,(List.getElem?_zip_eq_some (z:=(b,l))).2 ⟨hb,hc⟩];rfl
 have hlt:i < ((vs.zip cs).map λx=>SL S_ tS (sw x.1) (codesL x.2)).length:=(gH.1 hz).1
 have hz2:(((vs.zip cs).map λx=>SL S_ tS (sw x.1) (codesL x.2))++L)[i]?=some (SL S_ tS (sw b) (codesL l)):=by rw[gM hlt];exact hz
 exact⟨_,Sat.pull i (Sat.unpack H) hz2⟩
theorem Ycs {vs:List Sw}{cs:List (List Nat)}{b:Sw}{l:List Nat}(hl:vs.length=cs.length) (H:Holds w (SL S_ tS (sw b) (codesL l)::RwC vs cs::L)):Holds w (RwC (vs++[b]) (cs++[l])::L):=by
 have H2:=Holds.unpack (A:=(vs.zip cs).map λx=>SL S_ tS (sw x.1) (codesL x.2)) H.swap;unfold RwC;rw[List.zip_append hl,map_append];refine Holds.pack ?_;rw[gI];exact H2
theorem Zpn {v:Value}{l:List Nat}{size i:Nat}(H:Holds w L) (hi:L[i]?=some (SL nv tI v l)) (hR:W14.Row l size)
  (k:∀ picks ts w',Cho l size picks ts->Same w w'->Holds w' L->K (S_ (txt (codeBits l picks ts))) w'):Cl prog 53 #[v,nv size] w K:=by
 refine Tz53 ?_;unfold Vz53;have hlen:=hR.len;have h3:=hR.s3;have h258:=hR.s258;have h0:=gZ.2 hR.ne;have hng:nGr l=(l.length+49)/50:=rfl
 have hz:(zeroP prog tCd).cells.toList=[.slice none 0 0,.slice none 0 0]:=by kernel_rfl
 refine Zyk H hi h3 h258 hR.ne hlen hR.lt λox px picks ts w1 hC S1 H1=>?_;obtain⟨hT,hpl,hpx⟩:=hC.ok;have hwh:=Zfz h3 hC;have hn2:=hT.n2;have hn6:=hT.n6;refine r_new H1 λcb w2 S2 H2=>?_;rw[hz] at H2;refine r_stA 0 H2 (vs:=[sw ox,sw px]) rfl (by simp) rfl rfl λw3 S3 H3=>?_;replace H3:Holds w3 (blk cb tCd [sw ox,sw px]::RR (sw ox) ts::SL nv tI (sw px) picks::L):=H3;refine r_fo0 (r_ld 0 H3 rfl rfl ?_);refine r_fo0 (r_ld 0 H3 rfl rfl ?_);refine rr_ln 1 H3 rfl ?_
 have H4:Holds w3 (SL nv tI (sw px) picks::blk cb tCd [sw ox,sw px]::RR (sw ox) ts::L):=by have h_:=Holds.ord 3 [2,0,1] H3 rfl;exact h_
 have hp1:=Zev hn6 hpx;refine Zox H4 hn6 (by omega) (λp hp=>by have:=hpx p hp;omega) λw4 S4 H5=>?_;refine r_fo0 (r_ld 1 H5 rfl rfl ?_);refine rr_ln 2 H5 rfl ?_
 have H6:Holds w4 (SL sw tSr (.slice none 0 0) []::RwC [] []::SL nv tI (sw px) picks::blk cb tCd [sw ox,sw px]::RR (sw ox) ts::L):=by
  have h1:Holds w4 (RwC [] []::SL nv tI (sw px) picks::blk cb tCd [sw ox,sw px]::RR (sw ox) ts::L):=Holds.pack (A:=[]) H5;exact h1.nilSL sw tSr
 refine Zb9 (λov cv x w'=>∃ (u:Nat) (cs:List Sw),x=nv u/\u<=ts.length/\cs.length=u/\ov=S_ (txt (picksB picks ts.length++(ts.take u).flatMap lensB))/\Same w w'/\
   Holds w' (SL sw tSr cv cs::RwC cs (ts.take u)::SL nv tI (sw px) picks::blk cb tCd [sw ox,sw px]::RR (sw ox) ts::L)) (λ_ _ x _=>ts.length - (intOf x).toNat)
  ⟨0,[],rfl,hE _,rfl,by rw[take_zero,flatMap_nil,gU],((S1.trans S2).trans S3).trans S4,H6⟩ ?_
 clear H H1 H2 H3 H4 H5 H6 S1 S2 S3 S4;rintro _ _ cv _ w5 ⟨u,cs,rfl,hu,hcs,rfl,S5,H5⟩;have hfl:=Zhd hT h258 u;refine r_lss (r_ifD (λh=>?_) λh=>?_)
 ·have hlt:u < ts.length:=by omega
  have hm:=Zaw hlt
  have e:ts.take (u+1)=ts.take u++[ts.getD u []]:=by rw[gO,Zcp hlt];rfl
  obtain⟨x,R,hld,H6,_,_,_,hRR⟩:=Zby 4 H5 rfl (Zcp hlt);refine hld _ _ λ_ hp_=>hp_ _ ?_;have hsz:=hT.sz _ hm;have hwt:=hwh _ hm;have hll:=Zji (hT.le _ hm);generalize ts.getD u []=t at *;refine Zpq H6 (λe=>by rw[e] at hsz;simp at hsz;omega) (by omega) hwt.sized ?_;refine Zad (by rw[Za9,Za9,gD];omega) ?_;rw[<-Zau];refine Zu1 H6 hwt (by omega) λcv0 w6 S6 H7=>?_;obtain⟨oa,la,ca,rfl⟩:=Yab H7 0 rfl;have H9:Holds w6 ([SL S_ tS (.slice oa la ca) (codesL t)]++SL nv tI (sw x) t::SL sw tSr cv cs::RwC cs (ts.take u)::SL nv tI (sw px) picks::blk cb tCd [sw ox,sw px]::R::L):=H7;have H10:=Zgs hRR _ 4 rfl H9
  have H11:Holds w6 (SL S_ tS (sw (oa,la,ca)) (codesL t)::RwC cs (ts.take u)::SL sw tSr cv cs::SL nv tI (sw px) picks::blk cb tCd [sw ox,sw px]::RR (sw ox) ts::L):=by
   have h_:=Holds.ord 3 [0,2,1] H10 rfl;exact h_
  have H12:=Ycs (by rw[hcs,gN];omega) H11;refine Zam (f:=sw) H12 1 rfl (oa,la,ca) sg_sw (by omega) λcv2 w8 S8 H13=>?_
  have H14:Holds w8 (SL sw tSr cv2 (cs++[(oa,la,ca)])::RwC (cs++[(oa,la,ca)]) (ts.take u++[t])::SL nv tI (sw px) picks::blk cb tCd [sw ox,sw px]::RR (sw ox) ts::L):=by
   have h_:=Holds.ord 2 [1,0] H13 rfl;exact h_
  refine Za0 (by omega) (r_ke ⟨⟨u+1,cs++[(oa,la,ca)],rfl,hlt,by rw[gD,hcs];rfl,?_,S5.trans (S6.trans S8),?_⟩,?_⟩)
  ·rw[e,hL_,gI];simp only[hM_,flatMap_nil,gU]
  ·rw[e];exact H14
  ·simp only[nv,intOf,gC];omega
 obtain rfl:u=ts.length:=by omega
 rw[hF_] at H5 hfl ⊢;refine r_lnS (i+5) H5 (by rw[gF,gF,gF,gF,gF];exact hi) ?_
 refine Za7 (λov x w'=>∃ u:Nat,x=nv u/\u<=l.length/\ov=S_ (txt (picksB picks ts.length++ts.flatMap lensB++rowsC l picks ts u))/\w5=w') (λ_ x _=>l.length - (intOf x).toNat)
  ⟨0,rfl,hE _,by show _=S_ (txt (_++[]));rw[gU],rfl⟩ ?_
 clear h;rintro _ _ _ _ ⟨u,rfl,hu,rfl,rfl⟩;have hrl:=Zec (l:=l) (picks:=picks) hT u;refine r_lss (r_ifD (λh=>?_) λh=>?_)
 ·have hlt:u < l.length:=by omega
  have hxl:=hR.lt _ (getElem_mem hlt);refine Za6 (i+5) H5 (by rw[gF,gF,gF,gF,gF];exact hi) (x:=l.getD u 0) (by rw[gB,gA hlt];rfl) ?_;refine r_fo0 (r_ld 3 H5 rfl rfl ?_);refine r_quo (by omega) (by omega) (by omega) ?_;rw[show ((u:Nat):Int)/50=((u/50:Nat):Int) by omega]
  have hup:u/50 < picks.length:=by omega
  refine Za6 2 H5 rfl (x:=picks.getD (u/50) 0) (by rw[gB,gA hup];rfl) ?_
  have hpq:picks.getD (u/50) 0 < ts.length:=by rw[gB,gA hup];exact hpx _ (getElem_mem hup)
  have hxu:l.getD u 0 < size:=by rw[gB,gA hlt];exact hxl
  have hrow:W14.rowC l picks ts u=codeB (ts.getD (picks.getD (u/50) 0) []) (l.getD u 0):=rfl;generalize picks.getD (u/50) 0=q at *;generalize l.getD u 0=x at *
  have hcq:cs[q]?=some (cs.getD q (none,0,0)):=by rw[gB,gA (by omega)];rfl
  refine Za6 0 H5 rfl hcq ?_;generalize cs.getD q (none,0,0)=c at *;obtain⟨A,HA⟩:=Yd6 (w:=w5) (L:=SL nv tI (sw px) picks::blk cb tCd [sw ox,sw px]::RR (sw ox) ts::L) hcq (Zcp hpq) H5.drop;have hsz:=hT.sz _ (Zaw hpq);refine Za6 0 HA rfl (Ztz (by rw[hsz];exact hxu)) ?_
  have hcl:(codeB (ts.getD q []) x).length<=20:=by rw[W14.codeB_len];exact Zie (hT.le _ (Zaw hpq)) _
  refine Zad (by rw[Za9,Za9,gD,gD];omega) ?_;rw[<-Zau];refine Za0 (by omega) (r_ke ⟨⟨u+1,rfl,hlt,by rw[Zch,hrow];simp only[gI],rfl⟩,?_⟩);simp only[nv,intOf,gC];omega
 ·obtain rfl:u=l.length:=by omega
  exact k picks ts _ hC S5 (by have h_:=Holds.ord 5 [] H5 rfl;exact h_)
end P20
namespace P20
open Go.M01 Go.Mb Go.Mz Go.Mx
variable {w:World}{L:List HProp}{K:KT}
theorem Zho (l:List Bool) (b:Bool):txt l++[chr b]=txt (l++[b]):=by rw[Zau];rfl
theorem Ztk {s:List UInt8}(hs:s.length<=1000000) (k:K (S_ (txt (usedB (upT s)))) w):Cl prog 52 #[S_ s] w K:=by
 refine Tz52 ?_;unfold Vz52;refine Zb9 (λwv rv x w'=>∃ i:Nat,i<=16/\x=nv i/\wv=S_ (txt ((whichB (upT s) 16).take i))/\rv=S_ (txt (rowsB (upT s) i))/\w=w') (λ_ _ x _=>16 - (intOf x).toNat) ⟨0,by omega,rfl,rfl,rfl,rfl⟩ ?_;rintro _ _ _ _ _ ⟨i,hi,rfl,rfl,rfl,rfl⟩;have hrl:=Zfq (upT s) i
 have hwl:((whichB (upT s) 16).take i).length<=16:=by rw[gN,Zah];omega
 refine r_lss (r_ifD (λh=>?_) λh=>?_)
 rotate_left
 ·obtain rfl:i=16:=by omega
  rw[gK (by rw[Zah];exact Nat.le_refl _)] at hwl ⊢;refine Zad (by rw[Za9,Za9];omega) ?_;rw[<-Zau];exact k
 have hlt:i < 16:=by omega
 have hwi:(whichB (upT s) 16).take (i+1)=(whichB (upT s) 16).take i++[someB (upT s) i]:=by
  have hg:=Zeu (upT s) 16 i hlt;rw[gB] at hg;rw[gO,gA (by rw[Zah];exact hlt)];rw[gA (by rw[Zah];exact hlt),Option.getD_some,decide_eq_true hlt,Bool.true_and] at hg;rw[hg];rfl
 refine Zb9 (λrv sv x w'=>∃ j:Nat,j<=16/\x=nv j/\rv=S_ (txt ((bitR (upT s) i).take j))/\sv=.bool (((bitR (upT s) i).take j).any id)/\w=w') (λ_ _ x _=>16 - (intOf x).toNat) ⟨0,by omega,rfl,rfl,rfl,rfl⟩ ?_;rintro _ _ _ _ _ ⟨j,hj,rfl,rfl,rfl,rfl⟩
 have hjl:((bitR (upT s) i).take j).length<=16:=by rw[gN,Zb6];omega
 refine r_lss (r_ifD (λh2=>?_) λh2=>?_)
 ·have hj2:j < 16:=by omega
  have hbj:(bitR (upT s) i).take (j+1)=(bitR (upT s) i).take j++[upT s (16*i+j)]:=by
   have hg:=Zfx (upT s) i j hj2;rw[gB] at hg;rw[gO,gA (by rw[Zb6];exact hj2)];rw[gA (by rw[Zb6];exact hj2),Option.getD_some] at hg;rw[hg];rfl
  refine Zbc ((16*i:Nat):Int) (by simp) (by omega) (by omega) ?_;refine Zac (by omega) ?_;refine Zky hs (by omega) ?_;have ht:decide (UInt8.ofNat (16*i+j)∈s)=upT s (16*i+j):=rfl;rw[ht]
  cases hu:upT s (16*i+j) with
  |true=>
   rw[hu] at hbj;refine r_vt ?_;refine Zad (ys:=[49]) (by rw[Za9];simp;omega) ?_;refine Za0 (by omega) ?_;refine r_ke ⟨⟨j+1,by omega,rfl,by rw[hbj,<-Zho];rfl,by rw[hbj];simp,rfl⟩,?_⟩;simp only[nv,intOf,gC];omega
  |false=>
   rw[hu] at hbj;refine r_vf ?_;refine Zad (ys:=[48]) (by rw[Za9];simp;omega) ?_;refine Za0 (by omega) ?_;refine r_ke ⟨⟨j+1,by omega,rfl,by rw[hbj,<-Zho];rfl,by rw[hbj];simp,rfl⟩,?_⟩;simp only[nv,intOf,gC];omega
 ·obtain rfl:j=16:=by omega
  rw[gK (by rw[Zb6];exact Nat.le_refl _)] at hjl ⊢
  have hany:(bitR (upT s) i).any id=someB (upT s) i:=by
   unfold bitR someB;rw[List.any_map];rfl
  rw[hany]
  cases hsm:someB (upT s) i with
  |true=>
   rw[hsm] at hwi;refine r_vt ?_;refine Zad (ys:=[49]) (by rw[Za9];simp;omega) ?_;refine Zad (by rw[Za9,Za9];omega) ?_;refine Za0 (by omega) ?_;refine r_ke ⟨⟨i+1,by omega,rfl,by rw[hwi,<-Zho];rfl,by rw[rowsB,if_pos hsm,Zau],rfl⟩,?_⟩;simp only[nv,intOf,gC];omega
  |false=>
   rw[hsm] at hwi;refine r_vf ?_;refine Zad (ys:=[48]) (by rw[Za9];simp;omega) ?_;refine Za0 (by omega) ?_;refine r_ke ⟨⟨i+1,by omega,rfl,by rw[hwi,<-Zho];rfl,by rw[rowsB,if_neg (by rw[hsm];decide),gU],rfl⟩,?_⟩;simp only[nv,intOf,gC];omega
end P20
namespace P20
open Go.M01 Go.Mb Go.Mp Go.M10 Go.Mz Go.Mw Go.Mx Go.Mv Go.Mh F08 Rw T12 W14 W20
variable {w:World}{L:List HProp}{K:KT}
theorem Zr6 (T:Nat->Bool):∀ j,j<=16->rowsB (upT (listed T)) j=rowsB T j
 |0,_=>rfl
 |j+1,h=>by rw[rowsB,rowsB,Zr6 T j (by omega),Zv9 (by omega),Yc0 (by omega)]
theorem Zzh (T:Nat->Bool):usedB (upT (listed T))=usedB T:=by
 unfold usedB;rw[Zr6 T 16 (Nat.le_refl _)]
 congr 1
 unfold whichB;apply map_congr_left;intro i hi;rw[Zv9 (mem_range.1 hi)]
theorem Zov {l:List Bool}(hl:l.length<=100000000000) (k:K (S_ (txt (padB l))) w):Cl prog 40 #[S_ (txt l)] w K:=by
 refine Tz40 ?_;unfold Vz40
 refine Zde (λj x w'=>j<=(8 - l.length%8)%8/\x=S_ (txt (l++List.replicate ((8 - l.length%8)%8 - j) false))/\w=w') ((8 - l.length%8)%8) ⟨Nat.le_refl _,by
  rw[Nat.sub_self,List.replicate_zero,gU],rfl⟩ ?_
 rintro _ j _ _ _ ⟨hj,rfl,rfl⟩ hgo;generalize hi:(8 - l.length%8)%8 - j=i at *
 have hlen:(txt (l++List.replicate i false)).length=l.length+i:=by rw[Za9];simp
 refine q_len ?_;rw[hlen];refine Zff (r:=(((l.length+i)%8:Nat):Int)) (by rw[Int.tmod_eq_emod_of_nonneg (by omega)];omega) (by omega) ?_;refine r_neq (r_ifN (λh=>?_) λh=>?_)
 ·refine Zad (ys:=[48]) (by rw[hlen];simp only[length_cons,length_nil];omega) ?_;refine r_ke (hgo (j - 1) _ _ (by omega) ⟨by omega,?_,rfl⟩);rw[show (8 - l.length%8)%8 - (j - 1)=i+1 by omega,replicate_succ',<-gI,txt_0]
 ·unfold padB at k;rw[show (8 - l.length%8)%8=i by omega] at k;exact k
theorem Zpp {l:List Bool}{i:Nat}(h:i < l.length/8):(wholeB l).take (i+1)=(wholeB l).take i++[byteAt l i]:=by
 have e:(wholeB l)[i]?=some (byteAt l i):=by unfold wholeB;rw[hV_,List.getElem?_range h];rfl
 rw[gO,e];rfl
theorem Zp6 {l:List Bool}(H:Holds w L) (hl:l.length<=100000000000) (k:∀ w',Same w w'->Holds w' L->K (S_ (wholeB l)) w'):Cl prog 32 #[S_ (txt l)] w K:=by
 refine Tz32 ?_;unfold Vz32
 refine Zeq (λj s o w'=>∃ i:Nat,j=l.length/8 - i/\i<=l.length/8/\s=S_ (txt (l.drop (8*i)))/\o=S_ ((wholeB l).take i)/\Same w w'/\Holds w' L) (l.length/8)
  ⟨0,rfl,hE _,rfl,rfl,.refl _,H⟩ ?_
 clear H;rintro _ _ _ _ w1 _ ⟨i,rfl,hi,rfl,rfl,S1,H1⟩ hgo;refine q_len ?_;rw[Za9,gS];refine r_geq (r_ifD (λh=>?_) λh=>?_)
 ·have hlt:i < l.length/8:=by omega
  refine q_T (m:=8) (by rw[Za9,gS];omega) ?_;rw[show (txt (l.drop (8*i))).take 8=txt ((l.drop (8*i)).take 8) by simp[txt]];refine Number_spec (by rw[gN];omega) ?_;have hv:=Zb1 ((l.drop (8*i)).take 8);rw[gN,gS,Nat.min_eq_left (by omega)] at hv;refine Zey (by omega) (by omega) ?_
  have hb:bv (byteAt l i)=.int .u8 ((valB ((l.drop (8*i)).take 8):Nat):Int):=by
   unfold byteAt bv;rw[UInt8.toNat_ofNat_of_lt' (by show _ < 256;omega)]
  rw[<-hb];refine q_str H1 (byteAt l i) λw2 S2 H2=>?_;have hwl:=Zas l;refine Zad (by rw[gN,gQ];omega) ?_;rw[<-Zpp hlt];refine q_D (m:=8) (by rw[Za9,gS];omega) ?_;rw[show (txt (l.drop (8*i))).drop 8=txt (l.drop (8*(i+1))) by simp[txt,drop_drop,Nat.mul_add]];exact r_ke (hgo (l.length/8 - (i+1)) _ _ _ (by omega) ⟨i+1,rfl,by omega,rfl,rfl,S1.trans S2,H2⟩)
 ·have e:(wholeB l).take i=wholeB l:=gK (by rw[Zas];omega);rw[e];exact k _ S1 H1
theorem Zxk {l:List Bool}(H:Holds w L) (hl:l.length<=90000000000) (k:∀ w',Same w w'->Holds w' L->K (S_ (wholeB (padB l))) w'):Cl prog 15 #[S_ (txt l)] w K:=by
 refine Tz15 ?_;unfold Vz15;refine Zov (by omega) ?_;have:=(Zdp l).2;exact Zp6 H (by omega) k
abbrev tHg:Nat:=37
theorem Zpz {s:List UInt8}{origin sum:Nat}(H:Holds w L) (h0:s≠[]) (hl:s.length<=900000) (ho:origin < s.length) (hs:sum < 4294967296)
  (k:∀ picks ts w',Cho (rowOf s) ((symsOf s).length+2) picks ts->Same w w'->Holds w' L->K (S_ (txt (blockBits s origin sum picks ts))) w'):Cl prog 17 #[.agg #[S_ s,nv origin,uv sum]] w K:=by
 refine Tz17 ?_;unfold Vz17;have hpos:=gZ.2 h0;have hR:=Zmi h0 (by omega);have hsy:=Zht h0
 have hne:listed (upT s)≠[]:=λe=>by have:=hsy.1;unfold symsOf at this;rw[e] at this;simp at this
 refine r_new H λgb w1 S1 H1=>?_;replace H1:Holds w1 (blk gb tHg [S_ s,nv origin,uv sum]::L):=H1;refine r_fo0 (r_ld 0 H1 rfl rfl ?_);refine Symbols_spec H1 (by omega) λw2 S2 H2=>?_;refine r_fo0 (r_ld 0 H2 rfl rfl ?_);refine Zoj (T:=upT s) H2 hne (λc hc=>Zfl hc) (by omega) λpv w3 S3 H3=>?_;refine Za4 (Za3 ?_);refine q_len ?_;refine Znv (n:=(symsOf s).length) H3 hsy.1 hsy.2 (by have:=(Zc2 s).1;unfold symsOf at this;omega) (Zc2 s).2 λrv w4 S4 H4=>?_;refine Za4 (Za3 ?_);replace H4:Holds w4 (SL nv tI rv (rowOf s)::SL nv tI pv (mtfE (symsOf s) s).2::blk gb tHg [S_ s,nv origin,uv sum]::L):=H4;refine r_dr H4 λw5 S5 H5=>?_;refine r_fo0 (r_ld 2 H5 rfl rfl ?_);refine Zbz (n:=32) (by omega) hs ?_;refine Zad (ys:=[48]) (by rw[Za9,Za1];decide) ?_;rw[txt_0];refine r_fo0 (r_ld 2 H5 rfl rfl (r_rk (r_ld 2 H5 rfl rfl rfl) ?_));refine Zan (by omega) (by omega) ?_;refine Zbz (n:=24) (by omega) (by omega) ?_;refine Zad (by rw[Za9,Za9,gD,Za1,Za1];decide) ?_;rw[<-Zau];refine Ztk (s:=listed (upT s)) (by have:=hsy.2;unfold symsOf at this;omega) ?_;rw[Zzh];have hu:=Zg0 (upT s);refine Zad (by rw[Za9,Za9];simp only[gD,Za1,gQ];omega) ?_;rw[<-Zau];refine q_len ?_;refine r_rk (q_len rfl) (r_rk (q_len rfl) (r_rk (q_len rfl) ?_));refine Zac (a:=(symsOf s).length) (b:=2) (by omega) ?_;refine Zpn H5 (i:=0) rfl hR λpicks ts w6 hC S6 H6=>?_;have hlb:=Zdh (origin:=origin) (sum:=sum) h0 (by omega) hC;unfold blockBits at hlb;refine Zad (by rw[Za9,Za9,<-gD];omega) ?_;rw[<-Zau];have:=k picks ts w6 hC (S1.trans (S2.trans (S3.trans (S4.trans (S5.trans S6))))) H6.drop.drop.drop;unfold blockBits at this;exact this
end P20
namespace P20
open Go.M01 Go.Mb Go.Mp Go.M10 Go.Mz Go.Mw Go.Mx Go.Mv Go.Mh F08 Rw T12 W14 W20
variable {w:World}{L:List HProp}{K:KT}{wb n:Nat}{bs:List Bool}
open Go.M18 in
theorem Zdn {s:List UInt8}(h:s≠[]):lastL s≠[]:=λe=>by
 have:=Zaq s;rw[e] at this;exact h (List.eq_nil_of_length_eq_zero this.symm)
open Go.M18 in
theorem Zq9 {s:List UInt8}{o:Nat}(h:(sortP s s.length)[o]?=some 0):o < s.length:=by
 have:=(gH.1 h).1;rw[Zb4] at this;exact this
def BodyBits (s:List UInt8) (sum:Nat) (B:List Bool):Prop:=∃ o picks ts,(M18.sortP s s.length)[o]?=some 0/\Cho (rowOf (M18.lastL s)) ((symsOf (M18.lastL s)).length+2) picks ts/\B=blockBits (M18.lastL s) o sum picks ts
theorem BodyBits.uniq {s:List UInt8}{sum:Nat}{B B2:List Bool}(h:BodyBits s sum B) (g:BodyBits s sum B2):B=B2:=by
 obtain⟨o,p,t,h1,h2,rfl⟩:=h;obtain⟨o2,p2,t2,g1,g2,rfl⟩:=g;obtain rfl:=S17.Zog h1 g1;obtain⟨rfl,rfl⟩:=Rnds.uniq h2 g2;rfl
theorem BodyBits.len {s:List UInt8}{sum:Nat}{B:List Bool}(h:BodyBits s sum B) (h0:s≠[]) (hl:s.length<=4000):B.length<=1000000:=by
 obtain⟨o,p,t,h1,h2,rfl⟩:=h;have hll:=M18.Zaq s;have:=Zdh (origin:=o) (sum:=sum) (Zdn h0) (by omega) h2;omega
theorem Write_spec {s:List UInt8}{sum:Nat}(H:Holds w (W01.WrR wb bs n::L)) (hb:BndOk L) (h0:s≠[]) (hl:s.length<=4000) (hs:sum < 4294967296) (hbl:bs.length<=8000000000) (hn:n<=bs.length/8)
  (k:∀ B w',BodyBits s sum B->Same w w'->Holds w' (W01.WrR wb (bs++B) n::L)->K (iv 0) w'):Cl prog 10 #[pt wb,S_ s,uv sum] w K:=by
 refine Tz10 ?_;unfold Vz10;have hll:=M18.Zaq s;refine Zab (r_vf ?_);refine S17.Of_spec H h0 hl λo w1 ho S1 H1=>?_;refine Zha (Zh2 (Zh0 (r_neq (r_vfN rfl ?_))));have hol:=Zq9 ho;refine W20.Turned_spec H1 hb (Zdn h0) (by omega) (by omega) hs hbl hn λpicks ts w2 hC S2 H2=>?_;exact k _ w2 ⟨o,picks,ts,ho,hC,rfl⟩ (S1.trans S2) H2
theorem Zom {s:List UInt8}{sum:Nat}(H:Holds w L) (h0:s≠[]) (hl:s.length<=4000) (hs:sum < 4294967296)
  (k:∀ B w',BodyBits s sum B->Same w w'->Holds w' L->K (S_ (txt B)) w'):Cl prog 14 #[S_ s,uv sum] w K:=by
 refine Tz14 ?_;unfold Vz14;have hll:=M18.Zaq s;have hpos:=gZ.2 h0
 have hz:(zeroP prog U18.tT).cells.toList=[.string ⟨#[]⟩,nv 0]:=by kernel_rfl
 refine U18.Zzl H (by omega) hpos λo w1 hol ho S1 H1=>?_;refine r_new H1 λtb w2 S2 H2=>?_;rw[hz] at H2;refine r_stA 0 H2 (vs:=[S_ (M18.lastL s),nv o]) rfl (by decide) rfl rfl λw3 S3 H3=>?_;replace H3:Holds w3 (blk tb U18.tT [S_ (M18.lastL s),nv o]::L):=H3;refine r_fo0 (r_ld 0 H3 rfl rfl ?_);refine r_fo0 (r_ld 0 H3 rfl rfl ?_);refine r_bd (v:=.agg #[S_ (M18.lastL s),nv o,uv sum]) (by kernel_rfl) ?_;refine Zpz H3 (Zdn h0) (by omega) (by omega) hs λpicks ts w4 hC S4 H4=>?_;exact k _ w4 ⟨o,picks,ts,ho,hC,rfl⟩ (S1.trans (S2.trans (S3.trans S4))) H4.drop
end P20
namespace Y20
open Go.M01 Go.Mb Go.Mp Go.M10 Go.Mc Go.Mz Go.Q20 Go.Q21 Go.Mw Go.Mx Go.Mv Go.Ma T12 W14 W20
theorem Znx (l picks:List Nat) (ts:List (List Nat)) (j:Nat):∀ d,∃ r,rowsC l picks ts (j+d)=rowsC l picks ts j++r
 |0=>⟨[],by simp⟩
 |d+1=>by
  obtain⟨r,hr⟩:=Znx l picks ts j d;exact⟨r++W14.rowC l picks ts (j+d),by rw[<-hG_,Zch,hr,gI]⟩
theorem Zwy {l picks:List Nat}{ts:List (List Nat)}{size:Nat}(hR:W14.Row l size) (hC:Cho l size picks ts) (rest:List Bool):∃ c,CRun size (codeBits l picks ts++rest) c l (codeBits l picks ts).length/\c.done=true:=by
 obtain⟨hT,hpl,hpx⟩:=hC.ok;have hW:=Zfz hR.s3 hC;have h3:=hR.s3;have hpos:=gZ.2 hR.ne;have hlen:=hR.len;have hgr:nGr l=(l.length+49)/50:=rfl;have hpn:picks≠[]:=gZ.1 (by rw[hpl,hgr];omega);obtain⟨p,hp1,hp2,hp3,hp4⟩:=Zt9 (t:=ts.length) ⟨hT.n2,hT.n6⟩ hpn (by rw[hpl,hgr];omega) hpx (ts.flatMap lensB++(rowsC l picks ts l.length++rest));generalize hP:picksB picks ts.length=P at *
 have hcb:codeBits l picks ts=P++ts.flatMap lensB++rowsC l picks ts l.length:=by unfold codeBits;rw[hP]
 have hQ:codeBits l picks ts++rest=P++(ts.flatMap lensB++(rowsC l picks ts l.length++rest)):=by rw[hcb];simp only[gI]
 rw[hQ];generalize hq:P++(ts.flatMap lensB++(rowsC l picks ts l.length++rest))=Q at *
 have key1:∀ u,u<=ts.length->CRun size Q ⟨size,p,d0 size,ts.take u,0,false⟩ [] (P.length+((ts.take u).flatMap lensB).length):=by
  intro u
  induction u with
  |zero=>intro _;exact Zts hp1
  |succ u ih=>
   intro hu;have ih:=ih (by omega);have hmem:ts[u]∈ts:=getElem_mem (by omega)
   have e:ts.take (u+1)=ts.take u++[ts[u]]:=by rw[gO,gA (by omega)];rfl
   have e2:ts=ts.take u++ts[u]::ts.drop (u+1):=by rw[<-List.drop_eq_getElem_cons (by omega),hN_]
   have hdrop:Q.drop (P.length+((ts.take u).flatMap lensB).length)=lensB ts[u]++((ts.drop (u+1)).flatMap lensB++(rowsC l picks ts l.length++rest)):=by
    have e3:ts.flatMap lensB=(ts.take u).flatMap lensB++(lensB ts[u]++(ts.drop (u+1)).flatMap lensB):=by
     conv=>lhs;rw[e2]
     rw[hL_,hM_]
    have e4:Q=(P++(ts.take u).flatMap lensB)++(lensB ts[u]++((ts.drop (u+1)).flatMap lensB++(rowsC l picks ts l.length++rest))):=by
     rw[<-hq,e3];simp only[gI]
    rw[e4,<-gD,drop_left]
   have hsz:=hT.sz _ hmem;obtain⟨d,hd1,hd2,hd3⟩:=Zuc (lens:=ts[u]) (gZ.1 (by rw[hsz];omega)) (hW _ hmem).sized ((ts.drop (u+1)).flatMap lensB++(rowsC l picks ts l.length++rest));rw[hsz,<-hdrop] at hd1;have hx:=Zyd (c:=⟨size,p,d0 size,ts.take u,0,false⟩) hp4 (by show (ts.take u).length < p.t;rw[hp2,gN];omega) rfl rfl h3 ih hd1;rw[if_pos hd3,hd2,if_pos (hW _ hmem).share] at hx;rw[e,hL_,gD,<-hG_,hM_,flatMap_nil,gU];exact hx
 have k1:=key1 ts.length (Nat.le_refl _);rw[hF_] at k1
 have key2:∀ i,i<=l.length->CRun size Q ⟨size,p,d0 size,ts,i,decide (i=l.length)⟩ (l.take i) (P.length+(ts.flatMap lensB).length+(rowsC l picks ts i).length):=by
  intro i
  induction i with
  |zero=>
   intro _;rw[decide_eq_false (by omega)];exact k1
  |succ i ih=>
   intro hi;have ih:=ih (by omega)
   have e:l.take (i+1)=l.take i++[l[i]]:=by rw[gO,gA (by omega)];rfl
   have hli:l.getD i 0=l[i]:=by rw[gB,gA (by omega)];rfl
   obtain⟨r,hr⟩:=Znx l picks ts (i+1) (l.length - (i+1));rw[show i+1+(l.length - (i+1))=l.length by omega,Zch] at hr
   have hdrop:Q.drop (P.length+(ts.flatMap lensB).length+(rowsC l picks ts i).length)=W14.rowC l picks ts i++(r++rest):=by
    have e4:Q=(P++ts.flatMap lensB++rowsC l picks ts i)++(W14.rowC l picks ts i++(r++rest)):=by
     rw[<-hq,hr];simp only[gI]
    rw[e4,<-gD,<-gD,drop_left]
   have hpi:i/50 < picks.length:=by rw[hpl,hgr];omega
   have hpk:picks.getD (i/50) 0 < ts.length:=by
    rw[gB,gA hpi];exact hpx _ (getElem_mem hpi)
   have hTm:=T12.Zaw hpk;generalize hTT:ts.getD (picks.getD (i/50) 0) []=TT at *
   have hrc:W14.rowC l picks ts i=codeB TT l[i]:=by unfold W14.rowC;rw[hTT,hli]
   have hsz:=hT.sz _ hTm
   have hlx:l[i] < TT.length:=by rw[hsz];exact hR.lt _ (getElem_mem (by omega))
   have hcl:(codeB TT l[i]).length=TT.getD l[i] 0:=codeB_len _ _
   have hg:=Yaa (l:=Q.drop (P.length+(ts.flatMap lensB).length+(rowsC l picks ts i).length)) (hW _ hTm) hlx (by rw[hdrop,hrc,gD,hcl];omega) (by
    rw[hdrop,hrc,<-hcl,take_left])
   have hx:=Yaj (c:=⟨size,p,d0 size,ts,i,decide (i=l.length)⟩) (s:=l[i]) (n:=TT.getD l[i] 0) hp4 (by show ¬ ts.length < p.t;omega) (decide_eq_false (by omega)) (by show ¬ p.picks.length<=i/50;rw[hp3];omega) ih (by
    have ht:CS.table ⟨size,p,d0 size,ts,i,decide (i=l.length)⟩=TT:=by
     show ts.getD (p.picks.getD (i/50) 0) []=TT;rw[hp3,hTT]
    rw[ht]
    exact hg)
   have hfin:=hR.fin i (by omega);rw[hli] at hfin
   have ed:readC ⟨size,p,d0 size,ts,i,decide (i=l.length)⟩ l[i]=⟨size,p,d0 size,ts,i+1,decide (i+1=l.length)⟩:=by
    have:decide (l[i]=size - 1)=decide (i+1=l.length):=by
     rw[decide_eq_decide,hfin];omega
    show (⟨size,p,d0 size,ts,i+1,decide (l[i]=size - 1)⟩:CS)=_;rw[this]
   rw[ed] at hx;rw[e,Zch,gD,hrc,hcl,<-hG_];exact hx
 have k2:=key2 l.length (Nat.le_refl _);rw[hF_,decide_eq_true rfl] at k2;refine⟨⟨size,p,d0 size,ts,l.length,true⟩,?_,rfl⟩;rw[hcb,gD,gD];exact k2
theorem Ztn {s:List UInt8}{origin sum room:Nat}{picks:List Nat}{ts:List (List Nat)}(h0:s≠[]) (hl:s.length<=room) (hr:room<=900000) (ho:origin < s.length) (hs:sum < 4294967296) (hC:Cho (W20.rowOf s) ((symsOf s).length+2) picks ts) (rest:List Bool) :
  ∃ held,Q20.Comes room (blockBits s origin sum picks ts++rest) (.got s origin sum (blockBits s origin sum picks ts).length held):=by
 have hR:=Zmi h0 (by omega);have hsy:=Zht h0;obtain⟨T',hu,hT'⟩:=Zy8 (upT s) (codeBits (W20.rowOf s) picks ts++rest) (gZ.1 hsy.1);replace hT':listed T'=symsOf s:=hT';obtain⟨c,hc1,hc2⟩:=Zwy hR hC rest;obtain⟨pl1,pl2⟩:=Zc2 s;obtain⟨z,hz⟩:=Zty (n:=(symsOf s).length) (room:=room) hsy.1 pl2 (by omega);have hm:=Zyz (symsOf s) s λc hc=>Zfl hc;have h32:(bitsOf sum 32).length=32:=Za1 _ _;have h24:(bitsOf origin 24).length=24:=Za1 _ _
 have hx:blockBits s origin sum picks ts++rest=bitsOf sum 32++(false::(bitsOf origin 24++(usedB (upT s)++(codeBits (W20.rowOf s) picks ts++rest)))):=by
  unfold blockBits;simp only[gI,List.cons_append,hO_]
 have hbl:(blockBits s origin sum picks ts).length=57+(usedB (upT s)).length+(codeBits (W20.rowOf s) picks ts).length:=by
  unfold blockBits;simp only[gD,gQ,h32,h24]
 generalize hl0:blockBits s origin sum picks ts++rest=l at *
 have e32:l.take 32=bitsOf sum 32:=by
  have:=take_left (l₁:=bitsOf sum 32) (l₂:=false::(bitsOf origin 24++(usedB (upT s)++(codeBits (W20.rowOf s) picks ts++rest))));rw[h32] at this;rw[hx];exact this
 have ed32:l.drop 32=false::(bitsOf origin 24++(usedB (upT s)++(codeBits (W20.rowOf s) picks ts++rest))):=by
  have:=drop_left (l₁:=bitsOf sum 32) (l₂:=false::(bitsOf origin 24++(usedB (upT s)++(codeBits (W20.rowOf s) picks ts++rest))));rw[h32] at this;rw[hx];exact this
 have ed33:l.drop 33=bitsOf origin 24++(usedB (upT s)++(codeBits (W20.rowOf s) picks ts++rest)):=by rw[show (33:Nat)=32+1 from rfl,<-drop_drop,ed32];rfl
 have e24:(l.drop 33).take 24=bitsOf origin 24:=by
  have:=take_left (l₁:=bitsOf origin 24) (l₂:=usedB (upT s)++(codeBits (W20.rowOf s) picks ts++rest));rw[h24] at this;rw[ed33];exact this
 have ed57:l.drop 57=usedB (upT s)++(codeBits (W20.rowOf s) picks ts++rest):=by
  have:=drop_left (l₁:=bitsOf origin 24) (l₂:=usedB (upT s)++(codeBits (W20.rowOf s) picks ts++rest));rw[h24] at this;rw[show (57:Nat)=33+24 from rfl,<-drop_drop,ed33];exact this
 have edU:l.drop (57+(usedB (upT s)).length)=codeBits (W20.rowOf s) picks ts++rest:=by rw[<-drop_drop,ed57,drop_left]
 have hg32:l.getD 32 false=false:=by
  rw[gB,<-Nat.add_zero 32,<-hH_,ed32];rfl
 have hll:¬ l.length < 57:=by
  have:=congrArg List.length hl0;rw[gD,hbl] at this;omega
 have hrow:W20.rowOf s=rowE (mtfE (symsOf s) s).2 (symsOf s).length:=rfl
 have hgot:=Says.got (room:=room) (l:=l) (T:=T') (n:=(usedB (upT s)).length) (k:=(codeBits (W20.rowOf s) picks ts).length) (c:=c) (L:=W20.rowOf s) (z:=z) (pl:=(mtfE (symsOf s) s).2) hll hg32 (by rw[ed57];exact hu) (by rw[hT',edU];exact hc1) hc2 (by rw[hT'];exact hz) (by
  rw[hT',hm,e24,valB_bitsOf _ _ (show origin < 2^24 by omega)];show ¬ s.length<=origin
  omega)
 rw[hT',hm,e24,valB_bitsOf _ _ (show origin < 2^24 by omega),e32,valB_bitsOf _ _ (show sum < 2^32 by omega),<-hbl] at hgot;exact⟨_,Zto hgot⟩
end Y20
namespace B20
open Go.M01 Go.Mb Go.Mp Go.M10 Go.Mc Go.Mz Go.Mk Go.Q20 Go.Q23 Rb
variable {w:World}{L:List HProp}{K:KT}{b rb cb zb mb r:Nat}{B:List UInt8}{d at_ n k:Nat}{s:BS}{x:RS}{lv:Value}
theorem Read_spec {room:Nat}(H:Holds w (RdR r B d at_::L)) (h1:5<=room) (h2:room<=900000)
  (kb:∀ e,Q20.Comes room (rest B at_) (.bad e)->∀ w',Same w w'->Holds w' (RdR r B d at_::L)->K (.tuple #[.agg (gotV [] 0 0).toArray,nv e]) w')
  (k:∀ last o u n held,Q20.Comes room (rest B at_) (.got last o u n held)->∀ w',Same w w'->Holds w' (RdR r B d (at_+n)::L)->K (.tuple #[.agg (gotV last o u).toArray,iv 0]) w') :
  Cl prog 22 #[pt r,nv room] w K:=by
 refine Tz22 ?_;unfold Vz22;have hf:=(Zag H).1;refine r_new H λgb w1 S1 H1=>?_;rw[Zm0] at H1;refine Zab (r_vf ?_);refine NewReader_spec H1 h1 h2 λb w2 S2 H2=>?_;refine Za4 (Za3 ?_);refine r_neq (r_vfN rfl ?_);replace H2:Holds w2 (BkR b (b0 room)::RdR r B d at_::blk gb tGt (gotV [] 0 0)::L):=(by have h_:=Holds.ord 3 [0,2,1] H2 rfl;exact h_);refine At_spec H2.drop ?_;have S:=S1.trans S2;clear H H1 S1 S2
 refine Zjc (λw'=>∃ s q,Run bstep BS.done (b0 room) (rest B at_) s q/\s.room=room/\Same w w'/\Holds w' (BkR b s::RdR r B d (at_+q)::blk gb tGt (gotV [] 0 0)::L))
  (λw'=>(8*B.length - cellN w' r 2)+(room+1 - cellN w' b 5)) ⟨b0 room,0,.start,rfl,S,H2⟩ ?_
 clear H2 S;rintro _ w3 ⟨s,q,hr,hroom,S,H⟩;have hok:=(Zc0 H).1;have hlr:=Ze2 hok;have hm1:=at_of H.drop;have hm2:=Zq0 H;have hf2:=(Zag H.drop).1;refine Done_spec H ?_
 cases hd:s.done with
 |true=>
  refine Zak (r_vf ?_);refine Zqj H hd λw4 S4 H4=>?_;refine r_stA 2 H4 (vs:=gotV s.last s.frm s.sum) rfl (Nat.le_refl 3) rfl rfl λw5 S5 H5=>?_;replace H5:Holds w5 (BkR b s::RdR r B d (at_+q)::blk gb tGt (gotV s.last s.frm s.sum)::L):=H5;refine r_ldA 2 H5 (gotV s.last s.frm s.sum) rfl rfl rfl ?_;exact k _ _ _ _ _ ⟨s,q,hr,.inl ⟨hd,rfl⟩⟩ _ ((S.trans S4).trans S5) (Holds.dropAt (Holds.dropAt H5 2) 0)
 |false=>
  refine Zbo (r_vt ?_);refine Step_spec H hd λe w4 S4 hA=>?_;have hrd:(rest B at_).drop q=rest B (at_+q):=Zc3 B at_ q
  cases hx:bstep s (rest B (at_+q)) with
  |short=>
   rw[hx] at hA;obtain⟨rfl,H4⟩:=hA;refine r_neq (r_vtN (by decide) ?_);refine Zdt (p:=at_) H4.drop hf.1 hf.2.1 λw5 S5 H5=>?_;refine r_bd (v:=.agg (gotV [] 0 0).toArray) (by kernel_rfl) ?_;refine r_stA 1 H5 (vs:=gotV [] 0 0) rfl (Nat.le_refl 3) rfl rfl λw6 S6 H6=>?_;replace H6:Holds w6 (RdR r B d at_::blk gb tGt (gotV [] 0 0)::L):=H6;refine r_ldA 1 H6 (gotV [] 0 0) rfl rfl rfl ?_;exact kb 3 ⟨s,q,hr,.inr (.inl ⟨hd,by rw[hrd];exact hx,rfl⟩)⟩ _ (((S.trans S4).trans S5).trans S6) (Holds.dropAt H6 1)
  |bad c=>
   have hcb:=Zfv hx;rw[hx] at hA;obtain⟨rfl,q',H4⟩:=hA;refine r_neq (r_vtN (by omega) ?_);refine Zdt (p:=at_) H4.drop hf.1 hf.2.1 λw5 S5 H5=>?_;refine r_bd (v:=.agg (gotV [] 0 0).toArray) (by kernel_rfl) ?_;refine r_stA 1 H5 (vs:=gotV [] 0 0) rfl (Nat.le_refl 3) rfl rfl λw6 S6 H6=>?_;replace H6:Holds w6 (RdR r B d at_::blk gb tGt (gotV [] 0 0)::L):=H6;refine r_ldA 1 H6 (gotV [] 0 0) rfl rfl rfl ?_;exact kb c ⟨s,q,hr,.inr (.inr ⟨c,hd,by rw[hrd];exact hx,rfl⟩)⟩ _ (((S.trans S4).trans S5).trans S6) (Holds.dropAt H6 1)
  |ok s' n=>
   rw[hx] at hA;obtain⟨rfl,H4⟩:=hA;refine r_neq (r_vfN rfl ?_);have hp:=Zes hok hx;have hf4:=(Zag H4.drop).1;have hm3:=at_of H4.drop;have hm4:=Zq0 H4;have hok4:=(Zc0 H4).1;have hlr4:=Ze2 hok4;refine r_ke ⟨⟨s',q+n,hr.next hd (by rw[hrd];exact hx),by rw[hp.1];exact hroom,S.trans S4,by rw[<-hG_];exact H4⟩,?_⟩;show (8*B.length - cellN w4 r 2)+(room+1 - cellN w4 b 5) < (8*B.length - cellN w3 r 2)+(room+1 - cellN w3 b 5);rw[hm1,hm2,hm3,hm4];rw[hp.1] at hlr4;rcases hp.2 with⟨h3,h4⟩|⟨h3,h4⟩
   ·rw[h4];omega
   ·omega
end B20
namespace O20
open Go.M02 Go.M03 Go.M3d Go.M18 Go.M20 R3b
variable {w:World}{L:List HProp}{K:KT}
theorem Bits_spec {s:Nat}(hs:s < 4294967296) (k:K (uv (crcN s 8)) w):Cl prog 114 #[uv s] w K:=by
 refine Tz114 ?_;unfold Vz114;refine Za7 (λx i w'=>∃ j:Nat,j<=8/\i=nv j/\x=uv (crcN s j)/\w=w') (λ_ i _=>8 - (intOf i).toNat) ⟨0,by omega,rfl,rfl,rfl⟩ ?_;rintro _ _ _ _ ⟨j,hj,rfl,rfl,rfl⟩;have hb:=crcN_lt hs j
 repeat (refine r_lss ?_)
 refine r_ifD (λh=>?_) λh=>?_
 ·refine r_geq ?_;refine r_ifD (λh2=>?_) λh2=>?_
  ·refine Zhp (t:=2147483648) (by omega) (by omega) ?_;refine Zfk (t:=2) (by omega) ?_;refine Zcw (t:=79764919) (by omega) (by decide) ?_
   repeat (first|refine r_ke ?_|(refine Za0 (by omega) ?_))
   refine⟨⟨j+1,by omega,rfl,?_,rfl⟩,?_⟩
   ·rw[Zjh,Zmu (by omega) hb]
   ·simp[nv,intOf];omega
  ·refine Zfk (t:=2) (by omega) ?_
   repeat (first|refine r_ke ?_|(refine Za0 (by omega) ?_))
   refine⟨⟨j+1,by omega,rfl,?_,rfl⟩,?_⟩
   ·rw[Zjh,Zp3 (by omega)]
   ·simp[nv,intOf];omega
 ·obtain rfl:j=8:=by omega
  exact k
theorem Step_spec {s:Nat}{c:UInt8}(hs:s < 4294967296) (k:K (uv (crcB s c)) w):Cl prog 56 #[uv s,bv c] w K:=by
 refine Tz56 ?_;unfold Vz56;have hc:=c.toNat_lt
 repeat (refine Zan (by omega) (by omega) ?_)
 refine Zfk (s:=c.toNat) (t:=16777216) (by omega) ?_;refine Zcw hs (by omega) ?_;exact Bits_spec (Nat.xor_lt_two_pow (n:=32) (by omega) (by omega)) k
theorem Zz5 {t:List UInt8}(ht:t.length<=1000000000) (k:K (uv (crcOf t)) w):Cl prog 20 #[S_ t] w K:=by
 refine Tz20 ?_;unfold Vz20
 have hs:(⟨t.toArray⟩:ByteArray).size=t.length:=by show t.toArray.size=_;simp
 have hg:∀ i,(⟨t.toArray⟩:ByteArray).data.toList.getD i 0=t.getD i 0:=λi=>by simp
 refine Za7 (λx i w'=>∃ j:Nat,j<=t.length/\i=nv j/\x=uv (crcF 4294967295 (t.take j))/\w=w') (λ_ i _=>t.length - (intOf i).toNat) ⟨0,by omega,rfl,rfl,rfl⟩ ?_;rintro _ _ _ _ ⟨j,hj,rfl,rfl,rfl⟩;have hb:=Zvr (t.take j) (s:=4294967295) (by decide)
 repeat (first|refine r_lns ?_|refine r_lss ?_)
 rw[hs];refine r_ifD (λh=>?_) λh=>?_
 ·refine Zb0 (by rw[hs];omega) ?_;rw[hg];refine Step_spec hb ?_
  repeat (first|refine r_ke ?_|(refine Za0 (by omega) ?_))
  refine⟨⟨j+1,by omega,rfl,?_,rfl⟩,?_⟩
  ·rw[Znz (by omega),Zi2]
  ·simp[nv,intOf];omega
 ·obtain rfl:j=t.length:=by omega
  rw[hF_] at hb ⊢;refine Zhp (s:=4294967295) (by omega) (by omega) ?_;exact k
def sz:Value->Nat
 |.string b=>b.size
 |_=>0
abbrev gotV (l:List UInt8) (o s:Int):List Value:=[S_ l,iv o,.int .u32 s]
abbrev tG:Nat:=34
abbrev tH:Nat:=37
theorem Zu8 {l:List UInt8}{o s:Int}(H:Holds w L) (hl:l.length<=900000) (k:∀ w',Same w w'->Holds w' L->K (.tuple #[S_ (opn l o s).1,iv (opn l o s).2]) w'):Cl prog 23 #[.agg (gotV l o s).toArray] w K:=by
 refine Tz23 ?_;unfold Vz23;refine r_new H λb w1 S1 H1=>?_;replace H1:Holds w1 (blk b tG (gotV l o s)::L):=H1;clear H;have H:=H1;clear H1
 have hs:(⟨l.toArray⟩:ByteArray).size=l.length:=by show l.toArray.size=_;simp
 have hd:(⟨l.toArray⟩:ByteArray).data.toList=l:=by simp
 repeat (first|refine r_fo0 ?_|refine r_ld 0 H rfl rfl ?_)
 refine U18.Of_spec (last:=⟨l.toArray⟩) H (λh=>?_) (λh=>?_) (λh1 h2 h3=>?_) λn w2 h1 h2 h3 S2 H2=>?_
 ·repeat (first|refine r_neq ?_|(with_reducible first|refine Za4 ?_|refine Za3 ?_)|((with_reducible refine r_vtN ?h ?_);(case h=>omega)))
  have:=k w1 S1 H.drop;rw[show opn l o s=([],1) by unfold opn;rw[if_pos (by omega)]] at this;exact this
 ·omega
 ·repeat (first|refine r_neq ?_|(with_reducible first|refine Za4 ?_|refine Za3 ?_)|((with_reducible refine r_vtN ?h ?_);(case h=>omega)))
  have:=k w1 S1 H.drop;rw[show opn l o s=([],23) by unfold opn;rw[if_neg (by omega),if_pos (by omega)]] at this;exact this
 ·rw[hd];subst h1;have S:=S1.trans S2;clear H S1 S2;have tl:=text_len l n
  repeat (first|refine r_neq ?_|(with_reducible first|refine Za4 ?_|refine Za3 ?_)|((with_reducible refine r_vfN ?h ?_);(case h=>omega)))
  have e0:opn l (n:Int) s=opnR s (rle (text l n)):=by
   unfold opn;rw[if_neg (by omega),if_neg (by omega),gC]
  rw[e0] at k;refine R3b.Zpi H2 (by omega) (λhr e w3 he S3 H3=>?_) λt hr w3 S3 H3=>?_
  ·rw[hr] at k;simp only[opnR] at k
   repeat (first|refine r_neq ?_|(with_reducible first|refine Za4 ?_|refine Za3 ?_)|((with_reducible refine r_vtN ?h ?_);(case h=>omega)))
   exact k _ (S.trans S3) H3.drop
  ·rw[hr] at k;simp only[opnR] at k;have htl:=Zfb _ _ _ _ _ hr;rw[tl] at htl;replace S:=S.trans S3;clear H2 S3;have H:=H3;clear H3
   repeat (first|refine r_neq ?_|(with_reducible first|refine Za4 ?_|refine Za3 ?_)|(refine r_dr H ?_;clear H;intro _ S_ H;replace S:=S.trans S_;clear S_)|((with_reducible refine r_vfN ?h ?_);(case h=>omega)))
   refine R3b.Of_spec H (by simp at htl;omega) λw5 S5 H5=>?_
   repeat (first|refine r_rk (r_ld 0 H rfl rfl rfl) ?_|refine r_ld 0 H5 rfl rfl ?_|refine r_fo0 ?_|refine r_neq ?_)
   refine r_ifN (λh=>?_) λh=>?_
   ·have:=k _ (S.trans S5) H5.drop;rw[if_neg h] at this
    repeat (fail)
    exact this
   ·have:=k _ (S.trans S5) H5.drop;rw[if_pos h] at this
    repeat (fail)
    exact this
end O20
namespace P20
open Go.M01 Go.Mb Go.Me Go.M02 Go.M03 Go.M3d Go.M18 Go.M20 Go.Mh T12 W14 W20
variable {w:World}{L:List HProp}{K:KT}
theorem Zv4 {xs t:List UInt8}{B:List Bool}{room:Nat}(h0:xs≠[]) (hl:xs.length<=room) (hr:room<=900000) (hB:BodyBits xs (crcOf t) B) (ht:rle xs=some t) (rest:List Bool) :
  ∃ o held,(sortP xs xs.length)[o]?=some 0/\Q20.Comes room (B++rest) (.got (lastL xs) o (crcOf t) B.length held)/\opn (lastL xs) (o:Int) ((crcOf t:Nat):Int)=(t,0):=by
 obtain⟨o,picks,ts,ho,hC,rfl⟩:=hB;have hol:=Zq9 ho;have hll:=Zaq xs;have hpos:=gZ.2 h0;obtain⟨held,hc⟩:=Y20.Ztn (origin:=o) (Zdn h0) (by omega) hr (by omega) (Zgc t) hC rest;refine⟨o,held,ho,hc,?_⟩;unfold opn;rw[if_neg (by omega),if_neg (by omega),gC,Zxb xs o hol ho,ht];unfold opnR;simp only;rw[if_pos trivial]
end P20
instance rowU22:Row prog 102 22 (.int .u32 0):=⟨by kernel_rfl,⟨t22,by kernel_rfl,by kernel_rfl,by decide,by kernel_rfl⟩,rfl⟩
namespace P20
open Go.M01 Go.Mb Go.M10 Go.M02 Go.M03
variable {w:World}{L:List HProp}{K:KT}
abbrev tU4:Nat:=22
theorem Yaf {x:Nat}(h:x%2=0):x ^^^ 1=x+1:=by
 have h1:=Nat.two_pow_add_eq_or_of_lt (i:=1) (show 1 < 2^1 by decide) (x/2)
 have e:2^1*(x/2)=x:=by omega
 rw[e] at h1;rw[h1];apply Nat.eq_of_testBit_eq;intro i;rw[Nat.testBit_xor,Nat.testBit_or]
 cases i with
 |zero=>
  have:x.testBit 0=false:=by rw[Nat.testBit_zero];simp;omega
  rw[this];rfl
 |succ i=>
  have:Nat.testBit 1 (i+1)=false:=by
   rw[Nat.testBit_succ];simp
  rw[this,Bool.xor_false,Bool.or_false]
theorem mulw {a:Nat}:bp .mul (.int .u32 (a:Int)) (.int .u32 2)=some (uv (a*2%4294967296)):=by
 simp only[bp,if_true];show some (Value.int .u32 (((a:Int)*2)%4294967296))=_
 have e:((a:Int)*2)%4294967296=((a*2%4294967296:Nat):Int):=by omega
 rw[e]
theorem Zlw {a c:Nat}(ha:a < 4294967296) (hc:c < 4294967296) (k:K (uv (comb a c)) w):Cl prog 171 #[uv a,uv c] w K:=by
 refine Tz171 ?_;unfold Vz171;refine r_bpK (uv (a*2%4294967296)) mulw ?_;unfold comb at k;refine r_geq (r_ifD (λh=>?_) λh=>?_)
 ·refine Zld (s:=a*2%4294967296) (t:=1) (by omega) ?_;refine Zcw (by omega) hc ?_;rw[show a/2147483648=1 by omega,Yaf (by omega)] at k;exact k
 ·refine Zcw (by omega) hc ?_;rw[show a/2147483648=0 by omega,Nat.xor_zero] at k;exact k
theorem Zqb:∀ (l:List Nat){a:Nat},a < 4294967296->(∀ x∈l,x < 4294967296)->l.foldl comb a < 4294967296
 |[],a,h,_=>h
 |x::l,a,h,hl=>Zqb l (comb_lt h (hl x (hJ_ ..))) λy hy=>hl y (hK_ _ hy)
theorem Zpw {v:Value}{l:List Nat}(H:Holds w (SL uv tU4 v l::L)) (hl:∀ x∈l,x < 4294967296) (hn:l.length<=1000000) (k:K (uv (l.foldl comb 0)) w):Cl prog 127 #[v] w K:=by
 refine Tz127 ?_;unfold Vz127;refine r_lnS 0 H rfl ?_;refine Za7 (λx i w'=>∃ j:Nat,j<=l.length/\i=nv j/\x=uv ((l.take j).foldl comb 0)/\w=w') (λ_ i _=>l.length - (intOf i).toNat) ⟨0,by omega,rfl,rfl,rfl⟩ ?_;rintro _ _ _ _ ⟨j,hj,rfl,rfl,rfl⟩;refine r_lss (r_ifD (λh=>?_) λh=>?_)
 ·have hlt:j < l.length:=by omega
  have hg:l[j]?=some l[j]:=gA hlt;refine Za6 0 H rfl hg ?_;refine Zlw (Zqb _ (by decide) λx hx=>hl x (mem_of_mem_take hx)) (hl _ (getElem_mem hlt)) ?_;refine Za0 (by omega) ?_;refine r_ke ⟨⟨j+1,by omega,rfl,?_,rfl⟩,?_⟩
  ·rw[gO,hg,List.foldl_append];rfl
  ·simp only[nv,intOf,gC];omega
 ·obtain rfl:j=l.length:=by omega
  rw[hF_];exact k
def endB:List Bool:=bitsOf 25779555029136 48
def magB:List Bool:=bitsOf 54156738319193 48
theorem endT:(⟨#[48,48,48,49,48,49,49,49,48,49,49,49,48,48,49,48,48,49,48,48,48,49,48,49,48,48,49,49,49,48,48,48,48,49,48,49,48,48,48,48,49,48,48,49,48,48,48,48]⟩:ByteArray)=⟨(txt endB).toArray⟩:=by decide
theorem magT:(⟨#[48,48,49,49,48,48,48,49,48,49,48,48,48,48,48,49,48,49,48,49,49,48,48,49,48,48,49,48,48,49,49,48,48,49,48,49,48,48,49,49,48,49,48,49,49,48,48,49]⟩:ByteArray)=⟨(txt magB).toArray⟩:=by decide
end P20
namespace P20
open Go.M01 Go.Mb Go.Me Go.M02 Go.M03 Go.M3d Go.M18 Go.M20 Go.Mh Go.Qs T12 W14 W20 P35
variable {w:World}{L:List HProp}{K:KT}
abbrev tBl:Nat:=106
def Fbl (x:Bl):List Value:=[S_ x.1,S_ x.2]
theorem Yb7:∀ y:Bl,∀ u∈Fbl y,sg u=true:=by
 intro y u hu;simp only[Fbl,mem_cons,List.not_mem_nil,or_false] at hu
 rcases hu with rfl|rfl <;> rfl
theorem Zy1:(zeroP prog tBl).cells.toList=[S_ [],S_ []]:=by kernel_rfl
instance rowBl:RowN prog 103 tBl 2:=⟨by kernel_rfl,⟨t106,.agg #[S_ [],S_ []],by kernel_rfl,by kernel_rfl,by decide,by kernel_rfl,by kernel_rfl⟩⟩
def seg (ps:List (UInt8 × Nat)) (a i:Nat):List (UInt8 × Nat):=(ps.drop a).take (i - a)
theorem seg_nil (ps:List (UInt8 × Nat)) (a:Nat):seg ps a a=[]:=by unfold seg;rw[Nat.sub_self,take_zero]
theorem Zqx {ps:List (UInt8 × Nat)}{a i:Nat}{x:UInt8 × Nat}(h:a<=i) (hx:ps[i]?=some x):seg ps a (i+1)=seg ps a i++[x]:=by
 unfold seg;rw[show i+1 - a=(i - a)+1 by omega,gO,hH_,show a+(i - a)=i by omega,hx];rfl
theorem Zle {ps:List (UInt8 × Nat)}{a i:Nat}(h:a<=i):ps.take a++seg ps a i=ps.take i:=by
 unfold seg
 conv=>rhs;rw[show i=a+(i - a) by omega,take_add]
theorem Zps {ps:List (UInt8 × Nat)}(h:Adj ps) (a i:Nat):Adj (seg ps a i):=h.part a (i - a)
structure Cut (ps:List (UInt8 × Nat)) (room i a:Nat) (bs:List Bl):Prop where
 le:a<=i
 fit:(encB (seg ps a i)).length<=room
 ok:∀ b∈bs,BlOk room b
 txt:bs.flatMap (λb=>b.2)=txs (ps.take a)
 len:(bs.map λb=>b.1.length).sum=(encB (ps.take a)).length
 cnt:bs.length<=a
theorem Cut.close {ps:List (UInt8 × Nat)}{room i a:Nat}{bs:List Bl}(ha:Adj ps) (h:Cut ps room i a bs) (hne:encB (seg ps a i)≠[]):Cut ps room i i (bs++[(encB (seg ps a i),txs (seg ps a i))]):=by
 have hlt:a < i:=by
  rcases hU_ a i with q|q
  ·exact q
  ·exfalso;apply hne
   have:a=i:=by have:=h.le;omega
   subst this;rw[seg_nil];rfl
 refine⟨Nat.le_refl _,by rw[seg_nil];exact hE _,λb hb=>?_,?_,?_,?_⟩
 ·rcases hT_.1 hb with hb|hb
  ·exact h.ok b hb
  ·rw[List.mem_singleton.1 hb];exact⟨hne,h.fit,(Zps ha a i).back⟩
 ·rw[hL_,h.txt,hM_,flatMap_nil,gU,<-Zp1,Zle h.le]
 ·rw[map_append,List.sum_append,h.len,<-Zle h.le,Zqq,gD];simp
 ·rw[gD,gQ];have:=h.cnt;omega
theorem Zut {s:List UInt8}{room:Nat}(H:Holds w L) (hs:s.length<=100000) (h5:5<=room) (hr:room<=900000) (k:∀ v bs w',Cuts s room bs->Same w w'->Holds w' (RW Fbl 2 tBl v bs::L)->K v w'):Cl prog 69 #[S_ s,nv room] w K:=by
 refine Tz69 ?_;unfold Vz69;refine r_bd (v:=.agg #[S_ [],S_ []]) (by kernel_rfl) ?_;refine r_new H λnb w1 S1 H1=>?_;rw[Zy1] at H1;refine r_stA 0 H1 (vs:=[S_ [],S_ []]) rfl (Nat.le_refl 2) rfl rfl λw2 S2 H2=>?_;replace H2:Holds w2 (blk nb tBl [S_ [],S_ []]::L):=H2;refine Zj7 H2 (by omega) λv ps w3 hp S3 H3=>?_;have hpl:=hp.len;have hadj:=hp.adj;have htx:=hp.txs_;have hel:=Zfp ps
 have hsub:∀ i,(encB (ps.take i)).length<=5*ps.length:=λi=>by
  have:=Zfp (ps.take i);rw[gN] at this;omega
 have hsg:∀ a i,(encB (seg ps a i)).length<=5*ps.length:=λa i=>by
  have:=Zfp (seg ps a i);unfold seg at this ⊢;rw[gN,gS] at this;omega
 refine r_lnN 0 H3 rfl ?_;have H3':Holds w3 (RW Fbl 2 tBl (.slice none 0 0) []::RW Fpc 2 tPc v ps::blk nb tBl [S_ [],S_ []]::L):=H3.nilRW _ _ _
 refine Zeq (λj o y w'=>∃ i a bs,j=ps.length - i/\i<=ps.length/\y=nv i/\Cut ps room i a bs/\Same w w'/\Holds w' (RW Fbl 2 tBl o bs::RW Fpc 2 tPc v ps::blk nb tBl [S_ (encB (seg ps a i)),S_ (txs (seg ps a i))]::L)) ps.length
  ⟨0,0,[],rfl,hE _,rfl,⟨Nat.le_refl _,by rw[seg_nil];exact hE _,λb hb=>(by cases hb),rfl,rfl,Nat.le_refl _⟩,S1.trans (S2.trans S3),by rw[seg_nil];exact H3'⟩ ?_
 clear H H1 H2 H3 H3' S1 S2 S3;rintro _ j o _ w4 _ ⟨i,a,bs,rfl,hi,rfl,hc,S4,H4⟩ hgo;refine r_lss (r_ifD (λh1=>?_) λh1=>?_)
 ·have hlt:i < ps.length:=by omega
  have hx:ps[i]?=some ps[i]:=gA hlt;have hok:=hadj.ok _ (getElem_mem hlt);generalize ps[i]=x at *;refine Zf1 1 H4 rfl hx (λ_=>rfl) ?_;refine r_new H4 λpb w5 S5 H5=>?_;rw[Zj8] at H5;refine r_stA 0 H5 (vs:=Fpc x) rfl (Nat.le_refl 2) rfl rfl λw6 S6 H6=>?_;replace H6:Holds w6 (blk pb tPc (Fpc x)::RW Fbl 2 tBl o bs::RW Fpc 2 tPc v ps::blk nb tBl [S_ (encB (seg ps a i)),S_ (txs (seg ps a i))]::L):=H6;refine r_ldA 0 H6 (Fpc x) rfl rfl rfl ?_;refine Zjw H6 hok λw7 S7 H7=>?_;have h6:=Zei x;have S:=S4.trans (S5.trans (S6.trans S7));clear S4 S5 S6 S7 H4 H5 H6;refine Za2 (λo' w'=>∃ a' bs',Cut ps room i a' bs'/\(encB (seg ps a' i)).length+(pieceB x).length<=room/\Same w w'/\Holds w' (blk pb tPc (Fpc x)::RW Fbl 2 tBl o' bs'::RW Fpc 2 tPc v ps::blk nb tBl [S_ (encB (seg ps a' i)),S_ (txs (seg ps a' i))]::L)) ?_ ?_
  rotate_left
  ·have h5':=hsg a i;refine r_fo0 (r_ld 3 H7 rfl rfl ?_);refine q_len (q_len ?_);refine Zac (a:=(encB (seg ps a i)).length) (b:=(pieceB x).length) (by omega) ?_;refine r_gtr (r_ifD (λh2=>?_) λh2=>?_)
   ·have hne:encB (seg ps a i)≠[]:=gZ.1 (by omega);have hc2:=hc.close hadj hne;have hcnt:=hc.cnt;have hle0:=hc.le;refine r_ldA 3 H7 [S_ (encB (seg ps a i)),S_ (txs (seg ps a i))] rfl rfl rfl ?_;refine Zfd H7 1 ((encB (seg ps a i),txs (seg ps a i)):Bl) rfl (by kernel_rfl) (λy=>rfl) Yb7 (by omega) (by decide) λv' w8 S8 H8=>?_;refine r_bd (v:=.agg #[S_ [],S_ []]) (by kernel_rfl) ?_;refine r_stA 3 H8 (vs:=[S_ [],S_ []]) rfl (Nat.le_refl 2) rfl rfl λw9 S9 H9=>?_;replace H9:Holds w9 (blk pb tPc (Fpc x)::RW Fbl 2 tBl v' (bs++[(encB (seg ps a i),txs (seg ps a i))])::RW Fpc 2 tPc v ps::blk nb tBl [S_ [],S_ []]::L):=H9;exact r_ke ⟨i,_,hc2,by rw[seg_nil];show 0+_<=_;omega,S.trans (S8.trans S9),by rw[seg_nil];exact H9⟩
   ·exact r_ke ⟨a,bs,hc,by omega,S,H7⟩
  clear H7 S hc;rintro _ o' w8 ⟨a',bs',hc,hfit,S8,H8⟩;have h5':=hsg a' i;have hle:=hc.le;refine r_fo0 (r_ld 3 H8 rfl rfl ?_);refine Zad (by omega) ?_;refine r_fo0 ?_;refine r_st 3 H8 rfl (by simp) rfl λw9 S9 H9=>?_
  have e1:encB (seg ps a' (i+1))=encB (seg ps a' i)++pieceB x:=by rw[Zqx hle hx,Znm]
  replace H9:Holds w9 (blk pb tPc (Fpc x)::RW Fbl 2 tBl o' bs'::RW Fpc 2 tPc v ps::blk nb tBl [S_ (encB (seg ps a' (i+1))),S_ (txs (seg ps a' i))]::L):=by rw[e1];exact H9
  refine r_fo0 (r_ld 0 H9 rfl rfl ?_)
  have htl:(txs (seg ps a' i)).length<=255*ps.length:=by
   have:∀ l:List (UInt8 × Nat),(∀ x∈l,x.2<=255)->(txs l).length<=255*l.length:=by
    intro l
    induction l with
    |nil=>intro _;exact hE _
    |cons y l ih=>
     intro hl;have h1:=ih λz hz=>hl z (hK_ _ hz);have h2:=hl y (hJ_ ..);unfold txs at h1 ⊢;rw[hM_,gD,gP,length_cons];omega
   have h7:=this (seg ps a' i) λy hy=>((Zps hadj a' i).ok y hy).2
   have h8:(seg ps a' i).length<=ps.length:=by unfold seg;rw[gN,gS];omega
   have h9:=Nat.mul_le_mul_left 255 h8;omega
  refine Zde (λj y w'=>∃ q,j=x.2 - q/\q<=x.2/\y=nv q/\Same w w'/\Holds w' (blk pb tPc (Fpc x)::RW Fbl 2 tBl o' bs'::RW Fpc 2 tPc v ps::blk nb tBl [S_ (encB (seg ps a' (i+1))),S_ (txs (seg ps a' i)++List.replicate q x.1)]::L)) x.2
   ⟨0,rfl,hE _,rfl,S8.trans S9,by rw[List.replicate_zero,gU];exact H9⟩ ?_
  clear H8 H9 S8 S9;rintro _ j _ wa _ ⟨q,rfl,hq,rfl,Sa,Ha⟩ hgo2;refine r_lss (r_ifD (λh2=>?_) λh2=>?_)
  ·refine r_fo0 (r_ld 3 Ha rfl rfl ?_);refine r_fo0 (r_ld 0 Ha rfl rfl ?_);refine q_str Ha x.1 λwb Sb Hb=>?_;refine Zad (by rw[gD,gP,gQ];omega) ?_;refine r_fo0 ?_;refine r_st 3 Hb rfl (by simp) rfl λwc Sc Hc=>?_;refine Za0 (by omega) (r_ke (hgo2 (x.2 - (q+1)) _ _ (by omega) ⟨q+1,rfl,by omega,rfl,Sa.trans (Sb.trans Sc),?_⟩));rw[replicate_succ',<-gI];exact Hc
  ·obtain rfl:q=x.2:=by omega
   refine Za0 (by omega) (r_ke (hgo (ps.length - (i+1)) _ _ _ (by omega) ⟨i+1,a',bs',rfl,by omega,rfl,⟨by omega,by rw[e1,gD];exact hfit,hc.ok,hc.txt,hc.len,hc.cnt⟩,Sa,?_⟩))
   have e2:txs (seg ps a' (i+1))=txs (seg ps a' i)++List.replicate x.2 x.1:=by
    rw[Zqx hle hx,Zp1];simp[txs]
   rw[e2];exact Ha.drop
 ·obtain rfl:i=ps.length:=by omega
  refine r_fo0 (r_ld 2 H4 rfl rfl ?_);refine q_len (r_gtr (r_ifD (λh2=>?_) λh2=>?_))
  ·have hne:encB (seg ps a ps.length)≠[]:=gZ.1 (by omega);have hc2:=hc.close hadj hne;have hcnt:=hc.cnt;have hle:=hc.le;refine r_ldA 2 H4 [S_ (encB (seg ps a ps.length)),S_ (txs (seg ps a ps.length))] rfl rfl rfl ?_;refine Zfd H4 0 ((encB (seg ps a ps.length),txs (seg ps a ps.length)):Bl) rfl (by kernel_rfl) (λy=>rfl) Yb7 (by omega) (by decide) λv' w8 S8 H8=>?_;have H9:Holds w8 (RW Fbl 2 tBl v' (bs++[(encB (seg ps a ps.length),txs (seg ps a ps.length))])::L):=Holds.dropAt (Holds.dropAt H8 1) 1;have hlen:=hc2.len;have hcn:=hc2.cnt;rw[hF_] at hlen;refine k v' _ _ ⟨hc2.ok,by rw[hc2.txt,hF_,htx],by omega,by omega⟩ (S4.trans S8) H9
  ·have hcnt:=hc.cnt;have hle:=hc.le
   have e0:seg ps a ps.length=[]:=by
    rcases Classical.em (seg ps a ps.length=[]) with e|e
    ·exact e
    ·exact absurd (List.eq_nil_of_length_eq_zero (show (encB (seg ps a ps.length)).length=0 by omega)) (Zub (Zps hadj a _) e)
   have e1:=Zle (ps:=ps) hle;rw[e0,gU,hF_] at e1;have hlen:=hc.len;have htxt:=hc.txt;rw[e1] at hlen htxt;exact k o bs _ ⟨hc.ok,by rw[htxt,htx],by omega,by omega⟩ S4 (Holds.dropAt (Holds.dropAt H4 1) 1)
end P20
namespace P20
open Go.M01 Go.Mb Go.Me Go.M02 Go.M03 Go.M3d Go.M18 Go.M20 Go.Mh Go.Qs T12 W14 W20 P35
variable {w:World}{L:List HProp}{K:KT}
theorem Zx7 {level:Nat}(h:1<=level/\level<=9) (k:K (S_ (txt (headB level))) w):Cl prog 68 #[nv level] w K:=by
 refine Tz68 ?_;unfold Vz68;refine Za0 (by omega) ?_;refine q_1 (t:=[48,49,50,51,52,53,54,55,56,57]) (m:=level) (by simp;omega) ?_;refine Zad (xs:=[66,90,104]) (by simp) ?_;refine Bits_spec (by simp) ?_
 have e:bitsL ([66,90,104]++[([48,49,50,51,52,53,54,55,56,57]:List UInt8).getD level 0])=headB level:=by
  rcases (show level=1\/level=2\/level=3\/level=4\/level=5\/level=6\/level=7\/level=8\/level=9 by omega) with rfl|rfl|rfl|rfl|rfl|rfl|rfl|rfl|rfl <;> decide
 rw[e];exact k
theorem Zkw {x:Bl}(H:Holds w L) (hx:x.2.length<=1000000) (k:∀ w',Same w w'->Holds w' L->K (uv (crcOf x.2)) w'):Cl prog 70 #[.agg (Fbl x).toArray] w K:=by
 refine Tz70 ?_;unfold Vz70;refine r_new H λb w1 S1 H1=>?_;replace H1:Holds w1 (blk b tBl (Fbl x)::L):=H1;refine r_fo0 (r_ld 0 H1 rfl rfl ?_);refine O20.Zz5 (t:=x.2) (by omega) ?_;exact k _ S1 H1.drop
theorem Zwv {v:Value}{l:List Nat}(H:Holds w (SL uv tU4 v l::L)) (hl:∀ x∈l,x < 4294967296) (hn:l.length<=1000000) (k:K (S_ (txt (endW++bitsOf (l.foldl comb 0) 32))) w):Cl prog 71 #[v] w K:=by
 refine Tz71 ?_;unfold Vz71;refine Zpw H hl hn ?_;refine Zbz (n:=32) (by decide) (Zqb _ (by decide) hl) ?_;rw[endT]
 have h1:(txt endB).length=48:=by rw[Za9];exact Zcd
 refine Zad (by rw[h1,Za9,Za1];decide) ?_;rw[<-Zau];exact k
theorem gb_of {xs t:List UInt8}{B:List Bool}{room:Nat}(h0:xs≠[]) (hl:xs.length<=room) (hr:room<=900000) (hB:BodyBits xs (crcOf t) B) (ht:rle xs=some t):Gb room (t,B):=λrest=>by
 obtain⟨o,held,ho,hc,hop⟩:=Zv4 h0 hl hr hB ht rest;exact⟨_,o,held,hc,hop⟩
theorem BodyBits.len2 {s:List UInt8}{sum:Nat}{B:List Bool}(h:BodyBits s sum B) (h0:s≠[]) (hl:s.length<=4000):B.length<=200000+30*s.length:=by
 obtain⟨o,p,t,h1,h2,rfl⟩:=h;have hll:=M18.Zaq s;have:=Zdh (origin:=o) (sum:=sum) (Zdn h0) (by omega) h2;omega
theorem Zx6 {l:List Nat}{x:Nat}(h:x∈l):x<=l.sum:=by
 induction l with
 |nil=>cases h
 |cons y l ih=>
  rw[hQ_];rcases mem_cons.1 h with rfl|h
  ·omega
  ·have:=ih h;omega
theorem Zoy {level unit:Nat}{s:List UInt8}(H:Holds w L) (h1:1<=level/\level<=9) (hu:24<=unit/\unit<=100000) (hs:s.length<=60)
  (k:∀ bs w',(∀ x∈bs,Gb (level*unit) x)->textOf bs=s->bs.length<=s.length->(strB level bs).length<=200+210000*s.length->Same w w'->Holds w' L->K (S_ (wholeB (padB (strB level bs)))) w') :
  Cl prog 30 #[nv level,nv unit,S_ s] w K:=by
 refine Tz30 ?_;unfold Vz30;refine Zx7 h1 ?_;have hm1:1*24<=level*unit:=Nat.mul_le_mul h1.1 hu.1;have hm2:level*unit<=9*100000:=Nat.mul_le_mul h1.2 hu.2;refine Zbc ((level*unit:Nat):Int) (Int.natCast_mul _ _).symm (by omega) (by omega) ?_;generalize level*unit=M at *;refine r_sub (by omega) (by omega) ?_;rw[show ((M:Nat):Int) - 19=((M - 19:Nat):Int) by omega];refine Zut H (by omega) (by omega) (by omega) λv blks w1 hc S1 H1=>?_;have hcnt:=hc.cnt;have hlen:=hc.len
 have hbok:∀ x∈blks,x.1≠[]/\x.1.length<=M/\rle x.1=some x.2/\x.1.length<=300/\x.2.length<=60:=by
  intro x hx;obtain⟨g1,g2,g3⟩:=hc.ok x hx;have g4:=Zx6 (mem_map.2 ⟨x,hx,rfl⟩:x.1.length∈blks.map λb=>b.1.length)
  have g5:x.2.length<=s.length:=by
   rw[<-hc.txt];clear hlen hcnt H1 hc g1 g2 g3 g4
   induction blks with
   |nil=>cases hx
   |cons y l ih=>
    rw[hM_,gD];rcases mem_cons.1 hx with rfl|hx
    ·omega
    ·have:=ih hx;omega
  exact⟨g1,by omega,g3,by omega,by omega⟩
 refine r_lnN 0 H1 rfl ?_;have H1':Holds w1 (SL uv tU4 (.slice none 0 0) []::RW Fbl 2 tBl v blks::L):=H1.nilSL uv tU4
 refine Zb9 (λx sv y w'=>∃ i bks,i<=blks.length/\y=nv i/\x=S_ (txt (headB level++blksB bks))/\bks.length=i/\textOf bks=(blks.take i).flatMap (λb=>b.2)/\(∀ z∈bks,Gb M z)/\(blksB bks).length<=209048*i/\Same w w'/\Holds w' (SL uv tU4 sv (bks.map λz=>crcOf z.1)::RW Fbl 2 tBl v blks::L))
  (λ_ _ y _=>blks.length - (intOf y).toNat) ⟨0,[],hE _,rfl,by simp[blksB],rfl,rfl,λz hz=>(by cases hz),hE _,S1,H1'⟩ ?_
 clear H H1 H1' S1;rintro _ _ sv _ w2 ⟨i,bks,hi,rfl,rfl,hbl,htx,hgb,hbb,S2,H2⟩;have h32:=Zge level;refine r_lss (r_ifD (λh=>?_) λh=>?_)
 ·have hlt:i < blks.length:=by omega
  have hx:blks[i]?=some blks[i]:=gA hlt;obtain⟨g1,g2,g3,g4,g5⟩:=hbok _ (getElem_mem hlt)
  have htk:blks.take (i+1)=blks.take i++[blks[i]]:=by rw[gO,hx];rfl
  generalize blks[i]=x at *;refine Zf1 1 H2 rfl hx (λ_=>rfl) ?_;refine r_new H2 λb w3 S3 H3=>?_;rw[Zy1] at H3;refine r_stA 0 H3 (vs:=Fbl x) rfl (Nat.le_refl 2) rfl rfl λw4 S4 H4=>?_;replace H4:Holds w4 (blk b tBl (Fbl x)::SL uv tU4 sv (bks.map λz=>crcOf z.1)::RW Fbl 2 tBl v blks::L):=H4;refine r_dr H4 λw5 S5 H5=>?_;rw[magT];have hm48:magB.length=48:=Zdj;refine Zad (by simp only[gD,Za9,h32,hm48];omega) ?_;refine r_fo0 (r_ld 0 H5 rfl rfl ?_);refine r_ldA 0 H5 (Fbl x) rfl rfl rfl ?_;refine Zkw H5 (by omega) λw6 S6 H6=>?_;refine r_rk (r_ld 0 H6 rfl rfl rfl) ?_;refine Zom (s:=x.1) (sum:=crcOf x.2) H6 g1 (by omega) (Zgc _) λB w7 hB S7 H7=>?_;have hBl:=hB.len2 g1 (by omega);refine Zad (by simp only[gD,Za9,h32,hm48];omega) ?_;refine r_ldA 0 H7 (Fbl x) rfl rfl rfl ?_;refine Zkw H7 (by omega) λw8 S8 H8=>?_;refine Zam H8 1 rfl (crcOf x.2) (λ_=>rfl) (by rw[hS_];omega) λsv' w9 S9 H9=>?_;refine Za0 (by omega) (r_ke ⟨⟨i+1,bks++[(x.2,B)],by omega,rfl,?_,by rw[gD,hbl];rfl,?_,λz hz=>?_,?_,S2.trans (S3.trans (S4.trans (S5.trans (S6.trans (S7.trans (S8.trans S9)))))),?_⟩,?_⟩)
  ·have e:blksB (bks++[(x.2,B)])=blksB bks++(magB++B):=by
    unfold blksB;rw[hL_,hM_,flatMap_nil,gU];rfl
   rw[e];simp only[Zau,gI]
  ·rw[htk,hL_,<-htx];unfold textOf;rw[hL_];simp
  ·rcases hT_.1 hz with hz|hz
   ·exact hgb z hz
   ·rw[List.mem_singleton.1 hz];exact gb_of g1 g2 (by omega) hB g3
  ·have e:blksB (bks++[(x.2,B)])=blksB bks++(magW++B):=by
    unfold blksB;rw[hL_,hM_,flatMap_nil,gU]
   rw[e,gD,gD,Zdj];omega
  ·rw[map_append];exact H9.drop
  ·simp only[nv,intOf,gC];omega
 ·obtain rfl:i=blks.length:=by omega
  refine Zwv H2 (λz hz=>?_) (by rw[hS_];omega) ?_
  ·obtain⟨y,hy,rfl⟩:=mem_map.1 hz;exact Zgc _
  refine Zad (by rw[Za9,Za9,gD,gD,h32,Zcd,Za1];omega) ?_;rw[<-Zau]
  have e:headB level++blksB bks++(endW++bitsOf ((bks.map λz=>crcOf z.1).foldl comb 0) 32)=strB level bks:=by
   unfold strB preB sumOf;rw[List.foldl_map];simp only[gI]
  rw[e]
  have hsl:(strB level bks).length<=112+209048*blks.length:=by
   unfold strB preB;rw[gD,gD,gD,h32,Zcd,Za1];omega
  refine Zxk H2 (by omega) λw3 S3 H3=>?_;rw[hF_,hc.txt] at htx;exact k bks _ hgb htx (by omega) (by omega) (S2.trans S3) H3.drop.drop
end P20
namespace Rb
open Go.M01 Go.Mb
variable {w:World}{L:List HProp}{K:KT}{b:Nat}{B:List UInt8}{d at_ n:Nat}
theorem Ztu (H:Holds w (RdR b B d at_::L)) (k:∀ w',Same w w'->Holds w' (RdR b B d (at_+(8*B.length - at_)%8)::L)->K (.tuple #[]) w'):Cl prog 218 #[.pointer (some ⟨b,0,none⟩)] w K:=by
 refine Tz218 ?_;unfold Vz218;have hf:=(Zag H).1;have S:=Same.refl w;have h0:Holds w (RdR b B d (at_+0)::L):=H;refine Zjc (λw'=>∃ j,j<=(8*B.length - at_)%8/\Same w w'/\Holds w' (RdR b B d (at_+j)::L)) (λw'=>8*B.length - (match w'.cell? ⟨b,2,none⟩ with|some (.int _ n)=>n.toNat|_=>0)) ⟨0,hE _,S,h0⟩ ?_;clear H S h0;rintro _ w1 ⟨j,hj,S,H⟩;obtain⟨hf1,H⟩:=Zag H;have hc1:=H.cell 0 rfl 2;simp only[gF,List.getElem?_cons_zero] at hc1
 have hr:((at_+j:Nat):Int).tmod 8=(((at_+j)%8:Nat):Int):=by rw[Int.tmod_eq_emod_of_nonneg (by omega)];simp
 refine Za2 (λx w'=>w1=w'/\x=.bool (decide (¬ (at_+j)%8=0))) ?_ ?_
 rotate_left
 ·refine Zc4 (r_vt ?_);refine r_nc (r_fo0 (r_ld 0 H rfl rfl ?_));refine Zff hr (by omega) ?_;refine r_neq (r_ke ⟨rfl,congrArg Value.bool ?_⟩);rw[Bool.eq_iff_iff,bne_iff_ne,decide_eq_true_iff];omega
 rintro _ _ _ ⟨rfl,rfl⟩;refine r_ifD (λh=>?_) λh=>?_
 ·have hlt:j < (8*B.length - at_)%8:=by omega
  repeat (first|refine r_nc ?_|refine r_fo0 ?_|refine r_fo ?_|refine r_ke ?_|refine r_lns ?_|refine r_lnl ?_|refine r_eql ?_|refine r_neq ?_|refine r_lss ?_|refine r_leq ?_|refine r_gtr ?_|refine r_geq ?_|refine Zez ?_|refine Zkp ?_|refine r_seq ?_|refine r_sne ?_|(with_reducible first|refine Zak ?_|refine Zbo ?_)|refine r_not ?_|(with_reducible first|refine Zc4 ?_|refine Zab ?_|refine Zjv ?_|refine Zud ?_|refine Za4 ?_|refine Za3 ?_|refine Zha ?_|refine Zh2 ?_|refine Zh0 ?_|refine r_vt ?_|refine r_vf ?_)|refine r_bb ?_|(with_reducible first|refine r_pkT ?_|refine r_pkF ?_|refine r_pkB ?_)|refine r_ex rfl ?_|(refine Zcv (by omega) (by omega) ?_)|(refine Zey (by omega) (by omega) ?_)|(refine Zan (by omega) (by omega) ?_)|refine r_ci ?_|(refine Za0 (by omega) ?_)|(refine Zaa (by omega) (by omega) ?_)|(refine Zac (by omega) ?_)|(refine r_add (by omega) (by omega) ?_)|(refine Zb0 (by omega) ?_)|(refine Zal (by omega) ?_)|(refine r_sub (by omega) (by omega) ?_)|(refine r_mul (by omega) (by omega) ?_)|(refine r_dr H ?_;clear H;intro _ S_ H;replace S:=S.trans S_;clear S_)|refine r_ld 0 H rfl rfl ?_|refine r_ld 1 H rfl rfl ?_|refine r_ld 2 H rfl rfl ?_|refine r_ld 3 H rfl rfl ?_|refine r_ld 4 H rfl rfl ?_|((with_reducible refine r_vtD ?h ?_);(case h=>omega))|((with_reducible refine r_vfD ?h ?_);(case h=>omega))|((with_reducible refine r_vtE ?h ?_);(case h=>omega))|((with_reducible refine r_vfE ?h ?_);(case h=>omega))|((with_reducible refine r_vtN ?h ?_);(case h=>omega))|((with_reducible refine r_vfN ?h ?_);(case h=>omega)))
  refine r_st 0 H rfl (by simp) rfl λw3 S3 H3=>?_;replace H3:Holds w3 (blk b tR [S_ (B.drop d),nv d,nv (at_+j+1)]::L):=H3;have hc3:=H3.cell 0 rfl 2;simp only[gF,List.getElem?_cons_zero] at hc3
  repeat (first|refine r_nc ?_|refine r_fo0 ?_|refine r_fo ?_|refine r_ke ?_|refine r_lns ?_|refine r_lnl ?_|refine r_eql ?_|refine r_neq ?_|refine r_lss ?_|refine r_leq ?_|refine r_gtr ?_|refine r_geq ?_|refine Zez ?_|refine Zkp ?_|refine r_seq ?_|refine r_sne ?_|(with_reducible first|refine Zak ?_|refine Zbo ?_)|refine r_not ?_|(with_reducible first|refine Zc4 ?_|refine Zab ?_|refine Zjv ?_|refine Zud ?_|refine Za4 ?_|refine Za3 ?_|refine Zha ?_|refine Zh2 ?_|refine Zh0 ?_|refine r_vt ?_|refine r_vf ?_)|refine r_bb ?_|(with_reducible first|refine r_pkT ?_|refine r_pkF ?_|refine r_pkB ?_)|refine r_ex rfl ?_|(refine Zcv (by omega) (by omega) ?_)|(refine Zey (by omega) (by omega) ?_)|(refine Zan (by omega) (by omega) ?_)|refine r_ci ?_|(refine Za0 (by omega) ?_)|(refine Zaa (by omega) (by omega) ?_)|(refine Zac (by omega) ?_)|(refine r_add (by omega) (by omega) ?_)|(refine Zb0 (by omega) ?_)|(refine Zal (by omega) ?_)|(refine r_sub (by omega) (by omega) ?_)|(refine r_mul (by omega) (by omega) ?_)|(refine r_dr H ?_;clear H;intro _ S_ H;replace S:=S.trans S_;clear S_)|refine r_ld 0 H rfl rfl ?_|refine r_ld 1 H rfl rfl ?_|refine r_ld 2 H rfl rfl ?_|refine r_ld 3 H rfl rfl ?_|refine r_ld 4 H rfl rfl ?_|((with_reducible refine r_vtD ?h ?_);(case h=>omega))|((with_reducible refine r_vfD ?h ?_);(case h=>omega))|((with_reducible refine r_vtE ?h ?_);(case h=>omega))|((with_reducible refine r_vfE ?h ?_);(case h=>omega))|((with_reducible refine r_vtN ?h ?_);(case h=>omega))|((with_reducible refine r_vfN ?h ?_);(case h=>omega)))
  refine⟨⟨j+1,by omega,S.trans S3,Zc7 ⟨by omega,by omega,hf.2.2⟩ H3⟩,?_⟩;rw[hc1,hc3];simp only[nv,gC];omega
 ·obtain rfl:j=(8*B.length - at_)%8:=by omega
  repeat (first|refine r_nc ?_|refine r_fo0 ?_|refine r_fo ?_|refine r_ke ?_|refine r_lns ?_|refine r_lnl ?_|refine r_eql ?_|refine r_neq ?_|refine r_lss ?_|refine r_leq ?_|refine r_gtr ?_|refine r_geq ?_|refine Zez ?_|refine Zkp ?_|refine r_seq ?_|refine r_sne ?_|(with_reducible first|refine Zak ?_|refine Zbo ?_)|refine r_not ?_|(with_reducible first|refine Zc4 ?_|refine Zab ?_|refine Zjv ?_|refine Zud ?_|refine Za4 ?_|refine Za3 ?_|refine Zha ?_|refine Zh2 ?_|refine Zh0 ?_|refine r_vt ?_|refine r_vf ?_)|refine r_bb ?_|(with_reducible first|refine r_pkT ?_|refine r_pkF ?_|refine r_pkB ?_)|refine r_ex rfl ?_|(refine Zcv (by omega) (by omega) ?_)|(refine Zey (by omega) (by omega) ?_)|(refine Zan (by omega) (by omega) ?_)|refine r_ci ?_|(refine Za0 (by omega) ?_)|(refine Zaa (by omega) (by omega) ?_)|(refine Zac (by omega) ?_)|(refine r_add (by omega) (by omega) ?_)|(refine Zb0 (by omega) ?_)|(refine Zal (by omega) ?_)|(refine r_sub (by omega) (by omega) ?_)|(refine r_mul (by omega) (by omega) ?_)|(refine r_dr H ?_;clear H;intro _ S_ H;replace S:=S.trans S_;clear S_)|refine r_ld 0 H rfl rfl ?_|refine r_ld 1 H rfl rfl ?_|refine r_ld 2 H rfl rfl ?_|refine r_ld 3 H rfl rfl ?_|refine r_ld 4 H rfl rfl ?_|((with_reducible refine r_vtD ?h ?_);(case h=>omega))|((with_reducible refine r_vfD ?h ?_);(case h=>omega))|((with_reducible refine r_vtE ?h ?_);(case h=>omega))|((with_reducible refine r_vfE ?h ?_);(case h=>omega))|((with_reducible refine r_vtN ?h ?_);(case h=>omega))|((with_reducible refine r_vfN ?h ?_);(case h=>omega)))
  exact k _ S (Zc7 hf1 H)
end Rb
namespace U22
open Go.M01 Go.Mb Go.Mp Go.M10 Go.Mc Go.Mz Go.Mk Go.Q20 Go.M02 Go.M03 Go.Q24 Rb
variable {w:World}{L:List HProp}{K:KT}{b r:Nat}{B:List UInt8}{d at_:Nat}{u:US}
abbrev tUs:Nat:=189
def usC (p:Value) (u:US) (e:Nat):List Value:=[nv u.unit,nv u.due,nv u.at_,nv u.level,p,S_ u.last,nv u.frm,uv u.sum,uv u.total,.bool u.ended,nv e]
def RawU (b:Nat) (u:US):HProp:=match u.blk with
 |none=>blk b tUs (usC (.pointer none) u 0)
 |some s=>λh=>∃ q,Sat [blk b tUs (usC (pt q) u 0),B20.BkR q s] h
def UsR (b:Nat) (u:US):HProp:=λh=>u.Ok/\RawU b u h
theorem Zc1 (H:Holds w (UsR b u::L)):u.Ok/\Holds w (RawU b u::L):=Holds.pure H
theorem Zap (h:u.Ok) (H:Holds w (RawU b u::L)):Holds w (UsR b u::L):=Holds.imp H λ_ hh=>⟨h,hh⟩
theorem Raw_openN (hr:u.blk=none) (H:Holds w (RawU b u::L)):Holds w (blk b tUs (usC (.pointer none) u 0)::L):=by
 unfold RawU at H;rw[hr] at H;exact H
theorem Raw_closeN (hr:u.blk=none) (H:Holds w (blk b tUs (usC (.pointer none) u 0)::L)):Holds w (RawU b u::L):=by
 unfold RawU;rw[hr];exact H
theorem Raw_openS {s:BS}(hr:u.blk=some s) (H:Holds w (RawU b u::L)):∃ q,Holds w (blk b tUs (usC (pt q) u 0)::B20.BkR q s::L):=by
 unfold RawU at H;rw[hr] at H;obtain⟨q,H⟩:=Holds.ex H;exact⟨q,Holds.unpack H⟩
theorem Raw_closeS {s:BS}{q:Nat}(hr:u.blk=some s) (H:Holds w (blk b tUs (usC (pt q) u 0)::B20.BkR q s::L)):Holds w (RawU b u::L):=by
 unfold RawU;rw[hr];exact Holds.imp (Holds.pack (A:=[blk b tUs (usC (pt q) u 0),B20.BkR q s]) H) λ_ hh=>⟨q,hh⟩
def BadU (b e:Nat):HProp:=λh=>∃ p u,blk b tUs (usC p u e) h
theorem Zwn {e:Nat}(H:Holds w (BadU b e::L)):∃ p u,Holds w (blk b tUs (usC p u e)::L):=by
 obtain⟨p,H⟩:=Holds.ex H;obtain⟨u,H⟩:=Holds.ex H;exact⟨p,u,H⟩
def AfterU (y:Res (US × Nat)) (b:Nat) (u:US) (r:Nat) (B:List UInt8) (d at_:Nat) (L:List HProp) (wt e:Int) (w:World):Prop:=
 match y with
 |.short=>wt=0/\e=3/\Holds w (UsR b u::RdR r B d at_::L)
 |.bad c=>wt=0/\e=(c:Int)/\∃ q,Holds w (BadU b 0::RdR r B d q::L)
 |.ok (u',k) n=>wt=(k:Int)/\e=0/\Holds w (UsR b u'::RdR r B d (at_+n)::L)
theorem Zq3 (H:Holds w (UsR b u::RdR r B d at_::L)) (hd:u.due=0) (post:∀ e w',Same w w'->AfterU (uletter u (rest B at_)) b u r B d at_ L 0 e w'->K (iv e) w') :
  Cl prog 172 #[pt b,pt r] w K:=by
 refine Tz172 ?_;unfold Vz172;obtain⟨hu,H⟩:=Zc1 H;have hbn:=hu.none_ (by omega);have hok:∀ u' k n,uletter u (rest B at_)=.ok (u',k) n->u'.Ok:=λu' k n h=>(Zfa hu (by unfold ustep;rw[if_pos hd];exact h)).1;have H1:=(Raw_openN hbn H).swap;clear H;refine Rb.Get_spec (n:=8) H1 (by omega) (λh w2 S2 H2=>?_) λh w2 S2 H2=>?_
 ·refine Za4 (Za3 ?_);refine r_neq (r_vtN (by decide) ?_);refine post _ _ S2 ?_;unfold uletter;rw[if_pos h];exact⟨rfl,rfl,Zap hu (Raw_closeN hbn H2.swap)⟩
 refine Za4 (Za3 ?_);refine r_neq (r_vfN rfl ?_);have hv:=Zae (rest B at_) 8
 have h8:¬ (rest B at_).length < 8:=by omega
 unfold uletter at post hok;rw[if_neg h8] at post;simp only[if_neg h8] at hok;generalize valB ((rest B at_).take 8)=c at *;have ha:=hu.at_;have hbad:Holds w2 (BadU b 0::RdR r B d (at_+8)::L):=Holds.imp H2.swap λ_ hh=>⟨_,u,hh⟩;refine r_nc (r_fo0 (r_ld 1 H2 rfl rfl ?_));refine r_lss (r_ifD (λh3=>?_) λh3=>?_)
 ·have h3':u.at_ < 3:=by omega
  rw[if_pos h3'] at post;simp only[if_pos h3'] at hok;refine r_nc (r_fo0 (r_ld 1 H2 rfl rfl ?_));refine r_ixs (n:=(u.at_:Int)) (by omega) (by show (u.at_:Int) < ((3:Nat):Int);omega) ?_;rw[gC]
  have hl:(((⟨#[66,90,104]⟩:ByteArray).data.toList.getD u.at_ 0).toNat:Int)=((letters.getD u.at_ 0:Nat):Int):=by
   rcases (show u.at_=0\/u.at_=1\/u.at_=2 by omega) with h|h|h <;> rw[h] <;> rfl
  rw[hl]
  have hl2:letters.getD u.at_ 0 < 256:=by
   rcases (show u.at_=0\/u.at_=1\/u.at_=2 by omega) with h|h|h <;> rw[h] <;> decide
  refine Zan (by omega) (by omega) ?_;refine r_neq (r_ifN (λh4=>?_) λh4=>?_)
  ·rw[if_neg (by omega)] at post;exact post _ _ S2 ⟨rfl,rfl,_,hbad⟩
  ·rw[if_pos (by omega)] at post;simp only[if_pos (show c=letters.getD u.at_ 0 by omega)] at hok;refine r_nc (r_fo0 (r_ld 1 H2 rfl rfl ?_));refine Za0 (by omega) ?_;refine r_nc (r_fo0 ?_);refine r_st 1 H2 rfl (by simp[usC]) rfl λw3 S3 H3=>?_;exact post _ _ (S2.trans S3) ⟨rfl,rfl,Zap (hok _ _ _ rfl) (Raw_closeN hbn H3.swap)⟩
 ·have h3':¬ u.at_ < 3:=by omega
  rw[if_neg h3'] at post;simp only[if_neg h3'] at hok;refine Za2 (λx w'=>w2=w'/\x=.bool (decide (c < 49\/57 < c))) ?_ ?_
  rotate_left
  ·refine r_lss (r_ifD (λh=>?_) λh=>?_)
   ·exact r_ke ⟨rfl,by rw[decide_eq_true (by omega)]⟩
   ·exact r_gtr (r_ke ⟨rfl,congrArg Value.bool (by rw[Bool.eq_iff_iff,decide_eq_true_iff,decide_eq_true_iff];omega)⟩)
  rintro _ _ _ ⟨rfl,rfl⟩;refine r_ifD (λh=>?_) λh=>?_
  ·rw[if_pos h] at post;exact post _ _ S2 ⟨rfl,rfl,_,hbad⟩
  ·rw[if_neg h] at post;simp only[if_neg h] at hok;refine Zhp (s:=c) (t:=48) (by omega) (by omega) ?_;refine Zcv (by omega) (by omega) ?_;refine r_nc (r_fo0 ?_);refine r_st 1 H2 rfl (by simp[usC]) rfl λw3 S3 H3=>?_;refine r_nc (r_fo0 ?_);refine r_st 1 H3 rfl (by simp[usC]) rfl λw4 S4 H4=>?_;refine r_nc (r_fo0 ?_);refine r_st 1 H4 rfl (by simp[usC]) rfl λw5 S5 H5=>?_;refine r_nc (r_fo0 ?_);refine r_st 1 H5 rfl (by simp[usC]) rfl λw6 S6 H6=>?_;exact post _ _ ((((S2.trans S3).trans S4).trans S5).trans S6) ⟨rfl,rfl,Zap (hok _ _ _ rfl) (Raw_closeN hbn H6.swap)⟩
theorem Zh6 {a c:Nat}(ha:a < 4294967296) (hc:c < 4294967296) (k:K (uv (comb a c)) w):Cl prog 130 #[uv a,uv c] w K:=by
 refine Tz130 ?_;unfold Vz130;refine Zcu (n:=1) (by omega) ?_;refine Zex (n:=31) (by decide) ?_;have h31:a/2^31=a/2147483648:=rfl;rw[h31];refine Zcw (by omega) (by omega) ?_;have hx:(a*2^1%4294967296) ^^^ (a/2147483648) < 2^32:=Nat.xor_lt_two_pow (n:=32) (by omega) (by omega);refine Zcw hx hc ?_;exact k
theorem shl24 {hi:Nat}(h:hi < 2^24):bp .shl (.int .u64 (hi:Int)) (.int .u64 24)=some (.int .u64 ((hi*16777216:Nat):Int)):=by
 have hb:IntKind.u64.bits=64:=rfl;show bp .shl (.int .u64 (hi:Int)) (.int .u64 ((24:Nat):Int))=_;simp only[bp];rw[if_neg (by omega),gC,hb,Nat.min_eq_left (by decide)]
 have e:(hi:Int)*2^24=((hi*16777216:Nat):Int):=by
  rw[Int.natCast_mul];rfl
 rw[e]
 have hw:IntKind.u64.wrap ((hi*16777216:Nat):Int)=((hi*16777216:Nat):Int):=by
  show ((hi*16777216:Nat):Int)%18446744073709551616=_;omega
 rw[hw]
theorem or24 {hi lo:Nat}(h:hi < 2^24) (h2:lo < 2^24):bp .or (.int .u64 ((hi*16777216:Nat):Int)) (.int .u64 (lo:Int))=some (.int .u64 ((hi*16777216+lo:Nat):Int)):=by
 have hb:IntKind.u64.bits=64:=rfl;simp only[bp,if_true];rw[hb,BitVec.toNat_or,BitVec.toNat_ofInt,BitVec.toNat_ofInt]
 have e1:(((hi*16777216:Nat):Int)%((2^64:Nat):Int)).toNat=hi*16777216:=by omega
 have e2:((lo:Int)%((2^64:Nat):Int)).toNat=lo:=by omega
 have e3:hi*16777216 ||| lo=hi*16777216+lo:=by
  have:=Nat.two_pow_add_eq_or_of_lt (i:=24) h2 hi;rw[Nat.mul_comm hi,show (16777216:Nat)=2^24 by rfl];exact this.symm
 rw[e1,e2,e3]
 have hw:IntKind.u64.wrap ((hi*16777216+lo:Nat):Int)=((hi*16777216+lo:Nat):Int):=by
  show ((hi*16777216+lo:Nat):Int)%18446744073709551616=_;omega
 rw[hw]
theorem magic_spec (H:Holds w (UsR b u::RdR r B d at_::L)) (hd:u.due=1) (post:∀ e w',Same w w'->AfterU (umagic u (rest B at_)) b u r B d at_ L 0 e w'->K (iv e) w') :
  Cl prog 173 #[pt b,pt r] w K:=by
 refine Tz173 ?_;unfold Vz173;obtain⟨hu,H⟩:=Zc1 H;have hbn:=hu.none_ (by omega);have hok:∀ u' k n,umagic u (rest B at_)=.ok (u',k) n->u'.Ok:=λu' k n h=>(Zfa hu (by unfold ustep;rw[if_neg (by omega),if_pos hd];exact h)).1;have H1:=(Raw_openN hbn H).swap;clear H;have hrl:=Zbm B at_;have hr2:=Zbm B (at_+24);refine Rb.Zg3 H1 λw2 S2 H2=>?_;unfold umagic at post hok;refine r_lss (r_ifD (λh=>?_) λh=>?_)
 ·rw[if_pos (by omega)] at post;exact post _ _ S2 ⟨rfl,rfl,Zap hu (Raw_closeN hbn H2.swap)⟩
 have h48:¬ (rest B at_).length < 48:=by omega
 rw[if_neg h48] at post;simp only[if_neg h48] at hok;refine Rb.Get_spec (n:=24) H2 (by omega) (λh w3 S3 H3=>by omega) λh w3 S3 H3=>?_;refine Za4 (Za3 ?_);refine Rb.Get_spec (n:=24) H3 (by omega) (λh w4 S4 H4=>by omega) λh w4 S4 H4=>?_;refine Za4 (Za3 ?_);have hv1:=Zae (rest B at_) 24;have hv2:=Zae (rest B (at_+24)) 24
 have hval:valB ((rest B at_).take 48)=valB ((rest B at_).take 24)*16777216+valB ((rest B (at_+24)).take 24):=by
  have e:(rest B at_).take 48=(rest B at_).take 24++(rest B (at_+24)).take 24:=by
   rw[<-Zc3,show 48=24+24 by rfl,take_add]
  rw[e,valB_app,gN,Nat.min_eq_left (by omega)]
 rw[hval] at post;rw[hval] at hok;generalize valB ((rest B at_).take 24)=hi at *;generalize valB ((rest B (at_+24)).take 24)=lo at *;replace S2:=(S2.trans S3).trans S4
 replace H4:Holds w4 (RdR r B d (at_+48)::blk b tUs (usC (.pointer none) u 0)::L):=by rw[show at_+48=at_+24+24 by omega];exact H4
 clear H1 H2 H3 S3 S4;refine Zlo (by omega) (by omega) ?_;refine r_bpK (.int .u64 ((hi*16777216:Nat):Int)) (shl24 hv1) ?_;refine Zlo (by omega) (by omega) ?_;refine r_bpK (.int .u64 ((hi*16777216+lo:Nat):Int)) (or24 hv1 hv2) ?_;refine r_eql (r_ifE (λh1=>?_) λh1=>?_)
 ·have h1':hi*16777216+lo=54156738319193:=by omega
  rw[if_pos h1'] at post;simp only[if_pos h1'] at hok;refine r_dr H4 λw5 S5 H5=>?_;refine r_nc (r_fo0 (r_ld 1 H5 rfl rfl ?_));refine r_nc (r_fo0 (r_ld 1 H5 rfl rfl ?_));have hl1:=hu.lev1 (by omega);have hl9:=hu.lev;have hun:=hu.unit;have hm1:u.level*u.unit<=9*100000:=Nat.mul_le_mul hl9 hun.2;have hm2:1*24<=u.level*u.unit:=Nat.mul_le_mul hl1 hun.1;refine Zbc ((u.level*u.unit:Nat):Int) (by simp) (by omega) (by omega) ?_;refine B20.NewReader_spec H5 (by omega) (by omega) λq w6 S6 H6=>?_;refine Za4 (Za3 ?_);refine r_nc (r_fo0 ?_);refine r_st 2 H6 rfl (by simp[usC]) rfl λw7 S7 H7=>?_;refine r_nc (r_fo0 ?_);refine r_st 2 H7 rfl (by simp[usC]) rfl λw8 S8 H8=>?_;replace H8:Holds w8 (B20.BkR q (b0 (u.level*u.unit))::RdR r B d (at_+48)::blk b tUs (usC (pt q) ⟨u.unit,2,u.at_,u.level,some (b0 (u.level*u.unit)),u.last,u.frm,u.sum,u.total,u.ended⟩ 0)::L):=H8;exact post _ _ ((((S2.trans S5).trans S6).trans S7).trans S8) ⟨rfl,rfl,Zap (hok _ _ _ rfl) (Raw_closeS (s:=b0 (u.level*u.unit)) rfl (by have h_:=Holds.ord 3 [2,0,1] H8 rfl;exact h_))⟩
 ·have h1':¬ hi*16777216+lo=54156738319193:=by omega
  rw[if_neg h1'] at post;simp only[if_neg h1'] at hok;refine r_eql (r_ifE (λh2=>?_) λh2=>?_)
  ·have h2':hi*16777216+lo=25779555029136:=by omega
   rw[if_pos h2'] at post;simp only[if_pos h2'] at hok;refine r_nc (r_fo0 ?_);refine r_st 1 H4 rfl (by simp[usC]) rfl λw5 S5 H5=>?_;exact post _ _ (S2.trans S5) ⟨rfl,rfl,Zap (hok _ _ _ rfl) (Raw_closeN hbn H5.swap)⟩
  ·rw[if_neg (by omega)] at post;exact post _ _ S2 ⟨rfl,rfl,_,Holds.imp H4.swap λ_ hh=>⟨_,u,hh⟩⟩
theorem Zwj {s:BS}(H:Holds w (UsR b u::RdR r B d at_::L)) (hb:u.blk=some s) (post:∀ wt e w',Same w w'->AfterU (ubody u (rest B at_)) b u r B d at_ L wt e w'->K (.tuple #[iv wt,iv e]) w') :
  Cl prog 174 #[pt b,pt r] w K:=by
 refine Tz174 ?_;unfold Vz174;obtain⟨hu,H⟩:=Zc1 H;obtain⟨hd,hbo,hbd,hbr⟩:=hu.blk s hb;have hok:∀ u' k n,ubody u (rest B at_)=.ok (u',k) n->u'.Ok:=λu' k n h=>(Zfa hu (by unfold ustep;rw[if_neg (by omega),if_neg (by omega),if_pos hd];exact h)).1
 have e0:ubody u (rest B at_)=uwith u (bstep s (rest B at_)):=by unfold ubody;rw[hb]
 rw[e0] at post hok;obtain⟨q,H0⟩:=Raw_openS hb H;have H1:Holds w (B20.BkR q s::RdR r B d at_::blk b tUs (usC (pt q) u 0)::L):=(by have h_:=Holds.ord 3 [1,2,0] H0 rfl;exact h_);clear H H0;refine r_nc (r_fo0 (r_ld 2 H1 rfl rfl ?_));refine B20.Step_spec H1 hbd λe w2 S2 hA=>?_
 cases hx:bstep s (rest B at_) with
 |short=>
  rw[hx] at hA post;obtain⟨rfl,H2⟩:=hA;refine Za2 (λx w'=>w2=w'/\x=.bool true) ?_ ?_
  ·rintro _ _ _ ⟨rfl,rfl⟩;refine r_vt ?_;exact post 0 3 _ S2 ⟨rfl,rfl,Zap hu (Raw_closeS hb (by have h_:=Holds.ord 3 [2,0,1] H2 rfl;exact h_))⟩
  ·refine r_neq (r_vtN (by decide) ?_);exact r_ke ⟨rfl,rfl⟩
 |bad c=>
  have hcb:=Zfv hx;rw[hx] at hA post;obtain⟨rfl,q',H2⟩:=hA;refine Za2 (λx w'=>w2=w'/\x=.bool true) ?_ ?_
  ·rintro _ _ _ ⟨rfl,rfl⟩;refine r_vt ?_;exact post 0 c _ S2 ⟨rfl,rfl,q',Holds.imp (show Holds w2 (blk b tUs (usC (pt q) u 0)::RdR r B d q'::L) from (by have h_:=Holds.ord 3 [2,1] H2 rfl;exact h_)) λ_ hh=>⟨_,u,hh⟩⟩
  ·refine r_neq (r_vtN (by omega) ?_);exact r_ke ⟨rfl,rfl⟩
 |ok s' n=>
  rw[hx] at hA post hok;obtain⟨rfl,H2⟩:=hA;refine Za2 (λx w'=>w2=w'/\x=.bool (!s'.done)) ?_ ?_
  rotate_left
  ·refine r_neq (r_vfN rfl ?_);refine r_nc (r_fo0 (r_ld 2 H2 rfl rfl ?_));refine B20.Done_spec H2 ?_;exact r_not (r_ke ⟨rfl,rfl⟩)
  rintro _ _ _ ⟨rfl,rfl⟩;unfold uwith at post hok
  cases hsd:s'.done with
  |false=>
   refine r_vt ?_;simp only[hsd,Bool.false_eq_true,if_false] at post hok;exact post 0 0 _ S2 ⟨rfl,rfl,Zap (hok _ _ _ rfl) (Raw_closeS (s:=s') (q:=q) rfl (by have h_:=Holds.ord 3 [2,0,1] H2 rfl;exact h_))⟩
  |true=>
   refine r_vf ?_;simp only[hsd,if_true] at post hok;have hok':=(B20.Zc0 H2).1;refine r_nc (r_fo0 (r_ld 2 H2 rfl rfl ?_));refine B20.Zqj H2 hsd λw3 S3 H3=>?_;refine r_nc (r_fo0 ?_);refine r_stA 2 H3 (vs:=[S_ s'.last,nv s'.frm,uv s'.sum]) rfl (by simp[usC]) rfl rfl λw4 S4 H4=>?_;refine r_nc (r_fo0 ?_);refine r_st 2 H4 rfl (by simp[usC,setL]) rfl λw5 S5 H5=>?_;refine r_dr H5 λw6 S6 H6=>?_;replace H6:Holds w6 (B20.BkR q s'::RdR r B d (at_+n)::blk b tUs [nv u.unit,nv u.due,nv u.at_,nv u.level,.pointer none,S_ s'.last,nv s'.frm,uv s'.sum,uv u.total,.bool u.ended,nv 0]::L):=H6;refine r_nc (r_fo0 (r_ld 2 H6 rfl rfl ?_));refine r_nc (r_fo0 (r_fo (r_ld 2 H6 rfl rfl ?_)));refine Zh6 hu.total hok'.sum ?_;refine r_nc (r_fo0 ?_);refine r_st 2 H6 rfl (by simp) rfl λw7 S7 H7=>?_;refine r_nc (r_fo0 ?_);refine r_st 2 H7 rfl (by simp) rfl λw8 S8 H8=>?_;replace H8:Holds w8 (B20.BkR q s'::RdR r B d (at_+n)::blk b tUs (usC (.pointer none) ⟨u.unit,1,u.at_,u.level,none,s'.last,s'.frm,s'.sum,comb u.total s'.sum,u.ended⟩ 0)::L):=H8;exact post 1 0 _ ((((((S2.trans S3).trans S4).trans S5).trans S6).trans S7).trans S8) ⟨rfl,rfl,Zap (hok _ _ _ rfl) (Raw_closeN rfl (by have h_:=Holds.ord 3 [2,1] H8 rfl;exact h_))⟩
theorem Zz9 (H:Holds w (UsR b u::RdR r B d at_::L)) (hd:u.due=3) (post:∀ wt e w',Same w w'->AfterU (usum u (rest B at_)) b u r B d at_ L wt e w'->K (.tuple #[iv wt,iv e]) w') :
  Cl prog 175 #[pt b,pt r] w K:=by
 refine Tz175 ?_;unfold Vz175;obtain⟨hu,H⟩:=Zc1 H;have hbn:=hu.none_ (by omega);have hok:∀ u' k n,usum u (rest B at_)=.ok (u',k) n->u'.Ok:=λu' k n h=>(Zfa hu (by unfold ustep;rw[if_neg (by omega),if_neg (by omega),if_neg (by omega)];exact h)).1;have H1:=(Raw_openN hbn H).swap;clear H;have hrl:=Zbm B at_;unfold usum at post hok;refine Rb.Get_spec (n:=32) H1 (by omega) (λh w2 S2 H2=>?_) λh w2 S2 H2=>?_
 ·refine Za4 (Za3 ?_);refine r_neq (r_vtN (by decide) ?_);rw[if_pos h] at post;exact post 0 3 _ S2 ⟨rfl,rfl,Zap hu (Raw_closeN hbn H2.swap)⟩
 refine Za4 (Za3 ?_);refine r_neq (r_vfN rfl ?_)
 have h32:¬ (rest B at_).length < 32:=by omega
 rw[if_neg h32] at post;simp only[if_neg h32] at hok;refine r_nc (r_fo0 (r_ld 1 H2 rfl rfl ?_));refine r_neq (r_ifN (λh1=>?_) λh1=>?_)
 ·rw[if_neg (by omega)] at post;exact post 0 21 _ S2 ⟨rfl,rfl,_,Holds.imp H2.swap λ_ hh=>⟨_,u,hh⟩⟩
 ·have h1':valB ((rest B at_).take 32)=u.total:=by omega
  rw[if_pos h1'] at post;simp only[if_pos h1'] at hok;refine Rb.Ztu H2 λw3 S3 H3=>?_
  have ea:at_+32+(8*B.length - (at_+32))%8=at_+(32+((rest B at_).length - 32)%8):=by rw[hrl];omega
  rw[ea] at H3;refine r_nc (r_fo0 ?_);refine r_st 1 H3 rfl (by simp[usC]) rfl λw4 S4 H4=>?_;refine r_nc (r_fo0 ?_);refine r_st 1 H4 rfl (by simp[usC]) rfl λw5 S5 H5=>?_;exact post 2 0 _ (((S2.trans S3).trans S4).trans S5) ⟨rfl,rfl,Zap (hok _ _ _ rfl) (Raw_closeN hbn H5.swap)⟩
theorem step_spec (H:Holds w (UsR b u::RdR r B d at_::L)) (post:∀ wt e w',Same w w'->AfterU (ustep u (rest B at_)) b u r B d at_ L wt e w'->K (.tuple #[iv wt,iv e]) w') :
  Cl prog 128 #[pt b,pt r] w K:=by
 refine Tz128 ?_;unfold Vz128;have hu:=(Zc1 H).1;have hd3:=hu.due;have H0:=(Zc1 H).2
 have hc:∃ p L',Holds w (blk b tUs (usC p u 0)::L'):=by
  cases hb:u.blk with
  |none=>exact⟨_,_,Raw_openN hb H0⟩
  |some s=>
   obtain⟨q,h⟩:=Raw_openS hb H0;exact⟨_,_,h⟩
 obtain⟨p,L',H1⟩:=hc;unfold ustep at post;refine r_nc (r_fo0 (r_ld 0 H1 rfl rfl ?_));refine r_eql (r_ifE (λh=>?_) λh=>?_)
 ·rw[if_pos (by omega)] at post;exact Zq3 H (by omega) λe w' S' hA=>post 0 e w' S' hA
 rw[if_neg (by omega)] at post;refine r_eql (r_ifE (λh1=>?_) λh1=>?_)
 ·rw[if_pos (by omega)] at post;exact magic_spec H (by omega) λe w' S' hA=>post 0 e w' S' hA
 rw[if_neg (by omega)] at post;refine r_eql (r_ifE (λh2=>?_) λh2=>?_)
 ·rw[if_pos (by omega)] at post
  cases hb:u.blk with
  |none=>exact absurd hb (hu.body (by omega))
  |some s=>
   refine Zwj H hb λwt e w' S' hA=>?_;refine Za4 (Za3 ?_);exact post wt e w' S' hA
 ·rw[if_neg (by omega)] at post;refine Zz9 H (by omega) λwt e w' S' hA=>?_;refine Za4 (Za3 ?_);exact post wt e w' S' hA
def AfterUS (y:Res (US × Nat)) (b:Nat) (u:US) (r:Nat) (B:List UInt8) (d at_:Nat) (L:List HProp) (wt e:Int) (w:World):Prop:=
 match y with
 |.short=>wt=0/\e=3/\Holds w (UsR b u::RdR r B d at_::L)
 |.bad c=>wt=0/\e=(c:Int)/\∃ q,Holds w (BadU b c::RdR r B d q::L)
 |.ok (u',k) n=>wt=(k:Int)/\e=0/\Holds w (UsR b u'::RdR r B d (at_+n)::L)
theorem Zg5 (H:Holds w (UsR b u::L)):∃ p L',Holds w (blk b tUs (usC p u 0)::L')/\∀ w',Holds w' (blk b tUs (usC p u 0)::L')->Holds w' (UsR b u::L):=by
 obtain⟨hu,H0⟩:=Zc1 H
 cases hb:u.blk with
 |none=>exact⟨_,_,Raw_openN hb H0,λw' H'=>Zap hu (Raw_closeN hb H')⟩
 |some s=>
  obtain⟨q,h⟩:=Raw_openS hb H0;exact⟨_,_,h,λw' H'=>Zap hu (Raw_closeS hb H')⟩
theorem Step_spec (H:Holds w (UsR b u::RdR r B d at_::L)) (post:∀ wt e w',Same w w'->AfterUS (ustep u (rest B at_)) b u r B d at_ L wt e w'->K (.tuple #[iv wt,iv e]) w') :
  Cl prog 76 #[pt b,pt r] w K:=by
 refine Tz76 ?_;unfold Vz76;have hu:=(Zc1 H).1;obtain⟨p,L',H1,_⟩:=Zg5 H;refine Za2 (λx w'=>w=w'/\x=.bool false) ?_ ?_
 rotate_left
 ·refine Zab (r_vf ?_);refine Zab ?_;exact r_ke ⟨rfl,rfl⟩
 rintro _ _ _ ⟨rfl,rfl⟩;refine r_vf ?_;refine r_nc (r_fo0 (r_ld 0 H1 rfl rfl ?_));refine r_neq (r_vfN rfl ?_);refine step_spec H λwt e w2 S2 hA=>?_;refine Za4 (Za3 ?_)
 cases hx:ustep u (rest B at_) with
 |short=>
  rw[hx] at hA post;obtain⟨rfl,rfl,H2⟩:=hA;refine r_neq (r_vfN rfl ?_);exact post _ _ _ S2 ⟨rfl,rfl,H2⟩
 |bad c=>
  have hcb:=Zny hu hx;rw[hx] at hA post;obtain⟨rfl,rfl,q,H2⟩:=hA;refine r_neq (r_vtN (by omega) ?_);obtain⟨p2,u2,H3⟩:=Zwn H2;refine r_nc (r_fo0 ?_);refine r_st 0 H3 rfl (by simp[usC]) rfl λw4 S4 H4=>?_;exact post _ _ _ (S2.trans S4) ⟨rfl,rfl,q,Holds.imp H4 λ_ hh=>⟨p2,u2,hh⟩⟩
 |ok y n=>
  obtain⟨u',k⟩:=y;rw[hx] at hA post;obtain⟨rfl,rfl,H2⟩:=hA;refine r_neq (r_vtN (by decide) ?_);obtain⟨p2,L2,H3,hback⟩:=Zg5 H2;refine r_nc (r_fo0 ?_);refine r_st 0 H3 rfl (by simp[usC]) rfl λw4 S4 H4=>?_;exact post _ _ _ (S2.trans S4) ⟨rfl,rfl,hback _ H4⟩
theorem Zpg (H:Holds w (UsR b u::L)) (k:K (.bool u.mayEnd) w):Cl prog 73 #[pt b] w K:=by
 refine Tz73 ?_;unfold Vz73;obtain⟨p,L',H1,_⟩:=Zg5 H;unfold US.mayEnd at k;refine Zc4 (r_vt ?_);refine r_nc (r_fo0 (r_ld 0 H1 rfl rfl ?_))
 cases he:u.ended with
 |false=>
  rw[he] at k;refine r_vf ?_;exact k
 |true=>
  rw[he] at k;refine r_vt ?_;refine r_nc (r_fo0 (r_ld 0 H1 rfl rfl ?_));refine r_eql (r_ifE (λh=>?_) λh=>?_)
  ·refine r_nc (r_fo0 (r_ld 0 H1 rfl rfl ?_));refine r_eql (r_ifE (λh2=>?_) λh2=>?_)
   ·refine r_nc (r_fo0 (r_ld 0 H1 rfl rfl ?_));refine r_eql ?_;rw[decide_eq_true (by omega),decide_eq_true (by omega)] at k;exact k
   ·rw[decide_eq_false (p:=u.at_=0) (by omega),Bool.and_false] at k;exact k
  ·rw[decide_eq_false (p:=u.due=0) (by omega),Bool.and_false,Bool.false_and] at k;exact k
theorem Zyt (H:Holds w (UsR b u::L)) (k:∀ w',Same w w'->Holds w' (UsR b u::L)->K (.agg (B20.gotV u.last u.frm u.sum).toArray) w'):Cl prog 77 #[pt b] w K:=by
 refine Tz77 ?_;unfold Vz77;refine r_new H λgb w1 S1 H1=>?_;rw[B20.Zm0] at H1;obtain⟨p,L',H2,hback⟩:=Zg5 H1.swap;refine Zab (r_vf ?_);refine r_nc (r_fo0 ?_);refine r_ldA 0 H2 (B20.gotV u.last u.frm u.sum) rfl rfl rfl ?_;refine r_stA 0 H1 (vs:=B20.gotV u.last u.frm u.sum) rfl (Nat.le_refl 3) rfl rfl λw4 S4 H4=>?_;replace H4:Holds w4 (blk gb B20.tGt (B20.gotV u.last u.frm u.sum)::UsR b u::L):=H4;refine r_ldA 0 H4 (B20.gotV u.last u.frm u.sum) rfl rfl rfl ?_;exact k _ (S1.trans S4) H4.drop
theorem Zxq {n:Int}(kb:n < 24\/100000 < n->K (.tuple #[iv 0,iv 1]) w) (k:∀ v,24<=n->n<=100000->K (.tuple #[v,iv 0]) w):Cl prog 82 #[iv 1,iv n] w K:=by
 refine Tz82 ?_;unfold Vz82;refine Za2 (λx w'=>w=w'/\x=.bool (decide (n < 24\/100000 < n))) ?_ ?_
 rotate_left
 ·refine r_lss (r_vfD (by omega) ?_);refine r_gtr (r_vfD (by omega) ?_);refine r_lss (r_ifD (λh=>?_) λh=>?_)
  ·exact r_ke ⟨rfl,by rw[decide_eq_true (by omega)]⟩
  ·exact r_gtr (r_ke ⟨rfl,congrArg Value.bool (by rw[Bool.eq_iff_iff,decide_eq_true_iff,decide_eq_true_iff];omega)⟩)
 rintro _ _ _ ⟨rfl,rfl⟩;refine r_ifD (λh=>?_) λh=>?_
 ·exact kb h
 ·refine Zbc n (by omega) (by omega) (by omega) ?_;refine r_sub (by omega) (by omega) ?_;exact k _ (by omega) (by omega)
theorem New_spec {n:Nat}(H:Holds w L) (h1:24<=n) (h2:n<=100000) (k:∀ b w',Same w w'->Holds w' (UsR b (u0 n)::L)->K (.tuple #[pt b,iv 0]) w'):Cl prog 72 #[nv n] w K:=by
 refine Tz72 ?_;unfold Vz72;refine Zxq (λh=>by omega) λv _ _=>?_;refine Za4 (Za3 ?_);refine r_neq (r_vfN rfl ?_);refine r_bd (v:=.agg (usC (.pointer none) (u0 n) 0).toArray) (by kernel_rfl) ?_;refine r_new H λb w1 S1 H1=>?_;exact k b _ S1 (Zap (u0_ok ⟨h1,h2⟩) (Raw_closeN rfl H1))
end U22
end Go.Proofs.YtgaiocpkjaaphaaGreatDoor
namespace Go.Vc
theorem Yaz {s t:Nat}{K:Value->Prop}(hs:s < 18446744073709551616) (ht:t < 18446744073709551616) (h:K (.int .u64 ((s &&& t:Nat):Int))):Bp .and (.int .u64 (s:Int)) (.int .u64 (t:Int)) K:=by
 refine⟨_,?_,h⟩;have hb:IntKind.u64.bits=64:=rfl;have hx:s &&& t<=s:=Nat.and_le_left;simp only[bp,if_true];rw[hb,BitVec.toNat_and,BitVec.toNat_ofInt,BitVec.toNat_ofInt]
 have e1:((s:Int)%((2^64:Nat):Int)).toNat=s:=by omega
 have e2:((t:Int)%((2^64:Nat):Int)).toNat=t:=by omega
 have hw:IntKind.u64.wrap ((s &&& t:Nat):Int)=((s &&& t:Nat):Int):=by
  show ((s &&& t:Nat):Int)%18446744073709551616=_;omega
 rw[e1,e2,hw]
end Go.Vc
namespace Go.Proofs.YtgaiocpkjaaphaaGreatDoor
open Go Go.Vc Go.Proofs.Tryz
attribute [local irreducible] Vc.Nc Vc.Ld Vc.LdA Vc.St Vc.StA Vc.Fo Vc.Iaa Vc.Ias Vc.Ixs Vc.Ixa Vc.Fd Vc.FdA Vc.Bp Vc.Bb Vc.Bn Vc.Up Vc.Ci Vc.Lns Vc.Lnl Vc.Ex Vc.Sst Vc.Ssl Vc.New Vc.Vif Vc.VJoin Vc.VLoop Vc.KE Vc.Dr Vc.Rk Vc.Cl Vc.Cx Vc.Inv Vc.Be Vc.Cv Vc.Cw Vc.Mf Vc.Sl Vc.Lk Vc.Bd Vc.Bs Vc.Ms Vc.Mm Vc.Mu Vc.Me Vc.Es Vc.Rg Vc.Nx Vc.Ta Vc.Ap Vc.Usd Vc.Ust Vc.Cp Vc.Ln Vc.Bc Vc.Bmin Vc.Bmax Vc.Bdel Vc.Bclr Vc.Pk
namespace W2s
open Go.M01 Go.Mb Go.M02 Go.M03 Go.Qs T12 W14 W20 P20
variable {w:World}{L:List HProp}{K:KT}{b wb n tot:Nat}{bs:List Bool}
abbrev tSt:Nat:=123
abbrev stC (wb tot:Nat) (en:Bool):List Value:=[pt wb,uv tot,.bool en]
theorem New_spec {level:Nat}(H:Holds w L) (h1:1<=level/\level<=9) (k:∀ b wb w',Same w w'->Holds w' (blk b tSt (stC wb 0 false)::W01.WrR wb (headB level) 0::L)->K (.tuple #[pt b,iv 0]) w'):Cl prog 33 #[nv level] w K:=by
 refine Tz33 ?_;unfold Vz33;refine Za2 (λx w'=>w=w'/\x=.bool false) ?_ ?_
 rotate_left
 ·refine r_lss (r_vfD (by omega) ?_);refine r_gtr (r_ke ⟨rfl,?_⟩);rw[decide_eq_false (by omega)]
 rintro _ _ _ ⟨rfl,rfl⟩;refine r_vf ?_;refine W01.Zjr H λwb w1 S1 H1=>?_;refine r_bd (v:=.agg (stC wb 0 false).toArray) (by kernel_rfl) ?_;refine r_new H1 λb w2 S2 H2=>?_;replace H2:Holds w2 (W01.WrR wb [] 0::blk b tSt (stC wb 0 false)::L):=H2.swap;refine Zde (λj x w'=>∃ i,j=3 - i/\i<=3/\x=nv i/\Same w w'/\Holds w' (W01.WrR wb ((bitsL [66,90,104]).take (8*i)) 0::blk b tSt (stC wb 0 false)::L)) 3 ⟨0,rfl,by omega,rfl,S1.trans S2,H2⟩ ?_;clear H H1 H2 S1 S2;rintro _ j _ w3 _ ⟨i,rfl,hi,rfl,S3,H3⟩ hgo;refine r_lss (r_ifD (λh=>?_) λh=>?_)
 ·refine r_dr H3 λw4 S4 H4=>?_;refine r_nc (r_fo0 (r_ld 1 H4 rfl rfl ?_));refine q_ix (t:=[66,90,104]) (m:=i) (by simp;omega) ?_;refine Zan (by omega) (by have:=(([66,90,104]:List UInt8).getD i 0).toNat_lt;omega) ?_
  have h24:((bitsL [66,90,104]).take (8*i)).length=8*i:=by
   have:(bitsL [66,90,104]).length=24:=by decide
   rw[gN];omega
  refine W01.Put_spec (v:=(([66,90,104]:List UInt8).getD i 0).toNat) (n:=8) H4 (by rw[h24];omega) (by omega) (by omega) (by have:=(([66,90,104]:List UInt8).getD i 0).toNat_lt;omega) λw5 S5 H5=>?_;refine Za0 (by omega) (r_ke (hgo (3 - (i+1)) _ _ (by omega) ⟨i+1,rfl,by omega,rfl,S3.trans (S4.trans S5),?_⟩))
  have e:(bitsL [66,90,104]).take (8*(i+1))=(bitsL [66,90,104]).take (8*i)++bitsOf (([66,90,104]:List UInt8).getD i 0).toNat 8:=by
   rcases (show i=0\/i=1\/i=2 by omega) with rfl|rfl|rfl <;> decide
  rw[e];exact H5
 ·obtain rfl:i=3:=by omega
  refine r_nc (r_fo0 (r_ld 1 H3 rfl rfl ?_));refine r_add (by omega) (by omega) ?_;refine Zan (by omega) (by omega) ?_;rw[show (48:Int)+(level:Int)=((48+level:Nat):Int) by omega]
  have h24:((bitsL [66,90,104]).take (8*3)).length=24:=by decide
  refine W01.Put_spec (v:=48+level) (n:=8) H3 (by rw[h24];omega) (by omega) (by omega) (by omega) λw5 S5 H5=>?_;refine k b wb _ (S3.trans S5) ?_
  have e:(bitsL [66,90,104]).take (8*3)++bitsOf (48+level) 8=headB level:=by
   have:(bitsL [66,90,104]).take (8*3)=bitsOf 66 8++(bitsOf 90 8++bitsOf 104 8):=by decide
   rw[this];unfold headB;simp only[gI]
  rw[e] at H5;exact H5.swap
theorem magic_spec {m hi lo:Nat}{en:Bool}(hm:m=hi*16777216+lo) (hh:hi < 16777216) (hlo:lo < 16777216) (H:Holds w (blk b tSt (stC wb tot en)::W01.WrR wb bs n::L)) (hl:bs.length<=8000000000) (hn:n<=bs.length/8)
  (k:∀ w',Same w w'->Holds w' (blk b tSt (stC wb tot en)::W01.WrR wb (bs++bitsOf m 48) n::L)->K (.tuple #[]) w'):Cl prog 81 #[pt b,.int .u64 (m:Int)] w K:=by
 refine Tz81 ?_;unfold Vz81;refine r_nc (r_fo0 (r_ld 0 H rfl rfl ?_));refine Zex (n:=24) (by decide) ?_;rw[show m/2^24=hi by omega];refine Zan (by omega) (by omega) ?_;refine W01.Put_spec (v:=hi) (n:=24) H.swap (by omega) hn (by omega) (by omega) λw1 S1 H1=>?_;refine r_nc (r_fo0 (r_ld 1 H1 rfl rfl ?_));refine Yaz (t:=16777215) (by omega) (by omega) ?_;rw[show m &&& 16777215=lo by rw[show 16777215=2^24 - 1 by decide,Nat.and_two_pow_sub_one_eq_mod];omega];refine Zan (by omega) (by omega) ?_;refine W01.Put_spec (v:=lo) (n:=24) H1 (by rw[gD,Za1];omega) (by rw[gD];omega) (by omega) (by omega) λw2 S2 H2=>?_;refine k _ (S1.trans S2) ?_
 have e:bs++bitsOf hi 24++bitsOf lo 24=bs++bitsOf m 48:=by
  rw[gI]
  congr 1
  refine Q21.Zkx (by rw[gD,Za1,Za1]) ?_;rw[Q21.valB_app,Za1,Go.M10.valB_bitsOf _ _ (show hi < 2^24 by omega),Go.M10.valB_bitsOf _ _ (show lo < 2^24 by omega)];omega
 rw[e] at H2;exact H2.swap
theorem Turned_spec {s:List UInt8}{origin sum:Nat}(H:Holds w (blk b tSt (stC wb tot false)::W01.WrR wb bs n::L)) (hb:BndOk L) (h0:s≠[]) (hl:s.length<=900000) (ho:origin < s.length) (hs:sum < 4294967296) (ht:tot < 4294967296) (hbl:bs.length<=7000000000) (hn:n<=bs.length/8)
  (k:∀ picks ts w',Cho (W20.rowOf s) ((symsOf s).length+2) picks ts->Same w w'->Holds w' (blk b tSt (stC wb (comb tot sum) false)::W01.WrR wb (bs++(magW++blockBits s origin sum picks ts)) n::L)->K (iv 0) w'):Cl prog 80 #[pt b,S_ s,nv origin,uv sum] w K:=by
 refine Tz80 ?_;unfold Vz80;refine Za2 (λx w'=>w=w'/\x=.bool false) ?_ ?_
 rotate_left
 ·exact Zab (r_vf (r_nc (r_fo0 (r_ld 0 H rfl rfl (r_ke ⟨rfl,rfl⟩)))))
 rintro _ _ _ ⟨rfl,rfl⟩;refine r_vf ?_;refine Za2 (λx w'=>w=w'/\x=.bool false) ?_ ?_
 rotate_left
 ·refine q_len (r_gtr (r_vfD (by omega) ?_));refine r_lss (r_vfD (by omega) ?_);refine q_len (r_geq (r_ke ⟨rfl,?_⟩));rw[decide_eq_false (by omega)]
 rintro _ _ _ ⟨rfl,rfl⟩;refine r_vf ?_;refine magic_spec (m:=54156738319193) (hi:=3227993) (lo:=2511705) (by decide) (by decide) (by decide) H (by omega) hn λw1 S1 H1=>?_;refine r_nc (r_fo0 (r_ld 0 H1 rfl rfl ?_));refine U22.Zh6 ht hs ?_;refine r_nc (r_fo0 ?_);refine r_st 0 H1 rfl (by simp) rfl λw2 S2 H2=>?_;replace H2:Holds w2 (blk b tSt (stC wb (comb tot sum) false)::W01.WrR wb (bs++bitsOf 54156738319193 48) n::L):=H2;refine r_nc (r_fo0 (r_ld 0 H2 rfl rfl ?_));refine W20.Turned_spec (L:=blk b tSt (stC wb (comb tot sum) false)::L) H2.swap hb.up h0 hl ho hs (by rw[gD,Za1];omega) (by rw[gD];omega) λpicks ts w3 hC S3 H3=>?_;refine k picks ts _ hC (S1.trans (S2.trans S3)) ?_;rw[gI] at H3;exact H3.swap
theorem Zu4 {s:List UInt8}{sum:Nat}(H:Holds w (blk b tSt (stC wb tot false)::W01.WrR wb bs n::L)) (hb:BndOk L) (h0:s≠[]) (hl:s.length<=4000) (hs:sum < 4294967296) (ht:tot < 4294967296) (hbl:bs.length<=7000000000) (hn:n<=bs.length/8)
  (k:∀ B w',BodyBits s sum B->Same w w'->Holds w' (blk b tSt (stC wb (comb tot sum) false)::W01.WrR wb (bs++(magW++B)) n::L)->K (iv 0) w'):Cl prog 34 #[pt b,S_ s,uv sum] w K:=by
 refine Tz34 ?_;unfold Vz34;have hll:=M18.Zaq s;refine Za2 (λx w'=>w=w'/\x=.bool false) ?_ ?_
 rotate_left
 ·exact Zab (r_vf (r_nc (r_fo0 (r_ld 0 H rfl rfl (r_ke ⟨rfl,rfl⟩)))))
 rintro _ _ _ ⟨rfl,rfl⟩;refine r_vf ?_;refine S17.Of_spec H h0 hl λo w1 ho S1 H1=>?_;refine Zha (Zh2 (Zh0 (r_neq (r_vfN rfl ?_))));have hol:=Zq9 ho;refine Turned_spec H1 hb (Zdn h0) (by omega) (by omega) hs ht hbl hn λpicks ts w2 hC S2 H2=>?_;exact k _ w2 ⟨o,picks,ts,ho,hC,rfl⟩ (S1.trans S2) H2
theorem Yal (H:Holds w (blk b tSt (stC wb tot false)::W01.WrR wb bs n::L)) (ht:tot < 4294967296) (hbl:bs.length<=7000000000) (hn:n<=bs.length/8)
  (k:∀ w',Same w w'->Holds w' (blk b tSt (stC wb tot true)::W01.WrR wb (padB (bs++(endW++bitsOf tot 32))) n::L)->K (iv 0) w'):Cl prog 35 #[pt b] w K:=by
 refine Tz35 ?_;unfold Vz35;refine Za2 (λx w'=>w=w'/\x=.bool false) ?_ ?_
 rotate_left
 ·exact Zab (r_vf (r_nc (r_fo0 (r_ld 0 H rfl rfl (r_ke ⟨rfl,rfl⟩)))))
 rintro _ _ _ ⟨rfl,rfl⟩;refine r_vf ?_;refine magic_spec (m:=25779555029136) (hi:=1536581) (lo:=3690640) (by decide) (by decide) (by decide) H (by omega) hn λw1 S1 H1=>?_;refine r_dr H1 λw2 S2 H2=>?_;refine r_nc (r_fo0 (r_ld 0 H2 rfl rfl ?_));refine r_nc (r_fo0 (r_ld 0 H2 rfl rfl ?_));refine W01.Put_spec (v:=tot) (n:=32) H2.swap (by rw[gD,Za1];omega) (by rw[gD];omega) (by omega) (by omega) λw3 S3 H3=>?_;refine r_nc (r_fo0 (r_ld 1 H3 rfl rfl ?_));refine W20.Zz1 H3 (by simp only[gD,Za1];omega) (by simp only[gD];omega) λw4 S4 H4=>?_;refine r_nc (r_fo0 ?_);refine r_st 1 H4 rfl (by simp) rfl λw5 S5 H5=>?_;replace H5:Holds w5 (W01.WrR wb (padB (bs++bitsOf 25779555029136 48++bitsOf tot 32)) n::blk b tSt (stC wb tot true)::L):=H5;refine k _ (S1.trans (S2.trans (S3.trans (S4.trans S5)))) ?_;rw[gI] at H5;exact H5.swap
theorem Take_spec {en:Bool}(H:Holds w (blk b tSt (stC wb tot en)::W01.WrR wb bs n::L)) (k:∀ w',Same w w'->Holds w' (blk b tSt (stC wb tot en)::W01.WrR wb bs (bs.length/8)::L)->K (S_ ((wholeB bs).drop n)) w'):Cl prog 36 #[pt b] w K:=by
 refine Tz36 ?_;unfold Vz36;refine Zab (r_vf (r_nc (r_fo0 (r_ld 0 H rfl rfl ?_))));refine W01.Take_spec H.swap λw1 S1 H1=>?_;exact k _ S1 H1.swap
end W2s
namespace O2b
open T12
set_option maxRecDepth 1000000 in
theorem Zzi {W : World} (h : laidMet prog [("baler/tables.bounds", (Lib.tabData .i64 [200, 600, 1200, 2400] : DataW Unit))] W) : BndOk [whole W] := by
 have ht : Lib.TabIs prog W "baler/tables.bounds" .i64 [200, 600, 1200, 2400] := Lib.tabIs_of_head (g := 1) (t := 301) (e := 3) (n := 4) (by kernel_rfl) (by kernel_rfl) underlying301 underlying3 (by kernel_rfl) (by kernel_rfl) h; unfold Lib.TabIs World.var? at ht; rw [show prog.globalNamed "baler/tables.bounds" = some 1 by kernel_rfl] at ht; simp only [Option.bind_some] at ht; intro w' H'; obtain ⟨g, hg, hgs, _⟩ := H'
 cases ho:W.heap[1]? with
 |none=>rw[ho] at ht;cases ht
 |some o=>
  rw[ho] at ht
  cases o with
  |cells cs e z=>
   simp only[Option.some.injEq] at ht;subst ht;exact⟨e,z,hgs _ _ (hg _ _ ho)⟩
  |_=>cases ht
theorem tab_laidK {W:World}(h:laidMetH prog Rows.unstreamBackRow.laid W):BndOk [whole W]:=Zzi h
abbrev tG:Nat:=34
end O2b
end Go.Proofs.YtgaiocpkjaaphaaGreatDoor
