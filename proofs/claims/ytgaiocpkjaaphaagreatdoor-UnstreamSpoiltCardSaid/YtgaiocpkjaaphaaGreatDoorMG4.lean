/- Several texts in one: Q23, Ma, Q24, Qs, Q25, Sw, W2w, Y20, B20, B21, B2r, R3b, O2a, Y2l, P3s, Y21, Y2w, Rd, U22, W2s, Bd, W22, O2c, O2U. -/
import Derived.Test.YtgaiocpkjaaphaaGreatDoorMG2
import Derived.Test.YtgaiocpkjaaphaaGreatDoorMG3
import Derived.Test.YtgaiocpkjaaphaaGreatDoorMG0
import Derived.Deep.AppendSrc
import Derived.Deep.Upon
import Derived.Lib.UnsafeStr
import Derived.Test.YtgaiocpkjaaphaaGreatDoorMG1
import Derived.Test.YtgaiocpkjaaphaaGreatDoorFm
import Derived.Test.YtgaiocpkjaaphaaGreatDoorRows
import Derived.Lib.LaidTab
import Derived.LaidMore
import Derived.Lib.SmallJoins
set_option linter.unusedVariables false
set_option linter.unusedSimpArgs false
open List (append_assoc append_nil drop_drop drop_left drop_zero flatMap_append flatMap_cons flatMap_nil getD_eq_getElem?_getD getElem?_append_left getElem?_eq_getElem getElem_mem length_append length_cons length_map length_nil length_pos_iff length_replicate length_singleton length_take mem_append mem_cons mem_cons_of_mem mem_cons_self mem_of_mem_take mem_range nil_append replicate_succ' set_set take_add take_add_one take_append_of_le_length take_left take_length take_of_length_le)
namespace Go.Q23
open Go.M01 Go.Mb Go.Mp Go.M10 Go.Mc Go.Mz Go.Mk Go.Q20 Go.Q21 Go.Q22
theorem pstep_pos {p p':PS}{l:List Bool}{n:Nat}(h:pstep p l=.ok p' n):1<=n:=by
 unfold pstep at h
 repeat' split at h
 all_goals first
  |(cases h;omega)
  |cases h
theorem dstep_pos {p p':DS}{l:List Bool}{n:Nat}(h:dstep p l=.ok p' n):1<=n:=by
 unfold dstep turn at h
 repeat' split at h
 all_goals first
  |(cases h;omega)
  |cases h
theorem cstep_pos {c c':CS}{l:List Bool}{o:Option Nat}{n:Nat}(hc:c.Ok) (h:cstep c l=.ok (c',o) n):1<=n:=by
 unfold cstep at h;split at h
 ·unfold withPicks at h;split at h
  ·cases h
  ·cases h
  ·rename_i p k hp;cases h;exact pstep_pos hp
 ·rename_i hd;split at h
  ·unfold withLens at h;split at h
   ·cases h
   ·cases h
   ·rename_i d k hdl
    repeat' split at h
    all_goals first
     |(cases h;exact dstep_pos hdl)
     |cases h
  ·rename_i hlt;split at h
   ·cases h
   ·rename_i hg;unfold withSymbol at h;split at h
    ·cases h
    ·rename_i s k hs;cases h;obtain⟨x,h1,h2,h3,h4,h5⟩:=pick_lt hc (by simpa using hd) hlt hg;exact (code_get h4 hs).2.2.1
theorem uread_pos {l:List Bool}{T:Nat->Bool}{n:Nat}(h:uread l=.ok T n):1<=n/\n<=l.length/\listed T≠[]:=by
 unfold uread at h;split at h
 ·cases h
 ·split at h
  ·cases h
  ·split at h
   ·cases h
   ·cases h;exact⟨by omega,by omega,by assumption⟩
theorem bend_last {b b':BS}{k k':Nat}(h:bend b k=.ok b' k'):k'=k/\b'.last=b.last/\b'.room=b.room:=by
 unfold bend at h
 repeat' split at h
 all_goals first
  |(cases h;exact⟨rfl,rfl,rfl⟩)
  |cases h
theorem bstep_prog {b b':BS}{l:List Bool}{n:Nat}(hb:b.Ok) (h:bstep b l=.ok b' n):b'.room=b.room/\((1<=n/\b'.last=b.last)\/(n=0/\b'.last.length=b.last.length+1)):=by
 unfold bstep at h;split at h
 ·unfold bhead at h;split at h
  ·cases h
  ·split at h
   ·cases h
   ·have:=bend_last h;exact⟨this.2.2,.inl ⟨by omega,this.2.1⟩⟩
 ·split at h
  ·unfold buse at h;split at h
   ·cases h
   ·cases h
   ·rename_i T k hu;have:=bend_last h;exact⟨this.2.2,.inl ⟨by have:=uread_pos hu;omega,this.2.1⟩⟩
  ·rename_i r hr;split at h
   ·unfold bnext at h;have:=bend_last h;exact⟨this.2.2,.inr ⟨this.1,by rw[this.2.1];simp⟩⟩
   ·unfold bsym at h;have hco:=(hb.some_ r hr).2.1.code;split at h
    ·cases h
    ·cases h
    ·rename_i c k hc;have:=bend_last h;exact⟨this.2.2,.inl ⟨by have:=cstep_pos hco hc;omega,this.2.1⟩⟩
    ·rename_i c s k hc;unfold btold at h;split at h
     ·cases h
     ·have:=bend_last h;exact⟨this.2.2,.inl ⟨by have:=cstep_pos hco hc;omega,this.2.1⟩⟩
theorem last_room {b:BS}(hb:b.Ok):b.last.length<=b.room:=by
 cases hr:b.row with
 |none=>rw[(hb.none_ hr).1];exact Nat.zero_le _
 |some r=>
  obtain⟨h1,h2,h3,h4,h5⟩:=hb.some_ r hr;have:=h2.zeros.sum;omega
section
variable {room:Nat}{l:List Bool}
end
end Go.Q23
namespace Go.Ma
open Go.M01 Go.Mb Go.Mp Go.M10 Go.Mc Go.Mz Go.Mk Go.Q20 Go.Q21 Go.Q22 Go.Mw Go.Mx Go.Mv
theorem some_of {T:Nat->Bool}{i k:Nat}(hk:k < 16) (h:T (16*i+k)=true):someB T i=true:=by
 unfold someB;rw[List.any_eq_true];exact⟨k,mem_range.2 hk,h⟩
theorem whichB_at {T:Nat->Bool}{i:Nat}(h:i < 16):(whichB T 16).getD i false=someB T i:=by
 rw[whichB_get T 16 i h,decide_eq_true h,Bool.true_and]
theorem marks_which (T:Nat->Bool):marksL (whichB T 16)=(List.range 16).filter (someB T):=by
 unfold marksL;exact List.filter_congr λi hi=>whichB_at (mem_range.1 hi)
theorem cnt_which {T:Nat->Bool}{i:Nat}(h:i<=16):Q21.cnt (whichB T 16) i=((List.range i).filter (someB T)).length:=by
 unfold Q21.cnt
 congr 1
 exact List.filter_congr λj hj=>whichB_at (by have:=mem_range.1 hj;omega)
theorem rowsB_len16 (T:Nat->Bool):∀ j,(rowsB T j).length=16*((List.range j).filter (someB T)).length
 |0=>rfl
 |j+1=>by
  rw[rowsB,length_append,rowsB_len16 T j,List.range_succ,List.filter_append,length_append]
  cases h:someB T j with
  |true=>rw[if_pos rfl,bitR_len,List.filter_cons_of_pos h];simp;omega
  |false=>rw[if_neg (by simp),List.filter_cons_of_neg (by simp[h])];simp
theorem rowsB_pre (T:Nat->Bool) (j:Nat):∀ d,∃ r,rowsB T (j+d)=rowsB T j++r
 |0=>⟨[],by simp⟩
 |d+1=>by
  obtain⟨r,hr⟩:=rowsB_pre T j d;exact⟨r++_,by rw[<-Nat.add_assoc,rowsB,hr,append_assoc]⟩
theorem usedB_len16 (T:Nat->Bool):(usedB T).length=16+16*((List.range 16).filter (someB T)).length:=by
 unfold usedB;rw[length_append,whichB_len,rowsB_len16]
theorem used_back (T:Nat->Bool) (rest:List Bool) (hne:listed T≠[]):∃ T',uread (usedB T++rest)=.ok T' (usedB T).length/\listed T'=listed T:=by
 have hl:=usedB_len16 T
 have ht:(usedB T++rest).take 16=whichB T 16:=by
  unfold usedB;rw[append_assoc,take_append_of_le_length (by rw[whichB_len];exact Nat.le_refl _),take_of_length_le (by rw[whichB_len];exact Nat.le_refl _)]
 have hT:∀ b,b < 256->usedOf (usedB T++rest) b=T b:=by
  intro b hb
  have hi:b/16 < 16:=by omega
  have hk:b%16 < 16:=Nat.mod_lt _ (by decide);have h1:=used_at (l:=usedB T++rest) hi hk (by rw[length_append,hl];omega);rw[show 16*(b/16)+b%16=b by omega,ht,cnt_which (by omega)] at h1;rw[h1]
  have h2:(usedB T++rest).getD (b/16) false=someB T (b/16):=by
   rw[<-whichB_at hi];unfold usedB;rw[append_assoc,getD_eq_getElem?_getD,getD_eq_getElem?_getD,getElem?_append_left (by rw[whichB_len];exact hi)]
  rw[h2]
  cases hs:someB T (b/16) with
  |false=>
   rw[Bool.false_and]
   cases hb2:T b with
   |false=>rfl
   |true=>
    have:=some_of (T:=T) (i:=b/16) hk (by rw[show 16*(b/16)+b%16=b by omega];exact hb2);rw[hs] at this;cases this
  |true=>
   rw[Bool.true_and];obtain⟨r,hr⟩:=rowsB_pre T (b/16+1) (15 - b/16)
   have hr2:rowsB T (b/16+1)=rowsB T (b/16)++bitR T (b/16):=by rw[rowsB,hs,if_pos rfl]
   rw[show b/16+1+(15 - b/16)=16 by omega,hr2] at hr
   have h3:(usedB T++rest)=whichB T 16++(rowsB T (b/16)++(bitR T (b/16)++(r++rest))):=by
    unfold usedB;rw[hr];simp only[append_assoc]
   have h4:=rowsB_len16 T (b/16)
   rw[h3,getD_eq_getElem?_getD,List.getElem?_append_right (by rw[whichB_len];omega),whichB_len,List.getElem?_append_right (by omega),h4,
    show 16+16*((List.range (b/16)).filter (someB T)).length+b%16 - 16 - 16*((List.range (b/16)).filter (someB T)).length=b%16 by omega,
    getElem?_append_left (by rw[bitR_len];exact hk),<-getD_eq_getElem?_getD,bitR_get _ _ _ hk]
   congr 1
   omega
 have hL:listed (usedOf (usedB T++rest))=listed T:=by
  unfold listed
  congr 1
  exact List.filter_congr λb hb=>hT b (mem_range.1 hb)
 refine⟨usedOf (usedB T++rest),?_,hL⟩;unfold uread;rw[ht,marks_which,if_neg (by rw[length_append,hl];omega),if_neg (by rw[length_append,hl];omega),hl]
 have e:usedT ((List.range 16).filter (someB T)) ((usedB T++rest).drop 16)=usedOf (usedB T++rest):=by
  unfold usedOf;rw[ht,marks_which]
 rw[e,if_neg (by rw[hL];exact hne)]
theorem mtf_back (o:List UInt8) (s:List UInt8) (hs:∀ c∈s,c∈o):mall o (mtfE o s).2=((mtfE o s).1,s):=by
 have key:∀ i,i<=s.length->mall o (mtfE o (s.take i)).2=((mtfE o (s.take i)).1,s.take i):=by
  intro i
  induction i with
  |zero=>intro _;rfl
  |succ i ih=>
   intro hi
   have e:s.take (i+1)=s.take i++[s[i]]:=by rw[take_add_one,getElem?_eq_getElem (by omega)];rfl
   have hm:=(mtfE_inv (o:=o) (s:=s.take i) λc hc=>hs c (mem_of_mem_take hc)).1;have hc:s[i]∈(mtfE o (s.take i)).1:=(hm _).2 (hs _ (getElem_mem _));rw[e,mtfE_snoc];unfold mE;simp only;rw[mall_snoc,ih (by omega)];unfold mstep;simp only;rw[idx_at hc]
 have:=key s.length (Nat.le_refl _);rw[take_length] at this;exact this
def zfold (x:Option (ZS × List Nat)) (L:List Nat):Option (ZS × List Nat):=L.foldl zstep x
theorem zfold_one (x:Option (ZS × List Nat)) (c:Nat):zfold x [c]=zstep x c:=rfl
theorem zfold_app (x:Option (ZS × List Nat)) (A B:List Nat):zfold x (A++B)=zfold (zfold x A) B:=by simp[zfold]
theorem foldl_valR:∀ (r:List Nat) (a w:Nat),r.foldl (λx c=>(x.1+x.2*2^c,2*x.2)) (a,w)=(a+w*(valR r).1,w*(valR r).2)
 |[],a,w=>by simp[valR]
 |c::r,a,w=>by
  have h1:=foldl_valR r (a+w*2^c) (2*w);have h2:=foldl_valR r (0+1*2^c) (2*1)
  have e:valR (c::r)=(0+1*2^c+2*1*(valR r).1,2*1*(valR r).2):=by rw[<-h2];rfl
  rw[List.foldl_cons,h1,e];refine Prod.ext ?_ ?_
  ·show a+w*2^c+2*w*(valR r).1=a+w*(0+1*2^c+2*1*(valR r).1);rw[Nat.mul_add,Nat.zero_add,Nat.one_mul,Nat.mul_one,<-Nat.mul_assoc,Nat.mul_comm w 2,Nat.add_assoc]
  ·show 2*w*(valR r).2=w*(2*1*(valR r).2);rw[Nat.mul_one,<-Nat.mul_assoc,Nat.mul_comm w 2]
theorem valR_cons (c:Nat) (r:List Nat):(valR (c::r)).1=2^c+2*(valR r).1:=by
 have h2:=foldl_valR r (0+1*2^c) (2*1)
 have e:valR (c::r)=(0+1*2^c+2*1*(valR r).1,2*1*(valR r).2):=by rw[<-h2];rfl
 rw[e];simp
theorem valR_rowZ:∀ (n m:Nat),m<=n->(valR (rowZ m)).1=m
 |0,m,h=>by
  rw[show m=0 by omega,rowZ_zero];rfl
 |n+1,m,h=>by
  by_cases hm:m=0
  ·subst hm;rw[rowZ_zero];rfl
  ·rw[rowZ_pos hm,valR_cons,valR_rowZ n _ (by omega)];split
   ·simp;omega
   ·simp;omega
theorem zrow_run (n most told:Nat) (pl:List Nat) (hd:Bool):∀ (row:List Nat),(∀ c∈row,c<=1)->told+(valR row).1<=most->
  zfold (some (⟨n,most,told,0,1,hd⟩,pl)) row=some (⟨n,most,told,(valR row).1,(valR row).2,if row=[] then hd else false⟩,pl):=by
 intro row;refine snocRec (motive:=λrow=>(∀ c∈row,c<=1)->told+(valR row).1<=most->zfold (some (⟨n,most,told,0,1,hd⟩,pl)) row=some (⟨n,most,told,(valR row).1,(valR row).2,if row=[] then hd else false⟩,pl)) row ?_ ?_
 ·intro _ _;rfl
 ·intro t c ih hc hm;have h1:=(valR_mono t [c]).1;rw[zfold_app,ih (λx hx=>hc x (List.mem_append_left _ hx)) (by omega)];rw[zfold_one];have hc1:=hc c (by simp);rw[valR_snoc] at hm ⊢;simp only at hm;unfold zstep zput;simp only;rw[if_pos hc1,if_neg (by omega)]
  have e1:¬ t++[c]=[]:=by simp
  simp only[if_neg e1,zone];simp[Nat.mul_comm]
theorem zeros_back {n room:Nat}{l:List Nat}(hn:1<=n) (hp:∀ p∈l,p < n) (hl:l.length<=room):∃ z,zall (z0 n room) (rowE l n)=some (z,l):=by
 have key:∀ i,i<=l.length->∃ hd,zfold (some (z0 n room,[])) (zenc (l.take i)).1=some (⟨n,room,i - (zenc (l.take i)).2,0,1,hd⟩,(l.take i).take (i - (zenc (l.take i)).2))/\
   (zenc (l.take i)).2<=i/\l.take i=(l.take i).take (i - (zenc (l.take i)).2)++List.replicate (zenc (l.take i)).2 0:=by
  intro i
  induction i with
  |zero=>intro _;exact⟨false,rfl,Nat.le_refl _,by simp[zenc]⟩
  |succ i ih=>
   intro hi;obtain⟨hd,h1,h2,h3⟩:=ih (by omega)
   have e:l.take (i+1)=l.take i++[l[i]]:=by rw[take_add_one,getElem?_eq_getElem (by omega)];rfl
   have hpi:=hp _ (getElem_mem (show i < l.length by omega))
   have hlen:(l.take i).length=i:=by rw[length_take];omega
   rw[e,zenc_snoc];generalize hq:l[i]=p at *;generalize hz:zenc (l.take i)=x at *;obtain⟨A,m⟩:=x;simp only at h1 h2 h3;unfold zE
   by_cases h0:p=0
   ·rw[if_pos h0];simp only;refine⟨hd,?_,by omega,?_⟩
    ·rw[h1,show i+1 - (m+1)=i - m by omega,take_append_of_le_length (by omega)]
    ·rw[show i+1 - (m+1)=i - m by omega,take_append_of_le_length (by omega),replicate_succ',<-append_assoc,<-h3,h0]
   ·rw[if_neg h0];simp only;have hlr:(l.take i).take (i - m)++List.replicate m 0=l.take i:=h3.symm;refine⟨false,?_,Nat.zero_le _,by rw[Nat.sub_zero,take_of_length_le (i:=i+1) (l:=l.take i++[p]) (by rw[length_append,hlen];exact Nat.le_refl _)];simp⟩;rw[zfold_app,zfold_app,h1,zrow_run n room (i - m) _ hd (rowZ m) (rowZ_le m) (by rw[valR_rowZ m m (Nat.le_refl _)];omega),valR_rowZ m m (Nat.le_refl _)];rw[zfold_one];unfold zstep zput;simp only;rw[if_neg (by omega),if_neg (by omega),if_neg (by omega)];simp only[zone];rw[if_pos (by omega),show i - m+1+m=i+1 by omega,Nat.sub_zero]
    have e3:(((p+1:Nat):Int) - 1).toNat=p:=by omega
    rw[e3,<-append_assoc,hlr,take_of_length_le (i:=i+1) (l:=l.take i++[p]) (by rw[length_append,hlen];exact Nat.le_refl _)]
 obtain⟨hd,h1,h2,h3⟩:=key l.length (Nat.le_refl _);rw[take_length] at h1 h2 h3;generalize hz:zenc l=x at *;obtain⟨A,m⟩:=x;simp only at h1 h2 h3
 have hrow:rowE l n=A++rowZ m++[n+1]:=by unfold rowE;rw[hz]
 refine⟨⟨n,room,l.length - m+m,0,1,true⟩,?_⟩;show zfold (some (z0 n room,[])) (rowE l n)=_;rw[hrow,zfold_app,zfold_app,h1,zrow_run n room (l.length - m) _ hd (rowZ m) (rowZ_le m) (by rw[valR_rowZ m m (Nat.le_refl _)];omega),valR_rowZ m m (Nat.le_refl _)];rw[zfold_one];unfold zstep zput;simp only;rw[if_neg (by omega),if_pos trivial];simp only[zone];rw[if_neg (by omega),append_nil,<-h3]
theorem lead_rep (a:Nat) (rest:List Bool):lead (List.replicate a true++(false::rest))=a:=by
 induction a with
 |zero=>rfl
 |succ a ih=>rw[List.replicate_succ,List.cons_append,lead,ih]
theorem front_take {o:List Nat}{i t:Nat}(hi:i < t) (ht:t<=o.length) (p:Nat):p∈(front o i).take t↔p∈o.take t:=by
 have h1:o.take t=o.take i++o.getD i 0::(o.drop (i+1)).take (t - 1 - i):=by
  rw[show t=i+(1+(t - 1 - i)) by omega,take_add,List.drop_eq_getElem_cons (by omega),Nat.add_comm 1,List.take_succ_cons,getD_eq_getElem?_getD,getElem?_eq_getElem (by omega)];simp
 have h2:(front o i).take t=o.getD i 0::(o.take i++(o.drop (i+1)).take (t - 1 - i)):=by
  unfold front;obtain⟨u,hu⟩:∃ u,t=u+1:=⟨t - 1,by omega⟩;subst hu
  have hl:(o.take i).length=i:=by rw[length_take];omega
  rw[List.take_succ_cons,List.take_append,hl,take_of_length_le (by omega),show u+1 - 1 - i=u - i by omega]
 rw[h1,h2];simp only[mem_cons,mem_append]
 constructor
 ·rintro (h|h|h)
  ·exact .inr (.inl h)
  ·exact .inl h
  ·exact .inr (.inr h)
 ·rintro (h|h|h)
  ·exact .inr (.inl h)
  ·exact .inl h
  ·exact .inr (.inr h)
theorem idx_take {o:List Nat}{t p:Nat}(h:p∈o.take t):o.idxOf p < t:=by
 have e:o=o.take t++o.drop t:=(List.take_append_drop t o).symm
 have h1:o.idxOf p=(o.take t).idxOf p:=by
  conv=>lhs;rw[e]
  rw[List.idxOf_append,if_pos h]
 rw[h1];have:=List.idxOf_lt_length_of_mem h;rw[length_take] at this;omega
theorem picks_back {picks:List Nat}{t:Nat}(ht:2<=t/\t<=6) (h0:picks≠[]) (hl:picks.length<=32767) (hp:∀ p∈picks,p < t) (rest:List Bool) :
  ∃ p,PRun (picksB picks t++rest) p (picksB picks t).length/\p.t=t/\p.picks=picks/\p.done=true:=by
 have hpos:=length_pos_iff.2 h0;have h3:(bitsOf t 3).length=3:=bitsOf_len _ _;have h15:(bitsOf picks.length 15).length=15:=bitsOf_len _ _;generalize hl0:picksB picks t++rest=l
 have hl1:l=bitsOf t 3++(bitsOf picks.length 15++(onesB (pickE [0,1,2,3,4,5] picks).2++rest)):=by rw[<-hl0];unfold picksB;simp only[append_assoc]
 have hlen18:18<=l.length:=by rw[hl1];simp only[length_append];omega
 have hv:=valB_18 hlen18
 have e3:l.take 3=bitsOf t 3:=by rw[hl1,take_append_of_le_length (by omega),take_of_length_le (by omega)]
 have e15:(l.drop 3).take 15=bitsOf picks.length 15:=by
  rw[hl1,List.drop_append_of_le_length (by omega),List.drop_of_length_le (by omega),nil_append,take_append_of_le_length (by omega),take_of_length_le (by omega)]
 rw[e3,e15,valB_bitsOf _ _ (show t < 2^3 by omega),valB_bitsOf _ _ (show picks.length < 2^15 by omega)] at hv
 have hstart:PRun l ⟨t,picks.length,[0,1,2,3,4,5],[]⟩ (0+18):=by
  refine Run.next .start rfl ?_;rw[drop_zero];unfold pstep;rw[if_pos (show p0.count=0 from rfl),if_neg (by omega),hv.1,hv.2,if_neg (by omega)];rfl
 have key:∀ i,i<=picks.length->PRun l ⟨t,picks.length,(pickE [0,1,2,3,4,5] (picks.take i)).1,picks.take i⟩ (18+(onesB (pickE [0,1,2,3,4,5] (picks.take i)).2).length)/\
   (∀ p,p < t->p∈(pickE [0,1,2,3,4,5] (picks.take i)).1.take t)/\(pickE [0,1,2,3,4,5] (picks.take i)).1.length=6:=by
  intro i
  induction i with
  |zero=>
   intro _;refine⟨hstart,λp hp=>?_,rfl⟩;show p∈([0,1,2,3,4,5]:List Nat).take t;have ht2:=ht.2
   have e:([0,1,2,3,4,5]:List Nat).take t=List.range t:=by
    rcases (show t=2\/t=3\/t=4\/t=5\/t=6 by omega) with h|h|h|h|h <;> subst h <;> rfl
   rw[e];exact mem_range.2 hp
  |succ i ih=>
   intro hi;obtain⟨hr,hm,h6⟩:=ih (by omega)
   have e:picks.take (i+1)=picks.take i++[picks[i]]:=by rw[take_add_one,getElem?_eq_getElem (by omega)];rfl
   have hpi:=hp _ (getElem_mem (show i < picks.length by omega))
   have hsplit:(pickE [0,1,2,3,4,5] picks).2=(pickE [0,1,2,3,4,5] (picks.take (i+1))).2++((pickE [0,1,2,3,4,5] picks).2).drop (i+1):=by
    have hpre:∀ d,∃ r,(pickE [0,1,2,3,4,5] (picks.take (i+1+d))).2=(pickE [0,1,2,3,4,5] (picks.take (i+1))).2++r:=by
     intro d
     induction d with
     |zero=>exact⟨[],by simp⟩
     |succ d ihd=>
      obtain⟨r,hr⟩:=ihd;rcases Nat.lt_or_ge (i+1+d) picks.length with q|q
      ·have e5:picks.take (i+1+(d+1))=picks.take (i+1+d)++[picks[i+1+d]]:=by rw[<-Nat.add_assoc,take_add_one,getElem?_eq_getElem q];rfl
       rw[e5,pickE_snoc];unfold pE;simp only;exact⟨r++_,by rw[hr,append_assoc]⟩
      ·have e5:picks.take (i+1+(d+1))=picks.take (i+1+d):=by rw[take_of_length_le (i:=i+1+(d+1)) (by omega),take_of_length_le (i:=i+1+d) (by omega)]
       rw[e5];exact⟨r,hr⟩
    obtain⟨r,hr⟩:=hpre (picks.length - (i+1));rw[show i+1+(picks.length - (i+1))=picks.length by omega,take_length] at hr
    have hlen:(pickE [0,1,2,3,4,5] (picks.take (i+1))).2.length=i+1:=by
     have:=(pickE_inv (o:=[0,1,2,3,4,5]) (l:=picks.take (i+1)) λc hc=>by
      have:=hp c (mem_of_mem_take hc)
      rcases (show c=0\/c=1\/c=2\/c=3\/c=4\/c=5 by omega) with h|h|h|h|h|h <;> rw[h] <;> simp).2.2.1
     rw[this,length_take];omega
    rw[hr,List.drop_append_of_le_length (by omega),List.drop_of_length_le (by omega),nil_append]
   rw[e,pickE_snoc] at hsplit ⊢;generalize hx:pickE [0,1,2,3,4,5] (picks.take i)=x at *;obtain⟨O,A⟩:=x;unfold pE at hsplit ⊢;simp only at hr hm h6 hsplit ⊢;have hc:=hm _ hpi;have ha:=idx_take hc;have hcm:picks[i]∈O:=mem_of_mem_take hc;generalize hq:picks[i]=c at *
   have hdrop:l.drop (18+(onesB A).length)=List.replicate (O.idxOf c) true++(false::(onesB (((pickE [0,1,2,3,4,5] picks).2).drop (i+1))++rest)):=by
    rw[hl1]
    have e6:onesB (pickE [0,1,2,3,4,5] picks).2=onesB A++(List.replicate (O.idxOf c) true++[false])++onesB (((pickE [0,1,2,3,4,5] picks).2).drop (i+1)):=by
     conv=>lhs;rw[hsplit]
     simp only[onesB,flatMap_append,flatMap_cons,flatMap_nil,append_nil]
    rw[e6]
    have e7:bitsOf t 3++(bitsOf picks.length 15++(onesB A++(List.replicate (O.idxOf c) true++[false])++onesB (((pickE [0,1,2,3,4,5] picks).2).drop (i+1))++rest)) =
      (bitsOf t 3++bitsOf picks.length 15++onesB A)++(List.replicate (O.idxOf c) true++(false::(onesB (((pickE [0,1,2,3,4,5] picks).2).drop (i+1))++rest))):=by
     simp only[append_assoc,List.cons_append,nil_append]
    rw[e7,List.drop_append_of_le_length (by simp only[length_append];omega),List.drop_of_length_le (by simp only[length_append];omega),nil_append]
   have hlead:lead (l.drop (18+(onesB A).length))=O.idxOf c:=by rw[hdrop,lead_rep]
   refine⟨?_,λp hp=>(front_take ha (by omega) p).2 (hm p hp),by rw[front_len (List.idxOf_lt_length_of_mem hcm)];exact h6⟩
   have hstep:=Run.next (n:=O.idxOf c+1) (s':=⟨t,picks.length,front O (O.idxOf c),picks.take i++[c]⟩) hr (by
    unfold PS.done
    exact decide_eq_false (by simp only[length_take];omega)) (by
    unfold pstep;simp only
    rw[if_neg (by omega),hlead,if_neg (by omega),if_neg (by rw[hdrop,length_append,length_replicate,length_cons];omega),idxN_at hcm])
   rw[onesB_snoc,length_append,length_append,length_replicate,length_singleton,<-Nat.add_assoc];exact hstep
 obtain⟨hr,_,_⟩:=key picks.length (Nat.le_refl _);rw[take_length] at hr
 have hlb:(picksB picks t).length=18+(onesB (pickE [0,1,2,3,4,5] picks).2).length:=by
  unfold picksB;rw[length_append,length_append,h3,h15]
 rw[hlb];refine⟨_,hr,rfl,rfl,?_⟩;unfold PS.done;exact decide_eq_true ⟨hpos,rfl⟩
theorem turn_ok {d:DS}{n:Nat}{k:Nat}(h:1<=n/\n<=20):turn d (n:Int) k=.ok ⟨d.size,n,d.lens⟩ k:=by
 unfold turn;rw[if_neg (by omega)];rfl
theorem flat_rep (j:Nat) (x y:Bool):(List.replicate j [x,y]).flatten.length=2*j:=by
 induction j with
 |zero=>rfl
 |succ j ih=>rw[List.replicate_succ,List.flatten_cons,length_append,ih];simp;omega
theorem ups {size:Nat}{l rest:List Bool}{lens:List Nat}{a:Nat}(hd:lens.length < size) (ha:1<=a):∀ (j k:Nat),a+j<=20->DRun size l ⟨size,a,lens⟩ k->l.drop k=(List.replicate j [true,false]).flatten++rest->DRun size l ⟨size,a+j,lens⟩ (k+2*j)/\l.drop (k+2*j)=rest
 |0,k,_,hr,he=>⟨hr,by rw[Nat.mul_zero,Nat.add_zero,he];rfl⟩
 |j+1,k,hj,hr,he=>by
  rw[replicate_succ',List.flatten_append] at he
  have he2:l.drop k=(List.replicate j [true,false]).flatten++([true,false]++rest):=by rw[he];simp
  have ih:=ups (rest:=[true,false]++rest) hd ha j k (by omega) hr he2
  have hs:=Run.next (n:=2) (s':=⟨size,a+(j+1),lens⟩) ih.1 (by unfold DS.done;exact decide_eq_false (by simp only;omega)) (by
   rw[ih.2];unfold dstep;simp only;rw[if_neg (by omega)];show turn _ (((a+j:Nat):Int)+1 - 2*((false.toNat:Nat):Int)) 2=_;rw[show ((a+j:Nat):Int)+1 - 2*((false.toNat:Nat):Int)=((a+(j+1):Nat):Int) by simp;omega]
   exact turn_ok (by omega))
  refine⟨by rw[show k+2*(j+1)=k+2*j+2 by omega];exact hs,?_⟩;rw[show k+2*(j+1)=k+2*j+2 by omega,<-drop_drop,ih.2];rfl
theorem downs {size:Nat}{l rest:List Bool}{lens:List Nat}{a:Nat}(hd:lens.length < size) (ha:a<=20):∀ (j k:Nat),j+1<=a->DRun size l ⟨size,a,lens⟩ k->l.drop k=(List.replicate j [true,true]).flatten++rest->DRun size l ⟨size,a - j,lens⟩ (k+2*j)/\l.drop (k+2*j)=rest
 |0,k,_,hr,he=>⟨hr,by rw[Nat.mul_zero,Nat.add_zero,he];rfl⟩
 |j+1,k,hj,hr,he=>by
  rw[replicate_succ',List.flatten_append] at he
  have he2:l.drop k=(List.replicate j [true,true]).flatten++([true,true]++rest):=by rw[he];simp
  have ih:=downs (rest:=[true,true]++rest) hd ha j k (by omega) hr he2
  have hs:=Run.next (n:=2) (s':=⟨size,a - (j+1),lens⟩) ih.1 (by unfold DS.done;exact decide_eq_false (by simp only;omega)) (by
   rw[ih.2];unfold dstep;simp only;rw[if_neg (by omega)];show turn _ (((a - j:Nat):Int)+1 - 2*((true.toNat:Nat):Int)) 2=_;rw[show ((a - j:Nat):Int)+1 - 2*((true.toNat:Nat):Int)=((a - (j+1):Nat):Int) by simp;omega]
   exact turn_ok (by omega))
  refine⟨by rw[show k+2*(j+1)=k+2*j+2 by omega];exact hs,?_⟩;rw[show k+2*(j+1)=k+2*j+2 by omega,<-drop_drop,ih.2];rfl
theorem stepsB_run {size:Nat}{l rest:List Bool}:∀ (xs lens:List Nat) (a k:Nat),lens.length+xs.length<=size->1<=a/\a<=20->(∀ x∈xs,1<=x/\x<=20)->DRun size l ⟨size,a,lens⟩ k->l.drop k=stepsB a xs++rest->
  ∃ b,DRun size l ⟨size,b,lens++xs⟩ (k+(stepsB a xs).length)/\l.drop (k+(stepsB a xs).length)=rest
 |[],lens,a,k,_,_,_,hr,he=>⟨a,by rw[append_nil];exact hr,he⟩
 |x::xs,lens,a,k,hs,ha,hx,hr,he=>by
  have hx0:=hx x (mem_cons_self ..);simp only[length_cons] at hs
  have e:stepsB a (x::xs)=moves a x++[false]++stepsB x xs:=by rfl
  rw[e] at he ⊢
  have he1:l.drop k=(List.replicate (x - a) [true,false]).flatten++((List.replicate (a - x) [true,true]).flatten++([false]++(stepsB x xs++rest))):=by
   rw[he];unfold moves;simp only[append_assoc]
  obtain⟨r1,d1⟩:=ups (by omega) ha.1 (x - a) k (by omega) hr he1;have h2:DRun size l ⟨size,a+(x - a) - (a - x),lens⟩ (k+2*(x - a)+2*(a - x))/\l.drop (k+2*(x - a)+2*(a - x))=[false]++(stepsB x xs++rest):=downs (by omega) (by omega) (a - x) _ (by omega) r1 d1;rw[show a+(x - a) - (a - x)=x by omega] at h2;obtain⟨r2,d2⟩:=h2
  have r3:=Run.next (n:=1) (s':=⟨size,x,lens++[x]⟩) r2 (by unfold DS.done;exact decide_eq_false (by simp only;omega)) (by
   rw[d2];unfold dstep;simp only;rw[if_neg (by omega)]
   rfl)
  have d3:l.drop (k+2*(x - a)+2*(a - x)+1)=stepsB x xs++rest:=by rw[<-drop_drop,d2];rfl
  have hml:(moves a x).length=2*(x - a)+2*(a - x):=by unfold moves;rw[length_append,flat_rep,flat_rep]
  obtain⟨b,r4,d4⟩:=stepsB_run xs (lens++[x]) x _ (by rw[length_append,length_singleton];omega) hx0 (λy hy=>hx y (mem_cons_of_mem _ hy)) r3 d3;refine⟨b,?_,?_⟩
  ·rw[length_append,length_append,length_singleton,hml,show k+(2*(x - a)+2*(a - x)+1+(stepsB x xs).length)=k+2*(x - a)+2*(a - x)+1+(stepsB x xs).length by omega];rw[append_assoc] at r4;exact r4
  ·rw[length_append,length_append,length_singleton,hml,show k+(2*(x - a)+2*(a - x)+1+(stepsB x xs).length)=k+2*(x - a)+2*(a - x)+1+(stepsB x xs).length by omega];exact d4
theorem lens_back {lens:List Nat}(hne:lens≠[]) (hs:Sized lens) (rest:List Bool):∃ d,DRun lens.length (lensB lens++rest) d (lensB lens).length/\d.lens=lens/\d.done=true:=by
 have hpos:=length_pos_iff.2 hne
 have h0:1<=lens.getD 0 0/\lens.getD 0 0<=20:=by
  rw[getD_eq_getElem?_getD,getElem?_eq_getElem hpos];exact hs _ (getElem_mem hpos)
 have h5:(bitsOf (lens.getD 0 0) 5).length=5:=bitsOf_len _ _;generalize ha:lens.getD 0 0=a at *
 have hl:lensB lens++rest=bitsOf a 5++(stepsB a lens++rest):=by unfold lensB;rw[ha,append_assoc]
 have hstart:DRun lens.length (lensB lens++rest) ⟨lens.length,a,[]⟩ (0+5):=by
  refine Run.next .start (by unfold DS.done d0;exact decide_eq_false (by simp only[length_nil];omega)) ?_;rw[drop_zero,hl];unfold dstep d0;simp only;rw[if_pos trivial,if_neg (by simp only[length_append];omega),take_append_of_le_length (by omega),take_of_length_le (by omega),valB_bitsOf _ _ (show a < 2^5 by omega)];exact turn_ok h0
 have hdrop:(lensB lens++rest).drop (0+5)=stepsB a lens++rest:=by
  rw[hl,List.drop_append_of_le_length (by omega),List.drop_of_length_le (by omega),nil_append]
 obtain⟨b,hr,_⟩:=stepsB_run lens [] a _ (by simp) h0 hs hstart hdrop
 have e:(lensB lens).length=0+5+(stepsB a lens).length:=by unfold lensB;rw[ha,length_append,h5]
 refine⟨_,by rw[e];exact hr,rfl,?_⟩;unfold DS.done;exact decide_eq_true (by simp)
end Go.Ma
namespace Go.Q24
open Go.M01 Go.Mb Go.Mp Go.M10 Go.Mc Go.Mz Go.Mk Go.Q20 Go.M02 Go.M03 Go.M20
structure US where
 unit:Nat
 due:Nat
 at_:Nat
 level:Nat
 blk:Option BS
 last:List UInt8
 frm:Nat
 sum:Nat
 total:Nat
 ended:Bool
def u0 (unit:Nat):US:=⟨unit,0,0,0,none,[],0,0,0,false⟩
def US.mayEnd (u:US):Bool:=u.ended&&decide (u.due=0)&&decide (u.at_=0)
def letters:List Nat:=[66,90,104]
def uletter (u:US) (l:List Bool):Res (US × Nat):=
 if l.length < 8 then .short
 else if u.at_ < 3 then
  if valB (l.take 8)=letters.getD u.at_ 0 then .ok (⟨u.unit,u.due,u.at_+1,u.level,u.blk,u.last,u.frm,u.sum,u.total,u.ended⟩,0) 8 else .bad 20
 else if valB (l.take 8) < 49\/57 < valB (l.take 8) then .bad 20
 else .ok (⟨u.unit,1,0,valB (l.take 8) - 48,u.blk,u.last,u.frm,u.sum,0,u.ended⟩,0) 8
def umagic (u:US) (l:List Bool):Res (US × Nat):=
 if l.length < 48 then .short
 else if valB (l.take 48)=54156738319193 then .ok (⟨u.unit,2,u.at_,u.level,some (b0 (u.level*u.unit)),u.last,u.frm,u.sum,u.total,u.ended⟩,0) 48
 else if valB (l.take 48)=25779555029136 then .ok (⟨u.unit,3,u.at_,u.level,u.blk,u.last,u.frm,u.sum,u.total,u.ended⟩,0) 48
 else .bad 20
def uwith (u:US):Res BS->Res (US × Nat)
 |.short=>.short
 |.bad e=>.bad e
 |.ok b n=>if b.done=true then .ok (⟨u.unit,1,u.at_,u.level,none,b.last,b.frm,b.sum,comb u.total b.sum,u.ended⟩,1) n
  else .ok (⟨u.unit,u.due,u.at_,u.level,some b,u.last,u.frm,u.sum,u.total,u.ended⟩,0) n
def ubody (u:US) (l:List Bool):Res (US × Nat):=match u.blk with
 |none=>.bad 7
 |some b=>uwith u (bstep b l)
def usum (u:US) (l:List Bool):Res (US × Nat):=
 if l.length < 32 then .short
 else if valB (l.take 32)=u.total then .ok (⟨u.unit,0,u.at_,u.level,u.blk,u.last,u.frm,u.sum,u.total,true⟩,2) (32+(l.length - 32)%8)
 else .bad 21
def ustep (u:US) (l:List Bool):Res (US × Nat):=
 if u.due=0 then uletter u l else if u.due=1 then umagic u l else if u.due=2 then ubody u l else usum u l
structure US.Ok (u:US):Prop where
 unit:24<=u.unit/\u.unit<=100000
 due:u.due<=3
 at_:u.at_<=3
 at0:u.due≠0->u.at_=0
 lev:u.level<=9
 lev1:u.due≠0->1<=u.level
 blk:∀ b,u.blk=some b->u.due=2/\b.Ok/\b.done=false/\b.room=u.level*u.unit
 body:u.due=2->u.blk≠none
 last:u.last.length<=900000
 frm:u.frm < 16777216
 sum:u.sum < 4294967296
 total:u.total < 4294967296
theorem u0_ok {unit:Nat}(h:24<=unit/\unit<=100000):(u0 unit).Ok:=
 ⟨h,by simp[u0],by simp[u0],λ_=>rfl,by simp[u0],λh=>absurd rfl h,λb h=>by simp[u0] at h,λh=>by simp[u0] at h,by simp[u0],by simp[u0],by simp[u0],by simp[u0]⟩
theorem US.Ok.none_ {u:US}(h:u.Ok) (hd:u.due≠2):u.blk=none:=by
 cases hb:u.blk with
 |none=>rfl
 |some b=>exact absurd (h.blk b hb).1 hd
theorem bstep_okB {b b':BS}{l:List Bool}{n:Nat}(hb:b.Ok) (hd:b.done=false) (h:bstep b l=.ok b' n):b'.Ok:=by
 unfold bstep at h;split at h
 ·rename_i hh;unfold bhead at h;split at h
  ·cases h
  ·split at h
   ·cases h
   ·have h1:=valB_take_lt l 32;have h2:=valB_take_lt (l.drop 33) 24;exact (bend_ok (head_pre hb hh (by omega) (by omega)).2 h).1
 ·rename_i hh;split at h
  ·rename_i hr;unfold buse at h;split at h
   ·cases h
   ·cases h
   ·rename_i T k hu;exact (bend_ok (use_pre hb (by simpa using hh) hr (Q23.uread_pos hu).2.2) h).1
  ·rename_i r hr;split at h
   ·rename_i hw;exact (bend_ok (next_pre hb hd hr hw) h).1
   ·rename_i hw;unfold bsym at h;split at h
    ·cases h
    ·cases h
    ·rename_i c k hc;exact (bend_ok (sym_pre hb hd hr hc) h).1
    ·rename_i c s k hc;unfold btold at h;split at h
     ·cases h
     ·rename_i z d p hz;exact (bend_ok (told_pre hb hd hr (by simpa using hw) hc hz) h).1
theorem ustep_ok {u u':US}{l:List Bool}{n w:Nat}(hu:u.Ok) (h:ustep u l=.ok (u',w) n):u'.Ok/\u'.unit=u.unit:=by
 have hun:=hu.unit;have hlev:=hu.lev;unfold ustep at h;split at h
 ·rename_i hd;have hbn:=hu.none_ (by omega);unfold uletter at h;split at h
  ·cases h
  ·split at h
   ·split at h
    ·cases h;exact⟨⟨hun,hu.due,by show u.at_+1<=3;omega,λh=>absurd hd h,hlev,hu.lev1,λb hb=>(by rw[hbn] at hb;cases hb),hu.body,hu.last,hu.frm,hu.sum,hu.total⟩,rfl⟩
    ·cases h
   ·split at h
    ·cases h
    ·cases h;exact⟨⟨hun,by show 1<=3;omega,Nat.zero_le _,λ_=>rfl,by show valB (l.take 8) - 48<=9;omega,λ_=>by show 1<=valB (l.take 8) - 48;omega,λb hb=>(by rw[hbn] at hb;cases hb),λh=>(by cases h),hu.last,hu.frm,hu.sum,by show 0 < 4294967296;omega⟩,rfl⟩
 ·rename_i hd0;have hat:=hu.at0 hd0;have hl1:=hu.lev1 hd0;split at h
  ·rename_i hd;have hbn:=hu.none_ (by omega);unfold umagic at h;split at h
   ·cases h
   ·split at h
    ·cases h;refine⟨⟨hun,by show 2<=3;omega,hu.at_,λ_=>hat,hlev,λ_=>hl1,λb hb=>?_,λ_ h=>(by cases h),hu.last,hu.frm,hu.sum,hu.total⟩,rfl⟩;cases hb;refine⟨rfl,b0_ok ?_,rfl,rfl⟩;exact Nat.le_trans (Nat.mul_le_mul hlev hun.2) (by omega)
    ·split at h
     ·cases h;exact⟨⟨hun,by show 3<=3;omega,hu.at_,λ_=>hat,hlev,λ_=>hl1,λb hb=>(by rw[hbn] at hb;cases hb),λh=>(by cases h),hu.last,hu.frm,hu.sum,hu.total⟩,rfl⟩
     ·cases h
  ·split at h
   ·rename_i hd;unfold ubody at h;split at h
    ·cases h
    ·rename_i b hb;obtain⟨_,hbo,hbd,hbr⟩:=hu.blk b hb;unfold uwith at h;split at h
     ·cases h
     ·cases h
     ·rename_i b' n' hs;have hok:=bstep_okB hbo hbd hs;have hrm:=(Q23.bstep_prog hbo hs).1;split at h
      ·cases h;have:=Q23.last_room hok;have:=hok.room;exact⟨⟨hun,by show 1<=3;omega,hu.at_,λ_=>hat,hlev,λ_=>hl1,λb hb=>(by cases hb),λh=>(by cases h),by show b'.last.length<=900000;omega,hok.frm,hok.sum,comb_lt hu.total hok.sum⟩,rfl⟩
      ·rename_i hnd;cases h;refine⟨⟨hun,hu.due,hu.at_,hu.at0,hlev,hu.lev1,λb2 hb2=>?_,λ_ h=>(by cases h),hu.last,hu.frm,hu.sum,hu.total⟩,rfl⟩;cases hb2;exact⟨hd,hok,by simpa using hnd,by rw[hrm];exact hbr⟩
   ·rename_i hd1 hd2
    have hd3:u.due=3:=by have:=hu.due;omega
    have hbn:=hu.none_ (by omega);unfold usum at h;split at h
    ·cases h
    ·split at h
     ·cases h;exact⟨⟨hun,Nat.zero_le _,hu.at_,λh=>absurd rfl h,hlev,λh=>absurd rfl h,λb hb=>(by rw[hbn] at hb;cases hb),λh=>(by cases h),hu.last,hu.frm,hu.sum,hu.total⟩,rfl⟩
     ·cases h
theorem ustep_bad {u:US}{l:List Bool}{e:Nat}(hu:u.Ok) (h:ustep u l=.bad e):e=20\/e=21\/e=22\/e=23\/e=25:=by
 unfold ustep at h;split at h
 ·unfold uletter at h
  repeat' split at h
  all_goals first
   |(cases h;omega)
   |cases h
 ·split at h
  ·unfold umagic at h
   repeat' split at h
   all_goals first
    |(cases h;omega)
    |cases h
  ·split at h
   ·rename_i hd;unfold ubody at h;split at h
    ·rename_i hb;exact absurd hb (hu.body hd)
    ·unfold uwith at h;split at h
     ·cases h
     ·rename_i hb;cases h
      rcases bstep_bad hb with h|h|h <;> omega
     ·split at h <;> cases h
   ·unfold usum at h
    repeat' split at h
    all_goals first
     |(cases h;omega)
     |cases h
def tnext (t:List UInt8):Res (US × Nat)->Res (US × List UInt8)
 |.short=>.short
 |.bad e=>.bad e
 |.ok (u,w) n=>if w=1 then (if (opn u.last u.frm u.sum).2=0 then .ok (u,t++(opn u.last u.frm u.sum).1) n else .bad (opn u.last u.frm u.sum).2.toNat) else .ok (u,t) n
def tstep (x:US × List UInt8) (l:List Bool):Res (US × List UInt8):=
 if x.1.mayEnd=true/\l=[] then .bad 0 else tnext x.2 (ustep x.1 l)
def nod (x:US × List UInt8):Bool:=false
abbrev TRun (x0:US × List UInt8) (l:List Bool) (x:US × List UInt8) (k:Nat):Prop:=Run tstep nod x0 l x k
inductive TOut where
 |bad (e:Nat)
 |got (t:List UInt8)
def Last (x:US × List UInt8) (l:List Bool) (o:TOut):Prop:=
 (tstep x l=.short/\o=.bad 24)\/(tstep x l=.bad 0/\o=.got x.2)\/∃ e,e≠0/\tstep x l=.bad e/\o=.bad e
def TComes (x0:US × List UInt8) (l:List Bool) (o:TOut):Prop:=∃ x k,TRun x0 l x k/\Last x (l.drop k) o
theorem Last.stop {x:US × List UInt8}{l:List Bool}{k:Nat}{o:TOut}(h:Last x (l.drop k) o):Stop tstep nod l x k:=by
 rcases h with⟨h,_⟩|⟨h,_⟩|⟨e,_,h,_⟩
 ·exact stop_short h
 ·exact stop_bad h
 ·exact stop_bad h
theorem Last.det {x:US × List UInt8}{l:List Bool}{o o2:TOut}(h:Last x l o) (h2:Last x l o2):o=o2:=by
 rcases h with⟨h,rfl⟩|⟨h,rfl⟩|⟨e,he,h,rfl⟩ <;> rcases h2 with⟨h3,rfl⟩|⟨h3,rfl⟩|⟨e2,he2,h3,rfl⟩ <;> rw[h] at h3 <;> first
  |rfl
  |(cases h3 <;> first
   |rfl
   |(exact absurd rfl he2)
   |(exact absurd rfl he))
theorem TComes.det {x0:US × List UInt8}{l:List Bool}{o o2:TOut}(h:TComes x0 l o) (h2:TComes x0 l o2):o=o2:=by
 obtain⟨x,k,hr,hl⟩:=h;obtain⟨x2,k2,hr2,hl2⟩:=h2;obtain⟨rfl,rfl⟩:=hr.stop_eq hl.stop hr2 hl2.stop;exact hl.det hl2
theorem TComes.after {x0 x:US × List UInt8}{l:List Bool}{k:Nat}{o:TOut}(h:TRun x0 l x k) (h2:TComes x (l.drop k) o):TComes x0 l o:=by
 obtain⟨x2,k2,hr,hl⟩:=h2;rw[drop_drop] at hl;exact⟨x2,k+k2,h.trans hr,hl⟩
theorem TComes.here {x:US × List UInt8}{l:List Bool}{o:TOut}(h:Last x l o):TComes x l o:=⟨x,0,.start,h⟩
theorem tstep_due {x:US × List UInt8}{l:List Bool}(h:x.1.due≠0\/x.1.at_≠0\/l≠[]):tstep x l=tnext x.2 (ustep x.1 l):=by
 unfold tstep;rw[if_neg];rintro⟨h1,h2⟩;unfold US.mayEnd at h1;simp only[Bool.and_eq_true,decide_eq_true_eq] at h1;rcases h with h|h|h
 ·exact h h1.1.2
 ·exact h h1.2
 ·exact h h2
def inB (unit level:Nat) (last:List UInt8) (frm sum total:Nat) (en:Bool) (b:BS):US:=⟨unit,2,0,level,some b,last,frm,sum,total,en⟩
section
variable {unit level frm sum total:Nat}{last t:List UInt8}{en:Bool}
theorem in_step {b:BS}{l:List Bool}:tstep (inB unit level last frm sum total en b,t) l=tnext t (uwith (inB unit level last frm sum total en b) (bstep b l)):=by
 rw[tstep_due (.inl (by simp[inB]))];unfold ustep inB;simp only[if_neg (show ¬ (2=0) by omega),if_neg (show ¬ (2=1) by omega),if_true,ubody]
theorem in_run {b0:BS}{l:List Bool}(h0:b0.done=false):∀ {i:Nat}{b:BS}{k:Nat},RunN bstep BS.done b0 l i b k->
  if b.done=true then ∃ b1 k1 n,TRun (inB unit level last frm sum total en b0,t) l (inB unit level last frm sum total en b1,t) k1/\bstep b1 (l.drop k1)=.ok b n/\k=k1+n
  else TRun (inB unit level last frm sum total en b0,t) l (inB unit level last frm sum total en b,t) k:=by
 intro i b k h
 induction h with
 |start=>rw[if_neg (by rw[h0];decide)];exact .start
 |next h hd hs ih=>
  rename_i j b b' k n;rw[if_neg (by rw[hd];decide)] at ih
  by_cases hb:b'.done=true
  ·rw[if_pos hb];exact⟨b,k,n,ih,hs,rfl⟩
  ·rw[if_neg hb];refine ih.next rfl ?_;rw[in_step,hs];simp only[uwith,if_neg hb,tnext,if_neg (show ¬ (0=1) by omega)];rfl
theorem in_got {room o u n held:Nat}{l:List Bool}{lst:List UInt8}(h:Q20.Comes room l (.got lst o u n held)) :
  if (opn lst o u).2=0 then TRun (inB unit level last frm sum total en (b0 room),t) l (⟨unit,1,0,level,none,lst,o,u,comb total u,en⟩,t++(opn lst o u).1) n
  else TComes (inB unit level last frm sum total en (b0 room),t) l (.bad (opn lst o u).2.toNat):=by
 obtain⟨b,k,⟨i,hr⟩,h⟩:=h;have hin:=in_run (unit:=unit) (level:=level) (last:=last) (frm:=frm) (sum:=sum) (total:=total) (en:=en) (t:=t) (b0:=b0 room) rfl hr;rcases h with⟨hd,h⟩|⟨_,_,h⟩|⟨_,_,_,h⟩
 ·cases h;rw[if_pos hd] at hin;obtain⟨b1,k1,n,hrun,hs,rfl⟩:=hin
  have hst:tstep (inB unit level last frm sum total en b1,t) (l.drop k1)=tnext t (.ok (⟨unit,1,0,level,none,b.last,b.frm,b.sum,comb total b.sum,en⟩,1) n):=by
   rw[in_step,hs];simp only[uwith,if_pos hd,inB]
  simp only[tnext,if_true] at hst;split
  ·rename_i h0;rw[if_pos h0] at hst;exact hrun.next rfl hst
  ·rename_i h0;rw[if_neg h0] at hst;refine⟨_,_,hrun,.inr (.inr ⟨_,?_,hst,rfl⟩)⟩;rcases opn_err b.last b.frm b.sum with h|⟨_,h⟩
   ·exact absurd h h0
   ·omega
 ·cases h
 ·cases h
end
def atL (u:US) (i:Nat):US:=⟨u.unit,0,i,u.level,u.blk,u.last,u.frm,u.sum,u.total,u.ended⟩
theorem let_short {u:US}{i:Nat}{l:List Bool}{t:List UInt8}(h:l.length < 8) (hl:i≠0\/l≠[]\/u.ended=false):TComes (atL u i,t) l (.bad 24):=by
 refine .here (.inl ⟨?_,rfl⟩)
 have hs:ustep (atL u i) l=.short:=by
  unfold ustep uletter atL;simp only[if_true,if_pos h]
 unfold tstep;rw[if_neg,hs]
 ·rfl
 ·rintro⟨h1,h2⟩;unfold US.mayEnd atL at h1;simp only[Bool.and_eq_true,decide_eq_true_eq] at h1;rcases hl with h|h|h
  ·exact h h1.2
  ·exact h h2
  ·rw[h] at h1;exact Bool.noConfusion h1.1.1
theorem ne_nil {l:List Bool}(h:¬ l.length < 8):l≠[]:=by rintro rfl;exact h (by simp)
theorem let_wrong {u:US}{i:Nat}{l:List Bool}{t:List UInt8}(h:¬ l.length < 8) (hi:i < 3) (hv:valB (l.take 8)≠letters.getD i 0):TComes (atL u i,t) l (.bad 20):=by
 refine .here (.inr (.inr ⟨20,by omega,?_,rfl⟩));rw[tstep_due (.inr (.inr (ne_nil h)))];unfold ustep uletter atL;simp only[if_true,if_neg h,if_pos hi,if_neg hv,tnext]
theorem let_next {u:US}{i:Nat}{l:List Bool}{t:List UInt8}(h:¬ l.length < 8) (hi:i < 3) (hv:valB (l.take 8)=letters.getD i 0):tstep (atL u i,t) l=.ok (atL u (i+1),t) 8:=by
 rw[tstep_due (.inr (.inr (ne_nil h)))];unfold ustep uletter atL;simp only[if_true,if_neg h,if_pos hi,if_pos hv,tnext,if_neg (show ¬ (0=1) by omega)]
theorem lev_wrong {u:US}{l:List Bool}{t:List UInt8}(h:¬ l.length < 8) (hv:valB (l.take 8) < 49\/57 < valB (l.take 8)):TComes (atL u 3,t) l (.bad 20):=by
 refine .here (.inr (.inr ⟨20,by omega,?_,rfl⟩));rw[tstep_due (.inr (.inr (ne_nil h)))];unfold ustep uletter atL;simp only[if_true,if_neg h,if_neg (show ¬ (3 < 3) by omega),if_pos hv,tnext]
def atM (u:US) (level total:Nat) (blk:Option BS):US:=⟨u.unit,1,0,level,blk,u.last,u.frm,u.sum,total,u.ended⟩
theorem lev_next {u:US}{l:List Bool}{t:List UInt8}(h:¬ l.length < 8) (hv:¬ (valB (l.take 8) < 49\/57 < valB (l.take 8))):tstep (atL u 3,t) l=.ok (atM u (valB (l.take 8) - 48) 0 u.blk,t) 8:=by
 rw[tstep_due (.inr (.inr (ne_nil h)))];unfold ustep uletter atL atM;simp only[if_true,if_neg h,if_neg (show ¬ (3 < 3) by omega),if_neg hv,tnext,if_neg (show ¬ (0=1) by omega)]
theorem mag_step {u:US}(hd:u.due=1){l:List Bool}{t:List UInt8}:tstep (u,t) l=tnext t (umagic u l):=by
 rw[tstep_due (.inl (by show u.due≠0;omega))];unfold ustep;simp only[hd,if_neg (show ¬ (1=0) by omega),if_true]
theorem mag_block {u:US}(hd:u.due=1) (ha:u.at_=0){l:List Bool}{t:List UInt8}(h:¬ l.length < 48) (h1:valB (l.take 48)=54156738319193) :
  tstep (u,t) l=.ok (inB u.unit u.level u.last u.frm u.sum u.total u.ended (b0 (u.level*u.unit)),t) 48:=by
 rw[mag_step hd,umagic,if_neg h,if_pos h1];simp only[tnext,if_neg (show ¬ (0=1) by omega),inB,ha]
theorem mag_end {u:US}(hd:u.due=1){l:List Bool}{t:List UInt8}(h:¬ l.length < 48) (h1:valB (l.take 48)=25779555029136) :
  tstep (u,t) l=.ok (⟨u.unit,3,u.at_,u.level,u.blk,u.last,u.frm,u.sum,u.total,u.ended⟩,t) 48:=by
 rw[mag_step hd,umagic,if_neg h,if_neg (by rw[h1];decide),if_pos h1];simp only[tnext,if_neg (show ¬ (0=1) by omega)]
theorem sum_step {u:US}(hd:u.due=3){l:List Bool}{t:List UInt8}:tstep (u,t) l=tnext t (usum u l):=by
 rw[tstep_due (.inl (by show u.due≠0;omega))];unfold ustep;simp only[hd,if_neg (show ¬ (3=0) by omega),if_neg (show ¬ (3=1) by omega),if_neg (show ¬ (3=2) by omega)]
theorem sum_wrong {u:US}(hd:u.due=3){l:List Bool}{t:List UInt8}(h:¬ l.length < 32) (h1:valB (l.take 32)≠u.total):TComes (u,t) l (.bad 21):=by
 refine .here (.inr (.inr ⟨21,by omega,?_,rfl⟩));rw[sum_step hd,usum,if_neg h,if_neg h1];rfl
theorem sum_next {u:US}(hd:u.due=3){l:List Bool}{t:List UInt8}(h:¬ l.length < 32) (h1:valB (l.take 32)=u.total) :
  tstep (u,t) l=.ok (⟨u.unit,0,u.at_,u.level,u.blk,u.last,u.frm,u.sum,u.total,true⟩,t) (32+(l.length - 32)%8):=by
 rw[sum_step hd,usum,if_neg h,if_pos h1];simp only[tnext,if_neg (show ¬ (2=1) by omega)]
theorem foldl_val (l:List Bool):∀ a:Nat,l.foldl (λa b=>2*a+b.toNat) a=a*2^l.length+valB l:=by
 induction l with
 |nil=>intro a;simp[valB]
 |cons x l ih=>
  intro a;have h0:=ih x.toNat
  have e:valB (x::l)=x.toNat*2^l.length+valB l:=by
   rw[<-h0];simp[valB]
  rw[e,List.foldl_cons,ih,length_cons,Nat.pow_succ,Nat.add_mul]
  have:2*a*2^l.length=a*(2^l.length*2):=by
   rw[Nat.mul_comm 2 a,Nat.mul_assoc,Nat.mul_comm 2]
  omega
theorem valB_cons (x:Bool) (l:List Bool):valB (x::l)=x.toNat*2^l.length+valB l:=by
 have:=foldl_val l x.toNat;rw[<-this];simp[valB]
theorem valB_inj:∀ {a b:List Bool},a.length=b.length->valB a=valB b->a=b
 |[],[],_,_=>rfl
 |[],_::_,h,_=>by simp at h
 |_::_,[],h,_=>by simp at h
 |x::a,y::b,h,hv=>by
  have hl:a.length=b.length:=by simpa using h
  rw[valB_cons,valB_cons,hl] at hv;have h1:=valB_lt a;have h2:=valB_lt b;rw[hl] at h1
  have hx:x=y/\valB a=valB b:=by
   cases x <;> cases y <;> simp only[Bool.toNat_true,Bool.toNat_false,Nat.one_mul,Nat.zero_mul,Nat.zero_add] at hv
   ·exact⟨rfl,hv⟩
   ·omega
   ·omega
   ·exact⟨rfl,by omega⟩
  rw[hx.1,valB_inj hl hx.2]
theorem valB_app (a b:List Bool):valB (a++b)=valB a*2^b.length+valB b:=by
 have:=foldl_val b (valB a);rw[<-this];simp[valB]
end Go.Q24
namespace Go.Qs
open Go.M01 Go.Mb Go.Mp Go.M10 Go.Mc Go.Mz Go.Mk Go.Q20 Go.M02 Go.M03 Go.M20 Go.Q24
def magW:List Bool:=bitsOf 54156738319193 48
def endW:List Bool:=bitsOf 25779555029136 48
def headB (level:Nat):List Bool:=bitsOf 66 8++(bitsOf 90 8++(bitsOf 104 8++bitsOf (48+level) 8))
abbrev Bk:Type:=List UInt8 × List Bool
def blksB (bs:List Bk):List Bool:=bs.flatMap λx=>magW++x.2
def sumOf (a:Nat) (bs:List Bk):Nat:=bs.foldl (λa x=>comb a (crcOf x.1)) a
def textOf (bs:List Bk):List UInt8:=bs.flatMap λx=>x.1
def preB (level:Nat) (bs:List Bk):List Bool:=headB level++(blksB bs++endW)
def strB (level:Nat) (bs:List Bk):List Bool:=preB level bs++bitsOf (sumOf 0 bs) 32
theorem headB_len (level:Nat):(headB level).length=32:=by unfold headB;simp only[length_append,bitsOf_len]
theorem magW_len:magW.length=48:=bitsOf_len _ _
theorem endW_len:endW.length=48:=bitsOf_len _ _
def Gb (room:Nat) (x:Bk):Prop:=∀ rest,∃ last o held,Q20.Comes room (x.2++rest) (.got last o (crcOf x.1) x.2.length held)/\opn last (o:Int) ((crcOf x.1:Nat):Int)=(x.1,0)
theorem take_front {a r:List Bool}{n:Nat}(h:a.length=n):(a++r).take n=a:=by subst h;exact take_left
theorem drop_front {a r:List Bool}{n:Nat}(h:a.length=n):(a++r).drop n=r:=by subst h;exact drop_left
variable {x0:US × List UInt8}{l rest:List Bool}{t:List UInt8}{k level:Nat}{u:US}
theorem head_run (h1:1<=level/\level<=9) (hr:TRun x0 l (atL u 0,t) k) (hl:l.drop k=headB level++rest):TRun x0 l (atM u level 0 u.blk,t) (k+32)/\l.drop (k+32)=rest:=by
 have e0:l.drop k=bitsOf 66 8++(bitsOf 90 8++(bitsOf 104 8++(bitsOf (48+level) 8++rest))):=by rw[hl];unfold headB;simp only[append_assoc]
 have b8:∀ v,(bitsOf v 8).length=8:=λv=>bitsOf_len _ _
 have st:∀ {i k v:Nat} {q:List Bool},i < 3->v < 256->v=letters.getD i 0->TRun x0 l (atL u i,t) k->l.drop k=bitsOf v 8++q->TRun x0 l (atL u (i+1),t) (k+8)/\l.drop (k+8)=q:=by
  intro i k v q hi hv he hr hq;refine⟨hr.next rfl ?_,?_⟩
  ·rw[hq];refine let_next (by rw[length_append,b8];omega) hi ?_;rw[take_front (b8 v),valB_bitsOf _ _ (show v < 2^8 from hv),he]
  ·rw[<-drop_drop,hq,drop_front (b8 v)]
 obtain⟨r1,d1⟩:=st (v:=66) (by omega) (by omega) rfl hr e0;obtain⟨r2,d2⟩:=st (v:=90) (by omega) (by omega) rfl r1 d1;obtain⟨r3,d3⟩:=st (v:=104) (by omega) (by omega) rfl r2 d2
 have hv:valB ((l.drop (k+8+8+8)).take 8)=48+level:=by rw[d3,take_front (b8 _),valB_bitsOf _ _ (show 48+level < 2^8 by omega)]
 have r4:=r3.next (n:=8) rfl (lev_next (by rw[d3,length_append,b8];omega) (by rw[hv];omega));rw[hv,show 48+level - 48=level by omega] at r4;exact⟨r4,by rw[show k+32=k+8+8+8+8 by omega,<-drop_drop,d3,drop_front (b8 _)]⟩
structure Mid (unit level total:Nat) (u:US):Prop where
 due:u.due=1
 at_:u.at_=0
 lev:u.level=level
 unit:u.unit=unit
 total:u.total=total
theorem blks_run {unit:Nat}:∀ (bs:List Bk) (u:US) (t:List UInt8) (k total:Nat),Mid unit level total u->(∀ x∈bs,Gb (level*unit) x)->TRun x0 l (u,t) k->l.drop k=blksB bs++rest->
  ∃ u',Mid unit level (sumOf total bs) u'/\TRun x0 l (u',t++textOf bs) (k+(blksB bs).length)/\l.drop (k+(blksB bs).length)=rest
 |[],u,t,k,total,hm,_,hr,hl=>⟨u,hm,by show TRun x0 l (u,t++[]) (k+0);rw[append_nil];exact hr,hl⟩
 |x::bs,u,t,k,total,hm,hg,hr,hl=>by
  have e:blksB (x::bs)=magW++(x.2++blksB bs):=by unfold blksB;rw[flatMap_cons,append_assoc]
  have e2:textOf (x::bs)=x.1++textOf bs:=by unfold textOf;rw[flatMap_cons]
  rw[e,append_assoc,append_assoc] at hl
  have hlen:¬ (l.drop k).length < 48:=by rw[hl,length_append,magW_len];omega
  have hv:valB ((l.drop k).take 48)=54156738319193:=by rw[hl,take_front magW_len];exact valB_bitsOf _ _ (by decide)
  have r1:=hr.next (n:=48) rfl (mag_block hm.due hm.at_ hlen hv)
  have d1:l.drop (k+48)=x.2++(blksB bs++rest):=by rw[<-drop_drop,hl,drop_front magW_len]
  obtain⟨last,o,held,hc,ho⟩:=hg x (mem_cons_self ..) (blksB bs++rest);rw[<-d1] at hc;have h2:=in_got (unit:=u.unit) (level:=u.level) (last:=u.last) (frm:=u.frm) (sum:=u.sum) (total:=u.total) (en:=u.ended) (t:=t) (room:=u.level*u.unit) (by rw[hm.lev,hm.unit];exact hc);rw[ho,if_pos rfl] at h2;have r2:=Run.trans r1 h2
  have d2:l.drop (k+48+x.2.length)=blksB bs++rest:=by rw[<-drop_drop,d1,drop_left]
  obtain⟨u',hm',r3,d3⟩:=blks_run bs ⟨u.unit,1,0,u.level,none,last,o,crcOf x.1,comb u.total (crcOf x.1),u.ended⟩ (t++x.1) _ _ ⟨rfl,rfl,hm.lev,hm.unit,rfl⟩ (λy hy=>hg y (mem_cons_of_mem _ hy)) r2 d2
  have e3:k+(blksB (x::bs)).length=k+48+x.2.length+(blksB bs).length:=by rw[e,length_append,length_append,magW_len];omega
  refine⟨u',?_,?_,by rw[e3];exact d3⟩
  ·rw[hm.total] at hm';exact hm'
  ·rw[e2,e3,<-append_assoc];exact r3
theorem pre_run {unit:Nat}{bs:List Bk}(h1:1<=level/\level<=9) (hu:u.unit=unit) (hg:∀ x∈bs,Gb (level*unit) x) (hr:TRun x0 l (atL u 0,t) k) (hl:l.drop k=preB level bs++rest) :
  ∃ u',u'.due=3/\u'.at_=0/\u'.unit=unit/\u'.total=sumOf 0 bs/\TRun x0 l (u',t++textOf bs) (k+(preB level bs).length)/\l.drop (k+(preB level bs).length)=rest:=by
 have e:preB level bs++rest=headB level++(blksB bs++(endW++rest)):=by unfold preB;simp only[append_assoc]
 obtain⟨r1,d1⟩:=head_run h1 hr (hl.trans e);obtain⟨u',hm,r2,d2⟩:=blks_run bs (atM u level 0 u.blk) t _ 0 ⟨rfl,rfl,rfl,hu,rfl⟩ hg r1 d1
 have hv:valB ((l.drop (k+32+(blksB bs).length)).take 48)=25779555029136:=by rw[d2,take_front endW_len];exact valB_bitsOf _ _ (by decide)
 have r3:=r2.next (n:=48) rfl (mag_end hm.due (by rw[d2,length_append,endW_len];omega) hv)
 have e2:k+(preB level bs).length=k+32+(blksB bs).length+48:=by unfold preB;rw[length_append,length_append,headB_len,endW_len];omega
 refine⟨⟨u'.unit,3,u'.at_,u'.level,u'.blk,u'.last,u'.frm,u'.sum,u'.total,u'.ended⟩,rfl,hm.at_,hm.unit,hm.total,by rw[e2];exact r3,?_⟩;rw[e2,<-drop_drop,d2,drop_front endW_len]
theorem comb_lt {a c:Nat}(ha:a < 4294967296) (hc:c < 4294967296):comb a c < 4294967296:=by
 unfold comb;exact Nat.xor_lt_two_pow (n:=32) (Nat.xor_lt_two_pow (n:=32) (by show _ < 2^32;omega) (by show _ < 2^32;omega)) hc
theorem sumOf_lt:∀ (bs:List Bk){a:Nat},a < 4294967296->sumOf a bs < 4294967296
 |[],a,h=>h
 |x::bs,a,h=>sumOf_lt bs (comb_lt h (crcOf_lt _))
theorem str_run {unit pad:Nat}{bs:List Bk}(h1:1<=level/\level<=9) (hu:u.unit=unit) (hg:∀ x∈bs,Gb (level*unit) x) (hr:TRun x0 l (atL u 0,t) k) (hp:pad < 8) (h8:rest.length%8=0)
  (hl:l.drop k=strB level bs++(List.replicate pad false++rest)) :
  ∃ u',u'.unit=unit/\u'.ended=true/\TRun x0 l (atL u' 0,t++textOf bs) (k+((strB level bs).length+pad))/\l.drop (k+((strB level bs).length+pad))=rest:=by
 have e:strB level bs++(List.replicate pad false++rest)=preB level bs++(bitsOf (sumOf 0 bs) 32++(List.replicate pad false++rest)):=by unfold strB;simp only[append_assoc]
 obtain⟨u',hd,ha,hun,ht,r1,d1⟩:=pre_run h1 hu hg hr (hl.trans e);have h32:(bitsOf (sumOf 0 bs) 32).length=32:=bitsOf_len _ _
 have hv:valB ((l.drop (k+(preB level bs).length)).take 32)=u'.total:=by rw[d1,take_front h32,ht];exact valB_bitsOf _ _ (sumOf_lt bs (by decide))
 have hlen:(l.drop (k+(preB level bs).length)).length=32+pad+rest.length:=by rw[d1,length_append,length_append,h32,length_replicate];omega
 have r2:=r1.next rfl (sum_next hd (by omega) hv)
 have ep:32+((l.drop (k+(preB level bs).length)).length - 32)%8=32+pad:=by rw[hlen];omega
 rw[ep] at r2
 have es:k+((strB level bs).length+pad)=k+(preB level bs).length+(32+pad):=by unfold strB;rw[length_append,h32];omega
 refine⟨⟨u'.unit,0,u'.at_,u'.level,u'.blk,u'.last,u'.frm,u'.sum,u'.total,true⟩,hun,rfl,?_,?_⟩
 ·rw[es];unfold atL;simp only;rw[ha] at r2;exact r2
 ·rw[es,<-drop_drop,d1,<-append_assoc];exact drop_front (by rw[length_append,h32,length_replicate])
theorem str_end (h:u.ended=true):TComes (atL u 0,t) [] (.got t):=by
 refine .here (.inr (.inl ⟨?_,rfl⟩));unfold tstep;rw[if_pos];refine⟨?_,rfl⟩;unfold US.mayEnd atL;simp[h]
theorem str_wrong {unit:Nat}{bs:List Bk}{q:List Bool}(h1:1<=level/\level<=9) (hu:u.unit=unit) (hg:∀ x∈bs,Gb (level*unit) x) (hq:32<=q.length) (hv:valB (q.take 32)≠sumOf 0 bs):TComes (atL u 0,t) (preB level bs++q) (.bad 21):=by
 obtain⟨u',hd,ha,hun,ht,r1,d1⟩:=pre_run (l:=preB level bs++q) (k:=0) h1 hu hg .start (by rw[drop_zero]);exact .after r1 (sum_wrong hd (by rw[d1];omega) (by rw[d1,ht];exact hv))
theorem blk_wrong {unit sum:Nat}{B q:List Bool}{last tx:List UInt8}{o held:Nat}(h1:1<=level/\level<=9) (hu:u.unit=unit) (hc:Q20.Comes (level*unit) (B++q) (.got last o sum B.length held)) (hs:opn last (o:Int) (sum:Int)=(tx,21)) :
  TComes (atL u 0,t) (headB level++(magW++(B++q))) (.bad 21):=by
 obtain⟨r1,d1⟩:=head_run (u:=u) (t:=t) (l:=headB level++(magW++(B++q))) (k:=0) h1 .start (by rw[drop_zero]);refine .after r1 ?_;rw[d1];have r2:TRun (atM u level 0 u.blk,t) (magW++(B++q)) _ (0+48):=Run.start.next rfl (mag_block (u:=atM u level 0 u.blk) rfl rfl (by rw[drop_zero,length_append,magW_len];omega) (by rw[drop_zero,take_front magW_len];exact valB_bitsOf _ _ (by decide)));refine .after r2 ?_;rw[Nat.zero_add,drop_front magW_len];have h2:=in_got (unit:=u.unit) (level:=level) (last:=u.last) (frm:=u.frm) (sum:=u.sum) (total:=0) (en:=u.ended) (t:=t) (room:=level*u.unit) (by rw[hu];exact hc);rw[hs,if_neg (show ¬ ((21:Int)=0) by decide)] at h2;exact h2
end Go.Qs
namespace Go.Q25
open Go.M01 Go.Mb Go.Mp Go.M10 Go.Mc Go.Mz Go.Mk Go.Q20 Go.Q24
def ccost (c:CS):Nat:=(if 0 < c.picks.count then 18 else 0)+c.size*c.codes.length+c.lens.lens.length
def CJ (c:CS):Prop:=c.done=true->0 < c.picks.count/\2<=c.codes.length
theorem pstep_cnt {p p':PS}{l:List Bool}{n:Nat}(h:pstep p l=.ok p' n):(0 < p.count->0 < p'.count)/\(if 0 < p'.count then 18 else 0)<=(if 0 < p.count then 18 else 0)+n:=by
 unfold pstep at h;split at h
 ·rename_i h0;split at h
  ·cases h
  ·split at h
   ·cases h
   ·cases h;refine⟨λh=>by omega,?_⟩
    split <;> split <;> omega
 ·rename_i h0
  repeat' split at h
  all_goals first
   |(cases h;exact⟨λh=>h,Nat.le_add_right _ _⟩)
   |cases h
theorem dstep_cnt {d d':DS}{l:List Bool}{n:Nat}(h:dstep d l=.ok d' n):d'.size=d.size/\d'.lens.length<=d.lens.length+1:=by
 unfold dstep turn at h
 repeat' split at h
 all_goals first
  |(cases h;refine⟨rfl,?_⟩;simp)
  |cases h
theorem cstep_cnt {c c':CS}{l:List Bool}{o:Option Nat}{n:Nat}(hc:c.Ok) (hj:CJ c) (h:cstep c l=.ok (c',o) n):CJ c'/\ccost c'<=ccost c+n/\c'.size=c.size:=by
 have hpos:=Q23.cstep_pos hc h;unfold cstep at h;split at h
 ·unfold withPicks at h;split at h
  ·cases h
  ·cases h
  ·rename_i p k hp;cases h;have:=pstep_cnt hp;refine⟨λhd=>⟨this.1 (hj hd).1,(hj hd).2⟩,?_,rfl⟩;unfold ccost;simp only;omega
 ·rename_i hpd;split at h
  ·unfold withLens at h;split at h
   ·cases h
   ·cases h
   ·rename_i d k hd;have h1:=dstep_cnt hd;have h2:=hc.ds;split at h
    ·rename_i hdn;split at h
     ·cases h;refine⟨λhd=>⟨(hj hd).1,?_⟩,?_,rfl⟩
      ·have:=(hj hd).2;simp only[length_append,length_singleton];omega
      ·unfold ccost
       have hdl:d.lens.length=c.size:=by
        unfold DS.done at hdn;rw[decide_eq_true_eq] at hdn;omega
       simp only[length_append,length_singleton,Nat.mul_add,Nat.mul_one,d0,length_nil];omega
     ·cases h
    ·cases h;refine⟨hj,?_,rfl⟩;unfold ccost;simp only;omega
  ·rename_i hlt;split at h
   ·cases h
   ·unfold withSymbol at h;split at h
    ·cases h
    ·cases h
     have hpd2:c.picks.done=true:=by simpa using hpd
     unfold PS.done at hpd2;rw[decide_eq_true_eq] at hpd2;have:=hc.pk.tbl hpd2.1;refine⟨λ_=>⟨hpd2.1,by show 2<=c.codes.length;omega⟩,?_,rfl⟩;unfold ccost;simp only;omega
def bcost (b:BS):Nat:=(if b.head=true then 57 else 0)+match b.row with
 |none=>0
 |some r=>32+ccost r.code
def BJ (b:BS):Prop:=∀ r,b.row=some r->CJ r.code
theorem bend_cnt {b b':BS}{k n:Nat}(h:bend b k=.ok b' n):n=k/\b'.row=b.row/\b'.head=b.head/\(b'.done=true->b.done=true\/∃ r,b.row=some r/\r.code.done=true):=by
 unfold bend at h;split at h
 ·cases h;exact⟨rfl,rfl,rfl,λh=>.inl h⟩
 ·rename_i r hr;split at h
  ·cases h;exact⟨rfl,rfl,rfl,λh=>.inl h⟩
  ·rename_i hn;split at h
   ·cases h
   ·cases h;refine⟨rfl,rfl,rfl,λ_=>.inr ⟨r,hr,?_⟩⟩
    cases hd:r.code.done with
    |true=>rfl
    |false=>exact absurd (.inl hd) hn
theorem usedT_nil (l:List Bool):usedT [] l=λ_=>false:=by
 funext b;rfl
theorem uread_32 {l:List Bool}{T:Nat->Bool}{n:Nat}(h:uread l=.ok T n):32<=n:=by
 unfold uread at h;split at h
 ·cases h
 ·split at h
  ·cases h
  ·split at h
   ·cases h
   ·rename_i hne;cases h;rcases hm:marksL (l.take 16) with _|⟨a,t⟩
    ·rw[hm] at hne;exfalso;apply hne;unfold listed;rw[usedT_nil];simp
    ·simp only[length_cons];omega
theorem bstep_cnt {b b':BS}{l:List Bool}{n:Nat}(hb:b.Ok) (hj:BJ b) (hd:b.done=false) (h:bstep b l=.ok b' n) :
  BJ b'/\bcost b'<=bcost b+n/\(b'.done=true->112<=bcost b'):=by
 have hok:=bstep_okB hb hd h
 have fin:(BJ b'/\bcost b'<=bcost b+n/\(b'.done=true->∃ r,b'.row=some r/\r.code.done=true))->BJ b'/\bcost b'<=bcost b+n/\(b'.done=true->112<=bcost b'):=by
  rintro⟨h1,h2,h3⟩;refine⟨h1,h2,λhdn=>?_⟩;obtain⟨r,hr,hrd⟩:=h3 hdn;obtain⟨g1,g2,_⟩:=hok.some_ r hr;have:=h1 r hr hrd;have hs:=g2.code.s1;unfold bcost ccost;rw[g1,hr,if_pos rfl];simp only[if_pos this.1];have:3*2<=r.code.size*r.code.codes.length:=Nat.mul_le_mul hs this.2;omega
 apply fin;unfold bstep at h;split at h
 ·rename_i hh;unfold bhead at h;split at h
  ·cases h
  ·split at h
   ·cases h
   ·have hrn:=(head_pre (s:=0) (f:=0) hb hh (by omega) (by omega)).1;obtain⟨rfl,h1,h2,h3⟩:=bend_cnt h;simp only at h1 h2 h3;refine⟨λr hr=>(by rw[h1,hrn] at hr;cases hr),?_,λhdn=>?_⟩
    ·unfold bcost;rw[h1,h2,hrn,hh];simp
    ·rcases h3 hdn with h|⟨r,hr,_⟩
     ·rw[hd] at h;cases h
     ·rw[hrn] at hr;cases hr
 ·rename_i hh
  have hh2:b.head=true:=by simpa using hh
  split at h
  ·rename_i hrn;unfold buse at h;split at h
   ·cases h
   ·cases h
   ·rename_i T k hu;obtain⟨rfl,h1,h2,h3⟩:=bend_cnt h;simp only at h1 h2 h3;have h32:=uread_32 hu;refine⟨λr hr=>?_,?_,λhdn=>?_⟩
    ·rw[h1] at hr;cases hr;intro hx;cases hx
    ·unfold bcost;rw[h1,h2,hrn,hh2];simp only[rowOf,ccost,c0,p0,d0,length_nil,Nat.mul_zero,Nat.lt_irrefl,if_false,if_true];omega
    ·rcases h3 hdn with h|⟨r,hr,hx⟩
     ·rw[hd] at h;cases h
     ·cases hr;cases hx
  ·rename_i r hr;have hjr:=hj r hr;split at h
   ·unfold bnext at h;obtain⟨rfl,h1,h2,h3⟩:=bend_cnt h;simp only at h1 h2 h3;refine⟨λr' hr'=>?_,?_,λhdn=>?_⟩
    ·rw[h1] at hr';cases hr';exact hjr
    ·unfold bcost;rw[h1,h2,hr];simp only[RS.next];omega
    ·rcases h3 hdn with h|⟨r',hr',hx⟩
     ·rw[hd] at h;cases h
     ·exact⟨r',by rw[h1];exact hr',hx⟩
   ·have hco:=(hb.some_ r hr).2.1.code;unfold bsym at h;split at h
    ·cases h
    ·cases h
    ·rename_i c k hc;have hcc:=cstep_cnt hco hjr hc;obtain⟨rfl,h1,h2,h3⟩:=bend_cnt h;simp only at h1 h2 h3;refine⟨λr' hr'=>?_,?_,λhdn=>?_⟩
     ·rw[h1] at hr';cases hr';exact hcc.1
     ·unfold bcost;rw[h1,h2,hr];simp only;omega
     ·rcases h3 hdn with h|⟨r',hr',hx⟩
      ·rw[hd] at h;cases h
      ·exact⟨r',by rw[h1];exact hr',hx⟩
    ·rename_i c s k hc;have hcc:=cstep_cnt hco hjr hc;unfold btold at h;split at h
     ·cases h
     ·rename_i z d p hz;obtain⟨rfl,h1,h2,h3⟩:=bend_cnt h;simp only at h1 h2 h3;refine⟨λr' hr'=>?_,?_,λhdn=>?_⟩
      ·rw[h1] at hr';cases hr';exact hcc.1
      ·unfold bcost;rw[h1,h2,hr];simp only;omega
      ·rcases h3 hdn with h|⟨r',hr',hx⟩
       ·rw[hd] at h;cases h
       ·exact⟨r',by rw[h1];exact hr',hx⟩
def bkL:Option BS->Nat
 |none=>0
 |some b=>b.last.length
def bkC:Option BS->Nat
 |none=>0
 |some b=>48+bcost b
structure Cnt (u:US) (q i m:Nat):Prop where
 bits:bkC u.blk+160*m<=q
 steps:i<=q+9*u.unit*m+bkL u.blk
 bj:∀ b,u.blk=some b->BJ b
theorem cnt0 (unit:Nat):Cnt (u0 unit) 0 0 0:=⟨by simp[u0,bkC],by simp,λb h=>by simp[u0] at h⟩
theorem ustep_cnt {u u':US}{l:List Bool}{n w q i m:Nat}(hu:u.Ok) (hc:Cnt u q i m) (h:ustep u l=.ok (u',w) n):Cnt u' (q+n) (i+1) (m+if w=1 then 1 else 0):=by
 have hlev:=hu.lev;have h1:=hc.bits;have h2:=hc.steps;unfold ustep at h;split at h
 ·rename_i hd;have hbn:=hu.none_ (by omega);rw[hbn] at h1 h2;unfold uletter at h
  repeat' split at h
  all_goals first
   |(cases h;exact⟨by show bkC u.blk+160*m<=q+8;rw[hbn];omega,by show i+1<=q+8+9*u.unit*m+bkL u.blk;rw[hbn];omega,λb hb=>(by rw[hbn] at hb;cases hb)⟩)
   |cases h
 ·split at h
  ·rename_i hd;have hbn:=hu.none_ (by omega);rw[hbn] at h1 h2;simp only[bkC,bkL] at h1 h2;unfold umagic at h;split at h
   ·cases h
   ·split at h
    ·cases h;refine⟨?_,?_,λb hb=>?_⟩
     ·show bkC (some (b0 (u.level*u.unit)))+160*m<=q+48;simp only[bkC,bcost,b0];simp;omega
     ·show i+1<=q+48+9*u.unit*m+bkL (some (b0 (u.level*u.unit)));omega
     ·cases hb;intro r hr;simp[b0] at hr
    ·split at h
     ·cases h;refine⟨?_,?_,λb hb=>(by rw[hbn] at hb;cases hb)⟩
      ·show bkC u.blk+160*m<=q+48;rw[hbn];simp only[bkC];omega
      ·show i+1<=q+48+9*u.unit*m+bkL u.blk;omega
     ·cases h
  ·split at h
   ·rename_i hd;unfold ubody at h;split at h
    ·cases h
    ·rename_i b hb;obtain⟨_,hbo,hbd,hbr⟩:=hu.blk b hb;rw[hb] at h1 h2;simp only[bkC,bkL] at h1 h2;unfold uwith at h;split at h
     ·cases h
     ·cases h
     ·rename_i b' n' hs;obtain⟨c1,c2,c3⟩:=bstep_cnt hbo (hc.bj b hb) hbd hs;have hok:=bstep_okB hbo hbd hs;have hpg:=Q23.bstep_prog hbo hs;have hlr:=Q23.last_room hok;have hle:u.level*u.unit<=9*u.unit:=Nat.mul_le_mul_right _ hlev;split at h
      ·rename_i hdn;cases h;have:=c3 hdn;refine⟨?_,?_,λb hb=>(by cases hb)⟩
       ·show bkC none+160*(m+1)<=q+n;simp only[bkC];omega
       ·show i+1<=q+n+9*u.unit*(m+1)+bkL none;rw[Nat.mul_add,Nat.mul_one];simp only[bkL];rcases hpg.2 with⟨h3,h4⟩|⟨h3,h4⟩
        ·rw[h4] at hlr;omega
        ·omega
      ·cases h;refine⟨?_,?_,λb2 hb2=>(by cases hb2;exact c1)⟩
       ·show bkC (some b')+160*m<=q+n;simp only[bkC];omega
       ·show i+1<=q+n+9*u.unit*m+bkL (some b');simp only[bkL];rcases hpg.2 with⟨h3,h4⟩|⟨h3,h4⟩
        ·rw[h4];omega
        ·omega
   ·rename_i hd1 hd2;have hbn:=hu.none_ hd2;rw[hbn] at h1 h2;simp only[bkC,bkL] at h1 h2;unfold usum at h;split at h
    ·cases h
    ·split at h
     ·cases h;refine⟨?_,?_,λb hb=>(by rw[hbn] at hb;cases hb)⟩
      ·show bkC u.blk+160*m<=q+(32+(l.length - 32)%8);rw[hbn];simp only[bkC];omega
      ·show i+1<=q+(32+(l.length - 32)%8)+9*u.unit*m+bkL u.blk;omega
     ·cases h
theorem bkL_le {u:US}(hu:u.Ok):bkL u.blk<=9*u.unit:=by
 cases hb:u.blk with
 |none=>exact Nat.zero_le _
 |some b=>
  obtain⟨_,hbo,_,hbr⟩:=hu.blk b hb;have hlr:=Q23.last_room hbo;have hle:u.level*u.unit<=9*u.unit:=Nat.mul_le_mul_right _ hu.lev;show b.last.length<=_;omega
end Go.Q25
namespace Go.Vc
section
variable {P:Program}{w:World}{L:List HProp}
theorem setL_mid:∀ (us cs:List Value) (o:Nat),o+us.length<=cs.length->setL cs o us=cs.take o++us++cs.drop (o+us.length)
 |[],cs,o,h=>by simp[setL]
 |u::us,cs,o,h=>by
  simp only[length_cons] at h;rw[setL,setL_mid us (cs.set o u) (o+1) (by rw[List.length_set];omega)]
  have h1:(cs.set o u).take (o+1)=cs.take o++[u]:=by
   rw[take_add_one,List.getElem?_set_self (by omega)];simp only[Option.toList_some]
   congr 1
   exact List.take_set_of_le (Nat.le_refl o)
  have h2:(cs.set o u).drop (o+1+us.length)=cs.drop (o+(us.length+1)):=by
   rw[show o+1+us.length=o+(us.length+1) by omega];exact List.drop_set_of_lt (by omega)
  rw[h1,h2];simp
theorem setCells_eq (b:Nat):∀ (vs:List Value) (w:World) (o:Nat),w.setCells b o vs=Vc.setCells w ⟨b,0,none⟩ vs o
 |[],w,o=>rfl
 |v::r,w,o=>by
  rw[World.setCells,Vc.setCells,setCells_eq b r]
  have e1:(⟨b,0,none⟩:Addr).add o=⟨b,o,none⟩:=by
   unfold Addr.add;split
   ·rename_i h;rw[h]
   ·simp
  rw[e1]
theorem r_cx {f:FuncId}{args:Array Value}{v:Value}{K:Value->World->Prop}(h:(callFunc f args).run P w=.ok (.value v) w) (k:K v w):Cx P f args w K:=⟨v,w,h,k⟩
theorem r_cw {s d:TypeId}{x v:Value}{K:Value->World->Prop}(h:(convert s d x).run P w=.ok v w) (k:K v w):Cw P s d x w K:=⟨v,w,h,k⟩
theorem r_bnEq {e:TypeId}{neg:Bool}{a:Addr}{i:TypeInfo}{K:Value->Prop}(h:P.info? e=some i) (k:K (.bool (!neg))):Bn P e neg (.pointer (some a)) (.pointer (some a)) K:=.inr ⟨i,a,h,rfl,rfl,k⟩
theorem r_apStr {t e tx:TypeId}{z:Value} [hr:Row P t e z] (hk:P.underlying tx=some .string) (H:Holds w L) (i:Nat){v:Value}{xs ys:List UInt8}{ty:TypeId}{K:Value->World->Prop}
  (hi:L[i]?=some (SL bv e v xs)) (hn:xs.length+ys.length<=1099511627776)
  (h:∀ v' w',Same w w'->Holds w' (L.set i (SL bv e v' (xs++ys)))->K v' w'):Ap P #[t,tx] ty #[v,.string ⟨ys.toArray⟩] w K:=by
 obtain⟨inf,hinf,hsz,hby,hzz⟩:=hr.inf
 have hb:byteCells ⟨ys.toArray⟩=ys.map bv:=by
  unfold byteCells;simp
 have hsrc:∀ w,Src P inf.size tx (.string ⟨ys.toArray⟩) ys.length (ys.map bv) w:=λw=>by
  have:=Src.ofString (P:=P) w hk ⟨ys.toArray⟩;rw[hb] at this;rw[hsz]
  have e:(⟨ys.toArray⟩:ByteArray).size=ys.length:=by show ys.toArray.size=_;simp
  rw[e] at this;exact this
 obtain⟨oa,sp,rfl,H1⟩:=H.open i hi;have hil:i < L.length:=(List.getElem?_eq_some_iff.1 hi).1
 by_cases hy:ys=[]
 ·subst hy;refine⟨_,_,run_append_nothing w t tx ty e inf hr.und hinf oa xs.length (xs.length+sp.length) (by omega) _ (hsrc w),h _ _ (.refl _) ?_⟩
  rw[append_nil,show L.set i (SL bv e (.slice oa xs.length (xs.length+sp.length)) xs)=L from by
   have e1:L[i]=_:=(List.getElem?_eq_some_iff.1 hi).2
   rw[<-e1,List.set_getElem_self]]
  exact H
 have hy0:0 < ys.length:=length_pos_iff.2 hy;have hmul:(xs.length+ys.length)*inf.bytes<=140737488355328:=Nat.le_trans (Nat.mul_le_mul_left _ hby) (by omega)
 have hold:(Builtin.firstCells inf.size xs.length (.slice oa xs.length (xs.length+sp.length))).run P w.drew=.ok (xs.map bv).toArray w.drew:=by
  cases oa with
  |none=>
   obtain⟨g,⟨h2,h3⟩,_⟩:=H1.front i (set_get hi);subst h2;exact run_firstCells_none w.drew inf.size 0 0 _
  |some a=>
   obtain⟨g,⟨h2,h3,_⟩,_⟩:=H1.front i (set_get hi);obtain⟨b,o,s⟩:=a;simp only at h2 h3;subst h2;subst h3;have Hb:=H1.slb i (set_get hi);refine run_firstCells_some w.drew inf.size xs.length ⟨b,0,none⟩ xs.length _ (xs.map bv) (by simp[hsz]) ?_;intro k u hu
   have e1:(⟨b,0,none⟩:Addr).add k=⟨b,k,none⟩:=by
    unfold Addr.add;split
    ·rename_i h;rw[h]
    ·simp
   rw[set_set] at Hb;have hc:=Hb.cell i (set_get hi) k;rw[getElem?_append_left (by simpa using (List.getElem?_eq_some_iff.1 hu).1),hu] at hc;rw[e1];exact hc
 rcases Nat.lt_or_ge sp.length ys.length with hg|hg
 ·have hrun:=run_append_grow_src (P:=P) w t tx ty e inf z hr.und hinf hzz oa xs.length (xs.length+sp.length) (xs.map bv) hold _ ys.length _ (hsrc w) (by omega) (by omega) (growslice_fits (by omega) hmul);refine⟨_,_,hrun,?_⟩;have hcap:=grownCap_ge w (xs.length+ys.length) (xs.length+sp.length) e;generalize grownCap w (xs.length+ys.length) (xs.length+sp.length) e=cap at hcap ⊢
  have hz2:Builtin.zeroCells z.cells (cap - (xs.length+ys.length))=(List.replicate (cap - (xs.length+ys.length)) z).toArray:=by
   rw[hr.one];apply Array.ext
   ·simp[Builtin.zeroCells]
   ·intro j h1 h2;simp[Builtin.zeroCells,Nat.mod_one]
  have hcells:((xs.map bv++ys.map bv).toArray++Builtin.zeroCells z.cells (cap - (xs.length+ys.length)))=((xs++ys).map bv++List.replicate (cap - (xs.length+ys.length)) z).toArray:=by
   rw[hz2];simp
  rw[hcells];have H2:=(H.same (w':=w.drew) rfl).alloc (.cells ((xs++ys).map bv++List.replicate (cap - (xs.length+ys.length)) z).toArray e);have H4:=(Holds.imp H2 (Q:=slb bv e (some ⟨w.heap.size,0,none⟩) (xs++ys) (List.replicate (cap - (xs.length+ys.length)) z)) λg hg=>⟨rfl,rfl,hg⟩);have H5:=H4.dropAt (i+1);rw[List.eraseIdx_cons_succ] at H5;have H6:Holds _ (L.set i (slb bv e (some ⟨w.heap.size,0,none⟩) (xs++ys) (List.replicate (cap - (xs.length+ys.length)) z))):=Sat.push i hi H5;have H7:=H6.close i (set_get hi);rw[set_set] at H7
  have hc2:(xs++ys).length+(List.replicate (cap - (xs.length+ys.length)) z).length=cap:=by simp;omega
  have hl2:(xs++ys).length=xs.length+ys.length:=length_append;rw[hc2,hl2] at H7;exact h _ _ ((Same.drew w).trans (.alloc _ _)) H7
 ·cases oa with
  |none=>
   obtain⟨g,⟨h2,h3⟩,_⟩:=H1.front i (set_get hi);subst h3;simp at hg;exact absurd hg hy
  |some a=>
   obtain⟨g,⟨h2,h3,_⟩,_⟩:=H1.front i (set_get hi);obtain⟨b,o,s⟩:=a;simp only at h2 h3;subst h2;subst h3;have Hb:=H1.slb i (set_get hi);rw[set_set] at Hb;have hgi:=set_get (Q:=blk b e (xs.map bv++sp)) hi
   have hrun:=run_append_room_src (P:=P) w t tx ty e inf hr.und hinf b 0 xs.length (xs.length+sp.length) _ ys.length _ (hsrc w) (by omega)
    (λj hj=>by
     rw[length_map] at hj
     rw[Hb.cell i hgi,hsz,Nat.mul_one,Nat.zero_add,getElem?_eq_getElem (by rw[length_append,length_map];omega)];rfl)
    (λj hj=>Hb.frozen i hgi _)
   refine⟨_,_,hrun,?_⟩;rw[setCells_eq,hsz,Nat.mul_one,Nat.zero_add];have H3:=Holds.setCells (o:=0) i (ys.map bv) xs.length Hb hgi;rw[set_set,setL_mid _ _ _ (by simp;omega)] at H3
   have e2:(xs.map bv++sp).take (0+xs.length)++ys.map bv++(xs.map bv++sp).drop (0+xs.length+(ys.map bv).length)=(xs++ys).map bv++sp.drop ys.length:=by
    simp[List.take_append,List.drop_append]
   rw[e2] at H3;have H4:=Holds.slb' (f:=bv) (e:=e) (b:=b) (xs:=xs++ys) (sp:=sp.drop ys.length) H3 i (set_get hi);rw[set_set] at H4;have H5:=H4.close i (set_get hi);rw[set_set] at H5
   have hl:(xs++ys).length+(sp.drop ys.length).length=xs.length+sp.length:=by simp;omega
   have hl2:(xs++ys).length=xs.length+ys.length:=length_append;rw[hl,hl2] at H5;exact h _ _ (Same.setCells _ _ _ _) H5
theorem r_strK {e pty ity:TypeId}{ats:Array TypeId}{ty:TypeId}(hp:P.underlying pty=some (.pointer e)) (hty:P.underlying ty=some (.pointer e)) (hc:P.cellsOf e=1) (H:Holds w L) (i:Nat){v:Value}{xs:List UInt8}{Q:Value->World->Prop}
  (hi:L[i]?=some (SL bv e v xs)) (hn:xs.length<=1099511627776)
  (h:∀ p w2,Same w w2->Holds w2 (L.eraseIdx i)->(∀ (K:Value->World->Prop),(∀ w',Same w2 w'->Holds w' (L.eraseIdx i)->K (.string ⟨xs.toArray⟩) w')->∀ ty2,Ust P #[pty,ity] ty2 #[p,nv xs.length] w2 K)->Q p w2) :
  Usd P ats ty #[v] w Q:=by
 obtain⟨oa,sp,rfl,H1⟩:=H.open i hi;have Hd:Holds w (L.eraseIdx i):=H.dropAt i
 cases oa with
 |none=>
  obtain⟨g,⟨h2,h3⟩,_⟩:=H1.front i (set_get hi);subst h2;exact⟨_,w,Lib.run_unsafeSliceData_nil (P:=P) w ats ty _ _,h _ w (.refl w) Hd λK k ty2=>⟨_,w,Lib.run_unsafeString_none (P:=P) w pty ity ty2 none,k w (.refl w) Hd⟩⟩
 |some a=>
  obtain⟨g,⟨h2,h3,_⟩,_⟩:=H1.front i (set_get hi);obtain⟨b,o,s⟩:=a;simp only at h2 h3;subst h2;subst h3;have Hb:=H1.slb i (set_get hi);rw[set_set] at Hb;have hgi:=set_get (Q:=blk b e (xs.map bv++sp)) hi;have hobj:=Hb.obj i hgi
  have hsh:w.shape? b=some (e,(xs.map bv++sp).length):=by
   unfold World.shape?;rw[hobj];simp
  by_cases hcap:xs.length+sp.length=0
  ·have hx:xs=[]:=List.eq_nil_of_length_eq_zero (by omega);subst hx;have hs0:sp=[]:=List.eq_nil_of_length_eq_zero (by omega);subst hs0;exact⟨_,_,Lib.run_unsafeSliceData_zero (P:=P) w ats ty e hty ⟨b,0,none⟩ 0 _ hsh,h _ _ (.alloc _ _) (Hd.alloc _).drop λK k ty2=>⟨_,_,Lib.run_unsafeString_none (P:=P) _ pty ity ty2 _,k _ (.refl _) (Hd.alloc _).drop⟩⟩
  ·refine⟨_,w,Lib.run_unsafeSliceData_row (P:=P) w ats ty _ _ _ hcap,h _ w (.refl w) Hd λK k ty2=>?_⟩
   by_cases hx:xs=[]
   ·subst hx;exact⟨_,w,Lib.run_unsafeString_none (P:=P) w pty ity ty2 _,k w (.refl w) Hd⟩
   ·have hrun:=Lib.run_unsafeString_row (P:=P) w pty ity ty2 e hp hc b _ hsh xs hx (by simp) (by omega) (λj x hj=>by
     have e1:(⟨b,0,none⟩:Addr).add j=⟨b,j,none⟩:=by
      unfold Addr.add;split
      ·rename_i h;rw[h]
      ·simp
     have hjl:=(List.getElem?_eq_some_iff.1 hj).1;rw[e1,Hb.cell i hgi j,getElem?_append_left (by simpa using hjl),List.getElem?_map,hj]
     rfl)
    refine⟨_,_,hrun,k _ ⟨?_,?_,?_,?_⟩ ?_⟩
    ·unfold World.freeze;split <;> rfl
    ·unfold World.freeze;split <;> rfl
    ·unfold World.freeze;split <;> rfl
    ·unfold World.freeze;split <;> simp
    ·have Hf:=Hb.front i hgi;obtain⟨g,hg,hgs,hL⟩:=Hf
     have he:(L.set i (blk b e (xs.map bv++sp))).eraseIdx i=L.eraseIdx i:=by rw[List.eraseIdx_set_eq]
     rw[he] at hL;refine Sat.mono hL λc x hx=>?_;unfold Hp.minus at hx;split at hx
     ·cases hx
     ·rename_i hgc
      have hcb:c≠b:=by
       rintro rfl;apply hgc;have:g c=some _:=hg;rw[this];rfl
      show (w.freeze ⟨b,0,none⟩ xs.length).heap[c]?=some x;unfold World.freeze;split
      ·exact hx
      ·simp only[Array.getElem?_modify];rw[if_neg (λe=>hcb e.symm)];exact hx
end
end Go.Vc
namespace Go.Proofs.YtgaiocpkjaaphaaGreatDoor
open Go Go.Vc Go.Proofs.Tryz
attribute [local irreducible] Vc.Nc Vc.Ld Vc.LdA Vc.St Vc.StA Vc.Fo Vc.Iaa Vc.Ias Vc.Ixs Vc.Ixa Vc.Fd Vc.FdA Vc.Bp Vc.Bb Vc.Bn Vc.Up Vc.Ci Vc.Lns Vc.Lnl Vc.Ex Vc.Sst Vc.Ssl Vc.New Vc.Vif Vc.VJoin Vc.VLoop Vc.KE Vc.Dr Vc.Rk Vc.Cl Vc.Cx Vc.Inv Vc.Be Vc.Cv Vc.Cw Vc.Mf Vc.Sl Vc.Lk Vc.Bd Vc.Bs Vc.Ms Vc.Mm Vc.Mu Vc.Me Vc.Es Vc.Rg Vc.Nx Vc.Ta Vc.Ap Vc.Usd Vc.Ust Vc.Cp Vc.Ln Vc.Bc Vc.Bmin Vc.Bmax Vc.Bdel Vc.Bclr Vc.Pk
namespace P20
open Go.M01 Go.Mb Go.Mp Go.M10 Go.Mz Go.Mw Go.Mx Go.Mv Go.Mh F08 Rw T12 W14 W20
variable {w:World}{L:List HProp}{K:Value->World->Prop}{wb n:Nat}{bs:List Bool}
open Go.M18 in
theorem lastL_ne {s:List UInt8}(h:s≠[]):lastL s≠[]:=λe=>by
 have:=lastL_len s;rw[e] at this;exact h (List.eq_nil_of_length_eq_zero this.symm)
open Go.M18 in
theorem idx_lt_ {s:List UInt8}{o:Nat}(h:(sortP s s.length)[o]?=some 0):o < s.length:=by
 have:=(List.getElem?_eq_some_iff.1 h).1;rw[sortP_len] at this;exact this
def BodyBits (s:List UInt8) (sum:Nat) (B:List Bool):Prop:=∃ o picks ts,(M18.sortP s s.length)[o]?=some 0/\Cho (rowOf (M18.lastL s)) ((symsOf (M18.lastL s)).length+2) picks ts/\B=blockBits (M18.lastL s) o sum picks ts
theorem BodyBits.uniq {s:List UInt8}{sum:Nat}{B B2:List Bool}(h:BodyBits s sum B) (g:BodyBits s sum B2):B=B2:=by
 obtain⟨o,p,t,h1,h2,rfl⟩:=h;obtain⟨o2,p2,t2,g1,g2,rfl⟩:=g;obtain rfl:=S17.sortP_idx h1 g1;obtain⟨rfl,rfl⟩:=Rnds.uniq h2 g2;rfl
theorem BodyBits.len {s:List UInt8}{sum:Nat}{B:List Bool}(h:BodyBits s sum B) (h0:s≠[]) (hl:s.length<=4000):B.length<=1000000:=by
 obtain⟨o,p,t,h1,h2,rfl⟩:=h;have hll:=M18.lastL_len s;have:=blockBits_len (origin:=o) (sum:=sum) (lastL_ne h0) (by omega) h2;omega
theorem Write_spec {s:List UInt8}{sum:Nat}(H:Holds w (W01.WrR wb bs n::L)) (hb:BndOk L) (h0:s≠[]) (hl:s.length<=4000) (hs:sum < 4294967296) (hbl:bs.length<=8000000000) (hn:n<=bs.length/8)
  (k:∀ B w',BodyBits s sum B->Same w w'->Holds w' (W01.WrR wb (bs++B) n::L)->K (iv 0) w'):Cl prog 10 #[pt wb,S_ s,uv sum] w K:=by
 refine Tz10 ?_;unfold Vz10;have hll:=M18.lastL_len s;refine r_bnSF (r_vf ?_);refine S17.Of_spec H h0 hl λo w1 ho S1 H1=>?_;refine r_ex30 (r_ex31 (r_ex32 (r_neq (r_vfN rfl ?_))));have hol:=idx_lt_ ho;refine W20.Turned_spec H1 hb (lastL_ne h0) (by omega) (by omega) hs hbl hn λpicks ts w2 hC S2 H2=>?_;exact k _ w2 ⟨o,picks,ts,ho,hC,rfl⟩ (S1.trans S2) H2
theorem WriteD_spec {s:List UInt8}{sum:Nat}(H:Holds w L) (h0:s≠[]) (hl:s.length<=4000) (hs:sum < 4294967296)
  (k:∀ B w',BodyBits s sum B->Same w w'->Holds w' L->K (S_ (txt B)) w'):Cl prog 14 #[S_ s,uv sum] w K:=by
 refine Tz14 ?_;unfold Vz14;have hll:=M18.lastL_len s;have hpos:=length_pos_iff.2 h0
 have hz:(zeroP prog U18.tT).cells.toList=[.string ⟨#[]⟩,nv 0]:=by kernel_rfl
 refine U18.TOf_spec H (by omega) hpos λo w1 hol ho S1 H1=>?_;refine r_new H1 λtb w2 S2 H2=>?_;rw[hz] at H2;refine r_stA 0 H2 (vs:=[S_ (M18.lastL s),nv o]) rfl (by decide) rfl rfl λw3 S3 H3=>?_;replace H3:Holds w3 (blk tb U18.tT [S_ (M18.lastL s),nv o]::L):=H3;refine r_fo0 (r_ld 0 H3 rfl rfl ?_);refine r_fo0 (r_ld 0 H3 rfl rfl ?_);refine r_bd (v:=.agg #[S_ (M18.lastL s),nv o,uv sum]) (by kernel_rfl) ?_;refine Bits20_spec H3 (lastL_ne h0) (by omega) (by omega) hs λpicks ts w4 hC S4 H4=>?_;exact k _ w4 ⟨o,picks,ts,ho,hC,rfl⟩ (S1.trans (S2.trans (S3.trans S4))) H4.drop
end P20
namespace Y20
open Go.M01 Go.Mb Go.Mp Go.M10 Go.Mc Go.Mz Go.Q20 Go.Q21 Go.Mw Go.Mx Go.Mv Go.Ma T12 W14 W20
theorem rowsC_pre (l picks:List Nat) (ts:List (List Nat)) (j:Nat):∀ d,∃ r,rowsC l picks ts (j+d)=rowsC l picks ts j++r
 |0=>⟨[],by simp⟩
 |d+1=>by
  obtain⟨r,hr⟩:=rowsC_pre l picks ts j d;exact⟨r++W14.rowC l picks ts (j+d),by rw[<-Nat.add_assoc,rowsC_succ,hr,append_assoc]⟩
theorem code_back {l picks:List Nat}{ts:List (List Nat)}{size:Nat}(hR:W14.Row l size) (hC:Cho l size picks ts) (rest:List Bool):∃ c,CRun size (codeBits l picks ts++rest) c l (codeBits l picks ts).length/\c.done=true:=by
 obtain⟨hT,hpl,hpx⟩:=hC.ok;have hW:=cho_whole hR.s3 hC;have h3:=hR.s3;have hpos:=length_pos_iff.2 hR.ne;have hlen:=hR.len;have hgr:nGr l=(l.length+49)/50:=rfl;have hpn:picks≠[]:=length_pos_iff.1 (by rw[hpl,hgr];omega);obtain⟨p,hp1,hp2,hp3,hp4⟩:=picks_back (t:=ts.length) ⟨hT.n2,hT.n6⟩ hpn (by rw[hpl,hgr];omega) hpx (ts.flatMap lensB++(rowsC l picks ts l.length++rest));generalize hP:picksB picks ts.length=P at *
 have hcb:codeBits l picks ts=P++ts.flatMap lensB++rowsC l picks ts l.length:=by unfold codeBits;rw[hP]
 have hQ:codeBits l picks ts++rest=P++(ts.flatMap lensB++(rowsC l picks ts l.length++rest)):=by rw[hcb];simp only[append_assoc]
 rw[hQ];generalize hq:P++(ts.flatMap lensB++(rowsC l picks ts l.length++rest))=Q at *
 have key1:∀ u,u<=ts.length->CRun size Q ⟨size,p,d0 size,ts.take u,0,false⟩ [] (P.length+((ts.take u).flatMap lensB).length):=by
  intro u
  induction u with
  |zero=>intro _;exact picks_lift hp1
  |succ u ih=>
   intro hu;have ih:=ih (by omega);have hmem:ts[u]∈ts:=getElem_mem (by omega)
   have e:ts.take (u+1)=ts.take u++[ts[u]]:=by rw[take_add_one,getElem?_eq_getElem (by omega)];rfl
   have e2:ts=ts.take u++ts[u]::ts.drop (u+1):=by rw[<-List.drop_eq_getElem_cons (by omega),List.take_append_drop]
   have hdrop:Q.drop (P.length+((ts.take u).flatMap lensB).length)=lensB ts[u]++((ts.drop (u+1)).flatMap lensB++(rowsC l picks ts l.length++rest)):=by
    have e3:ts.flatMap lensB=(ts.take u).flatMap lensB++(lensB ts[u]++(ts.drop (u+1)).flatMap lensB):=by
     conv=>lhs;rw[e2]
     rw[flatMap_append,flatMap_cons]
    have e4:Q=(P++(ts.take u).flatMap lensB)++(lensB ts[u]++((ts.drop (u+1)).flatMap lensB++(rowsC l picks ts l.length++rest))):=by
     rw[<-hq,e3];simp only[append_assoc]
    rw[e4,<-length_append,drop_left]
   have hsz:=hT.sz _ hmem;obtain⟨d,hd1,hd2,hd3⟩:=lens_back (lens:=ts[u]) (length_pos_iff.1 (by rw[hsz];omega)) (hW _ hmem).sized ((ts.drop (u+1)).flatMap lensB++(rowsC l picks ts l.length++rest));rw[hsz,<-hdrop] at hd1;have hx:=lens_lift (c:=⟨size,p,d0 size,ts.take u,0,false⟩) hp4 (by show (ts.take u).length < p.t;rw[hp2,length_take];omega) rfl rfl h3 ih hd1;rw[if_pos hd3,hd2,if_pos (hW _ hmem).share] at hx;rw[e,flatMap_append,length_append,<-Nat.add_assoc,flatMap_cons,flatMap_nil,append_nil];exact hx
 have k1:=key1 ts.length (Nat.le_refl _);rw[take_length] at k1
 have key2:∀ i,i<=l.length->CRun size Q ⟨size,p,d0 size,ts,i,decide (i=l.length)⟩ (l.take i) (P.length+(ts.flatMap lensB).length+(rowsC l picks ts i).length):=by
  intro i
  induction i with
  |zero=>
   intro _;rw[decide_eq_false (by omega)];exact k1
  |succ i ih=>
   intro hi;have ih:=ih (by omega)
   have e:l.take (i+1)=l.take i++[l[i]]:=by rw[take_add_one,getElem?_eq_getElem (by omega)];rfl
   have hli:l.getD i 0=l[i]:=by rw[getD_eq_getElem?_getD,getElem?_eq_getElem (by omega)];rfl
   obtain⟨r,hr⟩:=rowsC_pre l picks ts (i+1) (l.length - (i+1));rw[show i+1+(l.length - (i+1))=l.length by omega,rowsC_succ] at hr
   have hdrop:Q.drop (P.length+(ts.flatMap lensB).length+(rowsC l picks ts i).length)=W14.rowC l picks ts i++(r++rest):=by
    have e4:Q=(P++ts.flatMap lensB++rowsC l picks ts i)++(W14.rowC l picks ts i++(r++rest)):=by
     rw[<-hq,hr];simp only[append_assoc]
    rw[e4,<-length_append,<-length_append,drop_left]
   have hpi:i/50 < picks.length:=by rw[hpl,hgr];omega
   have hpk:picks.getD (i/50) 0 < ts.length:=by
    rw[getD_eq_getElem?_getD,getElem?_eq_getElem hpi];exact hpx _ (getElem_mem hpi)
   have hTm:=T12.row_mem hpk;generalize hTT:ts.getD (picks.getD (i/50) 0) []=TT at *
   have hrc:W14.rowC l picks ts i=codeB TT l[i]:=by unfold W14.rowC;rw[hTT,hli]
   have hsz:=hT.sz _ hTm
   have hlx:l[i] < TT.length:=by rw[hsz];exact hR.lt _ (getElem_mem (by omega))
   have hcl:(codeB TT l[i]).length=TT.getD l[i] 0:=codeB_len _ _
   have hg:=get_code (l:=Q.drop (P.length+(ts.flatMap lensB).length+(rowsC l picks ts i).length)) (hW _ hTm) hlx (by rw[hdrop,hrc,length_append,hcl];omega) (by
    rw[hdrop,hrc,<-hcl,take_left])
   have hx:=sym_next (c:=⟨size,p,d0 size,ts,i,decide (i=l.length)⟩) (s:=l[i]) (n:=TT.getD l[i] 0) hp4 (by show ¬ ts.length < p.t;omega) (decide_eq_false (by omega)) (by show ¬ p.picks.length<=i/50;rw[hp3];omega) ih (by
    have ht:CS.table ⟨size,p,d0 size,ts,i,decide (i=l.length)⟩=TT:=by
     show ts.getD (p.picks.getD (i/50) 0) []=TT;rw[hp3,hTT]
    rw[ht]
    exact hg)
   have hfin:=hR.fin i (by omega);rw[hli] at hfin
   have ed:readC ⟨size,p,d0 size,ts,i,decide (i=l.length)⟩ l[i]=⟨size,p,d0 size,ts,i+1,decide (i+1=l.length)⟩:=by
    have:decide (l[i]=size - 1)=decide (i+1=l.length):=by
     rw[decide_eq_decide,hfin];omega
    show (⟨size,p,d0 size,ts,i+1,decide (l[i]=size - 1)⟩:CS)=_;rw[this]
   rw[ed] at hx;rw[e,rowsC_succ,length_append,hrc,hcl,<-Nat.add_assoc];exact hx
 have k2:=key2 l.length (Nat.le_refl _);rw[take_length,decide_eq_true rfl] at k2;refine⟨⟨size,p,d0 size,ts,l.length,true⟩,?_,rfl⟩;rw[hcb,length_append,length_append];exact k2
theorem block_says {s:List UInt8}{origin sum room:Nat}{picks:List Nat}{ts:List (List Nat)}(h0:s≠[]) (hl:s.length<=room) (hr:room<=900000) (ho:origin < s.length) (hs:sum < 4294967296) (hC:Cho (W20.rowOf s) ((symsOf s).length+2) picks ts) (rest:List Bool) :
  ∃ held,Q20.Comes room (blockBits s origin sum picks ts++rest) (.got s origin sum (blockBits s origin sum picks ts).length held):=by
 have hR:=row_ok h0 (by omega);have hsy:=syms_len h0;obtain⟨T',hu,hT'⟩:=used_back (upT s) (codeBits (W20.rowOf s) picks ts++rest) (length_pos_iff.1 hsy.1);replace hT':listed T'=symsOf s:=hT';obtain⟨c,hc1,hc2⟩:=code_back hR hC rest;obtain⟨pl1,pl2⟩:=places_ok s;obtain⟨z,hz⟩:=zeros_back (n:=(symsOf s).length) (room:=room) hsy.1 pl2 (by omega);have hm:=mtf_back (symsOf s) s λc hc=>mem_syms hc;have h32:(bitsOf sum 32).length=32:=bitsOf_len _ _;have h24:(bitsOf origin 24).length=24:=bitsOf_len _ _
 have hx:blockBits s origin sum picks ts++rest=bitsOf sum 32++(false::(bitsOf origin 24++(usedB (upT s)++(codeBits (W20.rowOf s) picks ts++rest)))):=by
  unfold blockBits;simp only[append_assoc,List.cons_append,nil_append]
 have hbl:(blockBits s origin sum picks ts).length=57+(usedB (upT s)).length+(codeBits (W20.rowOf s) picks ts).length:=by
  unfold blockBits;simp only[length_append,length_singleton,h32,h24]
 generalize hl0:blockBits s origin sum picks ts++rest=l at *
 have e32:l.take 32=bitsOf sum 32:=by
  have:=take_left (l₁:=bitsOf sum 32) (l₂:=false::(bitsOf origin 24++(usedB (upT s)++(codeBits (W20.rowOf s) picks ts++rest))));rw[h32] at this;rw[hx];exact this
 have ed32:l.drop 32=false::(bitsOf origin 24++(usedB (upT s)++(codeBits (W20.rowOf s) picks ts++rest))):=by
  have:=drop_left (l₁:=bitsOf sum 32) (l₂:=false::(bitsOf origin 24++(usedB (upT s)++(codeBits (W20.rowOf s) picks ts++rest))));rw[h32] at this;rw[hx];exact this
 have ed33:l.drop 33=bitsOf origin 24++(usedB (upT s)++(codeBits (W20.rowOf s) picks ts++rest)):=by rw[show (33:Nat)=32+1 from rfl,<-drop_drop,ed32];rfl
 have e24:(l.drop 33).take 24=bitsOf origin 24:=by
  have:=take_left (l₁:=bitsOf origin 24) (l₂:=usedB (upT s)++(codeBits (W20.rowOf s) picks ts++rest));rw[h24] at this;rw[ed33];exact this
 have ed57:l.drop 57=usedB (upT s)++(codeBits (W20.rowOf s) picks ts++rest):=by
  have:=drop_left (l₁:=bitsOf origin 24) (l₂:=usedB (upT s)++(codeBits (W20.rowOf s) picks ts++rest));rw[h24] at this;rw[show (57:Nat)=33+24 from rfl,<-drop_drop,ed33];exact this
 have edU:l.drop (57+(usedB (upT s)).length)=codeBits (W20.rowOf s) picks ts++rest:=by rw[<-drop_drop,ed57,drop_left]
 have hg32:l.getD 32 false=false:=by
  rw[getD_eq_getElem?_getD,<-Nat.add_zero 32,<-List.getElem?_drop,ed32];rfl
 have hll:¬ l.length < 57:=by
  have:=congrArg List.length hl0;rw[length_append,hbl] at this;omega
 have hrow:W20.rowOf s=rowE (mtfE (symsOf s) s).2 (symsOf s).length:=rfl
 have hgot:=Says.got (room:=room) (l:=l) (T:=T') (n:=(usedB (upT s)).length) (k:=(codeBits (W20.rowOf s) picks ts).length) (c:=c) (L:=W20.rowOf s) (z:=z) (pl:=(mtfE (symsOf s) s).2) hll hg32 (by rw[ed57];exact hu) (by rw[hT',edU];exact hc1) hc2 (by rw[hT'];exact hz) (by
  rw[hT',hm,e24,valB_bitsOf _ _ (show origin < 2^24 by omega)];show ¬ s.length<=origin
  omega)
 rw[hT',hm,e24,valB_bitsOf _ _ (show origin < 2^24 by omega),e32,valB_bitsOf _ _ (show sum < 2^32 by omega),<-hbl] at hgot;exact⟨_,says_comes hgot⟩
end Y20
namespace B20
open Go.M01 Go.Mb Go.Mp Go.M10 Go.Mc Go.Mz Go.Mk Rb
variable {w:World}{L:List HProp}{K:Value->World->Prop}{b rb cb zb mb r:Nat}{B:List UInt8}{d at_ n k:Nat}{s:BS}{x:RS}{lv:Value}
abbrev tBk:Nat:=176
abbrev tRw:Nat:=269
def bkC (rv lv:Value) (s:BS):List Value:=[rv,nv s.room,.bool s.head,uv s.sum,nv s.frm,lv,.bool s.done,iv 0]
def rwC (cb zb mb:Nat) (x:RS):List Value:=[pt cb,pt zb,pt mb,nv x.due,nv x.place]
def rawN (b:Nat) (s:BS) (lv:Value):List HProp:=[blk b tBk (bkC (.pointer none) lv s),SL bv tB lv s.last]
def rawS (b:Nat) (s:BS) (x:RS) (rb cb zb mb:Nat) (lv:Value):List HProp:=
 [blk b tBk (bkC (pt rb) lv s),SL bv tB lv s.last,blk rb tRw (rwC cb zb mb x),C14.CdR cb x.code,Z07.ZrR zb x.zeros,F06.MtR mb x.list]
def RawR (b:Nat) (s:BS):HProp:=match s.row with
 |none=>λh=>∃ lv,Sat (rawN b s lv) h
 |some x=>λh=>∃ rb cb zb mb lv,Sat (rawS b s x rb cb zb mb lv) h
def BkR (b:Nat) (s:BS):HProp:=λh=>s.Ok/\RawR b s h
theorem BkR_open (H:Holds w (BkR b s::L)):s.Ok/\Holds w (RawR b s::L):=Holds.pure H
theorem BkR_close (h:s.Ok) (H:Holds w (RawR b s::L)):Holds w (BkR b s::L):=Holds.imp H λ_ hh=>⟨h,hh⟩
theorem Raw_openN (hr:s.row=none) (H:Holds w (RawR b s::L)):∃ lv,Holds w (rawN b s lv++L):=by
 unfold RawR at H;rw[hr] at H;obtain⟨lv,H⟩:=Holds.ex H;exact⟨lv,Holds.unpack H⟩
theorem Raw_closeN (hr:s.row=none) (H:Holds w (rawN b s lv++L)):Holds w (RawR b s::L):=by
 unfold RawR;rw[hr];exact Holds.imp (Holds.pack H) λ_ hh=>⟨lv,hh⟩
theorem Raw_openS (hr:s.row=some x) (H:Holds w (RawR b s::L)):∃ rb cb zb mb lv,Holds w (rawS b s x rb cb zb mb lv++L):=by
 unfold RawR at H;rw[hr] at H;obtain⟨rb,H⟩:=Holds.ex H;obtain⟨cb,H⟩:=Holds.ex H;obtain⟨zb,H⟩:=Holds.ex H;obtain⟨mb,H⟩:=Holds.ex H;obtain⟨lv,H⟩:=Holds.ex H;exact⟨rb,cb,zb,mb,lv,Holds.unpack H⟩
theorem Raw_closeS (hr:s.row=some x) (H:Holds w (rawS b s x rb cb zb mb lv++L)):Holds w (RawR b s::L):=by
 unfold RawR;rw[hr];exact Holds.imp (Holds.pack H) λ_ hh=>⟨rb,cb,zb,mb,lv,hh⟩
def AfterB (y:Res BS) (b:Nat) (s:BS) (r:Nat) (B:List UInt8) (d at_:Nat) (L:List HProp) (e:Int) (w:World):Prop:=
 match y with
 |.short=>e=3/\Holds w (BkR b s::RdR r B d at_::L)
 |.bad c=>e=(c:Int)/\∃ q v1 v2 v3 v4 v5 v6,Holds w (blk b tBk [v1,v2,v3,v4,v5,v6,.bool false,iv 0]::RdR r B d q::L)
 |.ok s' n=>e=0/\Holds w (BkR b s'::RdR r B d (at_+n)::L)
theorem szT (T:Nat->Bool):(⟨(listed T).toArray⟩:ByteArray).size=(listed T).length:=by show (listed T).toArray.size=_;simp
theorem rowOf_spec {T:Nat->Bool}{room:Nat}(H:Holds w L) (hT:listed T≠[]) (hr:room<=900000)
  (k:∀ rb cb zb mb w',Same w w'->Holds w' (blk rb tRw (rwC cb zb mb (rowOf T room))::C14.CdR cb (rowOf T room).code::Z07.ZrR zb (rowOf T room).zeros::F06.MtR mb (rowOf T room).list::L)->K (pt rb) w'):Cl prog 211 #[S_ (listed T),nv room] w K:=by
 refine Tz211 ?_;unfold Vz211;have hl:=listed_len T;have hl0:0 < (listed T).length:=length_pos_iff.2 hT;refine r_lns ?_;rw[szT];refine r_addN (b:=2) (by omega) ?_;refine C14.NewReader_spec H (by omega) (by omega) λcb w1 S1 H1=>?_;refine r_ex20 (r_ex21 (r_lns ?_));rw[szT];refine Z07.NewReader_spec H1 hl0 hl hr λzb w2 S2 H2=>?_;refine r_ex20 (r_ex21 ?_);refine F06.New_spec H2 hT λmb w3 S3 H3=>?_;refine r_ex20 (r_ex21 ?_);refine r_bd (v:=.agg #[pt cb,pt zb,pt mb,nv 0,nv 0]) (by kernel_rfl) ?_;refine r_new H3 λrb w4 S4 H4=>?_;replace H4:Holds w4 (blk rb tRw [pt cb,pt zb,pt mb,nv 0,nv 0]::F06.MtR mb (listed T)::Z07.ZrR zb (z0 (listed T).length room)::C14.CdR cb (c0 ((listed T).length+2))::L):=H4;exact k rb cb zb mb _ (((S1.trans S2).trans S3).trans S4) (by have h_:=Holds.ord 4 [0,3,2,1] H4 rfl;exact h_)
theorem waits_spec (H:Holds w L) (i:Nat) (hi:L[i]?=some (blk rb tRw (rwC cb zb mb x))) (k:K (.bool x.waits) w):Cl prog 163 #[pt rb] w K:=by
 refine Tz163 ?_;unfold Vz163;refine r_bnST (r_vt ?_);refine r_nc (r_fo0 ?_);refine r_ld i H hi rfl ?_;refine r_gtr (r_ifD (λh=>?_) λh=>?_)
 ·have e:x.waits=true:=by unfold RS.waits;simp;left;omega
  rw[e] at k;exact k
 ·refine r_nc (r_fo0 ?_);refine r_ld i H hi rfl ?_;refine r_gtr ?_
  have e:x.waits=decide ((0:Int) < (x.place:Int)):=by
   unfold RS.waits;rw[decide_eq_false (by omega),Bool.false_or,Bool.eq_iff_iff,decide_eq_true_iff,decide_eq_true_iff];omega
  rw[e] at k;exact k
theorem told_spec {c:CS}{sy:Nat}(H:Holds w (blk rb tRw (rwC cb zb mb x)::Z07.ZrR zb x.zeros::L)) (hs:sy<=x.zeros.n+1) (hd:x.zeros.done=false)
  (kb:zput x.zeros sy=none->∀ w',Same w w'->Holds w' L->K (iv 25) w')
  (k:∀ z d p,zput x.zeros sy=some (z,d,p)->∀ w',Same w w'->Holds w' (blk rb tRw (rwC cb zb mb ⟨c,z,x.list,d,p.toNat⟩)::Z07.ZrR zb z::L)->K (iv 0) w'):Cl prog 214 #[pt rb,nv sy] w K:=by
 refine Tz214 ?_;unfold Vz214;refine r_nc (r_fo0 (r_ld 0 H rfl rfl ?_));refine Z07.Put_spec H.swap hs hd (λhn e w2 he S2 H2=>?_) λz d p hz w2 S2 H2=>?_
 ·refine r_ex30 (r_ex31 (r_ex32 ?_));refine r_neq (r_vtN he ?_);exact kb hn _ S2 H2.drop
 ·refine r_ex30 (r_ex31 (r_ex32 ?_));refine r_neq (r_vfN rfl ?_);have S:=S2;have H:=H2.swap;clear H2 S2
  repeat (first|refine r_nc ?_|refine r_fo0 ?_)
  refine r_st 0 H rfl (by simp[rwC]) rfl λw3 S3 H3=>?_;replace H3:Holds w3 (blk rb tRw [pt cb,pt zb,pt mb,nv d,nv x.place]::Z07.ZrR zb z::L):=H3;refine r_max ?_;rw[show max p 0=((p.toNat:Nat):Int) by omega]
  repeat (first|refine r_nc ?_|refine r_fo0 ?_)
  refine r_st 0 H3 rfl (by simp) rfl λw4 S4 H4=>?_;exact k z d p hz _ ((S.trans S3).trans S4) H4
theorem next_spec (H:Holds w (blk rb tRw (rwC cb zb mb x)::F06.MtR mb x.list::L)) (hat:x.at_ < x.list.length) (hdue:x.due<=900000)
  (k:∀ w',Same w w'->Holds w' (blk rb tRw (rwC cb zb mb x.next)::F06.MtR mb x.next.list::L)->K (bv x.byte) w'):Cl prog 164 #[pt rb] w K:=by
 refine Tz164 ?_;unfold Vz164;have S:=Same.refl w;refine r_join1 (λy w'=>y=nv x.at_/\Same w w'/\Holds w' (blk rb tRw (rwC cb zb mb x.next)::F06.MtR mb x.list::L)) ?_ ?_
 ·clear H S;rintro _ _ w1 ⟨rfl,S,H⟩;refine r_nc (r_fo0 (r_ld 0 H rfl rfl ?_));refine F06.At_spec H.swap hat λw2 S2 H2=>?_;refine r_ex20 (r_ex21 ?_);exact k _ (S.trans S2) H2.swap
 ·refine r_nc (r_fo0 (r_ld 0 H rfl rfl ?_));refine r_gtr (r_ifD (λh=>?_) λh=>?_)
  ·refine r_nc (r_fo0 (r_ld 0 H rfl rfl ?_))
   repeat (first|refine r_nc ?_|refine r_fo0 ?_|(refine r_sub1N (by omega) (by omega) ?_))
   refine r_st 0 H rfl (by simp[rwC]) rfl λw3 S3 H3=>?_
   repeat (refine r_ke ?_)
   have h0:0 < x.due:=by omega
   refine⟨by unfold RS.at_;rw[if_pos h0];rfl,S.trans S3,?_⟩;rw[rwC,RS.next,if_pos h0];exact H3
  ·refine r_nc (r_fo0 (r_ld 0 H rfl rfl ?_));refine r_nc (r_fo0 ?_);refine r_st 0 H rfl (by simp[rwC]) rfl λw3 S3 H3=>?_
   repeat (refine r_ke ?_)
   have h0:¬ 0 < x.due:=by omega
   refine⟨by unfold RS.at_;rw[if_neg h0],S.trans S3,?_⟩;rw[rwC,RS.next,if_neg h0,show x.due - 1=x.due by omega];exact H3
theorem NewReader_spec {room:Nat}(H:Holds w L) (h1:5<=room) (h2:room<=900000) (k:∀ b w',Same w w'->Holds w' (BkR b (b0 room)::L)->K (.tuple #[pt b,iv 0]) w'):Cl prog 57 #[nv room] w K:=by
 refine Tz57 ?_;unfold Vz57;refine r_join1 (λx w'=>w=w'/\x=.bool false) ?_ ?_
 ·rintro _ _ _ ⟨rfl,rfl⟩;refine r_vf ?_;refine r_bd (v:=.agg #[.pointer none,nv room,.bool false,uv 0,nv 0,.slice none 0 0,.bool false,iv 0]) (by kernel_rfl) ?_;refine r_new H λb w2 S2 H2=>?_;refine k b _ S2 (BkR_close (b0_ok h2) (Raw_closeN (lv:=.slice none 0 0) rfl ?_));exact (H2.nilSL bv tB).swap
 ·repeat (first|refine r_ke ?_|refine r_lss ?_|refine r_gtr ?_|((with_reducible refine r_vfD ?h ?_);(case h=>omega)))
  exact⟨rfl,by rw[decide_eq_false (by omega)]⟩
theorem end_spec (H:Holds w (RawR b s::RdR r B d (at_+n)::L)) (hp:Pre s) (s0:BS) (post:∀ e w',Same w w'->AfterB (bend s n) b s0 r B d at_ L e w'->K (iv e) w'):Cl prog 166 #[pt b] w K:=by
 refine Tz166 ?_;unfold Vz166;have S:=Same.refl w;have hok:=λs' k' (h:bend s n=.ok s' k')=>(bend_ok hp h).1
 cases hr:s.row with
 |none=>
  have e0:bend s n=.ok s n:=by unfold bend;rw[hr]
  rw[e0] at post hok;obtain⟨lv,H⟩:=Raw_openN hr H;refine r_join1 (λy w'=>w=w'/\y=.bool true) ?_ ?_
  ·rintro _ _ _ ⟨rfl,rfl⟩;refine r_vt ?_;exact post 0 _ S ⟨rfl,BkR_close (hok _ _ rfl) (Raw_closeN hr H)⟩
  ·unfold rawN at H
   repeat (first|refine r_nc ?_|refine r_fo0 ?_|refine r_ke ?_|(with_reducible refine r_bnNT ?_)|(with_reducible refine r_vt ?_)|refine r_ld 0 H rfl rfl ?_)
   exact⟨rfl,rfl⟩
 |some x=>
  obtain⟨rb,cb,zb,mb,lv,H⟩:=Raw_openS hr H
  have e0:bend s n=if x.code.done=false\/x.waits=true then .ok s n else if s.last.length<=s.frm then .bad 23 else .ok ⟨s.room,s.head,s.sum,s.frm,s.row,s.last,true⟩ n:=by
   unfold bend;rw[hr]
  rw[e0] at post hok;unfold rawS at H;have hf:=hp.frm;refine r_join1 (λy w'=>w=w'/\y=.bool (!x.code.done||x.waits)) ?_ ?_
  ·rintro _ _ _ ⟨rfl,rfl⟩
   by_cases hc:x.code.done=false\/x.waits=true
   ·rw[if_pos hc] at post hok
    have:(!x.code.done||x.waits)=true:=by
     rcases hc with h|h
     ·rw[h];rfl
     ·rw[h];simp
    rw[this];refine r_vt ?_;exact post 0 _ S ⟨rfl,BkR_close (hok _ _ rfl) (Raw_closeS hr H)⟩
   ·rw[if_neg hc] at post hok
    have:(!x.code.done||x.waits)=false:=by
     rw[Bool.or_eq_false_iff]
     constructor
     ·cases h:x.code.done with
      |false=>exact absurd (.inl h) hc
      |true=>rfl
     ·cases h:x.waits with
      |false=>rfl
      |true=>exact absurd (.inr h) hc
    rw[this];refine r_vf ?_
    repeat (first|refine r_nc ?_|refine r_fo0 ?_|(refine r_dr H ?_;clear H;intro _ S_ H;replace S:=S.trans S_;clear S_)|refine r_ld 0 H rfl rfl ?_)
    refine r_lnS 1 H rfl ?_
    repeat (refine r_geq ?_)
    refine r_ifD (λh=>?_) λh=>?_
    ·rw[if_pos (by omega)] at post;have H9:=(by have h_:=Holds.ord 7 [0,6] H rfl;exact h_);rw[bkC,hp.done] at H9;exact post 23 _ S ⟨rfl,at_+n,_,_,_,_,_,_,H9⟩
    ·rw[if_neg (by omega)] at post hok
     repeat (first|refine r_nc ?_|refine r_fo0 ?_)
     refine r_st 0 H rfl (by simp[bkC]) rfl λw3 S3 H3=>?_;exact post 0 _ (S.trans S3) ⟨rfl,BkR_close (hok _ _ rfl) (Raw_closeS (s:=⟨s.room,s.head,s.sum,s.frm,s.row,s.last,true⟩) hr H3)⟩
  ·repeat (first|refine r_nc ?_|refine r_fo0 ?_|(with_reducible refine r_bnSF ?_)|(with_reducible refine r_vf ?_)|refine r_ld 0 H rfl rfl ?_|refine r_ld 2 H rfl rfl ?_)
   have H2:Holds w (C14.CdR cb x.code::blk b tBk (bkC (pt rb) lv s)::SL bv tB lv s.last::blk rb tRw (rwC cb zb mb x)::Z07.ZrR zb x.zeros::F06.MtR mb x.list::RdR r B d (at_+n)::L):=(by have h_:=Holds.ord 7 [3,0,1,2,4,5,6] H rfl;exact h_);refine C14.Done_spec H2 ?_
   cases hcd:x.code.done with
   |false=>
    refine r_notF (r_vt ?_)
    repeat (refine r_ke ?_)
    exact⟨rfl,rfl⟩
   |true=>
    refine r_notT (r_vf ?_)
    repeat (first|refine r_nc ?_|refine r_fo0 ?_|refine r_ld 0 H rfl rfl ?_)
    refine waits_spec H 2 rfl ?_
    repeat (refine r_ke ?_)
    exact⟨rfl,by simp⟩
def Mid (y:Res BS) (b:Nat) (s:BS) (r:Nat) (B:List UInt8) (d at_:Nat) (L:List HProp) (v:Value) (w:World):Prop:=
 (∃ e:Int,v=iv e/\e≠0/\AfterB y b s r B d at_ L e w)\/(v=iv 0/\∃ s' n,y=bend s' n/\Pre s'/\Holds w (RawR b s'::RdR r B d (at_+n)::L))
theorem begin_spec (H:Holds w (BkR b s::RdR r B d at_::L)) (hh:s.head=false) (post:∀ v w',Same w w'->Mid (bstep s (rest B at_)) b s r B d at_ L v w'->K v w') :
  Cl prog 161 #[pt b,pt r] w K:=by
 refine Tz161 ?_;unfold Vz161;obtain⟨hs,H⟩:=BkR_open H;have hrow:=(head_pre (s:=0) (f:=0) hs hh (by omega) (by omega)).1;obtain⟨lv,H⟩:=Raw_openN hrow H
 have e0:bstep s (rest B at_)=bhead s (rest B at_):=by unfold bstep;rw[if_pos hh]
 rw[e0] at post;have hrl:=rest_len B at_;have H1:Holds w (RdR r B d at_::blk b tBk (bkC (.pointer none) lv s)::SL bv tB lv s.last::L):=(by have h_:=Holds.ord 3 [2,0,1] H rfl;exact h_);clear H;refine Left_spec H1 λw2 S2 H2=>?_;have S:=S2;have H:=H2;clear H1 H2 S2;refine r_lss (r_ifD (λh=>?_) λh=>?_)
 ·refine post _ _ S (.inl ⟨3,rfl,by decide,?_⟩);unfold bhead;rw[if_pos (by omega)];exact⟨rfl,BkR_close hs (Raw_closeN hrow (by have h_:=Holds.ord 3 [1,2,0] H rfl;exact h_))⟩
 ·have h57:¬ (rest B at_).length < 57:=by omega
  have h32:=rest_len B (at_+32);have h33:=rest_len B (at_+32+1);refine Get_spec (n:=32) H (by omega) (λhx=>absurd hx (by omega)) λ_ w3 S3 H3=>?_;refine r_ex20 (r_ex21 ?_);refine Get1_spec H3 (λhx=>?_) λc hc w4 S4 H4=>?_
  ·have:=(List.getElem?_eq_none_iff.1 hx);omega
  refine r_ex20 (r_ex21 ?_);refine Get_spec (n:=24) H4 (by omega) (λhx=>absurd hx (by omega)) λ_ w5 S5 H5=>?_;refine r_ex20 (r_ex21 ?_);replace S:=((S.trans S3).trans S4).trans S5;clear H H3 H4;have H:=H5;clear H5;have hv1:=valB_take_lt (rest B at_) 32;have hv2:=valB_take_lt (rest B (at_+32+1)) 24;have e1:(rest B at_).drop 33=rest B (at_+32+1):=rest_drop B at_ 33
  have e2:valB (((rest B at_).drop 32).take 1)=c.toNat:=by
   rw[rest_drop,take_snoc (n:=0) hc,List.take_zero,nil_append,valB_one]
  have eh:bhead s (rest B at_)=if c.toNat=1 then .bad 25 else bend ⟨s.room,true,valB ((rest B at_).take 32),valB ((rest B (at_+32+1)).take 24),s.row,s.last,s.done⟩ 57:=by
   unfold bhead;rw[if_neg h57,e1,e2]
  rw[eh] at post;have hpre:=(head_pre (s:=valB ((rest B at_).take 32)) (f:=valB ((rest B (at_+32+1)).take 24)) hs hh (by omega) (by omega)).2;generalize valB ((rest B at_).take 32)=sm at *;generalize valB ((rest B (at_+32+1)).take 24)=fm at *;refine r_nc (r_fo0 ?_);refine r_st 1 H rfl (by simp[bkC]) rfl λw3 S3 H3=>?_;replace H3:Holds w3 (RdR r B d (at_+32+1+24)::blk b tBk [.pointer none,nv s.room,.bool true,uv s.sum,nv s.frm,lv,.bool s.done,iv 0]::SL bv tB lv s.last::L):=H3;refine r_nc (r_fo0 ?_);refine r_st 1 H3 rfl (by simp) rfl λw4 S4 H4=>?_;replace H4:Holds w4 (RdR r B d (at_+32+1+24)::blk b tBk [.pointer none,nv s.room,.bool true,uv sm,nv s.frm,lv,.bool s.done,iv 0]::SL bv tB lv s.last::L):=H4;refine r_ci64 (by omega) (by omega) ?_;refine r_nc (r_fo0 ?_);refine r_st 1 H4 rfl (by simp) rfl λw5 S5 H5=>?_;replace H5:Holds w5 (RdR r B d (at_+32+1+24)::blk b tBk [.pointer none,nv s.room,.bool true,uv sm,nv fm,lv,.bool s.done,iv 0]::SL bv tB lv s.last::L):=H5;replace S:=((S.trans S3).trans S4).trans S5;refine r_eql (r_ifE (λh=>?_) λh=>?_)
  ·rw[if_pos (by omega)] at post;rw[(hs.none_ hrow).2] at H5;exact post _ _ S (.inl ⟨25,rfl,by decide,rfl,_,_,_,_,_,_,_,(by have h_:=Holds.ord 3 [1,0] H5 rfl;exact h_)⟩)
  ·rw[if_neg (by omega)] at post;exact post _ _ S (.inr ⟨rfl,_,_,rfl,hpre,Raw_closeN hrow (by have h_:=Holds.ord 3 [1,2,0] H5 rfl;exact h_)⟩)
theorem symbols_spec (H:Holds w (BkR b s::RdR r B d at_::L)) (hh:s.head=true) (hrow:s.row=none) (post:∀ v w',Same w w'->Mid (bstep s (rest B at_)) b s r B d at_ L v w'->K v w') :
  Cl prog 162 #[pt b,pt r] w K:=by
 refine Tz162 ?_;unfold Vz162;obtain⟨hs,H⟩:=BkR_open H;obtain⟨lv,H⟩:=Raw_openN hrow H
 have e0:bstep s (rest B at_)=buse s (uread (rest B at_)):=by unfold bstep;rw[if_neg (by rw[hh];decide),hrow]
 rw[e0] at post;have H1:Holds w (RdR r B d at_::blk b tBk (bkC (.pointer none) lv s)::SL bv tB lv s.last::L):=(by have h_:=Holds.ord 3 [2,0,1] H rfl;exact h_);clear H;have hroom:=hs.room;refine U05.Read_spec H1 (λhx w2 S2 H2=>?_) (λhx w2 S2 H2=>?_) λT n hx hT w2 S2 H2=>?_
 ·rw[hx] at post;refine r_ex20 (r_ex21 (r_eql (r_vfE (by decide) ?_)));exact post _ _ S2 (.inl ⟨3,rfl,by decide,rfl,BkR_close hs (Raw_closeN hrow (by have h_:=Holds.ord 3 [1,2,0] H2 rfl;exact h_))⟩)
 ·rw[hx] at post;refine r_ex20 (r_ex21 (r_eql (r_vfE (by decide) ?_)));rw[bkC,(hs.none_ hrow).2] at H2;exact post _ _ S2 (.inl ⟨25,rfl,by decide,rfl,_,_,_,_,_,_,_,(by have h_:=Holds.ord 3 [1,0] H2 rfl;exact h_)⟩)
 ·rw[hx] at post;refine r_ex20 (r_ex21 (r_eql (r_vtE rfl ?_)));refine r_nc (r_fo0 (r_ld 1 H2 rfl rfl ?_));refine rowOf_spec H2 hT hroom λrb cb zb mb w3 S3 H3=>?_;refine r_nc (r_fo0 ?_);refine r_st 5 H3 rfl (by simp[bkC]) rfl λw4 S4 H4=>?_;replace H4:Holds w4 (blk rb tRw (rwC cb zb mb (rowOf T s.room))::C14.CdR cb (rowOf T s.room).code::Z07.ZrR zb (rowOf T s.room).zeros::F06.MtR mb (rowOf T s.room).list::RdR r B d (at_+n)::blk b tBk (bkC (pt rb) lv s)::SL bv tB lv s.last::L):=H4;refine post _ _ ((S2.trans S3).trans S4) (.inr ⟨rfl,_,_,rfl,use_pre hs hh hrow hT,Raw_closeS (rb:=rb) (cb:=cb) (zb:=zb) (mb:=mb) (lv:=lv) rfl ?_⟩);exact (by have h_:=Holds.ord 7 [5,6,0,1,2,3,4] H4 rfl;exact h_)
theorem symbol_spec (H:Holds w (BkR b s::RdR r B d at_::L)) (hd:s.done=false) (hh:s.head=true) (hrow:s.row=some x) (hw:x.waits=false) (post:∀ v w',Same w w'->Mid (bstep s (rest B at_)) b s r B d at_ L v w'->K v w') :
  Cl prog 165 #[pt b,pt r] w K:=by
 refine Tz165 ?_;unfold Vz165;obtain⟨hs,H⟩:=BkR_open H;obtain⟨rb,cb,zb,mb,lv,H⟩:=Raw_openS hrow H
 have e0:bstep s (rest B at_)=bsym s x (cstep x.code (rest B at_)):=by unfold bstep;rw[if_neg (by rw[hh];decide),hrow];simp only;rw[if_neg (by rw[hw];decide)]
 rw[e0] at post;have hcd:=waits_or hs hd hrow hw;obtain⟨g1,g2,g3,g4,g5⟩:=hs.some_ x hrow;unfold rawS at H;refine r_nc (r_fo0 (r_ld 0 H rfl rfl ?_));refine r_nc (r_fo0 (r_ld 2 H rfl rfl ?_));have H1:Holds w (C14.CdR cb x.code::RdR r B d at_::blk b tBk (bkC (pt rb) lv s)::SL bv tB lv s.last::blk rb tRw (rwC cb zb mb x)::Z07.ZrR zb x.zeros::F06.MtR mb x.list::L):=(by have h_:=Holds.ord 7 [3,6,0,1,2,4,5] H rfl;exact h_);refine C14.Step_spec H1 hcd λv w2 S2 hA=>?_;clear H1 H
 cases hx:cstep x.code (rest B at_) with
 |short=>
  rw[hx] at hA post;obtain⟨rfl,H⟩:=hA;refine r_ex20 (r_ex21 ?_);refine r_join1 (λy w'=>w2=w'/\y=.bool true) ?_ ?_
  ·rintro _ _ _ ⟨rfl,rfl⟩;refine r_vt ?_;exact post _ _ S2 (.inl ⟨3,rfl,by decide,rfl,BkR_close hs (Raw_closeS (rb:=rb) (cb:=cb) (zb:=zb) (mb:=mb) (lv:=lv) hrow (by have h_:=Holds.ord 7 [2,3,4,0,5,6,1] H rfl;exact h_))⟩)
  ·refine r_neq (r_vtN (by decide) ?_)
   repeat (refine r_ke ?_)
   exact⟨rfl,rfl⟩
 |bad c=>
  have hcb:=cstep_bad hx
  have hc0:(c:Int)≠0:=by omega
  rw[hx] at hA post;obtain⟨rfl,q,H⟩:=hA;refine r_ex20 (r_ex21 ?_);refine r_join1 (λy w'=>w2=w'/\y=.bool true) ?_ ?_
  ·rintro _ _ _ ⟨rfl,rfl⟩;refine r_vt ?_;rw[bkC,hd] at H;exact post _ _ S2 (.inl ⟨c,rfl,hc0,rfl,q,_,_,_,_,_,_,(by have h_:=Holds.ord 6 [1,0] H rfl;exact h_)⟩)
  ·refine r_neq (r_vtN hc0 ?_)
   repeat (refine r_ke ?_)
   exact⟨rfl,rfl⟩
 |ok y k=>
  obtain⟨c,o⟩:=y;rw[hx] at hA post;obtain⟨rfl,H⟩:=hA;refine r_ex20 (r_ex21 ?_)
  cases o with
  |none=>
   refine r_join1 (λy w'=>w2=w'/\y=.bool true) ?_ ?_
   ·rintro _ _ _ ⟨rfl,rfl⟩;refine r_vt ?_;refine post _ _ S2 (.inr ⟨rfl,_,_,rfl,sym_pre hs hd hrow hx,Raw_closeS (rb:=rb) (cb:=cb) (zb:=zb) (mb:=mb) (lv:=lv) rfl ?_⟩);exact (by have h_:=Holds.ord 7 [2,3,4,0,5,6,1] H rfl;exact h_)
   ·refine r_neq (r_vfN rfl ?_);refine r_lss (r_ke ?_);exact⟨rfl,rfl⟩
  |some sy=>
   have hsy:=(cstep_ok hx g2.code).2.2 sy rfl;have hsz:=g2.size;refine r_join1 (λy w'=>w2=w'/\y=.bool false) ?_ ?_
   ·rintro _ _ _ ⟨rfl,rfl⟩;refine r_vf ?_;refine r_nc (r_fo0 (r_ld 2 H rfl rfl ?_));have H1:Holds w2 (blk rb tRw (rwC cb zb mb x)::Z07.ZrR zb x.zeros::C14.CdR cb c::RdR r B d (at_+k)::blk b tBk (bkC (pt rb) lv s)::SL bv tB lv s.last::F06.MtR mb x.list::L):=(by have h_:=Holds.ord 7 [4,5,0,1,2,3,6] H rfl;exact h_);refine told_spec (c:=c) H1 (by omega) (by rw[g2.zd];exact hcd) (λhn w3 S3 H3=>?_) λz dd p hz w3 S3 H3=>?_
    ·have e1:bsym s x (.ok (c,some sy) k)=.bad 25:=by show btold s x c sy k=_;unfold btold;rw[hn]
     rw[e1] at post;rw[bkC,hd] at H3;exact post _ _ (S2.trans S3) (.inl ⟨25,rfl,by decide,rfl,_,_,_,_,_,_,_,(by have h_:=Holds.ord 5 [2,1] H3 rfl;exact h_)⟩)
    ·refine post _ _ (S2.trans S3) (.inr ⟨rfl,⟨s.room,s.head,s.sum,s.frm,some ⟨c,z,x.list,dd,p.toNat⟩,s.last,s.done⟩,k,?_,told_pre hs hd hrow hw hx hz,Raw_closeS (rb:=rb) (cb:=cb) (zb:=zb) (mb:=mb) (lv:=lv) rfl ?_⟩)
     ·show btold s x c sy k=_;unfold btold;rw[hz]
     ·exact (by have h_:=Holds.ord 7 [4,5,0,2,1,6,3] H3 rfl;exact h_)
   ·refine r_neq (r_vfN rfl ?_);refine r_lss (r_ke ?_);exact⟨rfl,by rw[decide_eq_false (by omega)]⟩
theorem step_spec (H:Holds w (BkR b s::RdR r B d at_::L)) (hd:s.done=false) (post:∀ e w',Same w w'->AfterB (bstep s (rest B at_)) b s r B d at_ L e w'->K (iv e) w') :
  Cl prog 115 #[pt b,pt r] w K:=by
 refine Tz115 ?_;unfold Vz115;refine r_join1 (λv w'=>Same w w'/\Mid (bstep s (rest B at_)) b s r B d at_ L v w') ?_ ?_
 ·rintro _ v w1 ⟨S,⟨e,rfl,he,hA⟩|⟨rfl,s',n,hy,hp,H'⟩⟩
  ·refine r_neq (r_vtN he ?_);exact post e _ S hA
  ·refine r_neq (r_vfN rfl ?_);rw[hy] at post;exact end_spec H' hp s λe w' S' hA=>post e w' (S.trans S') hA
 clear post;have S:=Same.refl w;have hs:=(BkR_open H).1;have hraw:=(BkR_open H).2
 cases hh:s.head with
 |false=>
  have hrow:=(head_pre (s:=0) (f:=0) hs hh (by omega) (by omega)).1;obtain⟨lv,H0⟩:=Raw_openN hrow hraw;refine r_nc (r_fo0 (r_ld 0 H0 rfl rfl ?_));rw[hh];refine r_notF (r_vt ?_);refine begin_spec H hh λv w' S' hA=>?_
  repeat (refine r_ke ?_)
  exact⟨S',hA⟩
 |true=>
  cases hrow:s.row with
  |none=>
   obtain⟨lv,H0⟩:=Raw_openN hrow hraw;refine r_nc (r_fo0 (r_ld 0 H0 rfl rfl ?_));rw[hh];refine r_notT (r_vf ?_);refine r_nc (r_fo0 (r_ld 0 H0 rfl rfl ?_));refine r_bnNT (r_vt ?_);refine symbols_spec H hh hrow λv w' S' hA=>?_
   repeat (refine r_ke ?_)
   exact⟨S',hA⟩
  |some x=>
   obtain⟨rb,cb,zb,mb,lv,H0⟩:=Raw_openS hrow hraw;refine r_nc (r_fo0 (r_ld 0 H0 rfl rfl ?_));rw[hh];refine r_notT (r_vf ?_);refine r_nc (r_fo0 (r_ld 0 H0 rfl rfl ?_));refine r_bnSF (r_vf ?_);refine r_nc (r_fo0 (r_ld 0 H0 rfl rfl ?_));refine waits_spec H0 2 rfl ?_
   cases hw:x.waits with
   |false=>
    refine r_vf ?_;refine symbol_spec H hd hh hrow hw λv w' S' hA=>?_
    repeat (refine r_ke ?_)
    exact⟨S',hA⟩
   |true=>
    refine r_vt ?_;obtain⟨g1,g2,g3,g4,g5⟩:=hs.some_ x hrow;have hzs:=g2.zeros.sum;have hzm:=g2.zeros.most
    have hat:x.at_ < x.list.length:=by
     have:=g2.list;have:=g2.place;unfold RS.at_
     split <;> omega
    have hpre:=next_pre hs hd hrow hw
    have eb:bstep s (rest B at_)=bnext s x:=by unfold bstep;rw[if_neg (by rw[hh];decide),hrow];simp only;rw[if_pos hw]
    clear H hraw;have H:=H0;clear H0;unfold rawS at H
    repeat (first|refine r_nc ?_|refine r_fo0 ?_|(refine r_dr H ?_;clear H;intro _ S_ H;replace S:=S.trans S_;clear S_)|refine r_ld 0 H rfl rfl ?_)
    have H1:Holds _ (blk rb tRw (rwC cb zb mb x)::F06.MtR mb x.list::blk b tBk (bkC (pt rb) lv s)::SL bv tB lv s.last::C14.CdR cb x.code::Z07.ZrR zb x.zeros::RdR r B d at_::L):=(by have h_:=Holds.ord 7 [2,5,0,1,3,4,6] H rfl;exact h_);refine next_spec H1 hat (by omega) λw3 S3 H3=>?_;refine r_rk (r_ld 2 H3 rfl rfl rfl) ?_;refine r_app1K H3 3 (f:=bv) (xs:=s.last) rfl x.byte (λ_=>rfl) (by omega) (λw' H'=>r_ld 2 H' rfl rfl rfl) λlv' w4 S4 H4=>?_;replace H4:Holds w4 (blk rb tRw (rwC cb zb mb x.next)::F06.MtR mb x.next.list::blk b tBk (bkC (pt rb) lv s)::SL bv tB lv' (s.last++[x.byte])::C14.CdR cb x.code::Z07.ZrR zb x.zeros::RdR r B d at_::L):=H4;refine r_nc (r_fo0 ?_);refine r_st 2 H4 rfl (by simp[bkC]) (SL_sg H4 3 rfl) λw5 S5 H5=>?_;replace H5:Holds w5 (blk rb tRw (rwC cb zb mb x.next)::F06.MtR mb x.next.list::blk b tBk (bkC (pt rb) lv' s)::SL bv tB lv' (s.last++[x.byte])::C14.CdR cb x.code::Z07.ZrR zb x.zeros::RdR r B d at_::L):=H5
    repeat (refine r_ke ?_)
    refine⟨((S.trans S3).trans S4).trans S5,.inr ⟨rfl,⟨s.room,s.head,s.sum,s.frm,some x.next,s.last++[x.byte],s.done⟩,0,by rw[eb];rfl,hpre,Raw_closeS (rb:=rb) (cb:=cb) (zb:=zb) (mb:=mb) (lv:=lv') rfl ?_⟩⟩;exact (by have h_:=Holds.ord 7 [2,3,0,4,5,1,6] H5 rfl;exact h_)
def BadB (b e:Nat):HProp:=λh=>∃ v1 v2 v3 v4 v5 v6,blk b tBk [v1,v2,v3,v4,v5,v6,.bool false,nv e] h
def AfterBS (y:Res BS) (b:Nat) (s:BS) (r:Nat) (B:List UInt8) (d at_:Nat) (L:List HProp) (e:Int) (w:World):Prop:=
 match y with
 |.short=>e=3/\Holds w (BkR b s::RdR r B d at_::L)
 |.bad c=>e=(c:Int)/\∃ q,Holds w (BadB b c::RdR r B d q::L)
 |.ok s' n=>e=0/\Holds w (BkR b s'::RdR r B d (at_+n)::L)
theorem Raw_cells (H:Holds w (BkR b s::L)):∃ rv lv L',Holds w (blk b tBk (bkC rv lv s)::L')/\∀ w' v,Holds w' (blk b tBk ((bkC rv lv s).set 7 v)::L')->v=iv 0->Holds w' (BkR b s::L):=by
 obtain⟨hs,H⟩:=BkR_open H
 cases hrow:s.row with
 |none=>
  obtain⟨lv,H⟩:=Raw_openN hrow H;exact⟨_,lv,_,H,λw' v H' hv=>by subst hv;exact BkR_close hs (Raw_closeN hrow H')⟩
 |some x=>
  obtain⟨rb,cb,zb,mb,lv,H⟩:=Raw_openS hrow H;exact⟨_,lv,_,H,λw' v H' hv=>by subst hv;exact BkR_close hs (Raw_closeS hrow H')⟩
theorem Step_spec (H:Holds w (BkR b s::RdR r B d at_::L)) (hd:s.done=false) (post:∀ e w',Same w w'->AfterBS (bstep s (rest B at_)) b s r B d at_ L e w'->K (iv e) w') :
  Cl prog 59 #[pt b,pt r] w K:=by
 refine Tz59 ?_;unfold Vz59;obtain⟨rv,lv,L',H0,hback⟩:=Raw_cells H;refine r_join1 (λy w'=>w=w'/\y=.bool false) ?_ ?_
 ·rintro _ _ _ ⟨rfl,rfl⟩;refine r_vf ?_;refine r_nc (r_fo0 (r_ld 0 H0 rfl rfl ?_));refine r_neq (r_vfN rfl ?_);refine step_spec H hd λe w2 S2 hA=>?_
  cases hx:bstep s (rest B at_) with
  |short=>
   rw[hx] at hA post;obtain⟨rfl,H'⟩:=hA;refine r_neq (r_vfN rfl ?_);exact post _ _ S2 ⟨rfl,H'⟩
  |bad c=>
   have hcb:=bstep_bad hx;rw[hx] at hA post;obtain⟨rfl,q,v1,v2,v3,v4,v5,v6,H'⟩:=hA;refine r_neq (r_vtN (by omega) ?_);refine r_nc (r_fo0 ?_);refine r_st 0 H' rfl (by simp) rfl λw5 S5 H5=>?_;exact post _ _ (S2.trans S5) ⟨rfl,q,Holds.imp H5 λ_ hh=>⟨v1,v2,v3,v4,v5,v6,hh⟩⟩
  |ok s' k=>
   rw[hx] at hA post;obtain⟨rfl,H'⟩:=hA;refine r_neq (r_vtN (by decide) ?_);obtain⟨rv,lv,L',H1,hback⟩:=Raw_cells H';refine r_nc (r_fo0 ?_);refine r_st 0 H1 rfl (by simp[bkC]) rfl λw5 S5 H5=>?_;exact post _ _ (S2.trans S5) ⟨rfl,hback _ _ H5 rfl⟩
 ·repeat (first|refine r_ld 0 H0 rfl rfl ?_|refine r_nc ?_|refine r_fo0 ?_|refine r_ke ?_|(with_reducible refine r_bnSF ?_)|(with_reducible refine r_vf ?_))
  exact⟨rfl,by rw[hd]⟩
theorem Done_spec (H:Holds w (BkR b s::L)) (k:K (.bool s.done) w):Cl prog 58 #[pt b] w K:=by
 refine Tz58 ?_;unfold Vz58;obtain⟨rv,lv,L',H0,_⟩:=Raw_cells H
 repeat (first|refine r_ld 0 H0 rfl rfl ?_|refine r_nc ?_|refine r_fo0 ?_|(with_reducible refine r_bnST ?_)|(with_reducible refine r_vt ?_))
 exact k
end B20
namespace B20
open Go.M01 Go.Mb Go.Mp Go.M10 Go.Mc Go.Mz Go.Mk Go.Q20 Go.Q23 Rb
variable {w:World}{L:List HProp}{K:Value->World->Prop}{b rb cb zb mb r:Nat}{B:List UInt8}{d at_ n k:Nat}{s:BS}{x:RS}{lv:Value}
abbrev tGt:Nat:=34
abbrev gotV (t:List UInt8) (o u:Nat):List Value:=[S_ t,nv o,uv u]
theorem got_zero:(zeroP prog tGt).cells.toList=gotV [] 0 0:=by kernel_rfl
theorem r_cvb {t e d:TypeId} [hr:Bytes prog t e d] (H:Holds w L) (i:Nat){oa:Option Addr}{xs:List UInt8}{sp:List Value}{l c:Nat}{K:Value->Prop}
  (hi:L[i]?=some (slb bv e oa xs sp)) (hl:l=xs.length) (h:K (.string ⟨xs.toArray⟩)):Cv prog t d (.slice oa l c) w K:=by
 have h0:Cw prog t d (.slice oa l c) w (λv w'=>v=.string ⟨xs.toArray⟩/\w'=w):=r_cbs H i hi hl ⟨rfl,rfl⟩;unfold Cw at h0;obtain⟨v,w',hr,rfl,rfl⟩:=h0;unfold Cv;exact⟨_,hr,h⟩
theorem raw_cells2 (H:Holds w (BkR b s::L)):∃ rv oa c L' sp,Holds w (blk b tBk (bkC rv (.slice oa s.last.length c) s)::slb bv tB oa s.last sp::L')/\(∀ w',Holds w' (blk b tBk (bkC rv (.slice oa s.last.length c) s)::slb bv tB oa s.last sp::L')->Holds w' (BkR b s::L)):=by
 obtain⟨hs,H⟩:=BkR_open H
 have back:∀ {oa:Option Addr} {sp:List Value} {w':World} {rv lv:Value} {L':List HProp},lv=.slice oa s.last.length (s.last.length+sp.length)->Holds w' (blk b tBk (bkC rv lv s)::slb bv tB oa s.last sp::L')->Holds w' (blk b tBk (bkC rv lv s)::SL bv tB lv s.last::L'):=by
  intro oa sp w' rv lv L' he H';subst he;exact H'.close 1 rfl
 cases hrow:s.row with
 |none=>
  obtain⟨lv,H⟩:=Raw_openN hrow H;obtain⟨oa,sp,rfl,H1⟩:=H.open 1 rfl;exact⟨_,oa,_,L,sp,H1,λw' H'=>BkR_close hs (Raw_closeN hrow (back rfl H'))⟩
 |some x=>
  obtain⟨rb,cb,zb,mb,lv,H⟩:=Raw_openS hrow H;obtain⟨oa,sp,rfl,H1⟩:=H.open 1 rfl;exact⟨_,oa,_,_,sp,H1,λw' H'=>BkR_close hs (Raw_closeS hrow (back rfl H'))⟩
theorem Got_done (H:Holds w (BkR b s::L)) (hd:s.done=true) (k:∀ w',Same w w'->Holds w' (BkR b s::L)->K (.agg (gotV s.last s.frm s.sum).toArray) w'):Cl prog 61 #[pt b] w K:=by
 refine Tz61 ?_;unfold Vz61;refine r_new H λgb w1 S1 H1=>?_;rw[got_zero] at H1;refine Done_spec H1.swap ?_;rw[hd];refine r_notT (r_vf ?_);refine r_dr H1 λw2 S2 H2=>?_;obtain⟨rv,oa,c,L',sp,H3,hback⟩:=raw_cells2 H2.swap;refine r_nc (r_fo0 (r_ld 0 H3 rfl rfl ?_));refine r_cvb H3 1 rfl rfl ?_;refine r_nc (r_fo0 (r_ld 0 H3 rfl rfl ?_));refine r_nc (r_fo0 (r_ld 0 H3 rfl rfl ?_));refine r_bd (v:=.agg (gotV s.last s.frm s.sum).toArray) (by kernel_rfl) ?_;refine r_stA 0 H2 (vs:=gotV s.last s.frm s.sum) rfl (Nat.le_refl 3) rfl rfl λw4 S4 H4=>?_;replace H4:Holds w4 (blk gb tGt (gotV s.last s.frm s.sum)::BkR b s::L):=H4;refine r_ldA 0 H4 (gotV s.last s.frm s.sum) rfl rfl rfl ?_;exact k _ ((S1.trans S2).trans S4) H4.drop
def cellN (w:World) (b i:Nat):Nat:=match w.cell? ⟨b,i,none⟩ with
 |some (.int _ n)=>n.toNat
 |some (.slice _ l _)=>l
 |_=>0
theorem at_of (H:Holds w (RdR r B d at_::L)):cellN w r 2=at_:=by
 obtain⟨_,H⟩:=RdR_open H;unfold cellN;rw[H.cell 0 rfl 2];rfl
theorem last_of (H:Holds w (BkR b s::L)):cellN w b 5=s.last.length:=by
 obtain⟨rv,oa,c,L',sp,H,_⟩:=raw_cells2 H;unfold cellN;rw[H.cell 0 rfl 5];rfl
end B20
namespace B20
open Go.M01 Go.Mb Go.Mp Go.M10 Go.Mc Go.Mz Go.Mk Go.Q20 Go.Q23 Rb
variable {w:World}{L:List HProp}{K:Value->World->Prop}{b rb cb zb mb r:Nat}{B:List UInt8}{d at_ n k:Nat}{s:BS}{x:RS}{lv:Value}
theorem Read_spec {room:Nat}(H:Holds w (RdR r B d at_::L)) (h1:5<=room) (h2:room<=900000)
  (kb:∀ e,Q20.Comes room (rest B at_) (.bad e)->∀ w',Same w w'->Holds w' (RdR r B d at_::L)->K (.tuple #[.agg (gotV [] 0 0).toArray,nv e]) w')
  (k:∀ last o u n held,Q20.Comes room (rest B at_) (.got last o u n held)->∀ w',Same w w'->Holds w' (RdR r B d (at_+n)::L)->K (.tuple #[.agg (gotV last o u).toArray,iv 0]) w') :
  Cl prog 22 #[pt r,nv room] w K:=by
 refine Tz22 ?_;unfold Vz22;have hf:=(RdR_open H).1;refine r_new H λgb w1 S1 H1=>?_;rw[got_zero] at H1;refine r_bnSF (r_vf ?_);refine NewReader_spec H1 h1 h2 λb w2 S2 H2=>?_;refine r_ex20 (r_ex21 ?_);refine r_neq (r_vfN rfl ?_);replace H2:Holds w2 (BkR b (b0 room)::RdR r B d at_::blk gb tGt (gotV [] 0 0)::L):=(by have h_:=Holds.ord 3 [0,2,1] H2 rfl;exact h_);refine At_spec H2.drop ?_;have S:=S1.trans S2;clear H H1 S1 S2
 refine r_loop0 (λw'=>∃ s q,Run bstep BS.done (b0 room) (rest B at_) s q/\s.room=room/\Same w w'/\Holds w' (BkR b s::RdR r B d (at_+q)::blk gb tGt (gotV [] 0 0)::L))
  (λw'=>(8*B.length - cellN w' r 2)+(room+1 - cellN w' b 5)) ⟨b0 room,0,.start,rfl,S,H2⟩ ?_
 clear H2 S;rintro _ w3 ⟨s,q,hr,hroom,S,H⟩;have hok:=(BkR_open H).1;have hlr:=last_room hok;have hm1:=at_of H.drop;have hm2:=last_of H;have hf2:=(RdR_open H.drop).1;refine Done_spec H ?_
 cases hd:s.done with
 |true=>
  refine r_notT (r_vf ?_);refine Got_done H hd λw4 S4 H4=>?_;refine r_stA 2 H4 (vs:=gotV s.last s.frm s.sum) rfl (Nat.le_refl 3) rfl rfl λw5 S5 H5=>?_;replace H5:Holds w5 (BkR b s::RdR r B d (at_+q)::blk gb tGt (gotV s.last s.frm s.sum)::L):=H5;refine r_ldA 2 H5 (gotV s.last s.frm s.sum) rfl rfl rfl ?_;exact k _ _ _ _ _ ⟨s,q,hr,.inl ⟨hd,rfl⟩⟩ _ ((S.trans S4).trans S5) (Holds.dropAt (Holds.dropAt H5 2) 0)
 |false=>
  refine r_notF (r_vt ?_);refine Step_spec H hd λe w4 S4 hA=>?_;have hrd:(rest B at_).drop q=rest B (at_+q):=rest_drop B at_ q
  cases hx:bstep s (rest B (at_+q)) with
  |short=>
   rw[hx] at hA;obtain⟨rfl,H4⟩:=hA;refine r_neq (r_vtN (by decide) ?_);refine Seek_spec (p:=at_) H4.drop hf.1 hf.2.1 λw5 S5 H5=>?_;refine r_bd (v:=.agg (gotV [] 0 0).toArray) (by kernel_rfl) ?_;refine r_stA 1 H5 (vs:=gotV [] 0 0) rfl (Nat.le_refl 3) rfl rfl λw6 S6 H6=>?_;replace H6:Holds w6 (RdR r B d at_::blk gb tGt (gotV [] 0 0)::L):=H6;refine r_ldA 1 H6 (gotV [] 0 0) rfl rfl rfl ?_;exact kb 3 ⟨s,q,hr,.inr (.inl ⟨hd,by rw[hrd];exact hx,rfl⟩)⟩ _ (((S.trans S4).trans S5).trans S6) (Holds.dropAt H6 1)
  |bad c=>
   have hcb:=bstep_bad hx;rw[hx] at hA;obtain⟨rfl,q',H4⟩:=hA;refine r_neq (r_vtN (by omega) ?_);refine Seek_spec (p:=at_) H4.drop hf.1 hf.2.1 λw5 S5 H5=>?_;refine r_bd (v:=.agg (gotV [] 0 0).toArray) (by kernel_rfl) ?_;refine r_stA 1 H5 (vs:=gotV [] 0 0) rfl (Nat.le_refl 3) rfl rfl λw6 S6 H6=>?_;replace H6:Holds w6 (RdR r B d at_::blk gb tGt (gotV [] 0 0)::L):=H6;refine r_ldA 1 H6 (gotV [] 0 0) rfl rfl rfl ?_;exact kb c ⟨s,q,hr,.inr (.inr ⟨c,hd,by rw[hrd];exact hx,rfl⟩)⟩ _ (((S.trans S4).trans S5).trans S6) (Holds.dropAt H6 1)
  |ok s' n=>
   rw[hx] at hA;obtain⟨rfl,H4⟩:=hA;refine r_neq (r_vfN rfl ?_);have hp:=bstep_prog hok hx;have hf4:=(RdR_open H4.drop).1;have hm3:=at_of H4.drop;have hm4:=last_of H4;have hok4:=(BkR_open H4).1;have hlr4:=last_room hok4;refine r_ke ⟨⟨s',q+n,hr.next hd (by rw[hrd];exact hx),by rw[hp.1];exact hroom,S.trans S4,by rw[<-Nat.add_assoc];exact H4⟩,?_⟩;show (8*B.length - cellN w4 r 2)+(room+1 - cellN w4 b 5) < (8*B.length - cellN w3 r 2)+(room+1 - cellN w3 b 5);rw[hm1,hm2,hm3,hm4];rw[hp.1] at hlr4;rcases hp.2 with⟨h3,h4⟩|⟨h3,h4⟩
   ·rw[h4];omega
   ·omega
end B20
namespace R3b
open Go.M02 Go.M03 Go.M3d
abbrev S_ (B:List UInt8):Value:=.string ⟨B.toArray⟩
abbrev pt (b:Nat):Value:=.pointer (some ⟨b,0,none⟩)
abbrev tB:Nat:=5
variable {w:World}{L:List HProp}{K:Value->World->Prop}{b r:Nat}{s:Nat}{t:List UInt8}
abbrev tS:Nat:=233
def smC (s:Nat):List Value:=[]++(tabL.map uv++[uv s])
def SumR (b s:Nat):HProp:=λh=>s < 4294967296/\blk b tS (smC s) h
theorem SumR_open (H:Holds w (SumR b s::L)):s < 4294967296/\Holds w (blk b tS (smC s)::L):=Holds.pure H
theorem SumR_close (h:s < 4294967296) (H:Holds w (blk b tS (smC s)::L)):Holds w (SumR b s::L):=Holds.imp H λ_ hh=>⟨h,hh⟩
theorem sm256:(smC s)[256]?=some (uv s):=by
 have:=mid_post (f:=uv) (xs:=tabL) (post:=[uv s]) (j:=0) [] tabL_len;exact this
theorem smget {i:Nat}(h:i < 256):(smC s)[0+i]?=some (uv (crcTab i)):=mid_get (f:=uv) [] (tabL_get i h)
theorem smset (v:Nat):(smC s).set 256 (uv v)=smC v:=by
 have:=mid_pset (f:=uv) (xs:=tabL) (post:=[uv s]) (j:=0) [] (uv v) tabL_len;exact this
theorem smlen:(smC s).length=257:=by
 unfold smC;rw[nil_append,length_append,length_map,tabL_len];rfl
theorem New_spec (H:Holds w L) (k:∀ b w',Same w w'->Holds w' (SumR b 4294967295::L)->K (pt b) w'):Cl prog 122 #[] w K:=by
 refine Tz122 ?_;unfold Vz122;refine W02.Table_spec H λw1 S1 H1=>?_;refine r_bd (v:=.agg (smC 4294967295).toArray) (by kernel_rfl) ?_;refine r_new H1 λb w2 S2 H2=>?_;exact k b _ (S1.trans S2) (SumR_close (by decide) H2)
theorem step_spec {c:UInt8}(H:Holds w (blk b tS (smC s)::L)) (hs:s < 4294967296) (k:K (uv (crcB s c)) w):Cl prog 217 #[pt b,uv s,bv c] w K:=by
 refine Tz217 ?_;unfold Vz217;have hc:=c.toNat_lt;refine r_shlU32 (n:=8) (by omega) ?_;refine r_shrU (n:=24) (by decide) ?_;have h24:s/2^24=s/16777216:=rfl;rw[h24];have hh:s/16777216 ^^^ c.toNat < 256:=Nat.xor_lt_two_pow (n:=8) (by omega) (by omega)
 repeat (refine r_ciu8 (by omega) (by omega) ?_)
 refine r_xorU8 (by omega) (by omega) ?_;refine r_nc (r_iaaN (by omega) ?_);refine r_ld 0 H rfl (smget hh) ?_;have ht:crcTab (s/16777216 ^^^ c.toNat) < 4294967296:=crcN_lt _ (by omega) 8;refine r_xorU32 (by omega) ht ?_;rw[crcB_tab hs];exact k
theorem Put_spec {c:UInt8}(H:Holds w (SumR b s::L)) (k:∀ w',Same w w'->Holds w' (SumR b (crcB s c)::L)->K (.tuple #[]) w'):Cl prog 170 #[pt b,bv c] w K:=by
 refine Tz170 ?_;unfold Vz170;obtain⟨hs,H⟩:=SumR_open H;have S:=Same.refl w
 repeat (first|((with_reducible apply r_ld 0 H);(exact rfl);(with_reducible exact (sm256)))|refine r_nc ?_|refine r_fo0 ?_|(with_reducible refine r_bnST ?_)|(with_reducible refine r_vt ?_)|(refine r_dr H ?_;clear H;intro _ S_ H;replace S:=S.trans S_;clear S_))
 refine step_spec H hs ?_
 repeat (first|refine r_nc ?_|refine r_fo0 ?_)
 refine r_st 0 H rfl (by rw[smlen];omega) rfl λw2 S2 H2=>?_;rw[List.set_cons_zero,smset] at H2;exact k _ (S.trans S2) (SumR_close (crcB_lt hs c) H2)
theorem getD_take {t:List UInt8}{i:Nat}(h:i < t.length):t.take (i+1)=t.take i++[t.getD i 0]:=by
 rw[take_add_one,getElem?_eq_getElem h,getD_eq_getElem?_getD,getElem?_eq_getElem h];rfl
theorem Of_spec (H:Holds w L) (ht:t.length<=1000000000) (k:∀ w',Same w w'->Holds w' L->K (uv (crcOf t)) w'):Cl prog 64 #[S_ t] w K:=by
 refine Tz64 ?_;unfold Vz64;refine New_spec H λb w1 S1 H1=>?_;refine r_cl (K:=λ_ w'=>Same w w'/\Holds w' (SumR b (crcF 4294967295 t)::L)) ?_ ?_
 ·refine Tz123 ?_;unfold Vz123
  have hs:(⟨t.toArray⟩:ByteArray).size=t.length:=by show t.toArray.size=_;simp
  repeat (refine r_lns ?_)
  rw[hs];refine r_loop1 (λx w'=>∃ i:Nat,i<=t.length/\x=nv i/\Same w w'/\Holds w' (SumR b (crcF 4294967295 (t.take i))::L)) (λx _=>t.length - (RowKit.intOf x).toNat) ⟨0,by omega,rfl,S1,H1⟩ ?_;clear H H1 S1;rintro _ _ w2 ⟨i,hi,rfl,S,H⟩
  repeat (refine r_lss ?_)
  refine r_ifD (λh=>?_) λh=>?_
  ·have hlt:i < t.length:=by omega
   repeat (refine r_ixsN (by omega) ?_)
   refine Put_spec (c:=t.getD i 0) H λw3 S3 H3=>?_
   repeat (first|refine r_ke ?_|(refine r_add1N (by omega) ?_))
   refine⟨⟨i+1,by omega,rfl,S.trans S3,?_⟩,?_⟩
   ·rw[getD_take hlt,crcF_snoc];exact H3
   ·simp[nv,RowKit.intOf];omega
  ·obtain rfl:i=t.length:=by omega
   rw[take_length] at H;exact⟨S,H⟩
 rintro _ w2 ⟨S,H⟩;refine Tz124 ?_;unfold Vz124;obtain⟨hs,H⟩:=SumR_open H
 repeat (first|((with_reducible apply r_ld 0 H);(exact rfl);(with_reducible exact (sm256)))|refine r_nc ?_|refine r_fo0 ?_|(with_reducible refine r_bnSF ?_)|(with_reducible refine r_vf ?_))
 refine r_upxU32 hs ?_;exact k _ S H.drop
theorem take_spec {v:Value}{c:UInt8}{n:Nat}(H:Holds w (blk b 54 [v]::SL bv tB v t::L)) (hn:n<=255) (ht:t.length<=1000000000)
  (k:∀ v' w',Same w w'->Holds w' (blk b 54 [v']::SL bv tB v' (t++List.replicate n c)::L)->K (.tuple #[]) w'):Cl prog 121 #[bv c,nv n,pt b] w K:=by
 refine Tz121 ?_;unfold Vz121;refine r_loop1 (λx w'=>∃ i v',i<=n/\x=nv i/\Same w w'/\Holds w' (blk b 54 [v']::SL bv tB v' (t++List.replicate i c)::L)) (λx _=>n - (RowKit.intOf x).toNat) ⟨0,v,by omega,rfl,.refl w,by rw[List.replicate_zero,append_nil];exact H⟩ ?_;clear H;rintro _ _ w1 ⟨i,v',hi,rfl,S,H⟩
 repeat (refine r_lss ?_)
 refine r_ifD (λh=>?_) λh=>?_
 ·repeat (refine r_ld 0 H rfl rfl ?_)
  refine r_app1 H 1 rfl c (λ_=>rfl) (by rw[length_append,length_replicate];omega) λv2 w2 S2 H2=>?_;rw[List.set_cons_succ,List.set_cons_zero,append_assoc] at H2;refine r_st 0 H2 rfl (by simp) (SL_sg H2 1 rfl) λw3 S3 H3=>?_;replace H3:Holds w3 (blk b 54 [v2]::SL bv tB v2 (t++(List.replicate i c++[c]))::L):=H3
  repeat (first|refine r_ke ?_|(refine r_add1N (by omega) ?_))
  refine⟨⟨i+1,v2,by omega,rfl,(S.trans S2).trans S3,?_⟩,?_⟩
  ·rw[replicate_succ'];exact H3
  ·simp[nv,RowKit.intOf];omega
 ·obtain rfl:i=n:=by omega
  exact k _ _ S H
theorem Decode_spec {s:List UInt8}(H:Holds w L) (hs:s.length<=1000000)
  (kb:rle s=none->∀ e w',e≠0->Same w w'->Holds w' L->K (.tuple #[S_ [],iv e]) w')
  (k:∀ t,rle s=some t->∀ w',Same w w'->Holds w' L->K (.tuple #[S_ t,iv 0]) w'):Cl prog 63 #[S_ s] w K:=by
 refine Tz63 ?_;unfold Vz63
 have hz:(zeroP prog 54).cells.toList=[.slice none 0 0]:=by kernel_rfl
 refine r_new H λb w1 S1 H1=>?_;rw[hz] at H1;refine r_mf (.func (.func 121) #[] #[pt b]) (by kernel_rfl) ?_;refine r_cl (K:=λx w'=>Same w w'/\((rle s=none/\(x=iv 24\/x=iv 25)/\Holds w' L)\/∃ t v,rle s=some t/\x=iv 0/\Holds w' (blk b 54 [v]::SL bv tB v t::L))) ?_ ?_
 ·refine Tz120 ?_;unfold Vz120
  have hsz:∀ _:Unit,(⟨s.toArray⟩:ByteArray).size=s.length:=λ_=>by show s.toArray.size=_;simp
  repeat (refine r_lns ?_)
  rw[hsz ()]
  have call:∀ {c:UInt8} {n:Nat} {w:World} {K:Value->World->Prop} {v:Value} {t:List UInt8} (H:Holds w (blk b 54 [v]::SL bv tB v t::L)) (hn:n<=255) (ht:t.length<=1000000000)
    (k:∀ v' w',Same w w'->Holds w' (blk b 54 [v']::SL bv tB v' (t++List.replicate n c)::L)->K (.tuple #[]) w'),
    Inv prog (do let d <-Deferred.ofValue (.func (.func 121) #[] #[pt b]) #[bv c,nv n];invoke d.target d.args) w K:=λH hn ht k=>
   r_inv (f:=121) (args:=#[bv _,nv _,pt b]) (by kernel_rfl) (take_spec H hn ht k)
  refine r_loop2 (λrn x w'=>∃ (i run:Nat) (p:UInt8) (out:List UInt8) (v:Value),i<=s.length/\run<=4/\x=nv i/\rn=nv run/\(0 < run->0 < i/\p=s.getD (i - 1) 0)/\out.length<=255*i/\rleA out run p (s.drop i)=rle s/\Same w w'/\Holds w' (blk b 54 [v]::SL bv tB v out::L))
   (λ_ x _=>s.length - (RowKit.intOf x).toNat) ⟨0,0,0,[],.slice none 0 0,by omega,by omega,rfl,rfl,λh=>absurd h (Nat.lt_irrefl 0),by simp,rfl,S1,(H1.nilSL bv tB).swap⟩ ?_
  clear H H1 S1;rintro _ _ _ w2 ⟨i,run,p,out,v,hi,hr,rfl,rfl,hp,hout,hrle,S,H⟩
  repeat (refine r_lss ?_)
  refine r_ifD (λh=>?_) λh=>?_
  ·have hlt:i < s.length:=by omega
   have hd:s.drop i=s.getD i 0::s.drop (i+1):=by
    rw[getD_eq_getElem?_getD,getElem?_eq_getElem hlt];exact (List.getElem_cons_drop hlt).symm
   have hsi:(⟨s.toArray⟩:ByteArray).data.toList.getD i 0=s.getD i 0:=by simp
   have hsi1:(⟨s.toArray⟩:ByteArray).data.toList.getD (i - 1) 0=s.getD (i - 1) 0:=by simp
   rw[hd] at hrle;unfold rleA at hrle;refine r_join1 (λx w'=>∃ (run':Nat),run'<=4/\0 < run'/\x=nv run'/\rleA (out++[s.getD i 0]) run' (s.getD i 0) (s.drop (i+1))=rle s/\Same w w'/\Holds w' (blk b 54 [v]::SL bv tB v out::L)) ?_ ?_
   ·clear H S hrle;rintro _ _ w3 ⟨run',hr',hr0,rfl,hrle,S,H⟩;refine r_ixsN (by rw[hsz ()];exact hlt) ?_;rw[hsi];refine call (c:=s.getD i 0) (n:=1) H (by omega) (by omega) λv2 w4 S4 H4=>?_
    repeat (first|refine r_ke ?_|(refine r_add1N (by omega) ?_))
    refine⟨⟨i+1,run',s.getD i 0,out++[s.getD i 0],v2,by omega,hr',rfl,rfl,λ_=>⟨by omega,by rw[Nat.add_sub_cancel]⟩,by rw[length_append,length_singleton];omega,hrle,S.trans S4,H4⟩,?_⟩;simp[nv,RowKit.intOf];omega
   ·refine r_eql (r_ifE (λh4=>?_) λh4=>?_)
    ·have h4':run=4:=by omega
     rw[if_pos h4'] at hrle;have hp2:=hp (by omega);refine r_ixsN (by rw[hsz ()];exact hlt) ?_;rw[hsi]
     repeat (refine r_gtr ?_)
     refine r_ifD (λhb=>?_) λhb=>?_
     ·rw[if_pos (by omega)] at hrle;exact⟨S,.inl ⟨hrle.symm,.inr rfl,H.drop.drop⟩⟩
     ·rw[if_neg (by omega)] at hrle
      repeat (first|(refine r_sub1N (by omega) (by omega) ?_)|(refine r_dr H ?_;clear H;intro _ S_ H;replace S:=S.trans S_;clear S_))
      refine r_ixsN (by rw[hsz ()];omega) ?_;rw[hsi1];refine r_ixsN (by rw[hsz ()];exact hlt) ?_;rw[hsi]
      repeat (refine r_ci64 (by omega) (by omega) ?_)
      refine call (c:=s.getD (i - 1) 0) (n:=(s.getD i 0).toNat) H (by omega) (by omega) λv2 w4 S4 H4=>?_;rw[hp2.2] at hrle
      repeat (first|refine r_ke ?_|(refine r_add1N (by omega) ?_))
      refine⟨⟨i+1,0,s.getD i 0,_,v2,by omega,by omega,rfl,rfl,λh=>absurd h (Nat.lt_irrefl 0),by rw[length_append,length_replicate];omega,hrle,S.trans S4,H4⟩,?_⟩;simp[nv,RowKit.intOf];omega
    ·have h4':run≠4:=by omega
     rw[if_neg h4'] at hrle;refine r_join1 (λx w'=>x=.bool (decide (0 < run/\s.getD i 0=p))/\Same w w'/\Holds w' (blk b 54 [v]::SL bv tB v out::L)) ?_ ?_
     ·clear H S;rintro _ _ w3 ⟨rfl,S,H⟩;refine r_ifD (λhc=>?_) λhc=>?_
      ·rw[if_pos hc] at hrle
       repeat (first|refine r_ke ?_|(refine r_add1N (by omega) ?_))
       exact⟨run+1,by omega,by omega,rfl,hrle,S,H⟩
      ·rw[if_neg hc] at hrle
       repeat (refine r_ke ?_)
       exact⟨1,by omega,by omega,rfl,hrle,S,H⟩
     ·repeat (first|refine r_gtr ?_|(refine r_dr H ?_;clear H;intro _ S_ H;replace S:=S.trans S_;clear S_))
      refine r_ifD (λh0=>?_) λh0=>?_
      ·have hp2:=hp (by omega);refine r_ixsN (by rw[hsz ()];exact hlt) ?_;rw[hsi]
       repeat (refine r_sub1N (by omega) (by omega) ?_)
       refine r_ixsN (by rw[hsz ()];omega) ?_;rw[hsi1,<-hp2.2]
       repeat (first|refine r_ke ?_|refine r_eql ?_)
       refine⟨?_,S,H⟩;refine congrArg Value.bool ?_;rw[Bool.eq_iff_iff,beq_iff_eq,decide_eq_true_iff]
       constructor
       ·intro h;exact⟨by omega,UInt8.toNat_inj.1 (by omega)⟩
       ·rintro⟨_,h⟩;rw[h]
      ·repeat (refine r_ke ?_)
       refine⟨?_,S,H⟩;rw[decide_eq_false (by omega)]
  ·obtain rfl:i=s.length:=by omega
   rw[List.drop_length] at hrle;unfold rleA at hrle;refine r_eql (r_ifE (λh4=>?_) λh4=>?_)
   ·rw[if_pos (by omega)] at hrle;exact⟨S,.inl ⟨hrle.symm,.inl rfl,H.drop.drop⟩⟩
   ·rw[if_neg (by omega)] at hrle;exact⟨S,.inr ⟨out,v,hrle.symm,rfl,H⟩⟩
 rintro _ w2 ⟨S,⟨hn,hx,H⟩|⟨t,v,ht,rfl,H⟩⟩
 ·rcases hx with rfl|rfl
  ·repeat (first|refine r_neq ?_|((with_reducible refine r_vtN ?h ?_);(case h=>omega)))
   exact kb hn 24 _ (by decide) S H
  ·repeat (first|refine r_neq ?_|((with_reducible refine r_vtN ?h ?_);(case h=>omega)))
   exact kb hn 25 _ (by decide) S H
 ·repeat (first|refine r_neq ?_|refine r_ld 0 H rfl rfl ?_|((with_reducible refine r_vfN ?h ?_);(case h=>omega)))
  obtain⟨oa,sp,rfl,H3⟩:=H.open 1 rfl;refine r_cbs H3 1 rfl rfl ?_;exact k _ ht _ S H.drop.drop
end R3b
namespace O20
open Go.M02 Go.M03 Go.M3d Go.M18 Go.M20 R3b
variable {w:World}{L:List HProp}{K:Value->World->Prop}
theorem Bits_spec {s:Nat}(hs:s < 4294967296) (k:K (uv (crcN s 8)) w):Cl prog 114 #[uv s] w K:=by
 refine Tz114 ?_;unfold Vz114;refine r_loop2 (λx i w'=>∃ j:Nat,j<=8/\i=nv j/\x=uv (crcN s j)/\w=w') (λ_ i _=>8 - (RowKit.intOf i).toNat) ⟨0,by omega,rfl,rfl,rfl⟩ ?_;rintro _ _ _ _ ⟨j,hj,rfl,rfl,rfl⟩;have hb:=crcN_lt hs j
 repeat (refine r_lss ?_)
 refine r_ifD (λh=>?_) λh=>?_
 ·refine r_geq ?_;refine r_ifD (λh2=>?_) λh2=>?_
  ·refine r_subU32 (t:=2147483648) (by omega) (by omega) ?_;refine r_mulU32 (t:=2) (by omega) ?_;refine r_xorU32 (t:=79764919) (by omega) (by decide) ?_
   repeat (first|refine r_ke ?_|(refine r_add1N (by omega) ?_))
   refine⟨⟨j+1,by omega,rfl,?_,rfl⟩,?_⟩
   ·rw[crcN_snoc,crcStep_high (by omega) hb]
   ·simp[nv,RowKit.intOf];omega
  ·refine r_mulU32 (t:=2) (by omega) ?_
   repeat (first|refine r_ke ?_|(refine r_add1N (by omega) ?_))
   refine⟨⟨j+1,by omega,rfl,?_,rfl⟩,?_⟩
   ·rw[crcN_snoc,crcStep_low (by omega)]
   ·simp[nv,RowKit.intOf];omega
 ·obtain rfl:j=8:=by omega
  exact k
theorem Step_spec {s:Nat}{c:UInt8}(hs:s < 4294967296) (k:K (uv (crcB s c)) w):Cl prog 56 #[uv s,bv c] w K:=by
 refine Tz56 ?_;unfold Vz56;have hc:=c.toNat_lt
 repeat (refine r_ciu32 (by omega) (by omega) ?_)
 refine r_mulU32 (s:=c.toNat) (t:=16777216) (by omega) ?_;refine r_xorU32 hs (by omega) ?_;exact Bits_spec (Nat.xor_lt_two_pow (n:=32) (by omega) (by omega)) k
theorem ROf_spec {t:List UInt8}(ht:t.length<=1000000000) (k:K (uv (crcOf t)) w):Cl prog 20 #[S_ t] w K:=by
 refine Tz20 ?_;unfold Vz20
 have hs:(⟨t.toArray⟩:ByteArray).size=t.length:=by show t.toArray.size=_;simp
 have hg:∀ i,(⟨t.toArray⟩:ByteArray).data.toList.getD i 0=t.getD i 0:=λi=>by simp
 refine r_loop2 (λx i w'=>∃ j:Nat,j<=t.length/\i=nv j/\x=uv (crcF 4294967295 (t.take j))/\w=w') (λ_ i _=>t.length - (RowKit.intOf i).toNat) ⟨0,by omega,rfl,rfl,rfl⟩ ?_;rintro _ _ _ _ ⟨j,hj,rfl,rfl,rfl⟩;have hb:=crcF_lt (t.take j) (s:=4294967295) (by decide)
 repeat (first|refine r_lns ?_|refine r_lss ?_)
 rw[hs];refine r_ifD (λh=>?_) λh=>?_
 ·refine r_ixsN (by rw[hs];omega) ?_;rw[hg];refine Step_spec hb ?_
  repeat (first|refine r_ke ?_|(refine r_add1N (by omega) ?_))
  refine⟨⟨j+1,by omega,rfl,?_,rfl⟩,?_⟩
  ·rw[getD_take (by omega),crcF_snoc]
  ·simp[nv,RowKit.intOf];omega
 ·obtain rfl:j=t.length:=by omega
  rw[take_length] at hb ⊢;refine r_subU32 (s:=4294967295) (by omega) (by omega) ?_;exact k
def sz:Value->Nat
 |.string b=>b.size
 |_=>0
abbrev gotV (l:List UInt8) (o s:Int):List Value:=[S_ l,iv o,.int .u32 s]
abbrev tG:Nat:=34
abbrev tH:Nat:=37
theorem Open_spec {l:List UInt8}{o s:Int}(H:Holds w L) (hl:l.length<=900000) (k:∀ w',Same w w'->Holds w' L->K (.tuple #[S_ (opn l o s).1,iv (opn l o s).2]) w'):Cl prog 23 #[.agg (gotV l o s).toArray] w K:=by
 refine Tz23 ?_;unfold Vz23;refine r_new H λb w1 S1 H1=>?_;replace H1:Holds w1 (blk b tG (gotV l o s)::L):=H1;clear H;have H:=H1;clear H1
 have hs:(⟨l.toArray⟩:ByteArray).size=l.length:=by show l.toArray.size=_;simp
 have hd:(⟨l.toArray⟩:ByteArray).data.toList=l:=by simp
 repeat (first|refine r_fo0 ?_|refine r_ld 0 H rfl rfl ?_)
 refine U18.Of_spec (last:=⟨l.toArray⟩) H (λh=>?_) (λh=>?_) (λh1 h2 h3=>?_) λn w2 h1 h2 h3 S2 H2=>?_
 ·repeat (first|refine r_neq ?_|(with_reducible refine r_ex20 ?_)|(with_reducible refine r_ex21 ?_)|((with_reducible refine r_vtN ?h ?_);(case h=>omega)))
  have:=k w1 S1 H.drop;rw[show opn l o s=([],1) by unfold opn;rw[if_pos (by omega)]] at this;exact this
 ·omega
 ·repeat (first|refine r_neq ?_|(with_reducible refine r_ex20 ?_)|(with_reducible refine r_ex21 ?_)|((with_reducible refine r_vtN ?h ?_);(case h=>omega)))
  have:=k w1 S1 H.drop;rw[show opn l o s=([],23) by unfold opn;rw[if_neg (by omega),if_pos (by omega)]] at this;exact this
 ·rw[hd];subst h1;have S:=S1.trans S2;clear H S1 S2;have tl:=text_len l n
  repeat (first|refine r_neq ?_|(with_reducible refine r_ex20 ?_)|(with_reducible refine r_ex21 ?_)|((with_reducible refine r_vfN ?h ?_);(case h=>omega)))
  have e0:opn l (n:Int) s=opnR s (rle (text l n)):=by
   unfold opn;rw[if_neg (by omega),if_neg (by omega),Int.toNat_natCast]
  rw[e0] at k;refine R3b.Decode_spec H2 (by omega) (λhr e w3 he S3 H3=>?_) λt hr w3 S3 H3=>?_
  ·rw[hr] at k;simp only[opnR] at k
   repeat (first|refine r_neq ?_|(with_reducible refine r_ex20 ?_)|(with_reducible refine r_ex21 ?_)|((with_reducible refine r_vtN ?h ?_);(case h=>omega)))
   exact k _ (S.trans S3) H3.drop
  ·rw[hr] at k;simp only[opnR] at k;have htl:=rleA_len _ _ _ _ _ hr;rw[tl] at htl;replace S:=S.trans S3;clear H2 S3;have H:=H3;clear H3
   repeat (first|refine r_neq ?_|(with_reducible refine r_ex20 ?_)|(with_reducible refine r_ex21 ?_)|(refine r_dr H ?_;clear H;intro _ S_ H;replace S:=S.trans S_;clear S_)|((with_reducible refine r_vfN ?h ?_);(case h=>omega)))
   refine R3b.Of_spec H (by simp at htl;omega) λw5 S5 H5=>?_
   repeat (first|refine r_rk (r_ld 0 H rfl rfl rfl) ?_|refine r_ld 0 H5 rfl rfl ?_|refine r_fo0 ?_|refine r_neq ?_)
   refine r_ifN (λh=>?_) λh=>?_
   ·have:=k _ (S.trans S5) H5.drop;rw[if_neg h] at this
    repeat (fail)
    exact this
   ·have:=k _ (S.trans S5) H5.drop;rw[if_pos h] at this
    repeat (fail)
    exact this
end O20
namespace P20
open Go.M01 Go.Mb Go.Me Go.M02 Go.M03 Go.M3d Go.M18 Go.M20 Go.Mh T12 W14 W20
variable {w:World}{L:List HProp}{K:Value->World->Prop}
theorem read_back {xs t:List UInt8}{B:List Bool}{room:Nat}(h0:xs≠[]) (hl:xs.length<=room) (hr:room<=900000) (hB:BodyBits xs (crcOf t) B) (ht:rle xs=some t) (rest:List Bool) :
  ∃ o held,(sortP xs xs.length)[o]?=some 0/\Q20.Comes room (B++rest) (.got (lastL xs) o (crcOf t) B.length held)/\opn (lastL xs) (o:Int) ((crcOf t:Nat):Int)=(t,0):=by
 obtain⟨o,picks,ts,ho,hC,rfl⟩:=hB;have hol:=idx_lt_ ho;have hll:=lastL_len xs;have hpos:=length_pos_iff.2 h0;obtain⟨held,hc⟩:=Y20.block_says (origin:=o) (lastL_ne h0) (by omega) hr (by omega) (crcOf_lt t) hC rest;refine⟨o,held,ho,hc,?_⟩;unfold opn;rw[if_neg (by omega),if_neg (by omega),Int.toNat_natCast,text_back xs o hol ho,ht];unfold opnR;simp only;rw[if_pos trivial]
end P20
instance rowU22:Row prog 102 22 (.int .u32 0):=⟨by kernel_rfl,⟨t22,by kernel_rfl,by kernel_rfl,by decide,by kernel_rfl⟩,rfl⟩
namespace P20
open Go.M01 Go.Mb Go.M10 Go.M02 Go.M03
variable {w:World}{L:List HProp}{K:Value->World->Prop}
abbrev tU4:Nat:=22
theorem xor_even {x:Nat}(h:x%2=0):x ^^^ 1=x+1:=by
 have h1:=Nat.two_pow_add_eq_or_of_lt (i:=1) (show 1 < 2^1 by decide) (x/2)
 have e:2^1*(x/2)=x:=by omega
 rw[e] at h1;rw[h1];apply Nat.eq_of_testBit_eq;intro i;rw[Nat.testBit_xor,Nat.testBit_or]
 cases i with
 |zero=>
  have:x.testBit 0=false:=by rw[Nat.testBit_zero];simp;omega
  rw[this];rfl
 |succ i=>
  have:Nat.testBit 1 (i+1)=false:=by
   rw[Nat.testBit_succ];simp
  rw[this,Bool.xor_false,Bool.or_false]
theorem mulw {a:Nat}:bp .mul (.int .u32 (a:Int)) (.int .u32 2)=some (uv (a*2%4294967296)):=by
 simp only[bp,if_true];show some (Value.int .u32 (((a:Int)*2)%4294967296))=_
 have e:((a:Int)*2)%4294967296=((a*2%4294967296:Nat):Int):=by omega
 rw[e]
theorem Combine2_spec {a c:Nat}(ha:a < 4294967296) (hc:c < 4294967296) (k:K (uv (comb a c)) w):Cl prog 171 #[uv a,uv c] w K:=by
 refine Tz171 ?_;unfold Vz171;refine r_bpK (uv (a*2%4294967296)) mulw ?_;unfold comb at k;refine r_geq (r_ifD (λh=>?_) λh=>?_)
 ·refine r_addU32 (s:=a*2%4294967296) (t:=1) (by omega) ?_;refine r_xorU32 (by omega) hc ?_;rw[show a/2147483648=1 by omega,xor_even (by omega)] at k;exact k
 ·refine r_xorU32 (by omega) hc ?_;rw[show a/2147483648=0 by omega,Nat.xor_zero] at k;exact k
theorem fold_lt:∀ (l:List Nat){a:Nat},a < 4294967296->(∀ x∈l,x < 4294967296)->l.foldl comb a < 4294967296
 |[],a,h,_=>h
 |x::l,a,h,hl=>fold_lt l (comb_lt h (hl x (mem_cons_self ..))) λy hy=>hl y (mem_cons_of_mem _ hy)
theorem Stream_spec {v:Value}{l:List Nat}(H:Holds w (SL uv tU4 v l::L)) (hl:∀ x∈l,x < 4294967296) (hn:l.length<=1000000) (k:K (uv (l.foldl comb 0)) w):Cl prog 127 #[v] w K:=by
 refine Tz127 ?_;unfold Vz127;refine r_lnS 0 H rfl ?_;refine r_loop2 (λx i w'=>∃ j:Nat,j<=l.length/\i=nv j/\x=uv ((l.take j).foldl comb 0)/\w=w') (λ_ i _=>l.length - (RowKit.intOf i).toNat) ⟨0,by omega,rfl,rfl,rfl⟩ ?_;rintro _ _ _ _ ⟨j,hj,rfl,rfl,rfl⟩;refine r_lss (r_ifD (λh=>?_) λh=>?_)
 ·have hlt:j < l.length:=by omega
  have hg:l[j]?=some l[j]:=getElem?_eq_getElem hlt;refine r_getS 0 H rfl hg ?_;refine Combine2_spec (fold_lt _ (by decide) λx hx=>hl x (mem_of_mem_take hx)) (hl _ (getElem_mem hlt)) ?_;refine r_add1N (by omega) ?_;refine r_ke ⟨⟨j+1,by omega,rfl,?_,rfl⟩,?_⟩
  ·rw[take_add_one,hg,List.foldl_append];rfl
  ·simp only[nv,RowKit.intOf,Int.toNat_natCast];omega
 ·obtain rfl:j=l.length:=by omega
  rw[take_length];exact k
def endB:List Bool:=bitsOf 25779555029136 48
def magB:List Bool:=bitsOf 54156738319193 48
theorem endT:(⟨#[48,48,48,49,48,49,49,49,48,49,49,49,48,48,49,48,48,49,48,48,48,49,48,49,48,48,49,49,49,48,48,48,48,49,48,49,48,48,48,48,49,48,48,49,48,48,48,48]⟩:ByteArray)=⟨(txt endB).toArray⟩:=by decide
theorem magT:(⟨#[48,48,49,49,48,48,48,49,48,49,48,48,48,48,48,49,48,49,48,49,49,48,48,49,48,48,49,48,48,49,49,48,48,49,48,49,48,48,49,49,48,49,48,49,49,48,48,49]⟩:ByteArray)=⟨(txt magB).toArray⟩:=by decide
end P20
namespace P20
open Go.M01 Go.Mb Go.Me Go.M02 Go.M03 Go.M3d Go.M18 Go.M20 Go.Mh Go.Qs T12 W14 W20 P35
variable {w:World}{L:List HProp}{K:Value->World->Prop}
abbrev tBl:Nat:=106
def Fbl (x:Bl):List Value:=[S_ x.1,S_ x.2]
theorem Fbl_sg:∀ y:Bl,∀ u∈Fbl y,sg u=true:=by
 intro y u hu;simp only[Fbl,mem_cons,List.not_mem_nil,or_false] at hu
 rcases hu with rfl|rfl <;> rfl
theorem bl_zero:(zeroP prog tBl).cells.toList=[S_ [],S_ []]:=by kernel_rfl
instance rowBl:RowN prog 103 tBl 2:=⟨by kernel_rfl,⟨t106,.agg #[S_ [],S_ []],by kernel_rfl,by kernel_rfl,by decide,by kernel_rfl,by kernel_rfl⟩⟩
def seg (ps:List (UInt8 × Nat)) (a i:Nat):List (UInt8 × Nat):=(ps.drop a).take (i - a)
theorem seg_nil (ps:List (UInt8 × Nat)) (a:Nat):seg ps a a=[]:=by unfold seg;rw[Nat.sub_self,List.take_zero]
theorem seg_succ {ps:List (UInt8 × Nat)}{a i:Nat}{x:UInt8 × Nat}(h:a<=i) (hx:ps[i]?=some x):seg ps a (i+1)=seg ps a i++[x]:=by
 unfold seg;rw[show i+1 - a=(i - a)+1 by omega,take_add_one,List.getElem?_drop,show a+(i - a)=i by omega,hx];rfl
theorem take_seg {ps:List (UInt8 × Nat)}{a i:Nat}(h:a<=i):ps.take a++seg ps a i=ps.take i:=by
 unfold seg
 conv=>rhs;rw[show i=a+(i - a) by omega,take_add]
theorem seg_adj {ps:List (UInt8 × Nat)}(h:Adj ps) (a i:Nat):Adj (seg ps a i):=h.part a (i - a)
structure Cut (ps:List (UInt8 × Nat)) (room i a:Nat) (bs:List Bl):Prop where
 le:a<=i
 fit:(encB (seg ps a i)).length<=room
 ok:∀ b∈bs,BlOk room b
 txt:bs.flatMap (λb=>b.2)=txs (ps.take a)
 len:(bs.map λb=>b.1.length).sum=(encB (ps.take a)).length
 cnt:bs.length<=a
theorem Cut.close {ps:List (UInt8 × Nat)}{room i a:Nat}{bs:List Bl}(ha:Adj ps) (h:Cut ps room i a bs) (hne:encB (seg ps a i)≠[]):Cut ps room i i (bs++[(encB (seg ps a i),txs (seg ps a i))]):=by
 have hlt:a < i:=by
  rcases Nat.lt_or_ge a i with q|q
  ·exact q
  ·exfalso;apply hne
   have:a=i:=by have:=h.le;omega
   subst this;rw[seg_nil];rfl
 refine⟨Nat.le_refl _,by rw[seg_nil];exact Nat.zero_le _,λb hb=>?_,?_,?_,?_⟩
 ·rcases mem_append.1 hb with hb|hb
  ·exact h.ok b hb
  ·rw[List.mem_singleton.1 hb];exact⟨hne,h.fit,(seg_adj ha a i).back⟩
 ·rw[flatMap_append,h.txt,flatMap_cons,flatMap_nil,append_nil,<-txs_app,take_seg h.le]
 ·rw[List.map_append,List.sum_append,h.len,<-take_seg h.le,encB_app,length_append];simp
 ·rw[length_append,length_singleton];have:=h.cnt;omega
theorem Of19_spec {s:List UInt8}{room:Nat}(H:Holds w L) (hs:s.length<=100000) (h5:5<=room) (hr:room<=900000) (k:∀ v bs w',Cuts s room bs->Same w w'->Holds w' (RW Fbl 2 tBl v bs::L)->K v w'):Cl prog 69 #[S_ s,nv room] w K:=by
 refine Tz69 ?_;unfold Vz69;refine r_bd (v:=.agg #[S_ [],S_ []]) (by kernel_rfl) ?_;refine r_new H λnb w1 S1 H1=>?_;rw[bl_zero] at H1;refine r_stA 0 H1 (vs:=[S_ [],S_ []]) rfl (Nat.le_refl 2) rfl rfl λw2 S2 H2=>?_;replace H2:Holds w2 (blk nb tBl [S_ [],S_ []]::L):=H2;refine Pieces_spec H2 (by omega) λv ps w3 hp S3 H3=>?_;have hpl:=hp.len;have hadj:=hp.adj;have htx:=hp.txs_;have hel:=encB_len ps
 have hsub:∀ i,(encB (ps.take i)).length<=5*ps.length:=λi=>by
  have:=encB_len (ps.take i);rw[length_take] at this;omega
 have hsg:∀ a i,(encB (seg ps a i)).length<=5*ps.length:=λa i=>by
  have:=encB_len (seg ps a i);unfold seg at this ⊢;rw[length_take,List.length_drop] at this;omega
 refine r_lnN 0 H3 rfl ?_;have H3':Holds w3 (RW Fbl 2 tBl (.slice none 0 0) []::RW Fpc 2 tPc v ps::blk nb tBl [S_ [],S_ []]::L):=H3.nilRW _ _ _
 refine r_loop2n (λj o y w'=>∃ i a bs,j=ps.length - i/\i<=ps.length/\y=nv i/\Cut ps room i a bs/\Same w w'/\Holds w' (RW Fbl 2 tBl o bs::RW Fpc 2 tPc v ps::blk nb tBl [S_ (encB (seg ps a i)),S_ (txs (seg ps a i))]::L)) ps.length
  ⟨0,0,[],rfl,Nat.zero_le _,rfl,⟨Nat.le_refl _,by rw[seg_nil];exact Nat.zero_le _,λb hb=>(by cases hb),rfl,rfl,Nat.le_refl _⟩,S1.trans (S2.trans S3),by rw[seg_nil];exact H3'⟩ ?_
 clear H H1 H2 H3 H3' S1 S2 S3;rintro _ j o _ w4 _ ⟨i,a,bs,rfl,hi,rfl,hc,S4,H4⟩ hgo;refine r_lss (r_ifD (λh1=>?_) λh1=>?_)
 ·have hlt:i < ps.length:=by omega
  have hx:ps[i]?=some ps[i]:=getElem?_eq_getElem hlt;have hok:=hadj.ok _ (getElem_mem hlt);generalize ps[i]=x at *;refine r_getN 1 H4 rfl hx (λ_=>rfl) ?_;refine r_new H4 λpb w5 S5 H5=>?_;rw[pc_zero] at H5;refine r_stA 0 H5 (vs:=Fpc x) rfl (Nat.le_refl 2) rfl rfl λw6 S6 H6=>?_;replace H6:Holds w6 (blk pb tPc (Fpc x)::RW Fbl 2 tBl o bs::RW Fpc 2 tPc v ps::blk nb tBl [S_ (encB (seg ps a i)),S_ (txs (seg ps a i))]::L):=H6;refine r_ldA 0 H6 (Fpc x) rfl rfl rfl ?_;refine Piece_spec H6 hok λw7 S7 H7=>?_;have h6:=pieceB_len x;have S:=S4.trans (S5.trans (S6.trans S7));clear S4 S5 S6 S7 H4 H5 H6;refine r_join1 (λo' w'=>∃ a' bs',Cut ps room i a' bs'/\(encB (seg ps a' i)).length+(pieceB x).length<=room/\Same w w'/\Holds w' (blk pb tPc (Fpc x)::RW Fbl 2 tBl o' bs'::RW Fpc 2 tPc v ps::blk nb tBl [S_ (encB (seg ps a' i)),S_ (txs (seg ps a' i))]::L)) ?_ ?_
  rotate_left
  ·have h5':=hsg a i;refine r_fo0 (r_ld 3 H7 rfl rfl ?_);refine q_len (q_len ?_);refine r_addN (a:=(encB (seg ps a i)).length) (b:=(pieceB x).length) (by omega) ?_;refine r_gtr (r_ifD (λh2=>?_) λh2=>?_)
   ·have hne:encB (seg ps a i)≠[]:=length_pos_iff.1 (by omega);have hc2:=hc.close hadj hne;have hcnt:=hc.cnt;have hle0:=hc.le;refine r_ldA 3 H7 [S_ (encB (seg ps a i)),S_ (txs (seg ps a i))] rfl rfl rfl ?_;refine r_appN H7 1 ((encB (seg ps a i),txs (seg ps a i)):Bl) rfl (by kernel_rfl) (λy=>rfl) Fbl_sg (by omega) (by decide) λv' w8 S8 H8=>?_;refine r_bd (v:=.agg #[S_ [],S_ []]) (by kernel_rfl) ?_;refine r_stA 3 H8 (vs:=[S_ [],S_ []]) rfl (Nat.le_refl 2) rfl rfl λw9 S9 H9=>?_;replace H9:Holds w9 (blk pb tPc (Fpc x)::RW Fbl 2 tBl v' (bs++[(encB (seg ps a i),txs (seg ps a i))])::RW Fpc 2 tPc v ps::blk nb tBl [S_ [],S_ []]::L):=H9;exact r_ke ⟨i,_,hc2,by rw[seg_nil];show 0+_<=_;omega,S.trans (S8.trans S9),by rw[seg_nil];exact H9⟩
   ·exact r_ke ⟨a,bs,hc,by omega,S,H7⟩
  clear H7 S hc;rintro _ o' w8 ⟨a',bs',hc,hfit,S8,H8⟩;have h5':=hsg a' i;have hle:=hc.le;refine r_fo0 (r_ld 3 H8 rfl rfl ?_);refine r_catL (by omega) ?_;refine r_fo0 ?_;refine r_st 3 H8 rfl (by simp) rfl λw9 S9 H9=>?_
  have e1:encB (seg ps a' (i+1))=encB (seg ps a' i)++pieceB x:=by rw[seg_succ hle hx,encB_snoc]
  replace H9:Holds w9 (blk pb tPc (Fpc x)::RW Fbl 2 tBl o' bs'::RW Fpc 2 tPc v ps::blk nb tBl [S_ (encB (seg ps a' (i+1))),S_ (txs (seg ps a' i))]::L):=by rw[e1];exact H9
  refine r_fo0 (r_ld 0 H9 rfl rfl ?_)
  have htl:(txs (seg ps a' i)).length<=255*ps.length:=by
   have:∀ l:List (UInt8 × Nat),(∀ x∈l,x.2<=255)->(txs l).length<=255*l.length:=by
    intro l
    induction l with
    |nil=>intro _;exact Nat.zero_le _
    |cons y l ih=>
     intro hl;have h1:=ih λz hz=>hl z (mem_cons_of_mem _ hz);have h2:=hl y (mem_cons_self ..);unfold txs at h1 ⊢;rw[flatMap_cons,length_append,length_replicate,length_cons];omega
   have h7:=this (seg ps a' i) λy hy=>((seg_adj hadj a' i).ok y hy).2
   have h8:(seg ps a' i).length<=ps.length:=by unfold seg;rw[length_take,List.length_drop];omega
   have h9:=Nat.mul_le_mul_left 255 h8;omega
  refine r_loop1n (λj y w'=>∃ q,j=x.2 - q/\q<=x.2/\y=nv q/\Same w w'/\Holds w' (blk pb tPc (Fpc x)::RW Fbl 2 tBl o' bs'::RW Fpc 2 tPc v ps::blk nb tBl [S_ (encB (seg ps a' (i+1))),S_ (txs (seg ps a' i)++List.replicate q x.1)]::L)) x.2
   ⟨0,rfl,Nat.zero_le _,rfl,S8.trans S9,by rw[List.replicate_zero,append_nil];exact H9⟩ ?_
  clear H8 H9 S8 S9;rintro _ j _ wa _ ⟨q,rfl,hq,rfl,Sa,Ha⟩ hgo2;refine r_lss (r_ifD (λh2=>?_) λh2=>?_)
  ·refine r_fo0 (r_ld 3 Ha rfl rfl ?_);refine r_fo0 (r_ld 0 Ha rfl rfl ?_);refine q_str Ha x.1 λwb Sb Hb=>?_;refine r_catL (by rw[length_append,length_replicate,length_singleton];omega) ?_;refine r_fo0 ?_;refine r_st 3 Hb rfl (by simp) rfl λwc Sc Hc=>?_;refine r_add1N (by omega) (r_ke (hgo2 (x.2 - (q+1)) _ _ (by omega) ⟨q+1,rfl,by omega,rfl,Sa.trans (Sb.trans Sc),?_⟩));rw[replicate_succ',<-append_assoc];exact Hc
  ·obtain rfl:q=x.2:=by omega
   refine r_add1N (by omega) (r_ke (hgo (ps.length - (i+1)) _ _ _ (by omega) ⟨i+1,a',bs',rfl,by omega,rfl,⟨by omega,by rw[e1,length_append];exact hfit,hc.ok,hc.txt,hc.len,hc.cnt⟩,Sa,?_⟩))
   have e2:txs (seg ps a' (i+1))=txs (seg ps a' i)++List.replicate x.2 x.1:=by
    rw[seg_succ hle hx,txs_app];simp[txs]
   rw[e2];exact Ha.drop
 ·obtain rfl:i=ps.length:=by omega
  refine r_fo0 (r_ld 2 H4 rfl rfl ?_);refine q_len (r_gtr (r_ifD (λh2=>?_) λh2=>?_))
  ·have hne:encB (seg ps a ps.length)≠[]:=length_pos_iff.1 (by omega);have hc2:=hc.close hadj hne;have hcnt:=hc.cnt;have hle:=hc.le;refine r_ldA 2 H4 [S_ (encB (seg ps a ps.length)),S_ (txs (seg ps a ps.length))] rfl rfl rfl ?_;refine r_appN H4 0 ((encB (seg ps a ps.length),txs (seg ps a ps.length)):Bl) rfl (by kernel_rfl) (λy=>rfl) Fbl_sg (by omega) (by decide) λv' w8 S8 H8=>?_;have H9:Holds w8 (RW Fbl 2 tBl v' (bs++[(encB (seg ps a ps.length),txs (seg ps a ps.length))])::L):=Holds.dropAt (Holds.dropAt H8 1) 1;have hlen:=hc2.len;have hcn:=hc2.cnt;rw[take_length] at hlen;refine k v' _ _ ⟨hc2.ok,by rw[hc2.txt,take_length,htx],by omega,by omega⟩ (S4.trans S8) H9
  ·have hcnt:=hc.cnt;have hle:=hc.le
   have e0:seg ps a ps.length=[]:=by
    rcases Classical.em (seg ps a ps.length=[]) with e|e
    ·exact e
    ·exact absurd (List.eq_nil_of_length_eq_zero (show (encB (seg ps a ps.length)).length=0 by omega)) (enc_ne (seg_adj hadj a _) e)
   have e1:=take_seg (ps:=ps) hle;rw[e0,append_nil,take_length] at e1;have hlen:=hc.len;have htxt:=hc.txt;rw[e1] at hlen htxt;exact k o bs _ ⟨hc.ok,by rw[htxt,htx],by omega,by omega⟩ S4 (Holds.dropAt (Holds.dropAt H4 1) 1)
end P20
namespace P20
open Go.M01 Go.Mb Go.Me Go.M02 Go.M03 Go.M3d Go.M18 Go.M20 Go.Mh Go.Qs T12 W14 W20 P35
variable {w:World}{L:List HProp}{K:Value->World->Prop}
theorem Head_spec {level:Nat}(h:1<=level/\level<=9) (k:K (S_ (txt (headB level))) w):Cl prog 68 #[nv level] w K:=by
 refine Tz68 ?_;unfold Vz68;refine r_add1N (by omega) ?_;refine q_1 (t:=[48,49,50,51,52,53,54,55,56,57]) (m:=level) (by simp;omega) ?_;refine r_catL (xs:=[66,90,104]) (by simp) ?_;refine Bits_spec (by simp) ?_
 have e:bitsL ([66,90,104]++[([48,49,50,51,52,53,54,55,56,57]:List UInt8).getD level 0])=headB level:=by
  rcases (show level=1\/level=2\/level=3\/level=4\/level=5\/level=6\/level=7\/level=8\/level=9 by omega) with rfl|rfl|rfl|rfl|rfl|rfl|rfl|rfl|rfl <;> decide
 rw[e];exact k
theorem Sum19_spec {x:Bl}(H:Holds w L) (hx:x.2.length<=1000000) (k:∀ w',Same w w'->Holds w' L->K (uv (crcOf x.2)) w'):Cl prog 70 #[.agg (Fbl x).toArray] w K:=by
 refine Tz70 ?_;unfold Vz70;refine r_new H λb w1 S1 H1=>?_;replace H1:Holds w1 (blk b tBl (Fbl x)::L):=H1;refine r_fo0 (r_ld 0 H1 rfl rfl ?_);refine O20.ROf_spec (t:=x.2) (by omega) ?_;exact k _ S1 H1.drop
theorem Tail_spec {v:Value}{l:List Nat}(H:Holds w (SL uv tU4 v l::L)) (hl:∀ x∈l,x < 4294967296) (hn:l.length<=1000000) (k:K (S_ (txt (endW++bitsOf (l.foldl comb 0) 32))) w):Cl prog 71 #[v] w K:=by
 refine Tz71 ?_;unfold Vz71;refine Stream_spec H hl hn ?_;refine Field_spec (n:=32) (by decide) (fold_lt _ (by decide) hl) ?_;rw[endT]
 have h1:(txt endB).length=48:=by rw[txt_len];exact endW_len
 refine r_catL (by rw[h1,txt_len,bitsOf_len];decide) ?_;rw[<-txt_app];exact k
theorem gb_of {xs t:List UInt8}{B:List Bool}{room:Nat}(h0:xs≠[]) (hl:xs.length<=room) (hr:room<=900000) (hB:BodyBits xs (crcOf t) B) (ht:rle xs=some t):Gb room (t,B):=λrest=>by
 obtain⟨o,held,ho,hc,hop⟩:=read_back h0 hl hr hB ht rest;exact⟨_,o,held,hc,hop⟩
theorem BodyBits.len2 {s:List UInt8}{sum:Nat}{B:List Bool}(h:BodyBits s sum B) (h0:s≠[]) (hl:s.length<=4000):B.length<=200000+30*s.length:=by
 obtain⟨o,p,t,h1,h2,rfl⟩:=h;have hll:=M18.lastL_len s;have:=blockBits_len (origin:=o) (sum:=sum) (lastL_ne h0) (by omega) h2;omega
theorem sum_one {l:List Nat}{x:Nat}(h:x∈l):x<=l.sum:=by
 induction l with
 |nil=>cases h
 |cons y l ih=>
  rw[List.sum_cons];rcases mem_cons.1 h with rfl|h
  ·omega
  ·have:=ih h;omega
theorem With21_spec {level unit:Nat}{s:List UInt8}(H:Holds w L) (h1:1<=level/\level<=9) (hu:24<=unit/\unit<=100000) (hs:s.length<=60)
  (k:∀ bs w',(∀ x∈bs,Gb (level*unit) x)->textOf bs=s->bs.length<=s.length->(strB level bs).length<=200+210000*s.length->Same w w'->Holds w' L->K (S_ (wholeB (padB (strB level bs)))) w') :
  Cl prog 30 #[nv level,nv unit,S_ s] w K:=by
 refine Tz30 ?_;unfold Vz30;refine Head_spec h1 ?_;have hm1:1*24<=level*unit:=Nat.mul_le_mul h1.1 hu.1;have hm2:level*unit<=9*100000:=Nat.mul_le_mul h1.2 hu.2;refine r_mulE ((level*unit:Nat):Int) (Int.natCast_mul _ _).symm (by omega) (by omega) ?_;generalize level*unit=M at *;refine r_sub (by omega) (by omega) ?_;rw[show ((M:Nat):Int) - 19=((M - 19:Nat):Int) by omega];refine Of19_spec H (by omega) (by omega) (by omega) λv blks w1 hc S1 H1=>?_;have hcnt:=hc.cnt;have hlen:=hc.len
 have hbok:∀ x∈blks,x.1≠[]/\x.1.length<=M/\rle x.1=some x.2/\x.1.length<=300/\x.2.length<=60:=by
  intro x hx;obtain⟨g1,g2,g3⟩:=hc.ok x hx;have g4:=sum_one (List.mem_map.2 ⟨x,hx,rfl⟩:x.1.length∈blks.map λb=>b.1.length)
  have g5:x.2.length<=s.length:=by
   rw[<-hc.txt];clear hlen hcnt H1 hc g1 g2 g3 g4
   induction blks with
   |nil=>cases hx
   |cons y l ih=>
    rw[flatMap_cons,length_append];rcases mem_cons.1 hx with rfl|hx
    ·omega
    ·have:=ih hx;omega
  exact⟨g1,by omega,g3,by omega,by omega⟩
 refine r_lnN 0 H1 rfl ?_;have H1':Holds w1 (SL uv tU4 (.slice none 0 0) []::RW Fbl 2 tBl v blks::L):=H1.nilSL uv tU4
 refine r_loop3 (λx sv y w'=>∃ i bks,i<=blks.length/\y=nv i/\x=S_ (txt (headB level++blksB bks))/\bks.length=i/\textOf bks=(blks.take i).flatMap (λb=>b.2)/\(∀ z∈bks,Gb M z)/\(blksB bks).length<=209048*i/\Same w w'/\Holds w' (SL uv tU4 sv (bks.map λz=>crcOf z.1)::RW Fbl 2 tBl v blks::L))
  (λ_ _ y _=>blks.length - (RowKit.intOf y).toNat) ⟨0,[],Nat.zero_le _,rfl,by simp[blksB],rfl,rfl,λz hz=>(by cases hz),Nat.zero_le _,S1,H1'⟩ ?_
 clear H H1 H1' S1;rintro _ _ sv _ w2 ⟨i,bks,hi,rfl,rfl,hbl,htx,hgb,hbb,S2,H2⟩;have h32:=headB_len level;refine r_lss (r_ifD (λh=>?_) λh=>?_)
 ·have hlt:i < blks.length:=by omega
  have hx:blks[i]?=some blks[i]:=getElem?_eq_getElem hlt;obtain⟨g1,g2,g3,g4,g5⟩:=hbok _ (getElem_mem hlt)
  have htk:blks.take (i+1)=blks.take i++[blks[i]]:=by rw[take_add_one,hx];rfl
  generalize blks[i]=x at *;refine r_getN 1 H2 rfl hx (λ_=>rfl) ?_;refine r_new H2 λb w3 S3 H3=>?_;rw[bl_zero] at H3;refine r_stA 0 H3 (vs:=Fbl x) rfl (Nat.le_refl 2) rfl rfl λw4 S4 H4=>?_;replace H4:Holds w4 (blk b tBl (Fbl x)::SL uv tU4 sv (bks.map λz=>crcOf z.1)::RW Fbl 2 tBl v blks::L):=H4;refine r_dr H4 λw5 S5 H5=>?_;rw[magT];have hm48:magB.length=48:=magW_len;refine r_catL (by simp only[length_append,txt_len,h32,hm48];omega) ?_;refine r_fo0 (r_ld 0 H5 rfl rfl ?_);refine r_ldA 0 H5 (Fbl x) rfl rfl rfl ?_;refine Sum19_spec H5 (by omega) λw6 S6 H6=>?_;refine r_rk (r_ld 0 H6 rfl rfl rfl) ?_;refine WriteD_spec (s:=x.1) (sum:=crcOf x.2) H6 g1 (by omega) (crcOf_lt _) λB w7 hB S7 H7=>?_;have hBl:=hB.len2 g1 (by omega);refine r_catL (by simp only[length_append,txt_len,h32,hm48];omega) ?_;refine r_ldA 0 H7 (Fbl x) rfl rfl rfl ?_;refine Sum19_spec H7 (by omega) λw8 S8 H8=>?_;refine r_app1 H8 1 rfl (crcOf x.2) (λ_=>rfl) (by rw[length_map];omega) λsv' w9 S9 H9=>?_;refine r_add1N (by omega) (r_ke ⟨⟨i+1,bks++[(x.2,B)],by omega,rfl,?_,by rw[length_append,hbl];rfl,?_,λz hz=>?_,?_,S2.trans (S3.trans (S4.trans (S5.trans (S6.trans (S7.trans (S8.trans S9)))))),?_⟩,?_⟩)
  ·have e:blksB (bks++[(x.2,B)])=blksB bks++(magB++B):=by
    unfold blksB;rw[flatMap_append,flatMap_cons,flatMap_nil,append_nil];rfl
   rw[e];simp only[txt_app,append_assoc]
  ·rw[htk,flatMap_append,<-htx];unfold textOf;rw[flatMap_append];simp
  ·rcases mem_append.1 hz with hz|hz
   ·exact hgb z hz
   ·rw[List.mem_singleton.1 hz];exact gb_of g1 g2 (by omega) hB g3
  ·have e:blksB (bks++[(x.2,B)])=blksB bks++(magW++B):=by
    unfold blksB;rw[flatMap_append,flatMap_cons,flatMap_nil,append_nil]
   rw[e,length_append,length_append,magW_len];omega
  ·rw[List.map_append];exact H9.drop
  ·simp only[nv,RowKit.intOf,Int.toNat_natCast];omega
 ·obtain rfl:i=blks.length:=by omega
  refine Tail_spec H2 (λz hz=>?_) (by rw[length_map];omega) ?_
  ·obtain⟨y,hy,rfl⟩:=List.mem_map.1 hz;exact crcOf_lt _
  refine r_catL (by rw[txt_len,txt_len,length_append,length_append,h32,endW_len,bitsOf_len];omega) ?_;rw[<-txt_app]
  have e:headB level++blksB bks++(endW++bitsOf ((bks.map λz=>crcOf z.1).foldl comb 0) 32)=strB level bks:=by
   unfold strB preB sumOf;rw[List.foldl_map];simp only[append_assoc]
  rw[e]
  have hsl:(strB level bks).length<=112+209048*blks.length:=by
   unfold strB preB;rw[length_append,length_append,length_append,h32,endW_len,bitsOf_len];omega
  refine Pack_spec H2 (by omega) λw3 S3 H3=>?_;rw[take_length,hc.txt] at htx;exact k bks _ hgb htx (by omega) (by omega) (S2.trans S3) H3.drop.drop
end P20
namespace Rb
open Go.M01 Go.Mb
variable {w:World}{L:List HProp}{K:Value->World->Prop}{b:Nat}{B:List UInt8}{d at_ n:Nat}
theorem Align_spec (H:Holds w (RdR b B d at_::L)) (k:∀ w',Same w w'->Holds w' (RdR b B d (at_+(8*B.length - at_)%8)::L)->K (.tuple #[]) w'):Cl prog 218 #[.pointer (some ⟨b,0,none⟩)] w K:=by
 refine Tz218 ?_;unfold Vz218;have hf:=(RdR_open H).1;have S:=Same.refl w;have h0:Holds w (RdR b B d (at_+0)::L):=H;refine r_loop0 (λw'=>∃ j,j<=(8*B.length - at_)%8/\Same w w'/\Holds w' (RdR b B d (at_+j)::L)) (λw'=>8*B.length - (match w'.cell? ⟨b,2,none⟩ with|some (.int _ n)=>n.toNat|_=>0)) ⟨0,Nat.zero_le _,S,h0⟩ ?_;clear H S h0;rintro _ w1 ⟨j,hj,S,H⟩;obtain⟨hf1,H⟩:=RdR_open H;have hc1:=H.cell 0 rfl 2;simp only[List.getElem?_cons_succ,List.getElem?_cons_zero] at hc1
 have hr:((at_+j:Nat):Int).tmod 8=(((at_+j)%8:Nat):Int):=by rw[Int.tmod_eq_emod_of_nonneg (by omega)];simp
 refine r_join1 (λx w'=>w1=w'/\x=.bool (decide (¬ (at_+j)%8=0))) ?_ ?_
 rotate_left
 ·refine r_bnST (r_vt ?_);refine r_nc (r_fo0 (r_ld 0 H rfl rfl ?_));refine r_remE hr (by omega) ?_;refine r_neq (r_ke ⟨rfl,congrArg Value.bool ?_⟩);rw[Bool.eq_iff_iff,bne_iff_ne,decide_eq_true_iff];omega
 rintro _ _ _ ⟨rfl,rfl⟩;refine r_ifD (λh=>?_) λh=>?_
 ·have hlt:j < (8*B.length - at_)%8:=by omega
  repeat (first|refine r_nc ?_|refine r_fo0 ?_|refine r_fo ?_|refine r_ke ?_|refine r_lns ?_|refine r_lnl ?_|refine r_eql ?_|refine r_neq ?_|refine r_lss ?_|refine r_leq ?_|refine r_gtr ?_|refine r_geq ?_|refine r_seq0 ?_|refine r_sne0 ?_|refine r_seq ?_|refine r_sne ?_|(with_reducible refine r_notT ?_)|(with_reducible refine r_notF ?_)|refine r_not ?_|(with_reducible refine r_bnST ?_)|(with_reducible refine r_bnSF ?_)|(with_reducible refine r_bnNT ?_)|(with_reducible refine r_bnNF ?_)|(with_reducible refine r_ex20 ?_)|(with_reducible refine r_ex21 ?_)|(with_reducible refine r_ex30 ?_)|(with_reducible refine r_ex31 ?_)|(with_reducible refine r_ex32 ?_)|(with_reducible refine r_vt ?_)|(with_reducible refine r_vf ?_)|refine r_bb ?_|(with_reducible refine r_pkT ?_)|(with_reducible refine r_pkF ?_)|(with_reducible refine r_pkB ?_)|refine r_ex rfl ?_|(refine r_ci64 (by omega) (by omega) ?_)|(refine r_ciu8 (by omega) (by omega) ?_)|(refine r_ciu32 (by omega) (by omega) ?_)|refine r_ci ?_|(refine r_add1N (by omega) ?_)|(refine r_sub1N (by omega) (by omega) ?_)|(refine r_addN (by omega) ?_)|(refine r_add (by omega) (by omega) ?_)|(refine r_ixsN (by omega) ?_)|(refine r_iaaN (by omega) ?_)|(refine r_sub (by omega) (by omega) ?_)|(refine r_mul (by omega) (by omega) ?_)|(refine r_dr H ?_;clear H;intro _ S_ H;replace S:=S.trans S_;clear S_)|refine r_ld 0 H rfl rfl ?_|refine r_ld 1 H rfl rfl ?_|refine r_ld 2 H rfl rfl ?_|refine r_ld 3 H rfl rfl ?_|refine r_ld 4 H rfl rfl ?_|((with_reducible refine r_vtD ?h ?_);(case h=>omega))|((with_reducible refine r_vfD ?h ?_);(case h=>omega))|((with_reducible refine r_vtE ?h ?_);(case h=>omega))|((with_reducible refine r_vfE ?h ?_);(case h=>omega))|((with_reducible refine r_vtN ?h ?_);(case h=>omega))|((with_reducible refine r_vfN ?h ?_);(case h=>omega)))
  refine r_st 0 H rfl (by simp) rfl λw3 S3 H3=>?_;replace H3:Holds w3 (blk b tR [S_ (B.drop d),nv d,nv (at_+j+1)]::L):=H3;have hc3:=H3.cell 0 rfl 2;simp only[List.getElem?_cons_succ,List.getElem?_cons_zero] at hc3
  repeat (first|refine r_nc ?_|refine r_fo0 ?_|refine r_fo ?_|refine r_ke ?_|refine r_lns ?_|refine r_lnl ?_|refine r_eql ?_|refine r_neq ?_|refine r_lss ?_|refine r_leq ?_|refine r_gtr ?_|refine r_geq ?_|refine r_seq0 ?_|refine r_sne0 ?_|refine r_seq ?_|refine r_sne ?_|(with_reducible refine r_notT ?_)|(with_reducible refine r_notF ?_)|refine r_not ?_|(with_reducible refine r_bnST ?_)|(with_reducible refine r_bnSF ?_)|(with_reducible refine r_bnNT ?_)|(with_reducible refine r_bnNF ?_)|(with_reducible refine r_ex20 ?_)|(with_reducible refine r_ex21 ?_)|(with_reducible refine r_ex30 ?_)|(with_reducible refine r_ex31 ?_)|(with_reducible refine r_ex32 ?_)|(with_reducible refine r_vt ?_)|(with_reducible refine r_vf ?_)|refine r_bb ?_|(with_reducible refine r_pkT ?_)|(with_reducible refine r_pkF ?_)|(with_reducible refine r_pkB ?_)|refine r_ex rfl ?_|(refine r_ci64 (by omega) (by omega) ?_)|(refine r_ciu8 (by omega) (by omega) ?_)|(refine r_ciu32 (by omega) (by omega) ?_)|refine r_ci ?_|(refine r_add1N (by omega) ?_)|(refine r_sub1N (by omega) (by omega) ?_)|(refine r_addN (by omega) ?_)|(refine r_add (by omega) (by omega) ?_)|(refine r_ixsN (by omega) ?_)|(refine r_iaaN (by omega) ?_)|(refine r_sub (by omega) (by omega) ?_)|(refine r_mul (by omega) (by omega) ?_)|(refine r_dr H ?_;clear H;intro _ S_ H;replace S:=S.trans S_;clear S_)|refine r_ld 0 H rfl rfl ?_|refine r_ld 1 H rfl rfl ?_|refine r_ld 2 H rfl rfl ?_|refine r_ld 3 H rfl rfl ?_|refine r_ld 4 H rfl rfl ?_|((with_reducible refine r_vtD ?h ?_);(case h=>omega))|((with_reducible refine r_vfD ?h ?_);(case h=>omega))|((with_reducible refine r_vtE ?h ?_);(case h=>omega))|((with_reducible refine r_vfE ?h ?_);(case h=>omega))|((with_reducible refine r_vtN ?h ?_);(case h=>omega))|((with_reducible refine r_vfN ?h ?_);(case h=>omega)))
  refine⟨⟨j+1,by omega,S.trans S3,RdR_close ⟨by omega,by omega,hf.2.2⟩ H3⟩,?_⟩;rw[hc1,hc3];simp only[nv,Int.toNat_natCast];omega
 ·obtain rfl:j=(8*B.length - at_)%8:=by omega
  repeat (first|refine r_nc ?_|refine r_fo0 ?_|refine r_fo ?_|refine r_ke ?_|refine r_lns ?_|refine r_lnl ?_|refine r_eql ?_|refine r_neq ?_|refine r_lss ?_|refine r_leq ?_|refine r_gtr ?_|refine r_geq ?_|refine r_seq0 ?_|refine r_sne0 ?_|refine r_seq ?_|refine r_sne ?_|(with_reducible refine r_notT ?_)|(with_reducible refine r_notF ?_)|refine r_not ?_|(with_reducible refine r_bnST ?_)|(with_reducible refine r_bnSF ?_)|(with_reducible refine r_bnNT ?_)|(with_reducible refine r_bnNF ?_)|(with_reducible refine r_ex20 ?_)|(with_reducible refine r_ex21 ?_)|(with_reducible refine r_ex30 ?_)|(with_reducible refine r_ex31 ?_)|(with_reducible refine r_ex32 ?_)|(with_reducible refine r_vt ?_)|(with_reducible refine r_vf ?_)|refine r_bb ?_|(with_reducible refine r_pkT ?_)|(with_reducible refine r_pkF ?_)|(with_reducible refine r_pkB ?_)|refine r_ex rfl ?_|(refine r_ci64 (by omega) (by omega) ?_)|(refine r_ciu8 (by omega) (by omega) ?_)|(refine r_ciu32 (by omega) (by omega) ?_)|refine r_ci ?_|(refine r_add1N (by omega) ?_)|(refine r_sub1N (by omega) (by omega) ?_)|(refine r_addN (by omega) ?_)|(refine r_add (by omega) (by omega) ?_)|(refine r_ixsN (by omega) ?_)|(refine r_iaaN (by omega) ?_)|(refine r_sub (by omega) (by omega) ?_)|(refine r_mul (by omega) (by omega) ?_)|(refine r_dr H ?_;clear H;intro _ S_ H;replace S:=S.trans S_;clear S_)|refine r_ld 0 H rfl rfl ?_|refine r_ld 1 H rfl rfl ?_|refine r_ld 2 H rfl rfl ?_|refine r_ld 3 H rfl rfl ?_|refine r_ld 4 H rfl rfl ?_|((with_reducible refine r_vtD ?h ?_);(case h=>omega))|((with_reducible refine r_vfD ?h ?_);(case h=>omega))|((with_reducible refine r_vtE ?h ?_);(case h=>omega))|((with_reducible refine r_vfE ?h ?_);(case h=>omega))|((with_reducible refine r_vtN ?h ?_);(case h=>omega))|((with_reducible refine r_vfN ?h ?_);(case h=>omega)))
  exact k _ S (RdR_close hf1 H)
end Rb
namespace U22
open Go.M01 Go.Mb Go.Mp Go.M10 Go.Mc Go.Mz Go.Mk Go.Q20 Go.M02 Go.M03 Go.Q24 Rb
variable {w:World}{L:List HProp}{K:Value->World->Prop}{b r:Nat}{B:List UInt8}{d at_:Nat}{u:US}
abbrev tUs:Nat:=189
def usC (p:Value) (u:US) (e:Nat):List Value:=[nv u.unit,nv u.due,nv u.at_,nv u.level,p,S_ u.last,nv u.frm,uv u.sum,uv u.total,.bool u.ended,nv e]
def RawU (b:Nat) (u:US):HProp:=match u.blk with
 |none=>blk b tUs (usC (.pointer none) u 0)
 |some s=>λh=>∃ q,Sat [blk b tUs (usC (pt q) u 0),B20.BkR q s] h
def UsR (b:Nat) (u:US):HProp:=λh=>u.Ok/\RawU b u h
theorem UsR_open (H:Holds w (UsR b u::L)):u.Ok/\Holds w (RawU b u::L):=Holds.pure H
theorem UsR_close (h:u.Ok) (H:Holds w (RawU b u::L)):Holds w (UsR b u::L):=Holds.imp H λ_ hh=>⟨h,hh⟩
theorem Raw_openN (hr:u.blk=none) (H:Holds w (RawU b u::L)):Holds w (blk b tUs (usC (.pointer none) u 0)::L):=by
 unfold RawU at H;rw[hr] at H;exact H
theorem Raw_closeN (hr:u.blk=none) (H:Holds w (blk b tUs (usC (.pointer none) u 0)::L)):Holds w (RawU b u::L):=by
 unfold RawU;rw[hr];exact H
theorem Raw_openS {s:BS}(hr:u.blk=some s) (H:Holds w (RawU b u::L)):∃ q,Holds w (blk b tUs (usC (pt q) u 0)::B20.BkR q s::L):=by
 unfold RawU at H;rw[hr] at H;obtain⟨q,H⟩:=Holds.ex H;exact⟨q,Holds.unpack H⟩
theorem Raw_closeS {s:BS}{q:Nat}(hr:u.blk=some s) (H:Holds w (blk b tUs (usC (pt q) u 0)::B20.BkR q s::L)):Holds w (RawU b u::L):=by
 unfold RawU;rw[hr];exact Holds.imp (Holds.pack (A:=[blk b tUs (usC (pt q) u 0),B20.BkR q s]) H) λ_ hh=>⟨q,hh⟩
def BadU (b e:Nat):HProp:=λh=>∃ p u,blk b tUs (usC p u e) h
theorem BadU_open {e:Nat}(H:Holds w (BadU b e::L)):∃ p u,Holds w (blk b tUs (usC p u e)::L):=by
 obtain⟨p,H⟩:=Holds.ex H;obtain⟨u,H⟩:=Holds.ex H;exact⟨p,u,H⟩
def AfterU (y:Res (US × Nat)) (b:Nat) (u:US) (r:Nat) (B:List UInt8) (d at_:Nat) (L:List HProp) (wt e:Int) (w:World):Prop:=
 match y with
 |.short=>wt=0/\e=3/\Holds w (UsR b u::RdR r B d at_::L)
 |.bad c=>wt=0/\e=(c:Int)/\∃ q,Holds w (BadU b 0::RdR r B d q::L)
 |.ok (u',k) n=>wt=(k:Int)/\e=0/\Holds w (UsR b u'::RdR r B d (at_+n)::L)
theorem letter_spec (H:Holds w (UsR b u::RdR r B d at_::L)) (hd:u.due=0) (post:∀ e w',Same w w'->AfterU (uletter u (rest B at_)) b u r B d at_ L 0 e w'->K (iv e) w') :
  Cl prog 172 #[pt b,pt r] w K:=by
 refine Tz172 ?_;unfold Vz172;obtain⟨hu,H⟩:=UsR_open H;have hbn:=hu.none_ (by omega);have hok:∀ u' k n,uletter u (rest B at_)=.ok (u',k) n->u'.Ok:=λu' k n h=>(ustep_ok hu (by unfold ustep;rw[if_pos hd];exact h)).1;have H1:=(Raw_openN hbn H).swap;clear H;refine Rb.Get_spec (n:=8) H1 (by omega) (λh w2 S2 H2=>?_) λh w2 S2 H2=>?_
 ·refine r_ex20 (r_ex21 ?_);refine r_neq (r_vtN (by decide) ?_);refine post _ _ S2 ?_;unfold uletter;rw[if_pos h];exact⟨rfl,rfl,UsR_close hu (Raw_closeN hbn H2.swap)⟩
 refine r_ex20 (r_ex21 ?_);refine r_neq (r_vfN rfl ?_);have hv:=valB_take_lt (rest B at_) 8
 have h8:¬ (rest B at_).length < 8:=by omega
 unfold uletter at post hok;rw[if_neg h8] at post;simp only[if_neg h8] at hok;generalize valB ((rest B at_).take 8)=c at *;have ha:=hu.at_;have hbad:Holds w2 (BadU b 0::RdR r B d (at_+8)::L):=Holds.imp H2.swap λ_ hh=>⟨_,u,hh⟩;refine r_nc (r_fo0 (r_ld 1 H2 rfl rfl ?_));refine r_lss (r_ifD (λh3=>?_) λh3=>?_)
 ·have h3':u.at_ < 3:=by omega
  rw[if_pos h3'] at post;simp only[if_pos h3'] at hok;refine r_nc (r_fo0 (r_ld 1 H2 rfl rfl ?_));refine r_ixs (n:=(u.at_:Int)) (by omega) (by show (u.at_:Int) < ((3:Nat):Int);omega) ?_;rw[Int.toNat_natCast]
  have hl:(((⟨#[66,90,104]⟩:ByteArray).data.toList.getD u.at_ 0).toNat:Int)=((letters.getD u.at_ 0:Nat):Int):=by
   rcases (show u.at_=0\/u.at_=1\/u.at_=2 by omega) with h|h|h <;> rw[h] <;> rfl
  rw[hl]
  have hl2:letters.getD u.at_ 0 < 256:=by
   rcases (show u.at_=0\/u.at_=1\/u.at_=2 by omega) with h|h|h <;> rw[h] <;> decide
  refine r_ciu32 (by omega) (by omega) ?_;refine r_neq (r_ifN (λh4=>?_) λh4=>?_)
  ·rw[if_neg (by omega)] at post;exact post _ _ S2 ⟨rfl,rfl,_,hbad⟩
  ·rw[if_pos (by omega)] at post;simp only[if_pos (show c=letters.getD u.at_ 0 by omega)] at hok;refine r_nc (r_fo0 (r_ld 1 H2 rfl rfl ?_));refine r_add1N (by omega) ?_;refine r_nc (r_fo0 ?_);refine r_st 1 H2 rfl (by simp[usC]) rfl λw3 S3 H3=>?_;exact post _ _ (S2.trans S3) ⟨rfl,rfl,UsR_close (hok _ _ _ rfl) (Raw_closeN hbn H3.swap)⟩
 ·have h3':¬ u.at_ < 3:=by omega
  rw[if_neg h3'] at post;simp only[if_neg h3'] at hok;refine r_join1 (λx w'=>w2=w'/\x=.bool (decide (c < 49\/57 < c))) ?_ ?_
  rotate_left
  ·refine r_lss (r_ifD (λh=>?_) λh=>?_)
   ·exact r_ke ⟨rfl,by rw[decide_eq_true (by omega)]⟩
   ·exact r_gtr (r_ke ⟨rfl,congrArg Value.bool (by rw[Bool.eq_iff_iff,decide_eq_true_iff,decide_eq_true_iff];omega)⟩)
  rintro _ _ _ ⟨rfl,rfl⟩;refine r_ifD (λh=>?_) λh=>?_
  ·rw[if_pos h] at post;exact post _ _ S2 ⟨rfl,rfl,_,hbad⟩
  ·rw[if_neg h] at post;simp only[if_neg h] at hok;refine r_subU32 (s:=c) (t:=48) (by omega) (by omega) ?_;refine r_ci64 (by omega) (by omega) ?_;refine r_nc (r_fo0 ?_);refine r_st 1 H2 rfl (by simp[usC]) rfl λw3 S3 H3=>?_;refine r_nc (r_fo0 ?_);refine r_st 1 H3 rfl (by simp[usC]) rfl λw4 S4 H4=>?_;refine r_nc (r_fo0 ?_);refine r_st 1 H4 rfl (by simp[usC]) rfl λw5 S5 H5=>?_;refine r_nc (r_fo0 ?_);refine r_st 1 H5 rfl (by simp[usC]) rfl λw6 S6 H6=>?_;exact post _ _ ((((S2.trans S3).trans S4).trans S5).trans S6) ⟨rfl,rfl,UsR_close (hok _ _ _ rfl) (Raw_closeN hbn H6.swap)⟩
theorem Combine_spec {a c:Nat}(ha:a < 4294967296) (hc:c < 4294967296) (k:K (uv (comb a c)) w):Cl prog 130 #[uv a,uv c] w K:=by
 refine Tz130 ?_;unfold Vz130;refine r_shlU32 (n:=1) (by omega) ?_;refine r_shrU (n:=31) (by decide) ?_;have h31:a/2^31=a/2147483648:=rfl;rw[h31];refine r_xorU32 (by omega) (by omega) ?_;have hx:(a*2^1%4294967296) ^^^ (a/2147483648) < 2^32:=Nat.xor_lt_two_pow (n:=32) (by omega) (by omega);refine r_xorU32 hx hc ?_;exact k
theorem shl24 {hi:Nat}(h:hi < 2^24):bp .shl (.int .u64 (hi:Int)) (.int .u64 24)=some (.int .u64 ((hi*16777216:Nat):Int)):=by
 have hb:IntKind.u64.bits=64:=rfl;show bp .shl (.int .u64 (hi:Int)) (.int .u64 ((24:Nat):Int))=_;simp only[bp];rw[if_neg (by omega),Int.toNat_natCast,hb,Nat.min_eq_left (by decide)]
 have e:(hi:Int)*2^24=((hi*16777216:Nat):Int):=by
  rw[Int.natCast_mul];rfl
 rw[e]
 have hw:IntKind.u64.wrap ((hi*16777216:Nat):Int)=((hi*16777216:Nat):Int):=by
  show ((hi*16777216:Nat):Int)%18446744073709551616=_;omega
 rw[hw]
theorem or24 {hi lo:Nat}(h:hi < 2^24) (h2:lo < 2^24):bp .or (.int .u64 ((hi*16777216:Nat):Int)) (.int .u64 (lo:Int))=some (.int .u64 ((hi*16777216+lo:Nat):Int)):=by
 have hb:IntKind.u64.bits=64:=rfl;simp only[bp,if_true];rw[hb,BitVec.toNat_or,BitVec.toNat_ofInt,BitVec.toNat_ofInt]
 have e1:(((hi*16777216:Nat):Int)%((2^64:Nat):Int)).toNat=hi*16777216:=by omega
 have e2:((lo:Int)%((2^64:Nat):Int)).toNat=lo:=by omega
 have e3:hi*16777216 ||| lo=hi*16777216+lo:=by
  have:=Nat.two_pow_add_eq_or_of_lt (i:=24) h2 hi;rw[Nat.mul_comm hi,show (16777216:Nat)=2^24 by rfl];exact this.symm
 rw[e1,e2,e3]
 have hw:IntKind.u64.wrap ((hi*16777216+lo:Nat):Int)=((hi*16777216+lo:Nat):Int):=by
  show ((hi*16777216+lo:Nat):Int)%18446744073709551616=_;omega
 rw[hw]
theorem magic_spec (H:Holds w (UsR b u::RdR r B d at_::L)) (hd:u.due=1) (post:∀ e w',Same w w'->AfterU (umagic u (rest B at_)) b u r B d at_ L 0 e w'->K (iv e) w') :
  Cl prog 173 #[pt b,pt r] w K:=by
 refine Tz173 ?_;unfold Vz173;obtain⟨hu,H⟩:=UsR_open H;have hbn:=hu.none_ (by omega);have hok:∀ u' k n,umagic u (rest B at_)=.ok (u',k) n->u'.Ok:=λu' k n h=>(ustep_ok hu (by unfold ustep;rw[if_neg (by omega),if_pos hd];exact h)).1;have H1:=(Raw_openN hbn H).swap;clear H;have hrl:=rest_len B at_;have hr2:=rest_len B (at_+24);refine Rb.Left_spec H1 λw2 S2 H2=>?_;unfold umagic at post hok;refine r_lss (r_ifD (λh=>?_) λh=>?_)
 ·rw[if_pos (by omega)] at post;exact post _ _ S2 ⟨rfl,rfl,UsR_close hu (Raw_closeN hbn H2.swap)⟩
 have h48:¬ (rest B at_).length < 48:=by omega
 rw[if_neg h48] at post;simp only[if_neg h48] at hok;refine Rb.Get_spec (n:=24) H2 (by omega) (λh w3 S3 H3=>by omega) λh w3 S3 H3=>?_;refine r_ex20 (r_ex21 ?_);refine Rb.Get_spec (n:=24) H3 (by omega) (λh w4 S4 H4=>by omega) λh w4 S4 H4=>?_;refine r_ex20 (r_ex21 ?_);have hv1:=valB_take_lt (rest B at_) 24;have hv2:=valB_take_lt (rest B (at_+24)) 24
 have hval:valB ((rest B at_).take 48)=valB ((rest B at_).take 24)*16777216+valB ((rest B (at_+24)).take 24):=by
  have e:(rest B at_).take 48=(rest B at_).take 24++(rest B (at_+24)).take 24:=by
   rw[<-rest_drop,show 48=24+24 by rfl,take_add]
  rw[e,valB_app,length_take,Nat.min_eq_left (by omega)]
 rw[hval] at post;rw[hval] at hok;generalize valB ((rest B at_).take 24)=hi at *;generalize valB ((rest B (at_+24)).take 24)=lo at *;replace S2:=(S2.trans S3).trans S4
 replace H4:Holds w4 (RdR r B d (at_+48)::blk b tUs (usC (.pointer none) u 0)::L):=by rw[show at_+48=at_+24+24 by omega];exact H4
 clear H1 H2 H3 S3 S4;refine r_ciu64 (by omega) (by omega) ?_;refine r_bpK (.int .u64 ((hi*16777216:Nat):Int)) (shl24 hv1) ?_;refine r_ciu64 (by omega) (by omega) ?_;refine r_bpK (.int .u64 ((hi*16777216+lo:Nat):Int)) (or24 hv1 hv2) ?_;refine r_eql (r_ifE (λh1=>?_) λh1=>?_)
 ·have h1':hi*16777216+lo=54156738319193:=by omega
  rw[if_pos h1'] at post;simp only[if_pos h1'] at hok;refine r_dr H4 λw5 S5 H5=>?_;refine r_nc (r_fo0 (r_ld 1 H5 rfl rfl ?_));refine r_nc (r_fo0 (r_ld 1 H5 rfl rfl ?_));have hl1:=hu.lev1 (by omega);have hl9:=hu.lev;have hun:=hu.unit;have hm1:u.level*u.unit<=9*100000:=Nat.mul_le_mul hl9 hun.2;have hm2:1*24<=u.level*u.unit:=Nat.mul_le_mul hl1 hun.1;refine r_mulE ((u.level*u.unit:Nat):Int) (by simp) (by omega) (by omega) ?_;refine B20.NewReader_spec H5 (by omega) (by omega) λq w6 S6 H6=>?_;refine r_ex20 (r_ex21 ?_);refine r_nc (r_fo0 ?_);refine r_st 2 H6 rfl (by simp[usC]) rfl λw7 S7 H7=>?_;refine r_nc (r_fo0 ?_);refine r_st 2 H7 rfl (by simp[usC]) rfl λw8 S8 H8=>?_;replace H8:Holds w8 (B20.BkR q (b0 (u.level*u.unit))::RdR r B d (at_+48)::blk b tUs (usC (pt q) ⟨u.unit,2,u.at_,u.level,some (b0 (u.level*u.unit)),u.last,u.frm,u.sum,u.total,u.ended⟩ 0)::L):=H8;exact post _ _ ((((S2.trans S5).trans S6).trans S7).trans S8) ⟨rfl,rfl,UsR_close (hok _ _ _ rfl) (Raw_closeS (s:=b0 (u.level*u.unit)) rfl (by have h_:=Holds.ord 3 [2,0,1] H8 rfl;exact h_))⟩
 ·have h1':¬ hi*16777216+lo=54156738319193:=by omega
  rw[if_neg h1'] at post;simp only[if_neg h1'] at hok;refine r_eql (r_ifE (λh2=>?_) λh2=>?_)
  ·have h2':hi*16777216+lo=25779555029136:=by omega
   rw[if_pos h2'] at post;simp only[if_pos h2'] at hok;refine r_nc (r_fo0 ?_);refine r_st 1 H4 rfl (by simp[usC]) rfl λw5 S5 H5=>?_;exact post _ _ (S2.trans S5) ⟨rfl,rfl,UsR_close (hok _ _ _ rfl) (Raw_closeN hbn H5.swap)⟩
  ·rw[if_neg (by omega)] at post;exact post _ _ S2 ⟨rfl,rfl,_,Holds.imp H4.swap λ_ hh=>⟨_,u,hh⟩⟩
theorem body_spec {s:BS}(H:Holds w (UsR b u::RdR r B d at_::L)) (hb:u.blk=some s) (post:∀ wt e w',Same w w'->AfterU (ubody u (rest B at_)) b u r B d at_ L wt e w'->K (.tuple #[iv wt,iv e]) w') :
  Cl prog 174 #[pt b,pt r] w K:=by
 refine Tz174 ?_;unfold Vz174;obtain⟨hu,H⟩:=UsR_open H;obtain⟨hd,hbo,hbd,hbr⟩:=hu.blk s hb;have hok:∀ u' k n,ubody u (rest B at_)=.ok (u',k) n->u'.Ok:=λu' k n h=>(ustep_ok hu (by unfold ustep;rw[if_neg (by omega),if_neg (by omega),if_pos hd];exact h)).1
 have e0:ubody u (rest B at_)=uwith u (bstep s (rest B at_)):=by unfold ubody;rw[hb]
 rw[e0] at post hok;obtain⟨q,H0⟩:=Raw_openS hb H;have H1:Holds w (B20.BkR q s::RdR r B d at_::blk b tUs (usC (pt q) u 0)::L):=(by have h_:=Holds.ord 3 [1,2,0] H0 rfl;exact h_);clear H H0;refine r_nc (r_fo0 (r_ld 2 H1 rfl rfl ?_));refine B20.Step_spec H1 hbd λe w2 S2 hA=>?_
 cases hx:bstep s (rest B at_) with
 |short=>
  rw[hx] at hA post;obtain⟨rfl,H2⟩:=hA;refine r_join1 (λx w'=>w2=w'/\x=.bool true) ?_ ?_
  ·rintro _ _ _ ⟨rfl,rfl⟩;refine r_vt ?_;exact post 0 3 _ S2 ⟨rfl,rfl,UsR_close hu (Raw_closeS hb (by have h_:=Holds.ord 3 [2,0,1] H2 rfl;exact h_))⟩
  ·refine r_neq (r_vtN (by decide) ?_);exact r_ke ⟨rfl,rfl⟩
 |bad c=>
  have hcb:=bstep_bad hx;rw[hx] at hA post;obtain⟨rfl,q',H2⟩:=hA;refine r_join1 (λx w'=>w2=w'/\x=.bool true) ?_ ?_
  ·rintro _ _ _ ⟨rfl,rfl⟩;refine r_vt ?_;exact post 0 c _ S2 ⟨rfl,rfl,q',Holds.imp (show Holds w2 (blk b tUs (usC (pt q) u 0)::RdR r B d q'::L) from (by have h_:=Holds.ord 3 [2,1] H2 rfl;exact h_)) λ_ hh=>⟨_,u,hh⟩⟩
  ·refine r_neq (r_vtN (by omega) ?_);exact r_ke ⟨rfl,rfl⟩
 |ok s' n=>
  rw[hx] at hA post hok;obtain⟨rfl,H2⟩:=hA;refine r_join1 (λx w'=>w2=w'/\x=.bool (!s'.done)) ?_ ?_
  rotate_left
  ·refine r_neq (r_vfN rfl ?_);refine r_nc (r_fo0 (r_ld 2 H2 rfl rfl ?_));refine B20.Done_spec H2 ?_;exact r_not (r_ke ⟨rfl,rfl⟩)
  rintro _ _ _ ⟨rfl,rfl⟩;unfold uwith at post hok
  cases hsd:s'.done with
  |false=>
   refine r_vt ?_;simp only[hsd,Bool.false_eq_true,if_false] at post hok;exact post 0 0 _ S2 ⟨rfl,rfl,UsR_close (hok _ _ _ rfl) (Raw_closeS (s:=s') (q:=q) rfl (by have h_:=Holds.ord 3 [2,0,1] H2 rfl;exact h_))⟩
  |true=>
   refine r_vf ?_;simp only[hsd,if_true] at post hok;have hok':=(B20.BkR_open H2).1;refine r_nc (r_fo0 (r_ld 2 H2 rfl rfl ?_));refine B20.Got_done H2 hsd λw3 S3 H3=>?_;refine r_nc (r_fo0 ?_);refine r_stA 2 H3 (vs:=[S_ s'.last,nv s'.frm,uv s'.sum]) rfl (by simp[usC]) rfl rfl λw4 S4 H4=>?_;refine r_nc (r_fo0 ?_);refine r_st 2 H4 rfl (by simp[usC,setL]) rfl λw5 S5 H5=>?_;refine r_dr H5 λw6 S6 H6=>?_;replace H6:Holds w6 (B20.BkR q s'::RdR r B d (at_+n)::blk b tUs [nv u.unit,nv u.due,nv u.at_,nv u.level,.pointer none,S_ s'.last,nv s'.frm,uv s'.sum,uv u.total,.bool u.ended,nv 0]::L):=H6;refine r_nc (r_fo0 (r_ld 2 H6 rfl rfl ?_));refine r_nc (r_fo0 (r_fo (r_ld 2 H6 rfl rfl ?_)));refine Combine_spec hu.total hok'.sum ?_;refine r_nc (r_fo0 ?_);refine r_st 2 H6 rfl (by simp) rfl λw7 S7 H7=>?_;refine r_nc (r_fo0 ?_);refine r_st 2 H7 rfl (by simp) rfl λw8 S8 H8=>?_;replace H8:Holds w8 (B20.BkR q s'::RdR r B d (at_+n)::blk b tUs (usC (.pointer none) ⟨u.unit,1,u.at_,u.level,none,s'.last,s'.frm,s'.sum,comb u.total s'.sum,u.ended⟩ 0)::L):=H8;exact post 1 0 _ ((((((S2.trans S3).trans S4).trans S5).trans S6).trans S7).trans S8) ⟨rfl,rfl,UsR_close (hok _ _ _ rfl) (Raw_closeN rfl (by have h_:=Holds.ord 3 [2,1] H8 rfl;exact h_))⟩
theorem sum_spec (H:Holds w (UsR b u::RdR r B d at_::L)) (hd:u.due=3) (post:∀ wt e w',Same w w'->AfterU (usum u (rest B at_)) b u r B d at_ L wt e w'->K (.tuple #[iv wt,iv e]) w') :
  Cl prog 175 #[pt b,pt r] w K:=by
 refine Tz175 ?_;unfold Vz175;obtain⟨hu,H⟩:=UsR_open H;have hbn:=hu.none_ (by omega);have hok:∀ u' k n,usum u (rest B at_)=.ok (u',k) n->u'.Ok:=λu' k n h=>(ustep_ok hu (by unfold ustep;rw[if_neg (by omega),if_neg (by omega),if_neg (by omega)];exact h)).1;have H1:=(Raw_openN hbn H).swap;clear H;have hrl:=rest_len B at_;unfold usum at post hok;refine Rb.Get_spec (n:=32) H1 (by omega) (λh w2 S2 H2=>?_) λh w2 S2 H2=>?_
 ·refine r_ex20 (r_ex21 ?_);refine r_neq (r_vtN (by decide) ?_);rw[if_pos h] at post;exact post 0 3 _ S2 ⟨rfl,rfl,UsR_close hu (Raw_closeN hbn H2.swap)⟩
 refine r_ex20 (r_ex21 ?_);refine r_neq (r_vfN rfl ?_)
 have h32:¬ (rest B at_).length < 32:=by omega
 rw[if_neg h32] at post;simp only[if_neg h32] at hok;refine r_nc (r_fo0 (r_ld 1 H2 rfl rfl ?_));refine r_neq (r_ifN (λh1=>?_) λh1=>?_)
 ·rw[if_neg (by omega)] at post;exact post 0 21 _ S2 ⟨rfl,rfl,_,Holds.imp H2.swap λ_ hh=>⟨_,u,hh⟩⟩
 ·have h1':valB ((rest B at_).take 32)=u.total:=by omega
  rw[if_pos h1'] at post;simp only[if_pos h1'] at hok;refine Rb.Align_spec H2 λw3 S3 H3=>?_
  have ea:at_+32+(8*B.length - (at_+32))%8=at_+(32+((rest B at_).length - 32)%8):=by rw[hrl];omega
  rw[ea] at H3;refine r_nc (r_fo0 ?_);refine r_st 1 H3 rfl (by simp[usC]) rfl λw4 S4 H4=>?_;refine r_nc (r_fo0 ?_);refine r_st 1 H4 rfl (by simp[usC]) rfl λw5 S5 H5=>?_;exact post 2 0 _ (((S2.trans S3).trans S4).trans S5) ⟨rfl,rfl,UsR_close (hok _ _ _ rfl) (Raw_closeN hbn H5.swap)⟩
theorem step_spec (H:Holds w (UsR b u::RdR r B d at_::L)) (post:∀ wt e w',Same w w'->AfterU (ustep u (rest B at_)) b u r B d at_ L wt e w'->K (.tuple #[iv wt,iv e]) w') :
  Cl prog 128 #[pt b,pt r] w K:=by
 refine Tz128 ?_;unfold Vz128;have hu:=(UsR_open H).1;have hd3:=hu.due;have H0:=(UsR_open H).2
 have hc:∃ p L',Holds w (blk b tUs (usC p u 0)::L'):=by
  cases hb:u.blk with
  |none=>exact⟨_,_,Raw_openN hb H0⟩
  |some s=>
   obtain⟨q,h⟩:=Raw_openS hb H0;exact⟨_,_,h⟩
 obtain⟨p,L',H1⟩:=hc;unfold ustep at post;refine r_nc (r_fo0 (r_ld 0 H1 rfl rfl ?_));refine r_eql (r_ifE (λh=>?_) λh=>?_)
 ·rw[if_pos (by omega)] at post;exact letter_spec H (by omega) λe w' S' hA=>post 0 e w' S' hA
 rw[if_neg (by omega)] at post;refine r_eql (r_ifE (λh1=>?_) λh1=>?_)
 ·rw[if_pos (by omega)] at post;exact magic_spec H (by omega) λe w' S' hA=>post 0 e w' S' hA
 rw[if_neg (by omega)] at post;refine r_eql (r_ifE (λh2=>?_) λh2=>?_)
 ·rw[if_pos (by omega)] at post
  cases hb:u.blk with
  |none=>exact absurd hb (hu.body (by omega))
  |some s=>
   refine body_spec H hb λwt e w' S' hA=>?_;refine r_ex20 (r_ex21 ?_);exact post wt e w' S' hA
 ·rw[if_neg (by omega)] at post;refine sum_spec H (by omega) λwt e w' S' hA=>?_;refine r_ex20 (r_ex21 ?_);exact post wt e w' S' hA
def AfterUS (y:Res (US × Nat)) (b:Nat) (u:US) (r:Nat) (B:List UInt8) (d at_:Nat) (L:List HProp) (wt e:Int) (w:World):Prop:=
 match y with
 |.short=>wt=0/\e=3/\Holds w (UsR b u::RdR r B d at_::L)
 |.bad c=>wt=0/\e=(c:Int)/\∃ q,Holds w (BadU b c::RdR r B d q::L)
 |.ok (u',k) n=>wt=(k:Int)/\e=0/\Holds w (UsR b u'::RdR r B d (at_+n)::L)
theorem Us_cells (H:Holds w (UsR b u::L)):∃ p L',Holds w (blk b tUs (usC p u 0)::L')/\∀ w',Holds w' (blk b tUs (usC p u 0)::L')->Holds w' (UsR b u::L):=by
 obtain⟨hu,H0⟩:=UsR_open H
 cases hb:u.blk with
 |none=>exact⟨_,_,Raw_openN hb H0,λw' H'=>UsR_close hu (Raw_closeN hb H')⟩
 |some s=>
  obtain⟨q,h⟩:=Raw_openS hb H0;exact⟨_,_,h,λw' H'=>UsR_close hu (Raw_closeS hb H')⟩
theorem Step_spec (H:Holds w (UsR b u::RdR r B d at_::L)) (post:∀ wt e w',Same w w'->AfterUS (ustep u (rest B at_)) b u r B d at_ L wt e w'->K (.tuple #[iv wt,iv e]) w') :
  Cl prog 76 #[pt b,pt r] w K:=by
 refine Tz76 ?_;unfold Vz76;have hu:=(UsR_open H).1;obtain⟨p,L',H1,_⟩:=Us_cells H;refine r_join1 (λx w'=>w=w'/\x=.bool false) ?_ ?_
 rotate_left
 ·refine r_bnSF (r_vf ?_);refine r_bnSF ?_;exact r_ke ⟨rfl,rfl⟩
 rintro _ _ _ ⟨rfl,rfl⟩;refine r_vf ?_;refine r_nc (r_fo0 (r_ld 0 H1 rfl rfl ?_));refine r_neq (r_vfN rfl ?_);refine step_spec H λwt e w2 S2 hA=>?_;refine r_ex20 (r_ex21 ?_)
 cases hx:ustep u (rest B at_) with
 |short=>
  rw[hx] at hA post;obtain⟨rfl,rfl,H2⟩:=hA;refine r_neq (r_vfN rfl ?_);exact post _ _ _ S2 ⟨rfl,rfl,H2⟩
 |bad c=>
  have hcb:=ustep_bad hu hx;rw[hx] at hA post;obtain⟨rfl,rfl,q,H2⟩:=hA;refine r_neq (r_vtN (by omega) ?_);obtain⟨p2,u2,H3⟩:=BadU_open H2;refine r_nc (r_fo0 ?_);refine r_st 0 H3 rfl (by simp[usC]) rfl λw4 S4 H4=>?_;exact post _ _ _ (S2.trans S4) ⟨rfl,rfl,q,Holds.imp H4 λ_ hh=>⟨p2,u2,hh⟩⟩
 |ok y n=>
  obtain⟨u',k⟩:=y;rw[hx] at hA post;obtain⟨rfl,rfl,H2⟩:=hA;refine r_neq (r_vtN (by decide) ?_);obtain⟨p2,L2,H3,hback⟩:=Us_cells H2;refine r_nc (r_fo0 ?_);refine r_st 0 H3 rfl (by simp[usC]) rfl λw4 S4 H4=>?_;exact post _ _ _ (S2.trans S4) ⟨rfl,rfl,hback _ H4⟩
theorem MayEnd_spec (H:Holds w (UsR b u::L)) (k:K (.bool u.mayEnd) w):Cl prog 73 #[pt b] w K:=by
 refine Tz73 ?_;unfold Vz73;obtain⟨p,L',H1,_⟩:=Us_cells H;unfold US.mayEnd at k;refine r_bnST (r_vt ?_);refine r_nc (r_fo0 (r_ld 0 H1 rfl rfl ?_))
 cases he:u.ended with
 |false=>
  rw[he] at k;refine r_vf ?_;exact k
 |true=>
  rw[he] at k;refine r_vt ?_;refine r_nc (r_fo0 (r_ld 0 H1 rfl rfl ?_));refine r_eql (r_ifE (λh=>?_) λh=>?_)
  ·refine r_nc (r_fo0 (r_ld 0 H1 rfl rfl ?_));refine r_eql (r_ifE (λh2=>?_) λh2=>?_)
   ·refine r_nc (r_fo0 (r_ld 0 H1 rfl rfl ?_));refine r_eql ?_;rw[decide_eq_true (by omega),decide_eq_true (by omega)] at k;exact k
   ·rw[decide_eq_false (p:=u.at_=0) (by omega),Bool.and_false] at k;exact k
  ·rw[decide_eq_false (p:=u.due=0) (by omega),Bool.and_false,Bool.false_and] at k;exact k
theorem Got_spec (H:Holds w (UsR b u::L)) (k:∀ w',Same w w'->Holds w' (UsR b u::L)->K (.agg (B20.gotV u.last u.frm u.sum).toArray) w'):Cl prog 77 #[pt b] w K:=by
 refine Tz77 ?_;unfold Vz77;refine r_new H λgb w1 S1 H1=>?_;rw[B20.got_zero] at H1;obtain⟨p,L',H2,hback⟩:=Us_cells H1.swap;refine r_bnSF (r_vf ?_);refine r_nc (r_fo0 ?_);refine r_ldA 0 H2 (B20.gotV u.last u.frm u.sum) rfl rfl rfl ?_;refine r_stA 0 H1 (vs:=B20.gotV u.last u.frm u.sum) rfl (Nat.le_refl 3) rfl rfl λw4 S4 H4=>?_;replace H4:Holds w4 (blk gb B20.tGt (B20.gotV u.last u.frm u.sum)::UsR b u::L):=H4;refine r_ldA 0 H4 (B20.gotV u.last u.frm u.sum) rfl rfl rfl ?_;exact k _ (S1.trans S4) H4.drop
theorem Room_spec {n:Int}(kb:n < 24\/100000 < n->K (.tuple #[iv 0,iv 1]) w) (k:∀ v,24<=n->n<=100000->K (.tuple #[v,iv 0]) w):Cl prog 82 #[iv 1,iv n] w K:=by
 refine Tz82 ?_;unfold Vz82;refine r_join1 (λx w'=>w=w'/\x=.bool (decide (n < 24\/100000 < n))) ?_ ?_
 rotate_left
 ·refine r_lss (r_vfD (by omega) ?_);refine r_gtr (r_vfD (by omega) ?_);refine r_lss (r_ifD (λh=>?_) λh=>?_)
  ·exact r_ke ⟨rfl,by rw[decide_eq_true (by omega)]⟩
  ·exact r_gtr (r_ke ⟨rfl,congrArg Value.bool (by rw[Bool.eq_iff_iff,decide_eq_true_iff,decide_eq_true_iff];omega)⟩)
 rintro _ _ _ ⟨rfl,rfl⟩;refine r_ifD (λh=>?_) λh=>?_
 ·exact kb h
 ·refine r_mulE n (by omega) (by omega) (by omega) ?_;refine r_sub (by omega) (by omega) ?_;exact k _ (by omega) (by omega)
theorem New_spec {n:Nat}(H:Holds w L) (h1:24<=n) (h2:n<=100000) (k:∀ b w',Same w w'->Holds w' (UsR b (u0 n)::L)->K (.tuple #[pt b,iv 0]) w'):Cl prog 72 #[nv n] w K:=by
 refine Tz72 ?_;unfold Vz72;refine Room_spec (λh=>by omega) λv _ _=>?_;refine r_ex20 (r_ex21 ?_);refine r_neq (r_vfN rfl ?_);refine r_bd (v:=.agg (usC (.pointer none) (u0 n) 0).toArray) (by kernel_rfl) ?_;refine r_new H λb w1 S1 H1=>?_;exact k b _ S1 (UsR_close (u0_ok ⟨h1,h2⟩) (Raw_closeN rfl H1))
end U22
end Go.Proofs.YtgaiocpkjaaphaaGreatDoor
namespace Go.Vc
theorem r_andU64 {s t:Nat}{K:Value->Prop}(hs:s < 18446744073709551616) (ht:t < 18446744073709551616) (h:K (.int .u64 ((s &&& t:Nat):Int))):Bp .and (.int .u64 (s:Int)) (.int .u64 (t:Int)) K:=by
 refine⟨_,?_,h⟩;have hb:IntKind.u64.bits=64:=rfl;have hx:s &&& t<=s:=Nat.and_le_left;simp only[bp,if_true];rw[hb,BitVec.toNat_and,BitVec.toNat_ofInt,BitVec.toNat_ofInt]
 have e1:((s:Int)%((2^64:Nat):Int)).toNat=s:=by omega
 have e2:((t:Int)%((2^64:Nat):Int)).toNat=t:=by omega
 have hw:IntKind.u64.wrap ((s &&& t:Nat):Int)=((s &&& t:Nat):Int):=by
  show ((s &&& t:Nat):Int)%18446744073709551616=_;omega
 rw[e1,e2,hw]
end Go.Vc
namespace Go.Proofs.YtgaiocpkjaaphaaGreatDoor
open Go Go.Vc Go.Proofs.Tryz
attribute [local irreducible] Vc.Nc Vc.Ld Vc.LdA Vc.St Vc.StA Vc.Fo Vc.Iaa Vc.Ias Vc.Ixs Vc.Ixa Vc.Fd Vc.FdA Vc.Bp Vc.Bb Vc.Bn Vc.Up Vc.Ci Vc.Lns Vc.Lnl Vc.Ex Vc.Sst Vc.Ssl Vc.New Vc.Vif Vc.VJoin Vc.VLoop Vc.KE Vc.Dr Vc.Rk Vc.Cl Vc.Cx Vc.Inv Vc.Be Vc.Cv Vc.Cw Vc.Mf Vc.Sl Vc.Lk Vc.Bd Vc.Bs Vc.Ms Vc.Mm Vc.Mu Vc.Me Vc.Es Vc.Rg Vc.Nx Vc.Ta Vc.Ap Vc.Usd Vc.Ust Vc.Cp Vc.Ln Vc.Bc Vc.Bmin Vc.Bmax Vc.Bdel Vc.Bclr Vc.Pk
namespace W2s
open Go.M01 Go.Mb Go.M02 Go.M03 Go.Qs T12 W14 W20 P20
variable {w:World}{L:List HProp}{K:Value->World->Prop}{b wb n tot:Nat}{bs:List Bool}
abbrev tSt:Nat:=123
abbrev stC (wb tot:Nat) (en:Bool):List Value:=[pt wb,uv tot,.bool en]
theorem New_spec {level:Nat}(H:Holds w L) (h1:1<=level/\level<=9) (k:∀ b wb w',Same w w'->Holds w' (blk b tSt (stC wb 0 false)::W01.WrR wb (headB level) 0::L)->K (.tuple #[pt b,iv 0]) w'):Cl prog 33 #[nv level] w K:=by
 refine Tz33 ?_;unfold Vz33;refine r_join1 (λx w'=>w=w'/\x=.bool false) ?_ ?_
 rotate_left
 ·refine r_lss (r_vfD (by omega) ?_);refine r_gtr (r_ke ⟨rfl,?_⟩);rw[decide_eq_false (by omega)]
 rintro _ _ _ ⟨rfl,rfl⟩;refine r_vf ?_;refine W01.NewWriter_spec H λwb w1 S1 H1=>?_;refine r_bd (v:=.agg (stC wb 0 false).toArray) (by kernel_rfl) ?_;refine r_new H1 λb w2 S2 H2=>?_;replace H2:Holds w2 (W01.WrR wb [] 0::blk b tSt (stC wb 0 false)::L):=H2.swap;refine r_loop1n (λj x w'=>∃ i,j=3 - i/\i<=3/\x=nv i/\Same w w'/\Holds w' (W01.WrR wb ((bitsL [66,90,104]).take (8*i)) 0::blk b tSt (stC wb 0 false)::L)) 3 ⟨0,rfl,by omega,rfl,S1.trans S2,H2⟩ ?_;clear H H1 H2 S1 S2;rintro _ j _ w3 _ ⟨i,rfl,hi,rfl,S3,H3⟩ hgo;refine r_lss (r_ifD (λh=>?_) λh=>?_)
 ·refine r_dr H3 λw4 S4 H4=>?_;refine r_nc (r_fo0 (r_ld 1 H4 rfl rfl ?_));refine q_ix (t:=[66,90,104]) (m:=i) (by simp;omega) ?_;refine r_ciu32 (by omega) (by have:=(([66,90,104]:List UInt8).getD i 0).toNat_lt;omega) ?_
  have h24:((bitsL [66,90,104]).take (8*i)).length=8*i:=by
   have:(bitsL [66,90,104]).length=24:=by decide
   rw[length_take];omega
  refine W01.Put_spec (v:=(([66,90,104]:List UInt8).getD i 0).toNat) (n:=8) H4 (by rw[h24];omega) (by omega) (by omega) (by have:=(([66,90,104]:List UInt8).getD i 0).toNat_lt;omega) λw5 S5 H5=>?_;refine r_add1N (by omega) (r_ke (hgo (3 - (i+1)) _ _ (by omega) ⟨i+1,rfl,by omega,rfl,S3.trans (S4.trans S5),?_⟩))
  have e:(bitsL [66,90,104]).take (8*(i+1))=(bitsL [66,90,104]).take (8*i)++bitsOf (([66,90,104]:List UInt8).getD i 0).toNat 8:=by
   rcases (show i=0\/i=1\/i=2 by omega) with rfl|rfl|rfl <;> decide
  rw[e];exact H5
 ·obtain rfl:i=3:=by omega
  refine r_nc (r_fo0 (r_ld 1 H3 rfl rfl ?_));refine r_add (by omega) (by omega) ?_;refine r_ciu32 (by omega) (by omega) ?_;rw[show (48:Int)+(level:Int)=((48+level:Nat):Int) by omega]
  have h24:((bitsL [66,90,104]).take (8*3)).length=24:=by decide
  refine W01.Put_spec (v:=48+level) (n:=8) H3 (by rw[h24];omega) (by omega) (by omega) (by omega) λw5 S5 H5=>?_;refine k b wb _ (S3.trans S5) ?_
  have e:(bitsL [66,90,104]).take (8*3)++bitsOf (48+level) 8=headB level:=by
   have:(bitsL [66,90,104]).take (8*3)=bitsOf 66 8++(bitsOf 90 8++bitsOf 104 8):=by decide
   rw[this];unfold headB;simp only[append_assoc]
  rw[e] at H5;exact H5.swap
theorem magic_spec {m hi lo:Nat}{en:Bool}(hm:m=hi*16777216+lo) (hh:hi < 16777216) (hlo:lo < 16777216) (H:Holds w (blk b tSt (stC wb tot en)::W01.WrR wb bs n::L)) (hl:bs.length<=8000000000) (hn:n<=bs.length/8)
  (k:∀ w',Same w w'->Holds w' (blk b tSt (stC wb tot en)::W01.WrR wb (bs++bitsOf m 48) n::L)->K (.tuple #[]) w'):Cl prog 81 #[pt b,.int .u64 (m:Int)] w K:=by
 refine Tz81 ?_;unfold Vz81;refine r_nc (r_fo0 (r_ld 0 H rfl rfl ?_));refine r_shrU (n:=24) (by decide) ?_;rw[show m/2^24=hi by omega];refine r_ciu32 (by omega) (by omega) ?_;refine W01.Put_spec (v:=hi) (n:=24) H.swap (by omega) hn (by omega) (by omega) λw1 S1 H1=>?_;refine r_nc (r_fo0 (r_ld 1 H1 rfl rfl ?_));refine r_andU64 (t:=16777215) (by omega) (by omega) ?_;rw[show m &&& 16777215=lo by rw[show 16777215=2^24 - 1 by decide,Nat.and_two_pow_sub_one_eq_mod];omega];refine r_ciu32 (by omega) (by omega) ?_;refine W01.Put_spec (v:=lo) (n:=24) H1 (by rw[length_append,bitsOf_len];omega) (by rw[length_append];omega) (by omega) (by omega) λw2 S2 H2=>?_;refine k _ (S1.trans S2) ?_
 have e:bs++bitsOf hi 24++bitsOf lo 24=bs++bitsOf m 48:=by
  rw[append_assoc]
  congr 1
  refine Q21.bitsOf_val (by rw[length_append,bitsOf_len,bitsOf_len]) ?_;rw[Q21.valB_app,bitsOf_len,Go.M10.valB_bitsOf _ _ (show hi < 2^24 by omega),Go.M10.valB_bitsOf _ _ (show lo < 2^24 by omega)];omega
 rw[e] at H2;exact H2.swap
theorem Turned_spec {s:List UInt8}{origin sum:Nat}(H:Holds w (blk b tSt (stC wb tot false)::W01.WrR wb bs n::L)) (hb:BndOk L) (h0:s≠[]) (hl:s.length<=900000) (ho:origin < s.length) (hs:sum < 4294967296) (ht:tot < 4294967296) (hbl:bs.length<=7000000000) (hn:n<=bs.length/8)
  (k:∀ picks ts w',Cho (W20.rowOf s) ((symsOf s).length+2) picks ts->Same w w'->Holds w' (blk b tSt (stC wb (comb tot sum) false)::W01.WrR wb (bs++(magW++blockBits s origin sum picks ts)) n::L)->K (iv 0) w'):Cl prog 80 #[pt b,S_ s,nv origin,uv sum] w K:=by
 refine Tz80 ?_;unfold Vz80;refine r_join1 (λx w'=>w=w'/\x=.bool false) ?_ ?_
 rotate_left
 ·exact r_bnSF (r_vf (r_nc (r_fo0 (r_ld 0 H rfl rfl (r_ke ⟨rfl,rfl⟩)))))
 rintro _ _ _ ⟨rfl,rfl⟩;refine r_vf ?_;refine r_join1 (λx w'=>w=w'/\x=.bool false) ?_ ?_
 rotate_left
 ·refine q_len (r_gtr (r_vfD (by omega) ?_));refine r_lss (r_vfD (by omega) ?_);refine q_len (r_geq (r_ke ⟨rfl,?_⟩));rw[decide_eq_false (by omega)]
 rintro _ _ _ ⟨rfl,rfl⟩;refine r_vf ?_;refine magic_spec (m:=54156738319193) (hi:=3227993) (lo:=2511705) (by decide) (by decide) (by decide) H (by omega) hn λw1 S1 H1=>?_;refine r_nc (r_fo0 (r_ld 0 H1 rfl rfl ?_));refine U22.Combine_spec ht hs ?_;refine r_nc (r_fo0 ?_);refine r_st 0 H1 rfl (by simp) rfl λw2 S2 H2=>?_;replace H2:Holds w2 (blk b tSt (stC wb (comb tot sum) false)::W01.WrR wb (bs++bitsOf 54156738319193 48) n::L):=H2;refine r_nc (r_fo0 (r_ld 0 H2 rfl rfl ?_));refine W20.Turned_spec (L:=blk b tSt (stC wb (comb tot sum) false)::L) H2.swap hb.up h0 hl ho hs (by rw[length_append,bitsOf_len];omega) (by rw[length_append];omega) λpicks ts w3 hC S3 H3=>?_;refine k picks ts _ hC (S1.trans (S2.trans S3)) ?_;rw[append_assoc] at H3;exact H3.swap
theorem Block_spec {s:List UInt8}{sum:Nat}(H:Holds w (blk b tSt (stC wb tot false)::W01.WrR wb bs n::L)) (hb:BndOk L) (h0:s≠[]) (hl:s.length<=4000) (hs:sum < 4294967296) (ht:tot < 4294967296) (hbl:bs.length<=7000000000) (hn:n<=bs.length/8)
  (k:∀ B w',BodyBits s sum B->Same w w'->Holds w' (blk b tSt (stC wb (comb tot sum) false)::W01.WrR wb (bs++(magW++B)) n::L)->K (iv 0) w'):Cl prog 34 #[pt b,S_ s,uv sum] w K:=by
 refine Tz34 ?_;unfold Vz34;have hll:=M18.lastL_len s;refine r_join1 (λx w'=>w=w'/\x=.bool false) ?_ ?_
 rotate_left
 ·exact r_bnSF (r_vf (r_nc (r_fo0 (r_ld 0 H rfl rfl (r_ke ⟨rfl,rfl⟩)))))
 rintro _ _ _ ⟨rfl,rfl⟩;refine r_vf ?_;refine S17.Of_spec H h0 hl λo w1 ho S1 H1=>?_;refine r_ex30 (r_ex31 (r_ex32 (r_neq (r_vfN rfl ?_))));have hol:=idx_lt_ ho;refine Turned_spec H1 hb (lastL_ne h0) (by omega) (by omega) hs ht hbl hn λpicks ts w2 hC S2 H2=>?_;exact k _ w2 ⟨o,picks,ts,ho,hC,rfl⟩ (S1.trans S2) H2
theorem End_spec (H:Holds w (blk b tSt (stC wb tot false)::W01.WrR wb bs n::L)) (ht:tot < 4294967296) (hbl:bs.length<=7000000000) (hn:n<=bs.length/8)
  (k:∀ w',Same w w'->Holds w' (blk b tSt (stC wb tot true)::W01.WrR wb (padB (bs++(endW++bitsOf tot 32))) n::L)->K (iv 0) w'):Cl prog 35 #[pt b] w K:=by
 refine Tz35 ?_;unfold Vz35;refine r_join1 (λx w'=>w=w'/\x=.bool false) ?_ ?_
 rotate_left
 ·exact r_bnSF (r_vf (r_nc (r_fo0 (r_ld 0 H rfl rfl (r_ke ⟨rfl,rfl⟩)))))
 rintro _ _ _ ⟨rfl,rfl⟩;refine r_vf ?_;refine magic_spec (m:=25779555029136) (hi:=1536581) (lo:=3690640) (by decide) (by decide) (by decide) H (by omega) hn λw1 S1 H1=>?_;refine r_dr H1 λw2 S2 H2=>?_;refine r_nc (r_fo0 (r_ld 0 H2 rfl rfl ?_));refine r_nc (r_fo0 (r_ld 0 H2 rfl rfl ?_));refine W01.Put_spec (v:=tot) (n:=32) H2.swap (by rw[length_append,bitsOf_len];omega) (by rw[length_append];omega) (by omega) (by omega) λw3 S3 H3=>?_;refine r_nc (r_fo0 (r_ld 1 H3 rfl rfl ?_));refine W20.Pad_spec H3 (by simp only[length_append,bitsOf_len];omega) (by simp only[length_append];omega) λw4 S4 H4=>?_;refine r_nc (r_fo0 ?_);refine r_st 1 H4 rfl (by simp) rfl λw5 S5 H5=>?_;replace H5:Holds w5 (W01.WrR wb (padB (bs++bitsOf 25779555029136 48++bitsOf tot 32)) n::blk b tSt (stC wb tot true)::L):=H5;refine k _ (S1.trans (S2.trans (S3.trans (S4.trans S5)))) ?_;rw[append_assoc] at H5;exact H5.swap
theorem Take_spec {en:Bool}(H:Holds w (blk b tSt (stC wb tot en)::W01.WrR wb bs n::L)) (k:∀ w',Same w w'->Holds w' (blk b tSt (stC wb tot en)::W01.WrR wb bs (bs.length/8)::L)->K (S_ ((wholeB bs).drop n)) w'):Cl prog 36 #[pt b] w K:=by
 refine Tz36 ?_;unfold Vz36;refine r_bnSF (r_vf (r_nc (r_fo0 (r_ld 0 H rfl rfl ?_))));refine W01.Take_spec H.swap λw1 S1 H1=>?_;exact k _ S1 H1.swap
end W2s
end Go.Proofs.YtgaiocpkjaaphaaGreatDoor
namespace Go.Vc
open Ev
variable {P:Program}{w:World}{L:List HProp}
theorem shape_blk (H:Holds w L) (j:Nat){b:Nat}{ty:TypeId}{cs:List Value}(hj:L[j]?=some (blk b ty cs)):w.shape? b=some (ty,cs.length):=by
 unfold World.shape?;rw[H.obj j hj];simp
theorem r_cwUp {q d t ty:TypeId}{b:Nat}{cs:List Value}{i:TypeInfo}{K:Value->World->Prop}(hq:P.underlying q=some (.pointer t)) (hd:P.underlying d=some .unsafePointer) (hi:P.info? t=some i) (h2:i.size≠0)
  (H:Holds w L) (j:Nat) (hj:L[j]?=some (blk b ty cs)) (h0:0 < cs.length) (k:K (.pointer (some ⟨b,0,none⟩)) w):Cw P q d (.pointer (some ⟨b,0,none⟩)) w K:=by
 have hsh:=shape_blk H j hj;have hn:cs≠[]:=length_pos_iff.1 h0;refine r_cw ?_ k;simp[convert,run_underlying hq,run_underlying hd,Conv.unsafePointer,Conv.seenAt,viewAt,cellsIn,hsh,run_sz hi,h2,hn]
theorem r_cwDn {q d t ty:TypeId}{b:Nat}{cs:List Value}{i:TypeInfo}{K:Value->World->Prop}(hq:P.underlying q=some .unsafePointer) (hd:P.underlying d=some (.pointer t)) (hi:P.info? t=some i)
  (hl:liesAt P P.depth ty (cs.length/P.cellsOf ty) 0 t 1=true)
  (H:Holds w L) (j:Nat) (hj:L[j]?=some (blk b ty cs)) (k:K (.pointer (some ⟨b,0,none⟩)) w):Cw P q d (.pointer (some ⟨b,0,none⟩)) w K:=by
 have hsh:=shape_blk H j hj;refine r_cw ?_ k;simp[convert,run_underlying hq,run_underlying hd,Conv.unsafePointer,Conv.seenAt,viewAt,hsh,run_sz hi,variablesAt,hl]
end Go.Vc
namespace Go.Proofs.YtgaiocpkjaaphaaGreatDoor
open Go Go.Vc Go.Proofs.Tryz
attribute [local irreducible] Vc.Nc Vc.Ld Vc.LdA Vc.St Vc.StA Vc.Fo Vc.Iaa Vc.Ias Vc.Ixs Vc.Ixa Vc.Fd Vc.FdA Vc.Bp Vc.Bb Vc.Bn Vc.Up Vc.Ci Vc.Lns Vc.Lnl Vc.Ex Vc.Sst Vc.Ssl Vc.New Vc.Vif Vc.VJoin Vc.VLoop Vc.KE Vc.Dr Vc.Rk Vc.Cl Vc.Cx Vc.Inv Vc.Be Vc.Cv Vc.Cw Vc.Mf Vc.Sl Vc.Lk Vc.Bd Vc.Bs Vc.Ms Vc.Mm Vc.Mu Vc.Me Vc.Es Vc.Rg Vc.Nx Vc.Ta Vc.Ap Vc.Usd Vc.Ust Vc.Cp Vc.Ln Vc.Bc Vc.Bmin Vc.Bmax Vc.Bdel Vc.Bclr Vc.Pk
namespace Bd
variable {w:World}{L:List HProp}{K:Value->World->Prop}{b:Nat}{t:List UInt8}
abbrev tBd:Nat:=114
theorem r_noesc {f:Nat}{v:Value}{fn:Func}(h:Ev.extK prog f=some (fn,.noEsc)) (k:K v w):Cx prog f #[v] w K:=
 r_cx (Ev.callExt (P:=prog) (w:=w) (w':=w) (args:=#[v]) (v:=v) h (Ev.find_noEsc (Ev.extK_ok h).2.2) rfl).2 k
theorem noesc:∃ fn,Ev.extK prog 176=some (fn,.noEsc):=⟨f176,by kernel_rfl⟩
def BdR (b:Nat) (t:List UInt8):HProp:=λh=>∃ p v,(p=.pointer none\/p=pt b)/\Sat [blk b tBd [p,v],SL bv tB v t] h
theorem BdR_open (H:Holds w (BdR b t::L)):∃ p v,(p=.pointer none\/p=pt b)/\Holds w (blk b tBd [p,v]::SL bv tB v t::L):=by
 obtain⟨p,H⟩:=Holds.ex H;obtain⟨v,H⟩:=Holds.ex H;obtain⟨hp,H⟩:=Holds.pure H;exact⟨p,v,hp,Holds.unpack H⟩
theorem BdR_close {p v:Value}(hp:p=.pointer none\/p=pt b) (H:Holds w (blk b tBd [p,v]::SL bv tB v t::L)):Holds w (BdR b t::L):=
 Holds.imp (Holds.pack (A:=[blk b tBd [p,v],SL bv tB v t]) H) λ_ hh=>⟨p,v,hp,hh⟩
theorem bd_zero:(zeroP prog tBd).cells.toList=[.pointer none,.slice none 0 0]:=by kernel_rfl
theorem Bd_new (H:Holds w (blk b tBd (zeroP prog tBd).cells.toList::L)):Holds w (BdR b []::L):=by
 rw[bd_zero] at H;exact BdR_close (.inl rfl) (H.nilSL bv tB).swap
theorem copyCheck_spec (H:Holds w (BdR b t::L)) (k:∀ w',Same w w'->Holds w' (BdR b t::L)->K (.tuple #[]) w'):Cl prog 129 #[pt b] w K:=by
 refine Tz129 ?_;unfold Vz129;obtain⟨p,v,hp,H1⟩:=BdR_open H;obtain⟨fn,hfn⟩:=noesc;refine r_nc (r_fo0 (r_ld 0 H1 rfl rfl ?_));rcases hp with rfl|rfl
 ·refine r_bnNT (r_vt ?_);refine r_cwUp (t:=tBd) (i:=t114) (by kernel_rfl) (by kernel_rfl) (by kernel_rfl) (by decide) H1 0 rfl (by simp) ?_;refine r_noesc hfn ?_;refine r_cwDn (t:=tBd) (i:=t114) (by kernel_rfl) (by kernel_rfl) (by kernel_rfl) (by kernel_rfl) H1 0 rfl ?_;refine r_nc (r_fo0 ?_);refine r_st 0 H1 rfl (by simp) rfl λw2 S2 H2=>?_;exact k _ S2 (BdR_close (.inr rfl) H2)
 ·refine r_bnSF (r_vf ?_);refine r_nc (r_fo0 (r_ld 0 H1 rfl rfl ?_));refine r_bnEq (i:=t114) (by kernel_rfl) (r_vf ?_);exact k w (.refl w) (BdR_close (.inr rfl) H1)
theorem WriteString_spec {s:List UInt8}(H:Holds w (BdR b t::L)) (hn:t.length+s.length<=1099511627776) (k:∀ v w',Same w w'->Holds w' (BdR b (t++s)::L)->K v w'):Cl prog 78 #[pt b,.string ⟨s.toArray⟩] w K:=by
 refine Tz78 ?_;unfold Vz78;refine copyCheck_spec H λw1 S1 H1=>?_;obtain⟨p,v,hp,H2⟩:=BdR_open H1;refine r_nc (r_fo0 (r_ld 0 H2 rfl rfl ?_));refine r_apStr (by kernel_rfl) H2 1 rfl hn λv' w3 S3 H3=>?_;refine r_nc (r_fo0 ?_);refine r_st 0 H3 rfl (by simp) (SL_sg H3 1 rfl) λw4 S4 H4=>?_;refine r_lns ?_;exact k _ _ ((S1.trans S3).trans S4) (BdR_close hp H4)
theorem String_spec (H:Holds w (BdR b t::L)) (hn:t.length<=1099511627776) (k:∀ w',Same w w'->Holds w' L->K (.string ⟨t.toArray⟩) w'):Cl prog 75 #[pt b] w K:=by
 refine Tz75 ?_;unfold Vz75;refine r_dr H λw1 S1 H1=>?_;obtain⟨p,v,hp,H2⟩:=BdR_open H1;refine r_nc (r_fo0 (r_ld 0 H2 rfl rfl ?_));have hv:Lnl v λn=>n=nv t.length:=r_lnS 1 H2 rfl rfl;have hld:∀ w',Holds w' (blk b tBd [p,v]::L)->Ld (.pointer (some ⟨b,1,none⟩)) w' λu=>u=v:=λw' H'=>r_ld 0 H' rfl rfl rfl;refine r_strK (e:=tB) (pty:=190) (ity:=3) (by kernel_rfl) (by kernel_rfl) (by kernel_rfl) H2 1 rfl hn λpv w3 S3 H3 hust=>?_;replace H3:Holds w3 (blk b tBd [p,v]::L):=H3;refine r_nc (r_fo0 (r_ld 0 H3 rfl rfl ?_));refine r_rk (r_ld 0 H2 rfl rfl rfl) ?_;refine r_lnS 1 H2 rfl ?_;refine r_rk (r_lnS 1 H2 rfl rfl) ?_;refine hust _ (λw4 S4 H4=>?_) _;exact k _ ((S1.trans S3).trans S4) (show Holds w4 (blk b tBd [p,v]::L) from H4).drop
end Bd
namespace U22
open Go.M01 Go.Mb Go.Mp Go.M10 Go.Mc Go.Mz Go.Mk Go.Q20 Go.M02 Go.M03 Go.M20 Go.Q24 Go.Q25 Rb
variable {w:World}{L:List HProp}{K:Value->World->Prop}{b r:Nat}{B:List UInt8}{d at_:Nat}{u:US}
def outT:TOut->List UInt8
 |.bad _=>[]
 |.got t=>t
def outE:TOut->Nat
 |.bad e=>e
 |.got _=>0
def lastN (w:World) (b:Nat):Nat:=match w.cell? ⟨b,4,none⟩ with
 |some (.pointer (some a))=>B20.cellN w a.block 5
 |_=>0
theorem lastN_of (H:Holds w (UsR b u::L)):lastN w b=bkL u.blk:=by
 have H0:=(UsR_open H).2;unfold lastN
 cases hb:u.blk with
 |none=>
  have H1:=Raw_openN hb H0;rw[H1.cell 0 rfl 4];rfl
 |some s=>
  obtain⟨q,H1⟩:=Raw_openS hb H0;rw[H1.cell 0 rfl 4];exact B20.last_of H1.swap
theorem ustep_prog {u':US}{l:List Bool}{k n:Nat}(hu:u.Ok) (h:ustep u l=.ok (u',k) n):1<=n\/(n=0/\u.due=2/\u'.due=2/\bkL u'.blk=bkL u.blk+1)\/(n=0/\u.due=2/\u'.due=1):=by
 unfold ustep at h;split at h
 ·unfold uletter at h
  repeat' split at h
  all_goals first
   |(cases h;exact .inl (by omega))
   |cases h
 ·split at h
  ·unfold umagic at h
   repeat' split at h
   all_goals first
    |(cases h;exact .inl (by omega))
    |cases h
  ·split at h
   ·rename_i hd2;unfold ubody at h;split at h
    ·cases h
    ·rename_i s hb;obtain⟨_,hbo,hbd,hbr⟩:=hu.blk s hb;unfold uwith at h;split at h
     ·cases h
     ·cases h
     ·rename_i b' n' hs;have hpg:=Q23.bstep_prog hbo hs;split at h
      ·cases h;rcases hpg.2 with⟨h3,h4⟩|⟨h3,h4⟩
       ·exact .inl h3
       ·exact .inr (.inr ⟨h3,hd2,rfl⟩)
      ·cases h;rcases hpg.2 with⟨h3,h4⟩|⟨h3,h4⟩
       ·exact .inl h3
       ·refine .inr (.inl ⟨h3,hd2,hd2,?_⟩);rw[hb];exact h4
   ·unfold usum at h
    repeat' split at h
    all_goals first
     |(cases h;exact .inl (by omega))
     |cases h
def mea (w:World) (b r len:Nat):Nat:=
 (8*len - B20.cellN w r 2)*1000003+(match w.cell? ⟨b,1,none⟩ with|some (.int _ n)=>if n=2 then 1000001 - lastN w b else 0|_=>0)
theorem mea_of (H:Holds w (UsR b u::RdR r B d at_::L)):mea w b r B.length=(8*B.length - at_)*1000003+if u.due=2 then 1000001 - bkL u.blk else 0:=by
 obtain⟨p,L',H1,_⟩:=Us_cells H;unfold mea;rw[B20.at_of H.drop,H1.cell 0 rfl 1,lastN_of H]
 congr 1
 simp only[usC,List.getElem?_cons_succ,List.getElem?_cons_zero];split
 ·rw[if_pos (by omega)]
 ·rw[if_neg (by omega)]
theorem bkL_le2 (hu:u.Ok):bkL u.blk<=900000:=by
 have h1:=bkL_le hu;have h2:=hu.unit;omega
theorem With_spec {s:List UInt8}{unit:Nat}(H:Holds w L) (hs:s.length<=90000) (h1:24<=unit) (h2:unit<=100000)
  (k:∀ o,TComes (u0 unit,[]) (bitsL s) o->∀ w',Same w w'->Holds w' L->K (.tuple #[S_ (outT o),nv (outE o)]) w'):Cl prog 31 #[nv unit,S_ s] w K:=by
 refine Tz31 ?_;unfold Vz31;refine New_spec H h1 h2 λb w1 S1 H1=>?_;refine r_ex20 (r_ex21 ?_);refine r_neq (r_vfN rfl ?_);refine Rb.NewReader_spec H1 (by omega) λr w2 S2 H2=>?_;refine r_new H2 λob w3 S3 H3=>?_;replace H3:=Bd.Bd_new H3;replace S1:=(S1.trans S2).trans S3;clear H H1 H2 S2 S3;replace H3:Holds w3 (UsR b (u0 unit)::RdR r s 0 0::Bd.BdR ob []::L):=(by have h_:=Holds.ord 3 [2,1,0] H3 rfl;exact h_)
 refine r_loop0 (λw'=>∃ (u:US) (t:List UInt8) (q i m:Nat),TRun (u0 unit,[]) (bitsL s) (u,t) q/\Cnt u q i m/\t.length<=229500000*m/\Same w w'/\Holds w' (UsR b u::RdR r s 0 q::Bd.BdR ob t::L))
  (λw'=>mea w' b r s.length) ⟨u0 unit,[],0,0,0,.start,cnt0 unit,Nat.zero_le _,S1,H3⟩ ?_
 clear H3 S1;rintro _ w4 ⟨u,t,q,i,m,hr,hcnt,htl,S,H⟩;have hu:=(UsR_open H).1;have hq:=(RdR_open H.drop).1.2.1;have hm0:=mea_of H;have hrest:(bitsL s).drop q=rest s q:=rfl;have hrl:=rest_len s q
 have hm12:160*m<=q:=by have:=hcnt.bits;omega
 refine r_join1 (λx w'=>Same w w'/\Holds w' (UsR b u::RdR r s 0 q::Bd.BdR ob t::L)/\x=.bool (u.mayEnd&&decide (rest s q=[]))/\mea w' b r s.length=mea w4 b r s.length) ?_ ?_
 rotate_left
 ·refine MayEnd_spec H ?_
  cases hme:u.mayEnd with
  |false=>
   refine r_vf ?_;exact r_ke ⟨S,H,rfl,rfl⟩
  |true=>
   refine r_vt ?_;have H1:Holds w4 (RdR r s 0 q::UsR b u::Bd.BdR ob t::L):=H.swap;refine Rb.Left_spec H1 λw5 S5 H5=>?_;refine r_eql (r_ke ⟨S.trans S5,H5.swap,congrArg Value.bool ?_,?_⟩)
   ·rw[Bool.true_and,Bool.eq_iff_iff,beq_iff_eq,decide_eq_true_iff,<-List.length_eq_zero_iff];omega
   ·rw[mea_of H5.swap,hm0]
 clear S H;rintro _ _ w5 ⟨S,H,rfl,hmea⟩
 cases hend:(u.mayEnd&&decide (rest s q=[])) with
 |true=>
  refine r_vt ?_
  have h3:u.mayEnd=true/\rest s q=[]:=by simpa using hend
  have H1:Holds w5 (Bd.BdR ob t::UsR b u::RdR r s 0 q::L):=(by have h_:=Holds.ord 3 [2,0,1] H rfl;exact h_);refine Bd.String_spec H1 (by omega) λw6 S6 H6=>?_;refine k (.got t) ⟨(u,t),q,hr,.inr (.inl ⟨?_,rfl⟩)⟩ _ (S.trans S6) H6.drop.drop;unfold tstep;rw[if_pos ⟨h3.1,h3.2⟩]
 |false=>
  refine r_vf ?_
  have hts:tstep (u,t) (rest s q)=tnext t (ustep u (rest s q)):=by
   unfold tstep;rw[if_neg];rintro⟨h3,h4⟩;simp only at h3;rw[h3,h4] at hend;simp at hend
  refine Step_spec H λwt e w6 S6 hA=>?_;refine r_ex20 (r_ex21 ?_)
  cases hx:ustep u (rest s q) with
  |short=>
   rw[hx] at hA hts;obtain⟨rfl,rfl,H6⟩:=hA;refine r_eql (r_vtE rfl ?_);exact k (.bad 24) ⟨(u,t),q,hr,.inl ⟨hts,rfl⟩⟩ _ (S.trans S6) H6.drop.drop.drop
  |bad c=>
   have hcb:=ustep_bad hu hx;rw[hx] at hA hts;obtain⟨rfl,rfl,q',H6⟩:=hA;refine r_eql (r_vfE (by omega) ?_);refine r_neq (r_vtN (by omega) ?_);exact k (.bad c) ⟨(u,t),q,hr,.inr (.inr ⟨c,by omega,hts,rfl⟩)⟩ _ (S.trans S6) H6.drop.drop.drop
  |ok y n=>
   obtain⟨u',kk⟩:=y;have hcn:=ustep_cnt hu hcnt hx;have hpg:=ustep_prog hu hx;have hok':=ustep_ok hu hx;rw[hx] at hA hts;obtain⟨rfl,rfl,H6⟩:=hA;have hq6:=(RdR_open H6.drop).1.2.1;have hb':=bkL_le2 hok'.1;have hb0:=bkL_le2 hu;refine r_eql (r_vfE (by decide) ?_);refine r_neq (r_vfN rfl ?_);have hm6:=mea_of H6
   have hfall:∀ {w7:World},Holds w7 (UsR b u'::RdR r s 0 (q+n)::L)->mea w7 b r s.length < mea w4 b r s.length:=by
    intro w7 H7;rw[mea_of H7,hm0];rcases hpg with h3|⟨h3,hd1,hd2,h4⟩|⟨h3,hd1,hd2⟩
    ·have:(8*s.length - (q+n))*1000003+1000003<=(8*s.length - q)*1000003:=by
      have:(8*s.length - (q+n))+1<=8*s.length - q:=by omega
      have:=Nat.mul_le_mul_right 1000003 this;omega
     split <;> omega
    ·subst h3;rw[Nat.add_zero,h4,if_pos hd2,if_pos hd1];omega
    ·subst h3;rw[Nat.add_zero,if_neg (by omega),if_pos hd1];omega
   refine r_eql (r_ifE (λh3=>?_) λh3=>?_)
   ·obtain rfl:kk=1:=by omega
    simp only[if_true] at hcn;simp only[tnext,if_true] at hts;refine Got_spec H6 λw7 S7 H7=>?_;have hlast:=hok'.1.last;refine O20.Open_spec (l:=u'.last) (o:=(u'.frm:Int)) (s:=(u'.sum:Int)) H7 hlast λw8 S8 H8=>?_;refine r_ex20 (r_ex21 ?_);have hoe:=opn_err u'.last u'.frm u'.sum;have hol:=opn_len u'.last u'.frm u'.sum;refine r_neq (r_ifN (λh4=>?_) λh4=>?_)
    ·rw[if_neg h4] at hts
     have hen:(opn u'.last (u'.frm:Int) (u'.sum:Int)).2=(((opn u'.last (u'.frm:Int) (u'.sum:Int)).2.toNat:Nat):Int):=by omega
     rw[hen];exact k (.bad _) ⟨(u,t),q,hr,.inr (.inr ⟨_,by omega,hts,rfl⟩)⟩ _ (((S.trans S6).trans S7).trans S8) H8.drop.drop.drop
    ·rw[if_pos h4] at hts;have hr':=hr.next rfl hts;have H9:Holds w8 (Bd.BdR ob t::UsR b u'::RdR r s 0 (q+n)::L):=(by have h_:=Holds.ord 3 [2,0,1] H8 rfl;exact h_);refine Bd.WriteString_spec H9 (by omega) λv wa Sa Ha=>?_;have Hb:Holds wa (UsR b u'::RdR r s 0 (q+n)::Bd.BdR ob (t++(opn u'.last (u'.frm:Int) (u'.sum:Int)).1)::L):=(by have h_:=Holds.ord 3 [1,2,0] Ha rfl;exact h_);refine r_ke ⟨⟨u',_,q+n,i+1,m+1,hr',hcn,?_,(((S.trans S6).trans S7).trans S8).trans Sa,Hb⟩,?_⟩
     ·rw[length_append];omega
     ·exact hfall (Holds.dropAt Hb 2)
   ·have h3':¬ kk=1:=by omega
    rw[if_neg h3'] at hcn;simp only[tnext,if_neg h3'] at hts;have hr':=hr.next rfl hts;exact r_ke ⟨⟨u',t,q+n,i+1,m,hr',hcn,htl,S.trans S6,H6⟩,hfall (Holds.dropAt H6 2)⟩
end U22
namespace O2b
open T12
set_option maxRecDepth 1000000 in
theorem laid_one {W : World} (h : laidMet prog [("baler/tables.bounds", (Lib.tabData .i64 [200, 600, 1200, 2400] : DataW Unit))] W) : BndOk [whole W] := by
 have ht : Lib.TabIs prog W "baler/tables.bounds" .i64 [200, 600, 1200, 2400] := Lib.tabIs_of_head (g := 1) (t := 301) (e := 3) (n := 4) (by kernel_rfl) (by kernel_rfl) underlying301 underlying3 (by kernel_rfl) (by kernel_rfl) h; unfold Lib.TabIs World.var? at ht; rw [show prog.globalNamed "baler/tables.bounds" = some 1 by kernel_rfl] at ht; simp only [Option.bind_some] at ht; intro w' H'; obtain ⟨g, hg, hgs, _⟩ := H'
 cases ho:W.heap[1]? with
 |none=>rw[ho] at ht;cases ht
 |some o=>
  rw[ho] at ht
  cases o with
  |cells cs e z=>
   simp only[Option.some.injEq] at ht;subst ht;exact⟨e,z,hgs _ _ (hg _ _ ho)⟩
  |_=>cases ht
theorem tab_laidS {W:World}(h:laidMetH prog Rows.unstreamSpoiltRow.laid W):BndOk [whole W]:=laid_one h
abbrev tG:Nat:=34
end O2b
end Go.Proofs.YtgaiocpkjaaphaaGreatDoor
namespace Go.Vc
theorem r_cvM {P:Program}{w:World}{L:List HProp}{t e d:TypeId} [hr:Bytes P t e d] (H:Holds w L) (i:Nat){v:Value}{xs:List UInt8}{K:Value->Prop}(hi:L[i]?=some (SM e v xs)) (h:K (.string ⟨xs.toArray⟩)):Cv P t d v w K:=by
 obtain⟨b,sp,rfl,H1⟩:=SM_open H i hi;refine⟨_,?_,h⟩;rw[run_convert_bytes_string (P:=P) w t d e _ _ _ hr.und hr.el hr.str]
 have hload:(loadCells (⟨b,0,none⟩:Addr) xs.length).run P w=.ok ((xs.map λc=>(c.toNat:Int)).map (Value.int .u8)).toArray w:=by
  have hcells:((xs.map λc=>(c.toNat:Int)).map (Value.int .u8))=xs.map bv:=by rw[List.map_map];rfl
  rw[hcells]
  have:=run_loadCells (P:=P) (w:=w) (a:=⟨b,0,none⟩) (cs:=(xs.map bv).toArray) (λj v hv=>by
   have e1:(⟨b,0,none⟩:Addr).add j=⟨b,j,none⟩:=by
    unfold Addr.add;split
    ·rename_i h;rw[h]
    ·simp
   rw[e1,mk_cell H1 i (set_get hi) j]
   have hv':(xs.map bv)[j]?=some v:=by simpa using hv
   rw[getElem?_append_left (List.getElem?_eq_some_iff.1 hv').1]
   exact hv')
  simpa using this
 rw[run_bytesToString (P:=P) w _ xs.length _ _ hload,foldl_push];simp
end Go.Vc
namespace Go.Proofs.YtgaiocpkjaaphaaGreatDoor
open Go Go.Vc Go.Proofs.Tryz
attribute [local irreducible] Vc.Nc Vc.Ld Vc.LdA Vc.St Vc.StA Vc.Fo Vc.Iaa Vc.Ias Vc.Ixs Vc.Ixa Vc.Fd Vc.FdA Vc.Bp Vc.Bb Vc.Bn Vc.Up Vc.Ci Vc.Lns Vc.Lnl Vc.Ex Vc.Sst Vc.Ssl Vc.New Vc.Vif Vc.VJoin Vc.VLoop Vc.KE Vc.Dr Vc.Rk Vc.Cl Vc.Cx Vc.Inv Vc.Be Vc.Cv Vc.Cw Vc.Mf Vc.Sl Vc.Lk Vc.Bd Vc.Bs Vc.Ms Vc.Mm Vc.Mu Vc.Me Vc.Es Vc.Rg Vc.Nx Vc.Ta Vc.Ap Vc.Usd Vc.Ust Vc.Cp Vc.Ln Vc.Bc Vc.Bmin Vc.Bmax Vc.Bdel Vc.Bclr Vc.Pk
namespace G33
set_option maxRecDepth 1000000 in
theorem pair_open {H:Type}{enc:TypeId × Value->H}{W:World}{base:Nat}{v:Value}{d:DataW H}{ps:List MemPlace}(hval:Value.okWide prog W .any base 51 v)
  (h:DataW.Trod enc prog W 0 (λ_=>true) true 51 v d ps):∃ x y:Int,v=.agg #[iv x,iv y]/\True:=by
 have hu:=underlying51
 obtain⟨cs,rfl,hsz⟩:∃ cs,v=.agg cs/\cs.size=prog.cellsOf 51:=by
  simp only[Value.okWide,hu] at hval;obtain⟨cs,h1,h2,_⟩:=hval;exact⟨cs,h1,h2⟩
 obtain⟨c0,c1,rfl⟩:=Joins.array2 (hsz.trans (by kernel_rfl));obtain⟨fuel,h⟩:=h;replace h:DataW.trod enc prog W 0 (λ_=>true) true fuel 51 [c0,c1]=some (d,ps):=h
 cases fuel with
 |zero=>simp[DataW.trod] at h
 |succ n=>
  unfold DataW.trod at h;rw[hu] at h;have r2:List.range 2=[0,1]:=rfl
  have hce:prog.cellsOf 3=1:=by kernel_rfl
  simp[r2,hce] at h;obtain⟨_,h⟩:=h
  cases h0:DataW.trod enc prog W 0 (λ_=>true) true n 3 [c0] with
  |none=>simp[h0] at h
  |some y0=>
   cases h1:DataW.trod enc prog W 0 (λ_=>true) true n 3 [c1] with
   |none=>simp[h0,h1] at h
   |some y1=>
    obtain⟨z0,g0,_⟩:=DataW.trod_int underlying3 h0;obtain⟨z1,g1,_⟩:=DataW.trod_int underlying3 h1;simp only[List.cons.injEq,and_true] at g0 g1;exact⟨z0,z1,by rw[g0,g1],trivial⟩
end G33
namespace P20
open Go.M01 Go.Mb Go.Me Go.M02 Go.M03 Go.M3d Go.M18 Go.M20 Go.Mh Go.Q20 Go.Q24 Go.Qs T12 W14 W20
variable {w:World}{L:List HProp}{K:Value->World->Prop}
theorem dec_spec {s:List UInt8}{o:TOut}(H:Holds w L) (hs:s.length<=90000) (ho:TComes (atL (u0 100000) 0,[]) (bitsL s) o) (k:∀ w',Same w w'->Holds w' L->K (.tuple #[S_ (U22.outT o),nv (U22.outE o)]) w'):Cl prog 67 #[S_ s] w K:=by
 refine Tz67 ?_;unfold Vz67;refine U22.With_spec (unit:=100000) H hs (by decide) (by decide) λo2 hc w1 S1 H1=>?_;obtain rfl:=hc.det ho;exact r_ex20 (r_ex21 (k _ S1 H1))
theorem c1 (u:US) (h:u.ended=false):TComes (atL u 0,[]) (bitsL []) (.bad 24):=let_short (by decide) (.inr (.inr h))
theorem c2 (u:US):TComes (atL u 0,[]) (bitsL [66,90,120]) (.bad 20):=by
 have r1:TRun (atL u 0,[]) (bitsL [66,90,120]) (atL u 1,[]) (0+8):=Run.start.next rfl (let_next (by decide) (by decide) (by decide));have r2:TRun (atL u 0,[]) (bitsL [66,90,120]) (atL u 2,[]) (0+8+8):=r1.next rfl (let_next (by decide) (by decide) (by decide));exact .after r2 (let_wrong (by decide) (by decide) (by decide))
theorem c3 (u:US) (hu:u.unit=100000):TComes (atL u 0,[]) (bitsL [66,90,104,57,23,114,69,56,80,144,0,0,0,0]) (.got []):=by
 have e:bitsL [66,90,104,57,23,114,69,56,80,144,0,0,0,0]=strB 9 []++(List.replicate 0 false++[]):=by decide +kernel
 obtain⟨u',h1,h2,h3,h4⟩:=str_run (level:=9) (bs:=[]) (pad:=0) (rest:=[]) (u:=u) (t:=[]) (l:=bitsL [66,90,104,57,23,114,69,56,80,144,0,0,0,0]) (k:=0) (by decide) hu (λx hx=>(by cases hx)) .start (by decide) rfl (by rw[drop_zero];exact e);refine .after h3 ?_;rw[h4];exact str_end h2
theorem str_back {level unit:Nat}{bs:List Bk}(h1:1<=level/\level<=9) (u:US) (hu:u.unit=unit) (hg:∀ x∈bs,Gb (level*unit) x) (t:List UInt8):TComes (atL u 0,t) (bitsL (wholeB (padB (strB level bs)))) (.got (t++textOf bs)):=by
 rw[bitsL_whole (padB_len _).1];obtain⟨u',h2,h3,h4,h5⟩:=str_run (level:=level) (bs:=bs) (pad:=(8 - (strB level bs).length%8)%8) (rest:=[]) (u:=u) (t:=t) (l:=padB (strB level bs)) (k:=0) h1 hu hg .start (by omega) rfl (by rw[drop_zero,append_nil];rfl);refine .after h4 ?_;rw[h5];exact str_end h3
theorem none_of (H:Holds w L) (post:∀ w',Same w w'->Holds w' L->K (.bool true) w'):Cl prog 28 #[] w K:=by
 refine Tz28 ?_;unfold Vz28;refine dec_spec (s:=[]) H (by decide) (c1 _ rfl) λw1 S1 H1=>?_;refine r_ex20 (r_ex21 ?_);refine dec_spec (s:=[66,90,120]) H1 (by decide) (c2 _) λw2 S2 H2=>?_;refine r_ex20 (r_ex21 ?_);refine dec_spec (s:=[66,90,104,57,23,114,69,56,80,144,0,0,0,0]) H2 (by decide) (c3 _ rfl) λw3 S3 H3=>?_;refine r_ex20 (r_ex21 ?_);refine With21_spec (level:=1) (unit:=100000) (s:=[97,98]) H3 (by decide) (by decide) (by decide) λbs w4 hg htx hbl hsl S4 H4=>?_;have hpl:=padB_len (strB 1 bs);have hsl2:(strB 1 bs).length<=420200:=hsl;refine dec_spec (s:=wholeB (padB (strB 1 bs))) H4 (by rw[wholeB_len];omega) (str_back (by decide) (u0 100000) rfl hg []) λw5 S5 H5=>?_;rw[nil_append,htx];refine r_ex20 (r_ex21 ?_);refine r_eql (r_vtE rfl ?_);refine r_eql (r_vtE rfl ?_);refine r_eql (r_vtE rfl ?_);refine r_seq0 (r_vtD rfl ?_);refine r_eql (r_vtE rfl ?_);refine r_seqL (xs:=[97,98]) (ys:=[97,98]) ?_;exact post w5 (S1.trans (S2.trans (S3.trans (S4.trans S5)))) H5
theorem Level_spec {n:Int}(k:K (.bool (decide (1<=n/\n<=9))) w):Cl prog 26 #[iv n] w K:=by
 refine Tz26 ?_;unfold Vz26;refine r_geq (r_ifD (λh=>?_) λh=>?_)
 ·refine r_leq ?_;rw[show decide (n<=9)=decide (1<=n/\n<=9) by rw[Bool.eq_iff_iff,decide_eq_true_iff,decide_eq_true_iff];omega];exact k
 ·rw[decide_eq_false (by omega)] at k;exact k
theorem Unit_spec2 {n:Int}(k:K (.bool (decide (24<=n/\n<=100000))) w):Cl prog 27 #[iv n] w K:=by
 refine Tz27 ?_;unfold Vz27;refine r_geq (r_ifD (λh=>?_) λh=>?_)
 ·refine r_leq ?_;rw[show decide (n<=100000)=decide (24<=n/\n<=100000) by rw[Bool.eq_iff_iff,decide_eq_true_iff,decide_eq_true_iff];omega];exact k
 ·rw[decide_eq_false (by omega)] at k;exact k
theorem add1w {a:Nat}:bp .add (.int .u32 (a:Int)) (.int .u32 1)=some (uv ((a+1)%4294967296)):=by
 simp only[bp,if_true];show some (Value.int .u32 (((a:Int)+1)%4294967296))=_
 have e:((a:Int)+1)%4294967296=(((a+1)%4294967296:Nat):Int):=by omega
 rw[e]
def flipB (j:Nat):List Bool:=(bitsOf 0 32).set j true
theorem flip_val:∀ j,j < 32->valB (flipB j)≠0:=by decide +kernel
theorem txt_set {l:List Bool}{j:Nat}(c:UInt8) (b:Bool) (h:chr b=c):(txt l).set j c=txt (l.set j b):=by
 subst h;unfold txt;rw[List.map_set]
theorem UnstreamSpoilt_spec (H:Holds w L) (x y:Int) (s:ByteArray) (bit:Int) (_:True) (_:s.size<=maxLen) (hbw:(Lit.int .u8 bit).wf=true) (hG:BndOk L) (post:∀ w',Same w w'->Holds w' L->K (.bool true) w') :
  Cl prog 6 #[.agg #[iv x,iv y],.string s,.int .u8 bit] w K:=by
 refine Tz6 ?_;unfold Vz6;obtain⟨xs,rfl⟩:∃ xs:List UInt8,s=⟨xs.toArray⟩:=⟨s.data.toList,by simp⟩
 have hbit:0<=bit/\bit < 256:=by
  have h1:(decide (IntKind.u8.min<=bit)&&decide (bit<=IntKind.u8.max))=true:=hbw;rw[Bool.and_eq_true,decide_eq_true_iff,decide_eq_true_iff] at h1;have h2:IntKind.u8.min=0:=rfl;have h3:IntKind.u8.max=255:=rfl;omega
 obtain⟨bt,rfl⟩:∃ bt:Nat,bit=(bt:Int):=⟨bit.toNat,by omega⟩;refine r_new H λqb w1 S1 H1=>?_;replace H1:Holds w1 (blk qb 51 [iv x,iv y]::L):=H1;refine r_join1 (λv w'=>w1=w'/\∃ c:Bool,v=.bool c/\(c=false->xs.length<=20/\xs≠[]/\(1<=x/\x<=9)/\24<=y/\y<=100000)) ?_ ?_
 rotate_left
 ·refine q_len (r_gtr (r_ifD (λh=>r_ke ⟨rfl,true,rfl,λe=>by cases e⟩) λh1=>?_));refine r_seq0 (r_ifD (λh=>r_ke ⟨rfl,true,rfl,λe=>by cases e⟩) λh2=>?_);rw[sz] at h2;refine r_iaa (by decide) (by decide) (r_ld 0 H1 rfl rfl ?_);refine Level_spec (r_not (r_vif (λh=>r_ke ⟨rfl,true,rfl,λe=>by cases e⟩) λh3=>?_))
  have h3':1<=x/\x<=9:=by
   have:=h3;simpa using this
  refine r_iaa (by decide) (by decide) (r_ld 0 H1 rfl rfl ?_);refine Unit_spec2 (r_not (r_ke ⟨rfl,_,rfl,λe=>?_⟩))
  have h4:24<=y/\y<=100000:=by simpa using e
  exact⟨by omega,length_pos_iff.1 (by omega),h3',h4⟩
 rintro _ _ _ ⟨rfl,c,rfl,hc⟩;refine r_vif (λh=>none_of H1 λw2 S2 H2=>post w2 (S1.trans S2) H2.drop) λh=>?_;obtain⟨hx,hx0,hlv,hun⟩:=hc h;clear h hc c;obtain⟨level,rfl⟩:∃ n:Nat,x=(n:Int):=⟨x.toNat,by omega⟩;obtain⟨unit,rfl⟩:∃ n:Nat,y=(n:Int):=⟨y.toNat,by omega⟩
 have h1:1<=level/\level<=9:=by omega
 have hu:24<=unit/\unit<=100000:=by omega
 refine r_iaa (by decide) (by decide) (r_ld 0 H1 rfl rfl ?_);refine r_iaa (by decide) (by decide) (r_ld 0 H1 rfl rfl ?_);refine With21_spec (s:=[]) H1 h1 hu (by decide) λbs w2 hg htx hbl hsl S2 H2=>?_;obtain rfl:bs=[]:=List.eq_nil_of_length_eq_zero (by simpa using hbl);have hstr:strB level []=preB level []++bitsOf 0 32:=rfl
 have hpre:(preB level []).length=80:=by unfold preB;rw[length_append,length_append,headB_len,endW_len];rfl
 have hsl2:(strB level []).length=112:=by rw[hstr,length_append,hpre,bitsOf_len]
 have hpad:padB (strB level [])=strB level []:=by
  unfold padB;rw[hsl2];exact append_nil _
 refine Bits_spec (by rw[wholeB_len,hpad,hsl2];decide) ?_;rw[bitsL_whole (padB_len _).1,hpad];refine r_csb (e:=tB) H2 λv w3 S3 H3=>?_;refine q_len ?_;rw[txt_len,hsl2];refine r_sub (by omega) (by omega) ?_;refine r_ci64 (by omega) (by omega) ?_;refine r_remE (r:=((bt%32:Nat):Int)) (by rw[Int.tmod_eq_emod_of_nonneg (by omega)];omega) (by omega) ?_;refine r_sub (by omega) (by omega) ?_;have hj:bt%32 < 32:=Nat.mod_lt _ (by decide);generalize bt%32=j at *;rw[show ((112:Nat):Int) - 1 - ((j:Nat):Int)=((80+(31 - j):Nat):Int) by omega]
 have hget:(txt (strB level []))[80+(31 - j)]?=some 48:=by
  unfold txt;rw[hstr,List.getElem?_map,List.getElem?_append_right (by omega),hpre,show 80+(31 - j) - 80=31 - j by omega,M01.bitsOf_get _ _ _ (by omega),Nat.zero_testBit];rfl
 refine r_getM 0 H3 rfl hget ?_;refine r_subU8 (s:=97) (t:=48) (by decide) (by decide) ?_;refine r_setM 0 H3 49 rfl (by rw[txt_len,hsl2];omega) λw4 S4 H4=>?_;rw[txt_set 49 true rfl] at H4
 have hset:(strB level []).set (80+(31 - j)) true=preB level []++flipB (31 - j):=by
  rw[hstr,List.set_append_right _ _ (by omega),hpre,show 80+(31 - j) - 80=31 - j by omega];rfl
 rw[hset] at H4;replace H4:Holds w4 (SM tB v (txt (preB level []++flipB (31 - j)))::blk qb 51 [nv level,nv unit]::L):=H4;refine r_dr H4 λw5 S5 H5=>?_;refine r_iaa (by decide) (by decide) (r_ld 1 H5 rfl rfl ?_);refine r_cvM (e:=tB) H5 0 rfl ?_
 have hfl:(flipB (31 - j)).length=32:=by unfold flipB;rw[List.length_set,bitsOf_len]
 have hql:(preB level []++flipB (31 - j)).length=112:=by rw[length_append,hpre,hfl]
 refine Bytes1_spec H5 (by rw[hql];decide) λw6 S6 H6=>?_;refine r_rk (r_ld 1 H6 rfl rfl rfl) ?_;refine U22.With_spec (unit:=unit) H6 (by rw[wholeB_len,hql];decide) hu.1 hu.2 λo ho w7 S7 H7=>?_
 have hbad:=str_wrong (level:=level) (unit:=unit) (bs:=[]) (u:=u0 unit) (t:=[]) (q:=flipB (31 - j)) h1 rfl (λz hz=>by cases hz) (by omega) (by
  rw[take_of_length_le (by omega)]
  exact flip_val _ (by omega))
 rw[bitsL_whole (by rw[hql])] at ho;obtain rfl:=ho.det hbad;refine r_ex20 (r_ex21 ?_);refine r_iaa (by decide) (by decide) (r_ld 1 H7 rfl rfl ?_);refine W2s.New_spec H7 h1 λsb wb w8 S8 H8=>?_;refine r_ex20 (r_ex21 ?_);refine Encode_spec H8 (by omega) λps w9 hp S9 H9=>?_
 have he0:encB ps≠[]:=by
  rcases hp.head with⟨g1,g2⟩|⟨g1,g2,g3⟩
  ·exact absurd g1 hx0
  ·exact g2
 have hback:=hp.back;have hel:=encB_len ps;have hpl:=hp.len;have hpos:=length_pos_iff.2 he0;generalize encB ps=es at *;have hm1:1*24<=level*unit:=Nat.mul_le_mul h1.1 hu.1;have hm2:level*unit<=9*100000:=Nat.mul_le_mul h1.2 hu.2;refine q_len ?_;refine r_iaa (by decide) (by decide) (r_ld 3 H9 rfl rfl ?_);refine r_iaa (by decide) (by decide) (r_ld 3 H9 rfl rfl ?_);refine r_mulE ((level*unit:Nat):Int) (Int.natCast_mul _ _).symm (by omega) (by omega) ?_;have S:=S1.trans (S2.trans (S3.trans (S4.trans (S5.trans (S6.trans (S7.trans (S8.trans S9)))))));refine r_gtr (r_ifD (λh=>?_) λh=>?_)
 ·exact none_of H9 λwa Sa Ha=>post wa (S.trans Sa) Ha.drop.drop.drop.drop
 refine O20.ROf_spec (t:=xs) (by omega) ?_;refine r_bpK (uv ((crcOf xs+1)%4294967296)) add1w ?_;have hcr:=crcOf_lt xs
 have hne:((crcOf xs:Nat):Int)≠(((crcOf xs+1)%4294967296:Nat):Int):=by omega
 have hsl3:(crcOf xs+1)%4294967296 < 4294967296:=Nat.mod_lt _ (by decide);generalize (crcOf xs+1)%4294967296=sum at *;have h32:=headB_len level;refine W2s.Block_spec (s:=es) (tot:=0) H9 hG.up.up he0 (by omega) hsl3 (by decide) (by omega) (by omega) λB wa hB Sa Ha=>?_;have hBl:=hB.len2 he0 (by omega);refine W2s.End_spec Ha (Go.Qs.comb_lt (by decide) hsl3) (by simp only[length_append,h32,magW_len];omega) (by omega) λwc Sc Hc=>?_;refine r_dr Hc λwd Sd Hd=>?_;refine r_iaa (by decide) (by decide) (r_ld 3 Hd rfl rfl ?_);refine W2s.Take_spec Hd λwe Se He=>?_;refine r_rk (r_ld 3 He rfl rfl rfl) ?_;rw[drop_zero];obtain⟨o',picks,ts,ho',hC,rfl⟩:=hB;have hol:=idx_lt_ ho';have hll:=lastL_len es;generalize hBB:blockBits (lastL es) o' sum picks ts=B at *
 have hlt:(headB level++(magW++B)++(endW++bitsOf (comb 0 sum) 32)).length<=300000:=by
  simp only[length_append,h32,magW_len,endW_len,bitsOf_len];omega
 generalize htot:comb 0 sum=tot at *;have hpl2:=padB_len (headB level++(magW++B)++(endW++bitsOf tot 32));refine U22.With_spec (unit:=unit) He (by rw[wholeB_len];omega) hu.1 hu.2 λo2 ho2 wf Sf Hf=>?_;rw[bitsL_whole hpl2.1] at ho2;obtain⟨held,hcm⟩:=Y20.block_says (origin:=o') (room:=level*unit) (lastL_ne he0) (by omega) (by omega) (by omega) hsl3 hC (endW++bitsOf tot 32++List.replicate ((8 - (headB level++(magW++B)++(endW++bitsOf tot 32)).length%8)%8) false);rw[hBB] at hcm
 have hop:opn (lastL es) ((o':Nat):Int) ((sum:Nat):Int)=([],21):=by
  unfold opn;rw[if_neg (by omega),if_neg (by omega),Int.toNat_natCast,text_back es o' hol ho',hback];unfold opnR;simp only;rw[if_neg hne]
 have hbad2:=blk_wrong (level:=level) (unit:=unit) (u:=u0 unit) (t:=[]) h1 rfl hcm hop
 have e:padB (headB level++(magW++B)++(endW++bitsOf tot 32))=headB level++(magW++(B++(endW++bitsOf tot 32++List.replicate ((8 - (headB level++(magW++B)++(endW++bitsOf tot 32)).length%8)%8) false))):=by
  unfold padB;simp only[append_assoc]
 rw[e] at ho2;obtain rfl:=ho2.det hbad2;refine r_ex20 (r_ex21 ?_);refine r_eql (r_vtE rfl ?_);refine r_eql (r_vtE rfl ?_);refine r_eql (r_vtE rfl ?_);refine r_eql (r_vtE rfl ?_);refine r_eql (r_vtE rfl ?_);exact none_of Hf λwg Sg Hg=>post wg (S.trans (Sa.trans (Sc.trans (Sd.trans (Se.trans (Sf.trans Sg)))))) Hg.drop.drop.drop.drop
end P20
end Go.Proofs.YtgaiocpkjaaphaaGreatDoor
