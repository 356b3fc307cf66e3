/- Several texts in one: Q21, Q22, P18, Mr, Mt, Mu, My, Mz2, So, P20, Y2e, W16, W6b, W6c, W13, W08, W8c, W12, W8g, Rw, W2f, L18. -/
import Derived.Test.YtgaiocpkjaaphaaGreatDoorMG1
import Derived.Test.YtgaiocpkjaaphaaGreatDoorMG0
import Derived.Test.YtgaiocpkjaaphaaGreatDoorFm
import Derived.DataShut
set_option linter.unusedVariables false
set_option linter.unusedSimpArgs false
open List (append_assoc append_nil cons_append count_append count_le_length drop_drop drop_of_length_le drop_zero eraseIdx_cons_succ eraseIdx_set_eq ext_getElem? filter_append filter_cons getD_eq_getElem?_getD getElem?_append_left getElem?_append_right getElem?_cons_succ getElem?_drop getElem?_eq_getElem getElem?_eq_none getElem?_map getElem?_range getElem?_replicate getElem?_set getElem?_set_ne getElem?_take_of_lt getElem_mem length_append length_cons length_drop length_map length_nil length_pos_iff length_range length_replicate length_reverse length_set length_take map_append map_cons map_map mem_append mem_cons mem_cons_of_mem mem_cons_self mem_range nil_append nodup_range pairwise_cons pairwise_iff_getElem range_succ reverse_cons set_cons_succ set_cons_zero set_getElem_self set_set take_add_one take_length take_of_length_le take_zero)
namespace Go.Q21
open Go.M01 Go.Mb Go.Mp Go.M10 Go.Mc Go.Mz Go.Mk Go.Q20
theorem foldl_val (l:List Bool):∀ a:Nat,l.foldl (λa b=>2*a+b.toNat) a=a*2^l.length+valB l:=by
 induction l with
 |nil=>intro a;simp[valB]
 |cons b l ih=>
  intro a;have h1:=ih (2*a+b.toNat);have h2:=ih (2*0+b.toNat);unfold valB;rw[List.foldl_cons,List.foldl_cons,h1,h2,length_cons,Nat.pow_succ,Nat.add_mul,Nat.add_mul,Nat.mul_comm 2 a,Nat.mul_assoc,Nat.mul_comm 2 (2^l.length)];omega
theorem valB_app (a b:List Bool):valB (a++b)=valB a*2^b.length+valB b:=by
 have:=foldl_val b (valB a);unfold valB at this ⊢;rw[List.foldl_append];exact this
theorem valB_cons (b:Bool) (l:List Bool):valB (b::l)=b.toNat*2^l.length+valB l:=by
 have:=valB_app [b] l
 rwa [valB_one] at this
theorem valB_18 {l:List Bool}(h:18<=l.length):valB (l.take 18)/32768=valB (l.take 3)/\valB (l.take 18)%32768=valB ((l.drop 3).take 15):=by
 have e:l.take 18=l.take 3++(l.drop 3).take 15:=by rw[<-List.take_add]
 have hl:((l.drop 3).take 15).length=15:=by simp;omega
 have hv:=valB_lt ((l.drop 3).take 15);rw[hl] at hv;rw[e,valB_app,hl];omega
theorem bitsOf_succ (v j:Nat):bitsOf v (j+1)=v.testBit j::bitsOf v j:=by
 apply ext_getElem?;intro i
 cases i with
 |zero=>rw[Mb.bitsOf_get _ _ _ (by omega)];simp
 |succ i=>
  rw[getElem?_cons_succ];rcases Nat.lt_or_ge i j with h|h
  ·rw[Mb.bitsOf_get _ _ _ (by omega),Mb.bitsOf_get _ _ _ h]
   congr 2;omega
  ·rw[getElem?_eq_none (by rw[bitsOf_len];omega),getElem?_eq_none (by rw[bitsOf_len];omega)]
theorem bitsOf_val {l:List Bool}{v n:Nat}(hl:l.length=n) (hv:valB l=v):l=bitsOf v n:=by
 subst hl hv;exact valB_inj (n:=l.length) rfl (bitsOf_len _ _) (valB_bitsOf _ _ (valB_lt l)).symm
def inc:List Bool->List Bool × Bool
 |[]=>([],true)
 |b::s=>((b != (inc s).2)::(inc s).1,(inc s).2&&b)
theorem inc_len:∀ s:List Bool,(inc s).1.length=s.length
 |[]=>rfl
 |b::s=>by simp[inc,inc_len s]
theorem inc_val:∀ s:List Bool,valB (inc s).1+(inc s).2.toNat*2^s.length=valB s+1
 |[]=>rfl
 |b::s=>by
  have ih:=inc_val s;have hl:=inc_len s;simp only[inc,valB_cons,length_cons,hl];rw[Nat.pow_succ];generalize 2^s.length=p at *;generalize (inc s).2=c at *;generalize valB (inc s).1=x at *
  cases b <;> cases c <;> simp at*<;> omega
theorem inc_bits {s:List Bool}{v:Nat}(h:s=bitsOf v s.length) (hv:v+1 < 2^s.length):(inc s).1=bitsOf (v+1) s.length:=by
 have h1:=inc_val s;have h2:=inc_len s
 have e:valB s=v:=by
  have:=congrArg valB h;rw[valB_bitsOf _ _ (by omega)] at this;exact this
 have hlt:=valB_lt (inc s).1;rw[h2] at hlt;refine bitsOf_val h2 ?_
 cases hc:(inc s).2 with
 |false=>rw[hc] at h1;simp at h1;omega
 |true=>rw[hc] at h1;simp at h1;omega
theorem bits_pad (v n:Nat):∀ k,bitsOf v n++List.replicate k false=bitsOf (v*2^k) (n+k):=by
 intro k;apply ext_getElem?;intro i;rcases Nat.lt_or_ge i n with h|h
 ·rw[getElem?_append_left (by rw[bitsOf_len];exact h),Mb.bitsOf_get _ _ _ h,Mb.bitsOf_get _ _ _ (by omega)]
  congr 1
  rw[Nat.mul_comm v,Nat.testBit_two_pow_mul];rw[decide_eq_true (by omega),Bool.true_and]
  congr 1;omega
 ·rw[getElem?_append_right (by rw[bitsOf_len];exact h),bitsOf_len];rcases Nat.lt_or_ge i (n+k) with h2|h2
  ·rw[getElem?_replicate,if_pos (by omega),Mb.bitsOf_get _ _ _ h2];rw[Nat.mul_comm v,Nat.testBit_two_pow_mul,decide_eq_false (by omega),Bool.false_and]
  ·rw[getElem?_replicate,if_neg (by omega),getElem?_eq_none (by rw[bitsOf_len];omega)]
def LastC (code:List Bool) (n next:Nat):Prop:=(code=[]/\next=0)\/∃ v m,1<=m/\m<=n/\code=bitsOf v m/\(v+1)*2^(n - m)=next
theorem LastC.up {code:List Bool}{n next:Nat}(h:LastC code n next):LastC code (n+1) (2*next):=by
 rcases h with⟨h1,h2⟩|⟨v,m,h1,h2,h3,h4⟩
 ·exact .inl ⟨h1,by omega⟩
 ·refine .inr ⟨v,m,h1,by omega,h3,?_⟩;rw[show n+1 - m=(n - m)+1 by omega,Nat.pow_succ,<-Nat.mul_assoc,h4];omega
def nextB (code:List Bool) (n:Nat):List Bool:=if code=[] then List.replicate n false else (inc code).1++List.replicate (n - code.length) false
theorem LastC.next {code:List Bool}{n next:Nat}(h:LastC code n next) (hn:1<=n) (hlt:next < 2^n):nextB code n=bitsOf next n/\LastC (nextB code n) n (next+1):=by
 have key:nextB code n=bitsOf next n:=by
  unfold nextB;rcases h with⟨rfl,rfl⟩|⟨v,m,h1,h2,h3,h4⟩
  ·rw[if_pos rfl];have:=bits_pad 0 0 n;simpa [bitsOf] using this
  ·have hl:code.length=m:=by rw[h3,bitsOf_len]
   rw[if_neg (by rintro rfl;simp at hl;omega)]
   have hv:v+1 < 2^m:=by
    have hp:2^n=2^m*2^(n - m):=by rw[<-Nat.pow_add];congr 1;omega
    rw[<-h4,hp] at hlt;exact Nat.lt_of_mul_lt_mul_right hlt
   have e:=inc_bits (s:=code) (v:=v) (by rw[hl];exact h3) (by rw[hl];exact hv);rw[e,hl,bits_pad,h4]
   congr 1;omega
 refine⟨key,.inr ⟨next,n,hn,Nat.le_refl _,key,by simp⟩⟩
theorem code_lt {lens:List Nat}(hw:Whole lens){i:Nat}(hi:i < lens.length):codeN lens i < 2^lens.getD i 0:=by
 have hx:1<=lens.getD i 0/\lens.getD i 0<=20:=by
  rw[getD_eq_getElem?_getD,getElem?_eq_getElem hi];exact hw.sized _ (getElem_mem hi)
 exact Nat.lt_of_lt_of_le (codeN_lt hi hx.1) (nx_le hw _ hx.2)
def begins (lens:List Nat) (l:List Bool) (i:Nat):Bool:=decide (lens.getD i 0<=l.length/\l.take (lens.getD i 0)=codeB lens i)
theorem usedT_range (f:Nat->Bool) (l:List Bool) (b:Nat):∀ j,usedT ((List.range j).filter f) l b=(decide (b/16 < j)&&f (b/16)&&l.getD (16*((List.range (b/16)).filter f).length+b%16) false):=by
 intro j
 induction j with
 |zero=>simp[usedT]
 |succ j ih=>
  rw[range_succ,filter_append]
  by_cases hf:f j=true
  ·rw[filter_cons,if_pos hf,List.filter_nil,usedT_snoc,ih];rcases Nat.lt_trichotomy (b/16) j with h|h|h
   ·rw[decide_eq_true h,decide_eq_true (show b/16 < j+1 by omega),decide_eq_false (show ¬ b/16=j by omega)];simp
   ·rw[decide_eq_false (show ¬ b/16 < j by omega),decide_eq_true (show b/16 < j+1 by omega),decide_eq_true h,h,hf];simp[getD_eq_getElem?_getD,getElem?_drop]
   ·rw[decide_eq_false (show ¬ b/16 < j by omega),decide_eq_false (show ¬ b/16 < j+1 by omega),decide_eq_false (show ¬ b/16=j by omega)];simp
  ·rw[filter_cons,if_neg hf,List.filter_nil,append_nil,ih];rcases Nat.lt_trichotomy (b/16) j with h|h|h
   ·rw[decide_eq_true h,decide_eq_true (show b/16 < j+1 by omega)]
   ·rw[h,show f j=false by simpa using hf];simp
   ·rw[decide_eq_false (show ¬ b/16 < j by omega),decide_eq_false (show ¬ b/16 < j+1 by omega)]
def cnt (q:List Bool) (i:Nat):Nat:=((List.range i).filter λi=>q.getD i false).length
theorem cnt_succ (q:List Bool) (i:Nat):cnt q (i+1)=cnt q i+(q.getD i false).toNat:=by
 unfold cnt;rw[range_succ,filter_append,length_append]
 congr 1
 rw[filter_cons]
 cases q.getD i false <;> rfl
theorem cnt_le (q:List Bool):∀ i,i<=16->cnt q i<=(marksL q).length:=by
 have mono:∀ i k,cnt q i<=cnt q (i+k):=by
  intro i k
  induction k with
  |zero=>exact Nat.le_refl _
  |succ k ih=>rw[<-Nat.add_assoc,cnt_succ];omega
 intro i hi;have:=mono i (16 - i)
 rwa [show i+(16 - i)=16 by omega] at this
def usedOf (l:List Bool):Nat->Bool:=usedT (marksL (l.take 16)) (l.drop 16)
theorem used_at {l:List Bool}{i k:Nat}(hi:i < 16) (hk:k < 16) (hl:16<=l.length):usedOf l (16*i+k)=(l.getD i false&&l.getD (16+16*cnt (l.take 16) i+k) false):=by
 unfold usedOf marksL;rw[usedT_range,show (16*i+k)/16=i by omega,show (16*i+k)%16=k by omega,decide_eq_true hi,Bool.true_and]
 congr 1
 ·simp[getD_eq_getElem?_getD,List.getElem?_take,hi]
 ·simp[getD_eq_getElem?_getD,getElem?_drop,cnt,Nat.add_assoc]
def below (T:Nat->Bool) (b:Nat):List UInt8:=((List.range b).filter T).map UInt8.ofNat
theorem below_succ (T:Nat->Bool) (b:Nat):below T (b+1)=below T b++if T b=true then [UInt8.ofNat b] else []:=by
 unfold below;rw[range_succ,filter_append,map_append]
 congr 1
 rw[filter_cons]
 split <;> rfl
theorem below_len (T:Nat->Bool) (b:Nat):(below T b).length<=b:=by
 unfold below;rw[length_map];exact Nat.le_trans (List.length_filter_le _ _) (by simp)
theorem mem_listed {T:Nat->Bool}{b:Nat}(hb:b < 256):UInt8.ofNat b∈listed T↔T b=true:=by
 unfold listed;rw[List.mem_map]
 constructor
 ·rintro⟨x,hx,he⟩;rw[List.mem_filter,mem_range] at hx
  have:x=b:=by
   have:=congrArg UInt8.toNat he
   rwa [UInt8.toNat_ofNat_of_lt' (by simpa using hx.1),UInt8.toNat_ofNat_of_lt' (by simpa using hb)] at this
  subst this;exact hx.2
 ·intro h;exact⟨b,by rw[List.mem_filter,mem_range];exact⟨hb,h⟩,rfl⟩
theorem listed_listed (T:Nat->Bool):listed (λb=>decide (UInt8.ofNat b∈listed T))=listed T:=by
 generalize hS:(λb=>decide (UInt8.ofNat b∈listed T))=S;unfold listed
 congr 1
 apply List.filter_congr;intro b hb;rw[mem_range] at hb;have:=mem_listed (T:=T) hb;rw[<-hS];simp only
 cases hT:T b with
 |true=>rw[decide_eq_true (this.2 hT)]
 |false=>rw[decide_eq_false (λh=>by rw[this.1 h] at hT;cases hT)]
def valR (row:List Nat):Nat × Nat:=row.foldl (λx c=>(x.1+x.2*2^c,2*x.2)) (0,1)
theorem valR_snoc (row:List Nat) (c:Nat):valR (row++[c])=((valR row).1+(valR row).2*2^c,2*(valR row).2):=by simp[valR]
theorem snocRec {motive:List Nat->Prop}(l:List Nat) (nil:motive []) (snoc:∀ t c,motive t->motive (t++[c])):motive l:=by
 have:∀ n (l:List Nat),l.length=n->motive l:=by
  intro n
  induction n with
  |zero=>intro l h;rw[List.length_eq_zero_iff.1 h];exact nil
  |succ n ih=>
   intro l h
   have hne:l≠[]:=by rintro rfl;simp at h
   rw[<-List.dropLast_concat_getLast hne];exact snoc _ _ (ih _ (by simp[h]))
 exact this _ l rfl
theorem valR_mono (row:List Nat) (t:List Nat):(valR row).1<=(valR (row++t)).1/\(valR row).2<=(valR (row++t)).2:=by
 refine snocRec (motive:=λt=>(valR row).1<=(valR (row++t)).1/\(valR row).2<=(valR (row++t)).2) t ?_ λt c ih=>?_
 ·simp
 ·rw[<-append_assoc,valR_snoc]
  constructor
  ·exact Nat.le_trans ih.1 (Nat.le_add_right _ _)
  ·simp only;omega
structure ZRow (z:ZS) (row:List Nat):Prop where
 zeros:z.zeros=(valR row).1
 weight:z.weight=(valR row).2
 two:∀ c∈row,c<=1
abbrev DRun (size:Nat) (l:List Bool) (d:DS) (k:Nat):Prop:=Run dstep DS.done (d0 size) l d k
abbrev PRun (l:List Bool) (p:PS) (k:Nat):Prop:=Run pstep PS.done p0 l p k
theorem DRun.ok {size:Nat}{l:List Bool}{d:DS}{k:Nat}(h:DRun size l d k):d.Ok/\d.size=size:=by
 obtain⟨i,h⟩:=h
 induction h with
 |start=>exact⟨d0_ok size,rfl⟩
 |next h hd hs ih=>
  refine⟨dstep_ok hs ih.1 hd,?_⟩;rw[<-ih.2];unfold dstep turn at hs
  repeat' split at hs
  all_goals first
   |(cases hs;rfl)
   |cases hs
theorem PRun.ok {l:List Bool}{p:PS}{k:Nat}(h:PRun l p k):p.Ok:=by
 obtain⟨i,h⟩:=h
 induction h with
 |start=>exact p0_ok
 |next h hd hs ih=>exact pstep_ok hs ih hd
theorem CRun.ok {size:Nat}{l:List Bool}{c:CS}{L:List Nat}{k:Nat}(h1:3<=size) (h2:size<=258) (h:CRun size l c L k):c.Ok/\c.size=size/\(∀ x∈L,x < size):=by
 obtain⟨i,h⟩:=h
 have:∀ {i:Nat} {x:CS × List Nat} {k:Nat},RunN cstepL cdone (c0 size,[]) l i x k->x.1.Ok/\x.1.size=size/\(∀ y∈x.2,y < size):=by
  intro i x k h
  induction h with
  |start=>exact⟨c0_ok h1 h2,rfl,λy hy=>by cases hy⟩
  |next h hd hs ih=>
   rename_i j x x' k n;obtain⟨c,L⟩:=x;unfold cstepL at hs;simp only at hs ih
   cases hc:cstep c (l.drop k) with
   |short=>rw[hc] at hs;cases hs
   |bad e=>rw[hc] at hs;cases hs
   |ok y n'=>
    obtain⟨c',o⟩:=y;rw[hc] at hs;cases hs;have h3:=cstep_ok hc ih.1;refine⟨h3.1,h3.2.1.trans ih.2.1,?_⟩;intro y hy;simp only at hy;rcases mem_append.1 hy with h4|h4
    ·exact ih.2.2 y h4
    ·cases o with
     |none=>cases h4
     |some s=>
      simp at h4;subst h4;have:=h3.2.2 y rfl;rw[ih.2.1] at this;exact this
 exact this h
theorem picks_lift {size:Nat}{l:List Bool}{p:PS}{k:Nat}(h:PRun l p k):CRun size l ⟨size,p,d0 size,[],0,false⟩ [] k:=by
 obtain⟨i,h⟩:=h
 induction h with
 |start=>exact .start
 |next h hd hs ih=>
  refine ih.next rfl ?_;unfold cstepL cstep;simp only[if_pos hd,hs,withPicks,Option.toList_none,append_nil]
def withL (c:CS) (d:DS):CS:=⟨c.size,c.picks,d,c.codes,c.count,c.done⟩
def addC (c:CS) (t:List Nat):CS:=⟨c.size,c.picks,d0 c.size,c.codes++[t],c.count,c.done⟩
theorem lens_step {c:CS}{d:DS}{q:List Bool}(hp:c.picks.done=true) (ht:c.codes.length < c.picks.t):cstep (withL c d) q=withLens (withL c d) (dstep d q):=by
 unfold cstep withL;simp only[hp,ht,if_true,Bool.true_eq_false,if_false]
theorem lens_lift {size:Nat}{l:List Bool}{c:CS}{L:List Nat}{k:Nat}(hp:c.picks.done=true) (ht:c.codes.length < c.picks.t) (hl:c.lens=d0 c.size) (hdn:c.done=false) (hsz:3<=c.size)
  (hr:CRun size l c L k) {d:DS} {k2:Nat} (h:DRun c.size (l.drop k) d k2) :
  if d.done=true then
   if share d.lens=1048576 then CRun size l (addC c d.lens) L (k+k2) else ∃ c' k',CRun size l c' L k'/\c'.done=false/\cstep c' (l.drop k')=.bad 22
  else CRun size l (withL c d) L (k+k2):=by
 obtain⟨i,h⟩:=h
 induction h with
 |start=>
  rw[if_neg (by rw[d0_nd hsz];simp)]
  have:withL c (d0 c.size)=c:=by rw[<-hl];rfl
  rw[this];exact hr
 |next h hd hs ih=>
  rename_i j s s' k2 n;rw[if_neg (by rw[hd];simp)] at ih;rw[drop_drop] at hs;have hst:=lens_step (q:=l.drop (k+k2)) (d:=s) hp ht;rw[hs] at hst;unfold withLens at hst
  by_cases hd':s'.done=true
  ·rw[if_pos hd'];simp only[hd',if_true] at hst
   by_cases hsh:share s'.lens=1048576
   ·rw[if_pos hsh];rw[if_pos hsh] at hst;rw[<-Nat.add_assoc];refine ih.next (step:=cstepL) (done:=cdone) hdn ?_;unfold cstepL;simp only[hst,Option.toList_none,append_nil];rfl
   ·rw[if_neg hsh];rw[if_neg hsh] at hst;exact⟨_,_,ih,hdn,hst⟩
  ·rw[if_neg hd'];simp only[show s'.done=false by simpa using hd',Bool.false_eq_true,if_false] at hst;rw[<-Nat.add_assoc];refine ih.next (step:=cstepL) (done:=cdone) hdn ?_;unfold cstepL;simp only[hst,Option.toList_none,append_nil];rfl
def readC (c:CS) (s:Nat):CS:=⟨c.size,c.picks,c.lens,c.codes,c.count+1,decide (s=c.size - 1)⟩
theorem sym_step {c:CS}{q:List Bool}(hp:c.picks.done=true) (ht:¬ c.codes.length < c.picks.t):cstep c q=if c.picks.picks.length<=c.count/50 then .bad 25 else withSymbol c (getC c.table q):=by
 unfold cstep;rw[if_neg (by rw[hp];simp),if_neg ht]
theorem sym_next {size:Nat}{l:List Bool}{c:CS}{L:List Nat}{k s n:Nat}(hp:c.picks.done=true) (ht:¬ c.codes.length < c.picks.t) (hdn:c.done=false) (hg:¬ c.picks.picks.length<=c.count/50)
  (hr:CRun size l c L k) (hs:getC c.table (l.drop k)=some (s,n)):CRun size l (readC c s) (L++[s]) (k+n):=by
 refine hr.next (step:=cstepL) (done:=cdone) hdn ?_;unfold cstepL;simp only[sym_step hp ht,if_neg hg,hs,withSymbol,Option.toList_some];rfl
def Ends (size:Nat) (l:List Bool) (L:List Nat) (r:Res (Nat × List Nat)):Prop:=
 ∃ c k,CRun size l c L k/\((c.done=true/\r=.ok (c.picks.picks.length+c.size*c.codes.length,L) k)\/(c.done=false/\cstep c (l.drop k)=.short/\r=.short)\/∃ e,c.done=false/\cstep c (l.drop k)=.bad e/\r=.bad e)
theorem cl_short {c:CS}{L:List Nat}{q:List Bool}(h:cstep c q=.short):cstepL (c,L) q=.short:=by unfold cstepL;simp only[h]
theorem cl_bad {c:CS}{L:List Nat}{q:List Bool}{e:Nat}(h:cstep c q=.bad e):cstepL (c,L) q=.bad e:=by unfold cstepL;simp only[h]
theorem ends_stop {l:List Bool}{c:CS}{L:List Nat}{k:Nat}{r:Res (Nat × List Nat)}
  (h:(c.done=true/\r=.ok (c.picks.picks.length+c.size*c.codes.length,L) k)\/(c.done=false/\cstep c (l.drop k)=.short/\r=.short)\/∃ e,c.done=false/\cstep c (l.drop k)=.bad e/\r=.bad e):Stop cstepL cdone l (c,L) k:=by
 rcases h with h|h|⟨e,h⟩
 ·exact stop_done h.1
 ·exact stop_short (cl_short h.2.1)
 ·exact stop_bad (cl_bad h.2.1)
theorem Ends.det {size:Nat}{l:List Bool}{L L2:List Nat}{r r2:Res (Nat × List Nat)}(h:Ends size l L r) (h2:Ends size l L2 r2):L=L2/\r=r2:=by
 obtain⟨c,k,hr,h⟩:=h;obtain⟨c2,k2,hr2,h2⟩:=h2;obtain⟨he,rfl⟩:=hr.stop_eq (ends_stop h) hr2 (ends_stop h2);cases he;refine⟨rfl,?_⟩
 rcases h with⟨h1,rfl⟩|⟨h1,h3,rfl⟩|⟨e,h1,h3,rfl⟩ <;> rcases h2 with⟨h4,rfl⟩|⟨h4,h6,rfl⟩|⟨e2,h4,h6,rfl⟩
 ·rfl
 ·rw[h1] at h4;cases h4
 ·rw[h1] at h4;cases h4
 ·rw[h1] at h4;cases h4
 ·rfl
 ·rw[h3] at h6;cases h6
 ·rw[h1] at h4;cases h4
 ·rw[h3] at h6;cases h6
 ·rw[h3] at h6;cases h6;rfl
end Go.Q21
namespace Go.Q22
open Go.M01 Go.Mb Go.Mp Go.M10 Go.Mc Go.Mz Go.Mk Go.Q20 Go.Q21
structure Row1 (size:Nat) (done:Bool) (L:List Nat):Prop where
 lt:∀ x∈L,x < size
 ne:∀ j,j+1 < L.length->L[j]?≠some (size - 1)
 last:done=false->∀ x∈L,x≠size - 1
 done:done=true->L[L.length - 1]?=some (size - 1)/\0 < L.length
structure ZAll (n room:Nat) (z:ZS) (pl:List Nat):Prop where
 ok:z.Ok
 en:z.n=n
 em:z.most=room
 lt:∀ p∈pl,p < n
 len:pl.length=z.told
structure Upto (n room:Nat) (L:List Nat) (i:Nat) (z:ZS) (pl:List Nat):Prop where
 all:ZAll n room z pl
 eq:zall (z0 n room) (L.take i)=some (z,pl)
 done:z.done=true↔0 < i/\L[i - 1]?=some (n+1)
end Go.Q22
namespace Go.M18
abbrev bl:=Op.bytesLess
theorem bl_irrefl:∀ a:List UInt8,bl a a=false
 |[]=>rfl
 |a::x=>by
  have:=bl_irrefl x;simp[bl,Op.bytesLess] at this ⊢;exact this
theorem bl_cons (a b:UInt8) (x y:List UInt8):bl (a::x) (b::y)=(decide (a < b)||(a==b&&bl x y)):=rfl
theorem bl_trans:∀ a b c:List UInt8,bl a b=true->bl b c=true->bl a c=true
 |_,[],_,h,_=>by cases ‹List UInt8› <;> simp[bl,Op.bytesLess] at h
 |_,_::_,[],_,h=>by simp[bl,Op.bytesLess] at h
 |[],_::_,_::_,_,_=>rfl
 |a::x,b::y,c::z,h,k=>by
  rw[bl_cons] at *;simp only[Bool.or_eq_true,decide_eq_true_iff,Bool.and_eq_true,beq_iff_eq,UInt8.lt_iff_toNat_lt] at *;rcases h with h|⟨rfl,h⟩
  ·rcases k with k|⟨rfl,k⟩
   ·exact .inl (by omega)
   ·exact .inl h
  ·rcases k with k|⟨rfl,k⟩
   ·exact .inl k
   ·exact .inr ⟨rfl,bl_trans x y z h k⟩
theorem bl_total:∀ a b:List UInt8,bl a b=true\/a=b\/bl b a=true
 |[],[]=>.inr (.inl rfl)
 |[],_::_=>.inl rfl
 |_::_,[]=>.inr (.inr rfl)
 |a::x,b::y=>by
  rw[bl_cons,bl_cons];simp only[Bool.or_eq_true,decide_eq_true_iff,Bool.and_eq_true,beq_iff_eq,UInt8.lt_iff_toNat_lt];rcases Nat.lt_trichotomy a.toNat b.toNat with h|h|h
  ·exact .inl (.inl h)
  ·have e:a=b:=UInt8.toNat_inj.1 h;subst e;rcases bl_total x y with h|h|h
   ·exact .inl (.inr ⟨rfl,h⟩)
   ·exact .inr (.inl (by rw[h]))
   ·exact .inr (.inr (.inr ⟨rfl,h⟩))
  ·exact .inr (.inr (.inl h))
theorem bl_asymm {a b:List UInt8}(h:bl a b=true):bl b a=false:=by
 cases k:bl b a with
 |false=>rfl
 |true=>rw[<-bl_irrefl a,bl_trans a b a h k]
def ble (a b:List UInt8):Prop:=bl b a=false
theorem ble_antisymm {a b:List UInt8}(h:ble a b) (k:ble b a):a=b:=by
 unfold ble at *;rcases bl_total a b with h1|h1|h1
 ·rw[k] at h1;cases h1
 ·exact h1
 ·rw[h] at h1;cases h1
theorem ble_trans {a b c:List UInt8}(h:ble a b) (k:ble b c):ble a c:=by
 unfold ble at *
 cases e:bl c a with
 |false=>rfl
 |true=>
  rcases bl_total a b with h1|h1|h1
  ·rw[bl_trans c a b e h1] at k;cases k
  ·rw[<-h1,e] at k;cases k
  ·rw[h] at h1;cases h1
theorem bl_snoc (c:UInt8):∀ x y:List UInt8,x.length=y.length->bl (x++[c]) (y++[c])=bl x y
 |[],[],_=>by simp[bl,Op.bytesLess]
 |a::x,b::y,h=>by
  rw[cons_append,cons_append,bl_cons,bl_cons,bl_snoc c x y (by simpa using h)]
def rot (s:List UInt8) (i:Nat):List UInt8:=s.drop i++s.take i
def lastB (r:List UInt8):UInt8:=r.getD (r.length - 1) 0
def rotR (r:List UInt8):List UInt8:=lastB r::r.take (r.length - 1)
theorem lastB_snoc (x:List UInt8) (c:UInt8):lastB (x++[c])=c:=by simp[lastB]
theorem rotR_snoc (x:List UInt8) (c:UInt8):rotR (x++[c])=c::x:=by
 unfold rotR;rw[lastB_snoc];simp
theorem init_last (r:List UInt8) (h:0 < r.length):r=r.take (r.length - 1)++[lastB r]:=by
 have:=take_succ' r (r.length - 1) (by omega);rw[show r.length - 1+1=r.length by omega,take_length] at this;exact this
theorem rot_len (s:List UInt8) (i:Nat) (h:i<=s.length):(rot s i).length=s.length:=by
 simp[rot];omega
theorem rot_head (s:List UInt8) (i:Nat) (h:i < s.length):rot s i=s.getD i 0::(s.drop (i+1)++s.take i):=by
 unfold rot;rw[List.drop_eq_getElem_cons h,cons_append,getD_eq_getElem?_getD,getElem?_eq_getElem h];rfl
theorem rot_succ (s:List UInt8) (i:Nat) (h:i < s.length):rot s (i+1)=(s.drop (i+1)++s.take i)++[s.getD i 0]:=by
 unfold rot;rw[take_succ' s i h,append_assoc]
theorem rotR_rot (s:List UInt8) (i:Nat) (h:i < s.length):rotR (rot s (i+1))=rot s i:=by
 rw[rot_succ s i h,rotR_snoc,rot_head s i h]
theorem rot_zero (s:List UInt8):rot s 0=s:=by simp[rot]
theorem rot_full (s:List UInt8):rot s s.length=s:=by simp[rot]
theorem rotR_zero (s:List UInt8) (h:0 < s.length):rotR (rot s 0)=rot s (s.length - 1):=by
 rw[rot_zero];have:=rotR_rot s (s.length - 1) (by omega);rw[show s.length - 1+1=s.length by omega,rot_full] at this;exact this
def aheadP (s:List UInt8) (i k:Nat):Bool:=bl (rot s i) (rot s k)||(decide (rot s i=rot s k)&&decide (i < k))
def insP (s:List UInt8) (i:Nat):List Nat->List Nat
 |[]=>[i]
 |k::r=>if aheadP s i k then i::k::r else k::insP s i r
def sortP (s:List UInt8):Nat->List Nat
 |0=>[]
 |i+1=>insP s i (sortP s i)
theorem insP_perm (s:List UInt8) (i:Nat):∀ l,(insP s i l).Perm (i::l)
 |[]=>.refl _
 |k::r=>by
  rw[insP];split
  ·exact .refl _
  ·exact ((insP_perm s i r).cons k).trans (.swap i k r)
theorem sortP_perm (s:List UInt8):∀ n,(sortP s n).Perm (List.range n)
 |0=>.refl _
 |n+1=>by
  rw[sortP,range_succ];exact ((insP_perm s n _).trans ((sortP_perm s n).cons n)).trans (List.perm_append_comm (l₁:=[n]))
theorem ahead_le {s:List UInt8}{i k:Nat}(h:aheadP s i k=true):ble (rot s i) (rot s k):=by
 unfold aheadP at h;rw[Bool.or_eq_true,Bool.and_eq_true,decide_eq_true_iff] at h;rcases h with h|h
 ·exact bl_asymm h
 ·unfold ble;rw[h.1];exact bl_irrefl _
theorem not_ahead_le {s:List UInt8}{i k:Nat}(h:aheadP s i k=false):ble (rot s k) (rot s i):=by
 unfold aheadP at h;rw[Bool.or_eq_false_iff] at h;exact h.1
theorem insP_sorted (s:List UInt8) (i:Nat):∀ l:List Nat,l.Pairwise (λa b=>ble (rot s a) (rot s b))->(insP s i l).Pairwise (λa b=>ble (rot s a) (rot s b))
 |[],_=>by simp[insP]
 |k::r,h=>by
  rw[pairwise_cons] at h;rw[insP];split
  ·rename_i ha;rw[pairwise_cons,pairwise_cons];refine⟨λx hx=>?_,h.1,h.2⟩;rcases mem_cons.1 hx with rfl|hx
   ·exact ahead_le ha
   ·exact ble_trans (ahead_le ha) (h.1 x hx)
  ·rename_i ha;rw[pairwise_cons];refine⟨λx hx=>?_,insP_sorted s i r h.2⟩;rcases mem_cons.1 ((insP_perm s i r).mem_iff.1 hx) with rfl|hx
   ·exact not_ahead_le (by simpa using ha)
   ·exact h.1 x hx
theorem sortP_sorted (s:List UInt8):∀ n,(sortP s n).Pairwise (λa b=>ble (rot s a) (rot s b))
 |0=>by simp[sortP]
 |n+1=>insP_sorted s n _ (sortP_sorted s n)
theorem sortP_len (s:List UInt8) (n:Nat):(sortP s n).length=n:=by rw[(sortP_perm s n).length_eq,length_range]
theorem sortP_mem (s:List UInt8) (n x:Nat):x∈sortP s n↔x < n:=by rw[(sortP_perm s n).mem_iff,mem_range]
theorem sortP_nodup (s:List UInt8) (n:Nat):(sortP s n).Nodup:=(sortP_perm s n).symm.nodup nodup_range
def lastL (s:List UInt8):List UInt8:=(sortP s s.length).map λi=>lastB (rot s i)
def rots (s:List UInt8):List (List UInt8):=(sortP s s.length).map (rot s)
theorem lastL_len (s:List UInt8):(lastL s).length=s.length:=by simp[lastL,sortP_len]
theorem rots_len (s:List UInt8):(rots s).length=s.length:=by simp[rots,sortP_len]
theorem map_getD_range {α:Type}(l:List α) (d:α):(List.range l.length).map (λj=>l.getD j d)=l:=by
 apply ext_getElem?;intro i;rw[getElem?_map];rcases Nat.lt_or_ge i l.length with h|h
 ·rw[getElem?_eq_getElem (by simpa using h),List.getElem_range,getElem?_eq_getElem h];simp[List.getD,h]
 ·rw[getElem?_eq_none (by simpa using h),getElem?_eq_none h];rfl
theorem links_perm (l:List UInt8):(links l).Perm (List.range l.length):=by
 rw[List.perm_ext_iff_of_nodup (links_nodup l) nodup_range];intro a;rw[mem_range,links_ref,refL_mem];have:=byte_lt l a;omega
theorem rotR_perm (s:List UInt8):((rots s).map rotR).Perm (rots s):=by
 have h1:(rots s).Perm ((List.range s.length).map (rot s)):=(sortP_perm s s.length).map _;refine ((h1.map rotR).trans ?_).trans h1.symm;rw[map_map];obtain⟨m,hm⟩:∃ m,s.length=m:=⟨_,rfl⟩;rw[hm]
 cases m with
 |zero=>exact .refl _
 |succ m=>
  have e1:(List.range (m+1)).map (rotR ∘ rot s)=rot s m::(List.range m).map (rot s):=by
   rw[List.range_succ_eq_map,map_cons,map_map]
   have h0:(rotR ∘ rot s) 0=rot s m:=by
    have:=rotR_zero s (by omega);rw[hm] at this;exact this
   rw[h0]
   congr 1
   apply List.map_congr_left;intro i hi;rw[mem_range] at hi;exact rotR_rot s i (by omega)
  rw[e1,range_succ,map_append];exact List.perm_append_comm (l₁:=[_])
theorem refL_sorted (l:List UInt8):∀ b,(refL l b).Pairwise (λj k=>(l.getD j 0).toNat < (l.getD k 0).toNat\/(l.getD j 0=l.getD k 0/\j < k))
 |0=>by simp[refL]
 |b+1=>by
  rw[refL,List.pairwise_append];refine⟨refL_sorted l b,?_,?_⟩
  ·refine List.Pairwise.imp_of_mem ?_ ((List.pairwise_lt_range (n:=l.length)).sublist (List.filter_sublist (p:=λk=>decide ((l.getD k 0).toNat=b))));intro j k hj hk hlt;have h1:=(refBi_mem l b l.length j).1 hj;have h2:=(refBi_mem l b l.length k).1 hk;exact .inr ⟨UInt8.toNat_inj.1 (h1.2.trans h2.2.symm),hlt⟩
  ·intro j hj k hk;rw[refL_mem] at hj;rw[refBi_mem] at hk;exact .inl (by omega)
theorem lastL_get (s:List UInt8) (j:Nat) (h:j < s.length):(lastL s).getD j 0=lastB ((rots s).getD j []):=by
 have hj:j < (sortP s s.length).length:=by rw[sortP_len];exact h
 simp[lastL,rots,List.getD,hj]
theorem rots_mem_len (s:List UInt8) (j:Nat) (h:j < s.length):((rots s).getD j []).length=s.length:=by
 have hj:j < (sortP s s.length).length:=by rw[sortP_len];exact h
 have hm:=(sortP_mem s s.length _).1 (getElem_mem hj);simp only[rots,List.getD,getElem?_map,getElem?_eq_getElem hj];exact rot_len s _ (by omega)
theorem rots_link (s:List UInt8) (a:Nat) (h:a < s.length):rotR ((rots s).getD ((links (lastL s)).getD a 0) [])=(rots s).getD a []:=by
 have hll:=lastL_len s;have hrl:=rots_len s
 have hq:(links (lastL s)).map (λj=>rotR ((rots s).getD j []))=rots s:=by
  refine List.Perm.eq_of_pairwise (le:=ble) (λa b _ _=>ble_antisymm) ?_ ?_ ?_
  ·rw[List.pairwise_map,links_ref];refine List.Pairwise.imp_of_mem ?_ (refL_sorted (lastL s) 256);intro j k hj hk hjk;have hj:=((refL_mem _ _ _).1 hj).1;have hk:=((refL_mem _ _ _).1 hk).1;rw[hll] at hj hk;rw[lastL_get s j hj,lastL_get s k hk] at hjk;have lj:=rots_mem_len s j hj;have lk:=rots_mem_len s k hk;unfold ble rotR;rw[bl_cons];rcases hjk with h1|⟨h1,h2⟩
   ·rw[Bool.or_eq_false_iff,decide_eq_false_iff_not,Bool.and_eq_false_iff];refine⟨by rw[UInt8.lt_iff_toNat_lt];omega,.inl ?_⟩;rw[beq_eq_false_iff_ne];intro e;rw[e] at h1;omega
   ·rw[h1,Bool.or_eq_false_iff,decide_eq_false_iff_not,Bool.and_eq_false_iff];refine⟨by rw[UInt8.lt_iff_toNat_lt];omega,.inr ?_⟩
    have hs:(rots s).Pairwise ble:=by
     unfold rots;rw[List.pairwise_map];exact sortP_sorted s s.length
    have h3:=pairwise_iff_getElem.1 hs j k (by omega) (by omega) h2
    have ej:(rots s)[j]'(by omega)=(rots s).getD j []:=by simp[List.getD,hrl,hj]
    have ek:(rots s)[k]'(by omega)=(rots s).getD k []:=by simp[List.getD,hrl,hk]
    rw[ej,ek] at h3;unfold ble at h3;rw[init_last ((rots s).getD j []) (by omega),init_last ((rots s).getD k []) (by omega),<-h1] at h3;rw[bl_snoc _ _ _ (by simp only[length_take];omega)] at h3;exact h3
  ·unfold rots;rw[List.pairwise_map];exact sortP_sorted s s.length
  ·have h1:=(links_perm (lastL s)).map (λj=>rotR ((rots s).getD j []));refine h1.trans ?_
   have h2:(List.range (lastL s).length).map (λj=>rotR ((rots s).getD j []))=(rots s).map rotR:=by
    have:=congrArg (List.map rotR) (map_getD_range (rots s) []);rw[map_map] at this;rw[hll,<-hrl];exact this
   rw[h2];exact rotR_perm s
 have hlk:a < (links (lastL s)).length:=by rw[links_len,hll];exact h
 have:=congrArg (λl=>l.getD a []) hq;simp only[List.getD,getElem?_map,getElem?_eq_getElem hlk] at this ⊢;exact this
theorem outK_back (s:List UInt8) (o:Nat) (ho:o < s.length) (h0:(sortP s s.length)[o]?=some 0) :
  ∀ k,k<=s.length->(rots s).getD (atK (lastL s) o k) []=rot s k/\outK (lastL s) o k=s.take k
 |0,_=>by
  refine⟨?_,by rw[take_zero];rfl⟩;show (rots s).getD o []=rot s 0;simp[rots,List.getD,h0]
 |k+1,hk=>by
  obtain⟨h1,h2⟩:=outK_back s o ho h0 k (by omega);have ha:=atK_lt (lastL s) o (by rw[lastL_len];exact ho) k;have ha':=atK_lt (lastL s) o (by rw[lastL_len];exact ho) (k+1);rw[lastL_len] at ha ha';have h3:=rots_link s _ ha;rw[h1] at h3;have h4:atK (lastL s) o (k+1)=(links (lastL s)).getD (atK (lastL s) o k) 0:=rfl;rw[<-h4] at h3;have hl:=rots_mem_len s _ ha';have h5:=init_last ((rots s).getD (atK (lastL s) o (k+1)) []) (by omega);have h6:=lastL_get s _ ha';rw[rot_head s k (by omega)] at h3;unfold rotR at h3;obtain⟨h7,h8⟩:=List.cons.inj h3;refine⟨?_,?_⟩
  ·rw[h5,h7,h8,rot_succ s k (by omega)]
  ·rw[outK,h2,h6,h7,take_succ' s k (by omega)]
theorem text_back (s:List UInt8) (o:Nat) (ho:o < s.length) (h0:(sortP s s.length)[o]?=some 0):text (lastL s) o=s:=by
 unfold text;rw[lastL_len,(outK_back s o ho h0 s.length (Nat.le_refl _)).2,take_length]
end Go.M18
namespace Go.Mr
abbrev Key:=Nat->Nat × Nat
def klt (p q:Nat × Nat):Prop:=p.1 < q.1\/(p.1=q.1/\p.2 < q.2)
instance (p q:Nat × Nat):Decidable (klt p q):=inferInstanceAs (Decidable (_\/_))
def le (k:Key) (a b:Nat):Prop:=klt (k a) (k b)\/(k a=k b/\a<=b)
instance (k:Key) (a b:Nat):Decidable (le k a b):=inferInstanceAs (Decidable (_\/_))
theorem kext {p q:Nat × Nat}:p=q↔p.1=q.1/\p.2=q.2:=⟨λh=>by rw[h];exact⟨rfl,rfl⟩,λh=>Prod.ext h.1 h.2⟩
theorem le_refl (k:Key) (a:Nat):le k a a:=.inr ⟨rfl,Nat.le_refl _⟩
theorem le_total (k:Key) (a b:Nat):le k a b\/le k b a:=by
 unfold le klt;rw[kext,kext];omega
theorem le_trans {k:Key}{a b c:Nat}(h:le k a b) (g:le k b c):le k a c:=by
 unfold le klt at *;rw[kext] at *;omega
theorem le_antisymm {k:Key}{a b:Nat}(h:le k a b) (g:le k b a):a=b:=by
 unfold le klt at *;rw[kext] at *;omega
theorem not_klt_le {k:Key}{a b:Nat}(h:¬ klt (k b) (k a)) (e:k a=k b->a<=b):le k a b:=by
 unfold le
 by_cases q:k a=k b
 ·exact .inr ⟨q,e q⟩
 ·refine .inl ?_;unfold klt at *;rw[kext] at q;omega
def ins (k:Key) (a:Nat):List Nat->List Nat
 |[]=>[a]
 |b::l=>if le k a b then a::b::l else b::ins k a l
def isort (k:Key):List Nat->List Nat
 |[]=>[]
 |a::l=>ins k a (isort k l)
theorem ins_perm (k:Key) (a:Nat):∀ l,(ins k a l).Perm (a::l)
 |[]=>.refl _
 |b::l=>by
  rw[ins];split
  ·exact .refl _
  ·exact ((ins_perm k a l).cons b).trans (.swap a b l)
theorem isort_perm (k:Key):∀ l,(isort k l).Perm l
 |[]=>.refl _
 |a::l=>(ins_perm k a _).trans ((isort_perm k l).cons a)
theorem ins_sorted (k:Key) (a:Nat):∀ l,l.Pairwise (le k)->(ins k a l).Pairwise (le k)
 |[],_=>by simp[ins]
 |b::l,h=>by
  rw[pairwise_cons] at h;rw[ins];split
  ·rename_i q;rw[pairwise_cons,pairwise_cons];refine⟨λx hx=>?_,h.1,h.2⟩;rcases mem_cons.1 hx with rfl|hx
   ·exact q
   ·exact le_trans q (h.1 x hx)
  ·rename_i q;rw[pairwise_cons];refine⟨λx hx=>?_,ins_sorted k a l h.2⟩;rcases mem_cons.1 ((ins_perm k a l).mem_iff.1 hx) with rfl|hx
   ·exact (le_total k x b).resolve_left q
   ·exact h.1 x hx
theorem isort_sorted (k:Key):∀ l,(isort k l).Pairwise (le k)
 |[]=>.nil
 |a::l=>ins_sorted k a _ (isort_sorted k l)
theorem sorted_uniq {k:Key}{a b:List Nat}(ha:a.Pairwise (le k)) (hb:b.Pairwise (le k)) (h:a.Perm b):a=b:=
 List.Perm.eq_of_pairwise (λx y _ _=>le_antisymm) ha hb h
theorem isort_eq {k:Key}{a l:List Nat}(ha:a.Pairwise (le k)) (h:a.Perm l):a=isort k l:=sorted_uniq ha (isort_sorted k l) (h.trans (isort_perm k l).symm)
theorem isort_congr {k:Key}{a b:List Nat}(h:a.Perm b):isort k a=isort k b:=isort_eq (isort_sorted k a) ((isort_perm k a).trans h)
def mrg (k:Key):List Nat->List Nat->List Nat
 |[],B=>B
 |a::A,[]=>a::A
 |a::A,b::B=>if klt (k b) (k a) then b::mrg k (a::A) B else a::mrg k A (b::B)
termination_by A B=>A.length+B.length
theorem mrg_nilL (k:Key) (B:List Nat):mrg k [] B=B:=by rw[mrg]
theorem mrg_nilR (k:Key) (A:List Nat):mrg k A []=A:=by cases A <;> rw[mrg]
theorem mrg_cons (k:Key) (a:Nat) (A:List Nat) (b:Nat) (B:List Nat):mrg k (a::A) (b::B)=if klt (k b) (k a) then b::mrg k (a::A) B else a::mrg k A (b::B):=by rw[mrg]
theorem mrg_ok (k:Key):∀ (n:Nat) (A B:List Nat),A.length+B.length<=n->A.Pairwise (le k)->B.Pairwise (le k)->(∀ a∈A,∀ b∈B,k a=k b->a<=b)->(mrg k A B).Perm (A++B)/\(mrg k A B).Pairwise (le k)
 |n,[],B,_,_,hB,_=>by rw[mrg_nilL];exact⟨.refl _,hB⟩
 |n,a::A,[],_,hA,_,_=>by rw[mrg_nilR,append_nil];exact⟨.refl _,hA⟩
 |0,a::A,b::B,hn,_,_,_=>by simp at hn
 |n+1,a::A,b::B,hn,hA,hB,hc=>by
  rw[mrg_cons];simp only[length_cons] at hn;rw[pairwise_cons] at hA hB;split
  ·rename_i q;have h:=mrg_ok k n (a::A) B (by simp only[length_cons];omega) (pairwise_cons.2 hA) hB.2 λx hx y hy=>hc x hx y (mem_cons_of_mem _ hy);refine⟨(h.1.cons b).trans (List.perm_middle.symm),pairwise_cons.2 ⟨λx hx=>?_,h.2⟩⟩;rcases mem_append.1 (h.1.mem_iff.1 hx) with hx|hx
   ·have h1:le k b a:=.inl q;rcases mem_cons.1 hx with rfl|hx
    ·exact h1
    ·exact le_trans h1 (hA.1 x hx)
   ·exact hB.1 x hx
  ·rename_i q;have h:=mrg_ok k n A (b::B) (by simp only[length_cons];omega) hA.2 (pairwise_cons.2 hB) λx hx y hy=>hc x (mem_cons_of_mem _ hx) y hy;refine⟨h.1.cons a,pairwise_cons.2 ⟨λx hx=>?_,h.2⟩⟩;rcases mem_append.1 (h.1.mem_iff.1 hx) with hx|hx
   ·exact hA.1 x hx
   ·have h1:le k a b:=not_klt_le q λe=>hc a (mem_cons_self ..) b (mem_cons_self ..) e;rcases mem_cons.1 hx with rfl|hx
    ·exact h1
    ·exact le_trans h1 (hB.1 x hx)
structure Pt where
 lo:Nat
 mid:Nat
 hi:Nat
def seg (R:List Nat) (lo hi:Nat):List Nat:=(R.drop lo).take (hi - lo)
def rep (R:List Nat) (lo hi:Nat) (X:List Nat):List Nat:=R.take lo++X++R.drop hi
theorem seg_len {R:List Nat}{lo hi:Nat}(h:hi<=R.length):(seg R lo hi).length=hi - lo:=by unfold seg;rw[length_take,length_drop];omega
theorem seg_split {R:List Nat}{lo mid hi:Nat}(h1:lo<=mid) (h2:mid<=hi):seg R lo hi=seg R lo mid++seg R mid hi:=by
 unfold seg;rw[show hi - lo=(mid - lo)+(hi - mid) by omega,List.take_add,drop_drop,show lo+(mid - lo)=mid by omega]
theorem cut3 (R:List Nat){lo hi:Nat}(h:lo<=hi):R=R.take lo++seg R lo hi++R.drop hi:=by
 have h1:R.drop lo=seg R lo hi++R.drop hi:=by
  unfold seg;have:=(List.take_append_drop (hi - lo) (R.drop lo)).symm;rw[drop_drop,show lo+(hi - lo)=hi by omega] at this;exact this
 rw[append_assoc,<-h1,List.take_append_drop]
theorem rep_len {R X:List Nat}{lo hi:Nat}(h:lo<=hi) (h2:hi<=R.length) (hX:X.length=hi - lo):(rep R lo hi X).length=R.length:=by
 unfold rep;simp only[length_append,length_take,length_drop];omega
theorem rep_seg {R X:List Nat}{lo hi:Nat}(h:lo<=hi) (h2:hi<=R.length) (hX:X.length=hi - lo):seg (rep R lo hi X) lo hi=X:=by
 unfold rep seg
 have e:(R.take lo).length=lo:=by rw[length_take];omega
 rw[append_assoc,List.drop_append_of_le_length (by omega),drop_of_length_le (by omega),nil_append,List.take_append_of_le_length (by omega),take_of_length_le (by omega)]
theorem rep_take {R X:List Nat}{lo hi:Nat}(h:lo<=R.length):(rep R lo hi X).take lo=R.take lo:=by
 unfold rep
 have e:(R.take lo).length=lo:=by rw[length_take];omega
 rw[append_assoc,List.take_append_of_le_length (by omega),take_of_length_le (by omega)]
theorem rep_drop {R X:List Nat}{lo hi:Nat}(h:lo<=hi) (h2:hi<=R.length) (hX:X.length=hi - lo):(rep R lo hi X).drop hi=R.drop hi:=by
 unfold rep
 have e:(R.take lo++X).length=hi:=by rw[length_append,length_take];omega
 rw[List.drop_append_of_le_length (by omega),drop_of_length_le (by omega),nil_append]
theorem rep_perm {R X:List Nat}{lo hi:Nat}(h:lo<=hi) (hX:X.Perm (seg R lo hi)):(rep R lo hi X).Perm R:=by
 have e:=cut3 R h;unfold rep;refine List.Perm.trans ?_ (List.Perm.of_eq e.symm);exact (hX.append_left _).append_right _
theorem seg_of_take {R R':List Nat}{a b lo:Nat}(hb:b<=lo) (e:R'.take lo=R.take lo):seg R' a b=seg R a b:=by
 unfold seg;rw[<-List.drop_take,<-List.drop_take]
 have e1:∀ Q:List Nat,Q.take b=(Q.take lo).take b:=λQ=>by rw[List.take_take,Nat.min_eq_left hb]
 rw[e1 R',e1 R,e]
theorem seg_of_drop {R R':List Nat}{a b hi:Nat}(ha:hi<=a) (e:R'.drop hi=R.drop hi):seg R' a b=seg R a b:=by
 unfold seg
 have e1:∀ Q:List Nat,Q.drop a=(Q.drop hi).drop (a - hi):=λQ=>by rw[drop_drop,show hi+(a - hi)=a by omega]
 rw[e1 R',e1 R,e]
variable {k:Key}{n:Nat}
def ap (k:Key) (p:Pt) (R:List Nat):List Nat:=rep R p.lo p.hi (isort k (seg R p.lo p.hi))
def run (k:Key):List Pt->List Nat->List Nat
 |[],R=>R
 |p::st,R=>run k st (ap k p R)
def Cond (k:Key) (p:Pt) (R:List Nat):Prop:=
 if p.mid=0 then (seg R p.lo p.hi).Pairwise λa b=>k a=k b->a<=b
 else p.lo < p.mid/\p.mid < p.hi/\(seg R p.lo p.mid).Pairwise (le k)/\(seg R p.mid p.hi).Pairwise (le k)/\∀ a∈seg R p.lo p.mid,∀ b∈seg R p.mid p.hi,k a=k b->a<=b
def WF (k:Key) (n:Nat):List Pt->List Nat->Prop
 |[],_=>True
 |p::st,R=>(p.lo < p.hi/\p.hi<=n)/\Cond k p R/\WF k n st (ap k p R)
theorem isort_len (l:List Nat):(isort k l).length=l.length:=(isort_perm k l).length_eq
theorem ap_len {p:Pt}{R:List Nat}(h:p.lo<=p.hi) (h2:p.hi<=R.length):(ap k p R).length=R.length:=rep_len h h2 (by rw[isort_len,seg_len h2])
theorem ap_perm {p:Pt}{R:List Nat}(h:p.lo<=p.hi):(ap k p R).Perm R:=rep_perm h (isort_perm _ _)
theorem ap_eq {p:Pt}{R R':List Nat}(h:p.lo<=p.hi) (h2:p.hi<=R.length) (h3:R'.length=R.length) (ht:R'.take p.lo=R.take p.lo) (hd:R'.drop p.hi=R.drop p.hi) (hs:(seg R' p.lo p.hi).Pairwise (le k)) (hp:(seg R' p.lo p.hi).Perm (seg R p.lo p.hi)):R'=ap k p R:=by
 have e:=cut3 R' h;rw[ht,hd,isort_eq hs hp] at e;exact e
theorem ap_one {p:Pt}{R:List Nat}(h:p.lo < p.hi) (h2:p.hi<=R.length) (h1:p.hi - p.lo < 2):ap k p R=R:=by
 refine (ap_eq (Nat.le_of_lt h) h2 rfl rfl rfl ?_ (.refl _)).symm;have:=seg_len (lo:=p.lo) h2
 match hl:seg R p.lo p.hi with
 |[]=>exact .nil
 |[x]=>exact List.pairwise_singleton _ _
 |x::y::r=>rw[hl] at this;simp at this;omega
theorem begin_ok {lo hi:Nat}{st:List Pt}{R:List Nat}(hn:R.length=n) (h2:2<=hi - lo) (h:WF k n (⟨lo,0,hi⟩::st) R) :
  WF k n (⟨lo,0,(lo+hi)/2⟩::⟨(lo+hi)/2,0,hi⟩::⟨lo,(lo+hi)/2,hi⟩::st) R/\
  run k (⟨lo,0,(lo+hi)/2⟩::⟨(lo+hi)/2,0,hi⟩::⟨lo,(lo+hi)/2,hi⟩::st) R=run k (⟨lo,0,hi⟩::st) R:=by
 obtain⟨⟨h0,hh⟩,hc,hw⟩:=h;simp only at h0 hh;generalize hm:(lo+hi)/2=mid
 have m1:lo < mid:=by omega
 have m2:mid < hi:=by omega
 unfold Cond at hc;rw[if_pos rfl] at hc;simp only at hc;rw[seg_split (Nat.le_of_lt m1) (Nat.le_of_lt m2),List.pairwise_append] at hc;obtain⟨c1,c2,c3⟩:=hc
 have l1:(ap k ⟨lo,0,mid⟩ R).length=n:=by rw[ap_len (Nat.le_of_lt m1) (by show mid<=_;omega)];exact hn
 have g1:(isort k (seg R lo mid)).length=mid - lo:=by rw[isort_len,seg_len (by omega)]
 have s1:seg (ap k ⟨lo,0,mid⟩ R) lo mid=isort k (seg R lo mid):=rep_seg (R:=R) (lo:=lo) (hi:=mid) (Nat.le_of_lt m1) (by omega) g1;have t1:(ap k ⟨lo,0,mid⟩ R).take lo=R.take lo:=rep_take (R:=R) (lo:=lo) (hi:=mid) (by omega);have d1:(ap k ⟨lo,0,mid⟩ R).drop mid=R.drop mid:=rep_drop (R:=R) (lo:=lo) (hi:=mid) (Nat.le_of_lt m1) (by omega) g1;have s1b:seg (ap k ⟨lo,0,mid⟩ R) mid hi=seg R mid hi:=seg_of_drop (Nat.le_refl _) d1;generalize hR1:ap k ⟨lo,0,mid⟩ R=R1 at *
 have l2:(ap k ⟨mid,0,hi⟩ R1).length=n:=by rw[ap_len (Nat.le_of_lt m2) (by show hi<=_;omega)];exact l1
 have g2:(isort k (seg R1 mid hi)).length=hi - mid:=by rw[isort_len,seg_len (by omega)]
 have s2:seg (ap k ⟨mid,0,hi⟩ R1) mid hi=isort k (seg R mid hi):=by
  rw[<-s1b];exact rep_seg (R:=R1) (lo:=mid) (hi:=hi) (Nat.le_of_lt m2) (by omega) g2
 have t2:(ap k ⟨mid,0,hi⟩ R1).take mid=R1.take mid:=rep_take (R:=R1) (lo:=mid) (hi:=hi) (by omega);have d2:(ap k ⟨mid,0,hi⟩ R1).drop hi=R1.drop hi:=rep_drop (R:=R1) (lo:=mid) (hi:=hi) (Nat.le_of_lt m2) (by omega) g2
 have s2a:seg (ap k ⟨mid,0,hi⟩ R1) lo mid=isort k (seg R lo mid):=by rw[<-s1];exact seg_of_take (Nat.le_refl _) t2
 generalize hR2:ap k ⟨mid,0,hi⟩ R1=R2 at *
 have hpm:(seg R2 lo hi).Perm (seg R lo hi):=by
  rw[seg_split (Nat.le_of_lt m1) (Nat.le_of_lt m2),s2a,s2,seg_split (R:=R) (Nat.le_of_lt m1) (Nat.le_of_lt m2)];exact (isort_perm _ _).append (isort_perm _ _)
 have t3:R2.take lo=R.take lo:=by
  have:∀ Q:List Nat,Q.take lo=(Q.take mid).take lo:=λQ=>by rw[List.take_take,Nat.min_eq_left (by omega)]
  rw[this R2,t2,<-this R1,t1]
 have d3:R2.drop hi=R.drop hi:=by
  have:∀ Q:List Nat,Q.drop hi=(Q.drop mid).drop (hi - mid):=λQ=>by rw[drop_drop,show mid+(hi - mid)=hi by omega]
  rw[d2,this R1,d1,<-this R]
 have e3:ap k ⟨lo,mid,hi⟩ R2=ap k ⟨lo,0,hi⟩ R:=by
  unfold ap rep;simp only;rw[t3,d3,isort_congr hpm]
 constructor
 ·refine⟨⟨m1,by show mid<=n;omega⟩,?_,⟨m2,hh⟩,?_,⟨by show lo < hi;omega,hh⟩,?_,?_⟩
  ·unfold Cond;rw[if_pos rfl];exact c1
  ·rw[hR1];unfold Cond;rw[if_pos rfl];simp only;rw[s1b];exact c2
  ·rw[hR1,hR2];unfold Cond;rw[if_neg (by show ¬ mid=0;omega)];simp only;rw[s2a,s2];exact⟨m1,m2,isort_sorted _ _,isort_sorted _ _,λa ha b hb=>c3 a ((isort_perm _ _).mem_iff.1 ha) b ((isort_perm _ _).mem_iff.1 hb)⟩
  ·rw[hR1,hR2,e3];exact hw
 ·show run k st (ap k ⟨lo,mid,hi⟩ (ap k ⟨mid,0,hi⟩ (ap k ⟨lo,0,mid⟩ R)))=run k st (ap k ⟨lo,0,hi⟩ R);rw[hR1,hR2,e3]
end Go.Mr
namespace Go.Mr
structure SS where
 order:List Nat
 cls:List Nat
 aside:List Nat
 reach:Nat
 stack:List Pt
 merge:Pt
 laid:Nat
 first:Nat
 second:Nat
 ranked:Nat
 last:Nat
 done:Bool
def joinS (x:SS):SS:=match x.stack with
 |[]=>x
 |p::st=>if x.merge.hi=0/\p.mid≠0 then { x with merge:=p,stack:=st,laid:=0,first:=0,second:=p.mid } else x
def layS (x:SS):SS:={ x with aside:=x.aside.set x.laid (x.order.getD (x.merge.lo+x.laid) 0),laid:=x.laid+1 }
def toS (x:SS):Nat:=x.merge.lo+x.first+x.second - x.merge.mid
def fromA (k:Key) (x:SS):Prop:=x.second=x.merge.hi\/(x.first < x.laid/\¬ klt (k (x.order.getD x.second 0)) (k (x.aside.getD x.first 0)))
instance (k:Key) (x:SS):Decidable (fromA k x):=inferInstanceAs (Decidable (_\/_))
def moveS (k:Key) (x:SS):SS:=if fromA k x then { x with order:=x.order.set (toS x) (x.aside.getD x.first 0),first:=x.first+1 }
 else { x with order:=x.order.set (toS x) (x.order.getD x.second 0),second:=x.second+1 }
def putS (k:Key) (x:SS):SS:=if toS x=x.merge.hi - 1 then { moveS k x with merge:=⟨0,0,0⟩ } else moveS k x
def beginS (x:SS):SS:=match x.stack with
 |[]=>x
 |p::st=>if p.hi - p.lo < 2 then { x with stack:=st } else { x with stack:=⟨p.lo,0,(p.lo+p.hi)/2⟩::⟨(p.lo+p.hi)/2,0,p.hi⟩::⟨p.lo,(p.lo+p.hi)/2,p.hi⟩::st }
def lastN (k:Key) (x:SS):Nat:=if x.ranked=0 then 0 else if klt (k (x.order.getD (x.ranked - 1) 0)) (k (x.order.getD x.ranked 0)) then x.last+1 else x.last
def rank1 (k:Key) (x:SS):SS:={ x with aside:=x.aside.set (x.order.getD x.ranked 0) (lastN k x),last:=lastN k x,ranked:=x.ranked+1 }
def passS (n:Nat) (x:SS):SS:=if x.last=n - 1\/n<=x.reach then { x with cls:=x.aside,aside:=x.cls,ranked:=0,done:=true }
 else { x with cls:=x.aside,aside:=x.cls,ranked:=0,reach:=max 1 (2*x.reach),stack:=⟨0,0,n⟩::x.stack }
def rankS (k:Key) (n:Nat) (x:SS):SS:=if x.ranked+1=n then passS n (rank1 k x) else rank1 k x
def restS (k:Key) (n:Nat) (x:SS):SS:=if 0 < x.merge.hi/\x.laid < x.merge.mid - x.merge.lo then layS x else if 0 < x.merge.hi then putS k x else if x.stack≠[] then beginS x else rankS k n x
def stepS (k:Key) (n:Nat) (x:SS):SS:=restS k n (joinS x)
def rk (k:Key) (o:List Nat):Nat->Nat
 |0=>0
 |i+1=>rk k o i+if klt (k (o.getD i 0)) (k (o.getD (i+1) 0)) then 1 else 0
structure Bs (n:Nat) (x:SS):Prop where
 two:2<=n
 ol:x.order.length=n
 cl:x.cls.length=n
 al:x.aside.length=n
 om:∀ a∈x.order,a < n
 nd:x.done=false
structure PhA (k:Key) (n:Nat) (x:SS):Prop where
 none:x.merge.hi=0
 perm:x.order.Perm (List.range n)
 wf:WF k n x.stack x.order
 srt:(run k x.stack x.order).Pairwise (le k)
 rk0:x.stack≠[]->x.ranked=0
 rkn:x.ranked < n
 asd:∀ i,i < x.ranked->x.aside.getD (x.order.getD i 0) 0=rk k x.order i
 lst:0 < x.ranked->x.last=rk k x.order (x.ranked - 1)
structure PhB (k:Key) (n:Nat) (x:SS) (R:List Nat):Prop where
 len:R.length=n
 perm:R.Perm (List.range n)
 m1:x.merge.lo < x.merge.mid
 m2:x.merge.mid < x.merge.hi
 m3:x.merge.hi<=n
 wf:WF k n (x.merge::x.stack) R
 srt:(run k (x.merge::x.stack) R).Pairwise (le k)
 rk0:x.ranked=0
 lay:x.laid<=x.merge.mid - x.merge.lo
 asm:∀ a∈seg x.aside 0 x.laid,a < n
 early:x.laid < x.merge.mid - x.merge.lo->x.order=R/\x.first=0/\x.second=x.merge.mid/\x.aside.take x.laid=seg R x.merge.lo (x.merge.lo+x.laid)
 late:x.laid=x.merge.mid - x.merge.lo->x.first<=x.laid/\x.merge.mid<=x.second/\x.second<=x.merge.hi/\toS x < x.merge.hi/\x.order.take x.merge.lo=R.take x.merge.lo/\x.order.drop x.merge.hi=R.drop x.merge.hi/\
  seg x.order x.merge.lo (toS x)++mrg k (seg x.aside x.first x.laid) (seg x.order x.second x.merge.hi)=isort k (seg R x.merge.lo x.merge.hi)
def PhC (k:Key) (n:Nat) (x:SS):Prop:=PhA k n x\/∃ R,PhB k n x R
variable {k:Key}{n:Nat}{x:SS}
theorem getD_at {l:List Nat}{i:Nat}(h:i < l.length):l[i]?=some (l.getD i 0):=by rw[getD_eq_getElem?_getD,getElem?_eq_getElem h];rfl
theorem getD_mem {l:List Nat}{i:Nat}(h:i < l.length):l.getD i 0∈l:=by rw[getD_eq_getElem?_getD,getElem?_eq_getElem h];exact getElem_mem h
theorem seg_cons {l:List Nat}{a b:Nat}(h:a < b) (h2:b<=l.length):seg l a b=l.getD a 0::seg l (a+1) b:=by
 unfold seg
 have h1:a < l.length:=by omega
 rw[List.drop_eq_getElem_cons h1,show b - a=(b - (a+1))+1 by omega,List.take_succ_cons,getD_eq_getElem?_getD,getElem?_eq_getElem h1];rfl
theorem seg_snoc {l:List Nat}{a b:Nat}(h:a<=b) (h2:b < l.length):seg l a (b+1)=seg l a b++[l.getD b 0]:=by
 rw[seg_split h (Nat.le_succ b),seg_cons (a:=b) (Nat.lt_succ_self b) h2];unfold seg;simp
theorem seg_nil {l:List Nat}{a b:Nat}(h:b<=a):seg l a b=[]:=by unfold seg;rw[show b - a=0 by omega,take_zero]
theorem seg_mem {l:List Nat}{a b y:Nat}(h:y∈seg l a b):y∈l:=List.mem_of_mem_drop (List.mem_of_mem_take h)
theorem take_set_ge {l:List Nat}{i j v:Nat}(h:i<=j):(l.set j v).take i=l.take i:=by rw[List.take_set_of_le h]
theorem drop_set_lt {l:List Nat}{i j v:Nat}(h:j < i):(l.set j v).drop i=l.drop i:=by rw[List.drop_set_of_lt h]
theorem join_ph (hb:Bs n x) (h:PhC k n x):Bs n (joinS x)/\PhC k n (joinS x)/\((joinS x).merge.hi=0->∀ p st,(joinS x).stack=p::st->p.mid=0):=by
 unfold joinS;split
 ·rename_i e;exact⟨hb,h,λ_ p st q=>by rw[e] at q;cases q⟩
 ·rename_i p st e;split
  ·rename_i q;rcases h with h|⟨R,h⟩
   ·have hw:=h.wf;rw[e] at hw;have hs:=h.srt;rw[e] at hs;obtain⟨⟨w1,w2⟩,hc,hw2⟩:=id hw;unfold Cond at hc;rw[if_neg q.2] at hc;obtain⟨c1,c2,c3,c4,c5⟩:=hc;refine⟨⟨hb.two,hb.ol,hb.cl,hb.al,hb.om,hb.nd⟩,.inr ⟨x.order,?_⟩,?_⟩
    ·refine⟨hb.ol,h.perm,c1,c2,w2,hw,hs,h.rk0 (by rw[e];exact List.cons_ne_nil _ _),Nat.zero_le _,λa ha=>?_,λ_=>⟨rfl,rfl,rfl,?_⟩,λe2=>?_⟩
     ·rw[seg_nil (Nat.le_refl 0)] at ha;cases ha
     ·show x.aside.take 0=seg x.order p.lo (p.lo+0);rw[take_zero,seg_nil (by omega)]
     ·exfalso;simp only at e2;omega
    ·intro z;simp only at z;omega
   ·have:=h.m2;omega
  ·rename_i q;refine⟨hb,h,λz p' st' e2=>?_⟩;rw[e] at e2;injection e2 with e2 e3;subst e2
   by_cases q2:p.mid=0
   ·exact q2
   ·exact absurd ⟨z,q2⟩ q
theorem lay_ph (hb:Bs n x) (h:PhC k n x) (h1:0 < x.merge.hi) (h2:x.laid < x.merge.mid - x.merge.lo):Bs n (layS x)/\PhC k n (layS x):=by
 rcases h with h|⟨R,h⟩
 ·have:=h.none;omega
 have hm1:=h.m1;have hm2:=h.m2;have hm3:=h.m3
 obtain⟨e1,e2,e3,e4⟩:=h.early h2;have hol:=hb.ol;have hal:=hb.al
 have hlt:x.merge.lo+x.laid < x.order.length:=by omega
 have hval:=getD_mem hlt;refine⟨⟨hb.two,hb.ol,hb.cl,by show (List.set _ _ _).length=_;rw[length_set];exact hb.al,hb.om,hb.nd⟩,.inr ⟨R,?_⟩⟩
 have ht:(x.aside.set x.laid (x.order.getD (x.merge.lo+x.laid) 0)).take (x.laid+1)=seg R x.merge.lo (x.merge.lo+(x.laid+1)):=by
  rw[<-Nat.add_assoc,seg_snoc (by omega) (by rw[h.len];omega),<-e4,take_add_one,List.getElem?_set_self (by omega),take_set_ge (Nat.le_refl _),e1];rfl
 refine⟨h.len,h.perm,h.m1,h.m2,h.m3,h.wf,h.srt,h.rk0,h2,λa ha=>?_,λq=>⟨e1,e2,e3,ht⟩,λq=>?_⟩
 ·have:seg (layS x).aside 0 (layS x).laid=seg R x.merge.lo (x.merge.lo+(x.laid+1)):=by
   rw[<-ht];unfold seg;rw[drop_zero,Nat.sub_zero];rfl
  rw[this] at ha;have:=seg_mem ha;have h3:=h.perm.mem_iff.1 this;exact mem_range.1 h3
 ·replace q:x.laid+1=x.merge.mid - x.merge.lo:=q
  have e5:toS (layS x)=x.merge.lo:=by
   show x.merge.lo+x.first+x.second - x.merge.mid=_;omega
  refine⟨by show x.first<=x.laid+1;omega,by show x.merge.mid<=x.second;omega,by show x.second<=x.merge.hi;omega,by rw[e5];show x.merge.lo < x.merge.hi;omega,congrArg (List.take x.merge.lo) e1,congrArg (List.drop x.merge.hi) e1,?_⟩;rw[e5];show seg x.order x.merge.lo x.merge.lo++mrg k (seg (x.aside.set x.laid (x.order.getD (x.merge.lo+x.laid) 0)) x.first (x.laid+1)) (seg x.order x.second x.merge.hi)=isort k (seg R x.merge.lo x.merge.hi);rw[seg_nil (Nat.le_refl _),nil_append,e2,e3,e1]
  have e6:seg (x.aside.set x.laid (x.order.getD (x.merge.lo+x.laid) 0)) 0 (x.laid+1)=seg R x.merge.lo x.merge.mid:=by
   have:seg (x.aside.set x.laid (x.order.getD (x.merge.lo+x.laid) 0)) 0 (x.laid+1)=(x.aside.set x.laid (x.order.getD (x.merge.lo+x.laid) 0)).take (x.laid+1):=by
    unfold seg;rw[drop_zero,Nat.sub_zero]
   rw[this,ht,show x.merge.lo+(x.laid+1)=x.merge.mid by omega]
  rw[e1] at e6;rw[e6,seg_split (mid:=x.merge.mid) (Nat.le_of_lt hm1) (Nat.le_of_lt hm2)];have hc:=h.wf.2.1;unfold Cond at hc;rw[if_neg (by omega)] at hc;obtain⟨_,_,c3,c4,c5⟩:=hc;obtain⟨p1,p2⟩:=mrg_ok k _ _ _ (Nat.le_refl _) c3 c4 c5;exact isort_eq p2 p1
theorem set_seg_hi {l:List Nat}{t v a b:Nat}(h:t < a\/b<=a):seg (l.set t v) a b=seg l a b:=by
 rcases h with h|h
 ·exact seg_of_drop (Nat.le_refl a) (drop_set_lt h)
 ·rw[seg_nil h,seg_nil h]
theorem set_seg_snoc {l:List Nat}{t v a:Nat}(h:a<=t) (h2:t < l.length):seg (l.set t v) a (t+1)=seg l a t++[v]:=by
 rw[seg_snoc h (by rw[length_set];exact h2),seg_of_take (Nat.le_refl t) (take_set_ge (Nat.le_refl t))]
 congr 2
 rw[getD_eq_getElem?_getD,List.getElem?_set_self h2];rfl
theorem move_ok {R:List Nat}(hb:Bs n x) (h:PhB k n x R) (hl:x.laid=x.merge.mid - x.merge.lo) :
  ∃ v f c,moveS k x={ x with order:=x.order.set (toS x) v,first:=f,second:=c }/\v < n/\f<=x.laid/\x.merge.mid<=c/\c<=x.merge.hi/\x.merge.lo+f+c - x.merge.mid=toS x+1/\
   seg (x.order.set (toS x) v) x.merge.lo (toS x+1)++mrg k (seg x.aside f x.laid) (seg (x.order.set (toS x) v) c x.merge.hi)=isort k (seg R x.merge.lo x.merge.hi):=by
 have hm1:=h.m1;have hm2:=h.m2;have hm3:=h.m3
 obtain⟨l1,l2,l3,l4,l5,l6,l7⟩:=h.late hl;have hol:=hb.ol;have hal:=hb.al;have hto:toS x=x.merge.lo+x.first+x.second - x.merge.mid:=rfl
 have hge:x.merge.lo<=toS x:=by omega
 unfold moveS
 by_cases q:fromA k x
 ·rw[if_pos q]
  have hf:x.first < x.laid:=by
   rcases q with q|q
   ·omega
   ·exact q.1
  have hA:=seg_cons (l:=x.aside) hf (by omega)
  have hv:x.aside.getD x.first 0 < n:=h.asm _ (by
   rw[show x.aside.getD x.first 0=(seg x.aside 0 x.laid).getD x.first 0 from by
    unfold seg
    rw[drop_zero,Nat.sub_zero,getD_eq_getElem?_getD,getD_eq_getElem?_getD,getElem?_take_of_lt hf]]
   exact getD_mem (by rw[seg_len (by omega)];omega))
  refine⟨_,x.first+1,x.second,rfl,hv,hf,l2,l3,by omega,?_⟩;rw[set_seg_snoc hge (by omega),append_assoc,<-l7,hA]
  congr 1
  have hB:seg (x.order.set (toS x) (x.aside.getD x.first 0)) x.second x.merge.hi=seg x.order x.second x.merge.hi:=set_seg_hi (by omega);rw[hB];rcases Nat.lt_or_ge x.second x.merge.hi with g|g
  ·have hBc:=seg_cons (l:=x.order) g (by omega)
   have hk:¬ klt (k (x.order.getD x.second 0)) (k (x.aside.getD x.first 0)):=by
    rcases q with q|q
    ·omega
    ·exact q.2
   rw[hBc,mrg_cons,if_neg hk];rfl
  ·rw[seg_nil g,mrg_nilR,mrg_nilR];rfl
 ·rw[if_neg q]
  have hs:x.second < x.merge.hi:=by
   rcases Nat.lt_or_ge x.second x.merge.hi with g|g
   ·exact g
   ·exact absurd (.inl (by omega)) q
  have hBc:=seg_cons (l:=x.order) hs (by omega);have hv:x.order.getD x.second 0 < n:=hb.om _ (getD_mem (by omega));refine⟨_,x.first,x.second+1,rfl,hv,l1,by omega,by omega,by omega,?_⟩;rw[set_seg_snoc hge (by omega),append_assoc,<-l7,hBc]
  congr 1
  have hB:seg (x.order.set (toS x) (x.order.getD x.second 0)) (x.second+1) x.merge.hi=seg x.order (x.second+1) x.merge.hi:=set_seg_hi (by omega);rw[hB];rcases Nat.lt_or_ge x.first x.laid with g|g
  ·have hA:=seg_cons (l:=x.aside) g (by omega)
   have hk:klt (k (x.order.getD x.second 0)) (k (x.aside.getD x.first 0)):=by
    by_cases z:klt (k (x.order.getD x.second 0)) (k (x.aside.getD x.first 0))
    ·exact z
    ·exact absurd (.inr ⟨g,z⟩) q
   rw[hA,mrg_cons,if_pos hk];rfl
  ·rw[seg_nil g,mrg_nilL,mrg_nilL];rfl
theorem mem_set_lt {l:List Nat}{t v:Nat}(hl:∀ a∈l,a < n) (hv:v < n):∀ a∈l.set t v,a < n:=λa ha=>by
 rcases List.mem_or_eq_of_mem_set ha with h|h
 ·exact hl a h
 ·rw[h];exact hv
theorem put_ph (hb:Bs n x) (h:PhC k n x) (h1:0 < x.merge.hi) (h2:¬ x.laid < x.merge.mid - x.merge.lo):Bs n (putS k x)/\PhC k n (putS k x):=by
 rcases h with h|⟨R,h⟩
 ·have:=h.none;omega
 have hm1:=h.m1;have hm2:=h.m2;have hm3:=h.m3
 have hlay:=h.lay
 have hl:x.laid=x.merge.mid - x.merge.lo:=by omega
 obtain⟨l1,l2,l3,l4,l5,l6,l7⟩:=h.late hl;have hol:=hb.ol;obtain⟨v,f,c,e,hv,f1,c1,c2,t1,hq⟩:=move_ok hb h hl;have hto:toS x=x.merge.lo+x.first+x.second - x.merge.mid:=rfl
 have hge:x.merge.lo<=toS x:=by omega
 have hOl:(x.order.set (toS x) v).length=n:=by rw[length_set];exact hol
 have hOm:=mem_set_lt (t:=toS x) hb.om hv
 have hT:(x.order.set (toS x) v).take x.merge.lo=R.take x.merge.lo:=by rw[take_set_ge hge];exact l5
 have hD:(x.order.set (toS x) v).drop x.merge.hi=R.drop x.merge.hi:=by rw[drop_set_lt l4];exact l6
 unfold putS;rw[e];generalize hO:x.order.set (toS x) v=O at *;split
 ·rename_i q
  have hlen:(seg O x.merge.lo (toS x+1)).length=x.merge.hi - x.merge.lo:=by rw[seg_len (by omega)];omega
  have hz:mrg k (seg x.aside f x.laid) (seg O c x.merge.hi)=[]:=by
   have:=congrArg List.length hq;rw[length_append,hlen,isort_len,seg_len (by rw[h.len];exact hm3)] at this;exact List.eq_nil_of_length_eq_zero (by omega)
  rw[hz,append_nil,show toS x+1=x.merge.hi by omega] at hq
  have hap:O=ap k x.merge R:=by
   have e1:=cut3 O (lo:=x.merge.lo) (hi:=x.merge.hi) (by omega);rw[hT,hD,hq] at e1;exact e1
  refine⟨⟨hb.two,hOl,hb.cl,hb.al,hOm,hb.nd⟩,.inl ⟨rfl,?_,?_,?_,λ_=>h.rk0,?_,λi hi=>?_,λhi=>?_⟩⟩
  ·show O.Perm _;rw[hap];exact (ap_perm (by omega)).trans h.perm
  ·show WF k n x.stack O;rw[hap];exact h.wf.2.2
  ·show (run k x.stack O).Pairwise _;rw[hap];exact h.srt
  ·show x.ranked < n;rw[h.rk0];have:=hb.two;omega
  ·replace hi:i < x.ranked:=hi;rw[h.rk0] at hi;omega
  ·replace hi:0 < x.ranked:=hi;rw[h.rk0] at hi;omega
 ·rename_i q;refine⟨⟨hb.two,hOl,hb.cl,hb.al,hOm,hb.nd⟩,.inr ⟨R,h.len,h.perm,hm1,hm2,hm3,h.wf,h.srt,h.rk0,hlay,h.asm,λz=>?_,λ_=>⟨f1,c1,c2,?_,hT,hD,?_⟩⟩⟩
  ·exact absurd z h2
  ·show x.merge.lo+f+c - x.merge.mid < x.merge.hi;omega
  ·show seg O x.merge.lo (x.merge.lo+f+c - x.merge.mid)++mrg k (seg x.aside f x.laid) (seg O c x.merge.hi)=_;rw[t1];exact hq
theorem begin_ph (hb:Bs n x) (h:PhC k n x) (h1:¬ 0 < x.merge.hi) (h2:x.stack≠[]) (h3:∀ p st,x.stack=p::st->p.mid=0):Bs n (beginS x)/\PhC k n (beginS x):=by
 rcases h with h|⟨R,h⟩
 rotate_left
 ·have:=h.m2;omega
 unfold beginS;split
 ·rename_i e;exact absurd e h2
 ·rename_i p st e;have hw:=h.wf;rw[e] at hw;have hs:=h.srt;rw[e] at hs;have hr:=h.rk0 h2;have hm:=h3 p st e;obtain⟨lo,mid,hi⟩:=p;simp only at hm;subst hm;have h0:=hw.1;simp only at h0;split
  ·rename_i q;simp only at q;have e1:ap k ⟨lo,0,hi⟩ x.order=x.order:=ap_one h0.1 (by rw[hb.ol];exact h0.2) q;refine⟨⟨hb.two,hb.ol,hb.cl,hb.al,hb.om,hb.nd⟩,.inl ⟨h.none,h.perm,?_,?_,λ_=>hr,h.rkn,h.asd,h.lst⟩⟩
   ·have:=hw.2.2;rw[e1] at this;exact this
   ·have:(run k st (ap k ⟨lo,0,hi⟩ x.order)).Pairwise (le k):=hs;rw[e1] at this;exact this
  ·rename_i q;simp only at q;obtain⟨b1,b2⟩:=begin_ok hb.ol (by omega) hw;refine⟨⟨hb.two,hb.ol,hb.cl,hb.al,hb.om,hb.nd⟩,.inl ⟨h.none,h.perm,b1,?_,λ_=>hr,h.rkn,h.asd,h.lst⟩⟩;show (run k (⟨lo,0,(lo+hi)/2⟩::⟨(lo+hi)/2,0,hi⟩::⟨lo,(lo+hi)/2,hi⟩::st) x.order).Pairwise (le k);rw[b2];exact hs
theorem rank_ph (hb:Bs n x) (h:PhC k n x) (h1:¬ 0 < x.merge.hi) (h2:x.stack=[]) :
  x.order.Pairwise (le k)/\x.order.Perm (List.range n)/\x.ranked < n/\(x.ranked+1 < n->Bs n (rank1 k x)/\PhC k n (rank1 k x))/\
   (rank1 k x).aside.length=n/\(∀ i,i < x.ranked+1->(rank1 k x).aside.getD (x.order.getD i 0) 0=rk k x.order i)/\(rank1 k x).last=rk k x.order x.ranked:=by
 rcases h with h|⟨R,h⟩
 rotate_left
 ·have:=h.m2;omega
 have hs:=h.srt;rw[h2] at hs;have hkn:=h.rkn;have hol:=hb.ol;have hnd:x.order.Nodup:=h.perm.symm.nodup nodup_range
 have hlast:lastN k x=rk k x.order x.ranked:=by
  unfold lastN
  by_cases q:x.ranked=0
  ·rw[if_pos q,q];rfl
  ·rw[if_neg q,h.lst (by omega)];obtain⟨r,hr⟩:∃ r,x.ranked=r+1:=⟨x.ranked - 1,by omega⟩;rw[hr,Nat.add_sub_cancel];show _=rk k x.order r+_
   split <;> rfl
 have hal:(rank1 k x).aside.length=n:=by show (List.set _ _ _).length=n;rw[length_set];exact hb.al
 have hasd:∀ i,i < x.ranked+1->(rank1 k x).aside.getD (x.order.getD i 0) 0=rk k x.order i:=by
  intro i hi;show (x.aside.set (x.order.getD x.ranked 0) (lastN k x)).getD (x.order.getD i 0) 0=_;rw[getD_eq_getElem?_getD,getElem?_set]
  have hb1:x.order.getD x.ranked 0 < x.aside.length:=by rw[hb.al];exact hb.om _ (getD_mem (by omega))
  by_cases e:x.ranked=i
  ·subst e;rw[if_pos rfl,if_pos hb1,hlast];rfl
  ·rw[if_neg,<-getD_eq_getElem?_getD,h.asd i (by omega)];intro e2;apply e;have g1:=getD_at (l:=x.order) (i:=x.ranked) (by omega);have g2:=getD_at (l:=x.order) (i:=i) (by omega);rw[e2] at g1;obtain⟨p1,p2⟩:=List.getElem?_eq_some_iff.1 g1;obtain⟨p3,p4⟩:=List.getElem?_eq_some_iff.1 g2;exact (List.getElem_inj hnd).1 (p2.trans p4.symm)
 refine⟨hs,h.perm,hkn,λq=>⟨⟨hb.two,hb.ol,hb.cl,hal,hb.om,hb.nd⟩,.inl ⟨h.none,h.perm,?_,?_,λz=>absurd h2 z,q,hasd,λ_=>?_⟩⟩,hal,hasd,hlast⟩
 ·exact h.wf
 ·exact h.srt
 ·show lastN k x=rk k x.order (x.ranked+1 - 1);rw[Nat.add_sub_cancel];exact hlast
end Go.Mr
namespace Go.Mr
open Go.M18
def ch (s:List UInt8) (i:Nat):Nat:=(s.getD (i%s.length) 0).toNat
def ltm (s:List UInt8) (m a b:Nat):Prop:=∃ j,j < m/\(∀ i,i < j->ch s (a+i)=ch s (b+i))/\ch s (a+j) < ch s (b+j)
def eqm (s:List UInt8) (m a b:Nat):Prop:=∀ i,i < m->ch s (a+i)=ch s (b+i)
variable {s:List UInt8}{m a b c:Nat}
theorem tri (s:List UInt8) (a b:Nat):∀ m,ltm s m a b\/eqm s m a b\/ltm s m b a
 |0=>.inr (.inl λi h=>by omega)
 |m+1=>by
  rcases tri s a b m with⟨j,h1,h2,h3⟩|h|⟨j,h1,h2,h3⟩
  ·exact .inl ⟨j,by omega,h2,h3⟩
  ·rcases Nat.lt_trichotomy (ch s (a+m)) (ch s (b+m)) with q|q|q
   ·exact .inl ⟨m,by omega,h,q⟩
   ·refine .inr (.inl λi hi=>?_);rcases Nat.lt_or_ge i m with g|g
    ·exact h i g
    ·rw[show i=m by omega];exact q
   ·exact .inr (.inr ⟨m,by omega,λi hi=>(h i hi).symm,q⟩)
  ·exact .inr (.inr ⟨j,by omega,h2,h3⟩)
theorem ltm_ne (h:ltm s m a b):¬ eqm s m a b:=λe=>by
 obtain⟨j,h1,_,h3⟩:=h;have:=e j h1;omega
theorem eqm_add {r:Nat}:eqm s (r+r) a b↔eqm s r a b/\eqm s r (a+r) (b+r):=by
 constructor
 ·intro h;refine⟨λi hi=>h i (by omega),λi hi=>?_⟩;rw[Nat.add_assoc,Nat.add_assoc];exact h (r+i) (by omega)
 ·rintro⟨h,g⟩ i hi;rcases Nat.lt_or_ge i r with q|q
  ·exact h i q
  ·have:=g (i - r) (by omega);rw[Nat.add_assoc,Nat.add_assoc,show r+(i - r)=i by omega] at this;exact this
theorem ltm_add {r:Nat}:ltm s (r+r) a b↔ltm s r a b\/(eqm s r a b/\ltm s r (a+r) (b+r)):=by
 constructor
 ·rintro⟨j,h1,h2,h3⟩;rcases Nat.lt_or_ge j r with q|q
  ·exact .inl ⟨j,q,h2,h3⟩
  ·refine .inr ⟨λi hi=>h2 i (by omega),j - r,by omega,λi hi=>?_,?_⟩
   ·rw[Nat.add_assoc,Nat.add_assoc];exact h2 (r+i) (by omega)
   ·rw[Nat.add_assoc,Nat.add_assoc,show r+(j - r)=j by omega];exact h3
 ·rintro (⟨j,h1,h2,h3⟩|⟨h,j,h1,h2,h3⟩)
  ·exact⟨j,by omega,h2,h3⟩
  ·refine⟨r+j,by omega,λi hi=>?_,by rw[<-Nat.add_assoc,<-Nat.add_assoc];exact h3⟩;rcases Nat.lt_or_ge i r with q|q
   ·exact h i q
   ·have:=h2 (i - r) (by omega);rw[Nat.add_assoc,Nat.add_assoc,show r+(i - r)=i by omega] at this;exact this
theorem ch_mod (s:List UInt8) (a i:Nat):ch s (a%s.length+i)=ch s (a+i):=by unfold ch;rw[Nat.mod_add_mod]
theorem ltm_mod:ltm s m (a%s.length) (b%s.length)↔ltm s m a b:=by
 unfold ltm;simp only[ch_mod]
theorem eqm_mod:eqm s m (a%s.length) (b%s.length)↔eqm s m a b:=by
 unfold eqm;simp only[ch_mod]
theorem ch_rot (ha:a < s.length){i:Nat}(hi:i < s.length):(rot s a).getD i 0=s.getD ((a+i)%s.length) 0:=by
 unfold rot;rw[getD_eq_getElem?_getD,getD_eq_getElem?_getD];rcases Nat.lt_or_ge (a+i) s.length with q|q
 ·rw[getElem?_append_left (by rw[length_drop];omega),getElem?_drop,Nat.mod_eq_of_lt q]
 ·rw[getElem?_append_right (by rw[length_drop];omega),length_drop,getElem?_take_of_lt (by omega),Nat.mod_eq_sub_mod q,Nat.mod_eq_of_lt (by omega)]
  congr 2
  omega
theorem bl_first:∀ (j:Nat) (x y:List UInt8),j < x.length->j < y.length->(∀ i,i < j->x.getD i 0=y.getD i 0)->(x.getD j 0).toNat < (y.getD j 0).toNat->bl x y=true
 |_,[],_,h,_,_,_=>by simp at h
 |_,_::_,[],_,h,_,_=>by simp at h
 |0,p::x,q::y,_,_,_,h=>by
  rw[bl_cons]
  have:p < q:=by rw[UInt8.lt_iff_toNat_lt];exact h
  simp[this]
 |j+1,p::x,q::y,h1,h2,h3,h4=>by
  rw[bl_cons];have e:p=q:=h3 0 (Nat.zero_lt_succ _);subst e;have:=bl_first j x y (by simpa using h1) (by simpa using h2) (λi hi=>by have:=h3 (i+1) (by omega);simpa using this) (by simpa using h4);simp[this]
theorem ahead_ltm (ha:a < s.length) (hb:b < s.length) (h:ltm s s.length a b):aheadP s a b=true:=by
 obtain⟨j,h1,h2,h3⟩:=h;unfold aheadP
 have e1:∀ i,i < j->(rot s a).getD i 0=(rot s b).getD i 0:=λi hi=>by
  rw[ch_rot ha (by omega),ch_rot hb (by omega)];exact UInt8.toNat_inj.1 (h2 i hi)
 have e2:((rot s a).getD j 0).toNat < ((rot s b).getD j 0).toNat:=by
  rw[ch_rot ha h1,ch_rot hb h1];exact h3
 rw[bl_first j (rot s a) (rot s b) (by rw[rot_len s a (by omega)];exact h1) (by rw[rot_len s b (by omega)];exact h1) e1 e2];rfl
theorem rot_eqm (ha:a < s.length) (hb:b < s.length) (h:eqm s s.length a b):rot s a=rot s b:=by
 apply ext_getElem?;intro i;rcases Nat.lt_or_ge i s.length with q|q
 ·have e:=ch_rot ha q;have e2:=ch_rot hb q
  have e3:(rot s a).getD i 0=(rot s b).getD i 0:=by rw[e,e2];exact UInt8.toNat_inj.1 (h i q)
  rw[getElem?_eq_getElem (by rw[rot_len s a (by omega)];exact q),getElem?_eq_getElem (by rw[rot_len s b (by omega)];exact q)];rw[getD_eq_getElem?_getD,getD_eq_getElem?_getD,getElem?_eq_getElem (by rw[rot_len s a (by omega)];exact q),getElem?_eq_getElem (by rw[rot_len s b (by omega)];exact q)] at e3;exact congrArg some e3
 ·rw[getElem?_eq_none (by rw[rot_len s a (by omega)];exact q),getElem?_eq_none (by rw[rot_len s b (by omega)];exact q)]
theorem ahead_eqm (ha:a < s.length) (hb:b < s.length) (h:eqm s s.length a b) (hab:a < b):aheadP s a b=true:=by
 unfold aheadP;rw[rot_eqm ha hb h,decide_eq_true rfl,decide_eq_true hab];simp
theorem ltm_low (h:ltm s m a b):ltm s s.length a b:=by
 obtain⟨j,h1,h2,h3⟩:=h;rcases Nat.lt_or_ge j s.length with q|q
 ·exact⟨j,q,h2,h3⟩
 ·exfalso
  have e:∀ z,ch s (z+j)=ch s (z+j%s.length):=λz=>by unfold ch;rw[Nat.add_mod_mod]
  rcases Nat.eq_zero_or_pos s.length with g|g
  ·unfold ch at h3;have:s=[]:=List.eq_nil_of_length_eq_zero g;subst this;simp at h3
  ·have h5:=h2 (j%s.length) (Nat.lt_of_lt_of_le (Nat.mod_lt _ g) q);rw[e a,e b] at h3;omega
theorem aheadP_asymm {i k:Nat}(h:aheadP s i k=true):aheadP s k i=false:=by
 unfold aheadP at *;rw[Bool.or_eq_true,Bool.and_eq_true,decide_eq_true_iff,decide_eq_true_iff] at h;rw[Bool.or_eq_false_iff,Bool.and_eq_false_iff,decide_eq_false_iff_not,decide_eq_false_iff_not];rcases h with h|⟨h,g⟩
 ·refine⟨bl_asymm h,.inl λe=>?_⟩;rw[e,bl_irrefl] at h;cases h
 ·exact⟨by rw[h];exact bl_irrefl _,.inr (by omega)⟩
theorem aheadP_trans {i j k:Nat}(h:aheadP s i j=true) (g:aheadP s j k=true):aheadP s i k=true:=by
 unfold aheadP at *;rw[Bool.or_eq_true,Bool.and_eq_true,decide_eq_true_iff,decide_eq_true_iff] at *;rcases h with h|⟨h,h2⟩
 ·rcases g with g|⟨g,g2⟩
  ·exact .inl (bl_trans _ _ _ h g)
  ·rw[<-g];exact .inl h
 ·rw[h];rcases g with g|⟨g,g2⟩
  ·exact .inl g
  ·exact .inr ⟨g,by omega⟩
theorem aheadP_total {i k:Nat}(h:i≠k):aheadP s i k=true\/aheadP s k i=true:=by
 unfold aheadP;simp only[Bool.or_eq_true,Bool.and_eq_true,decide_eq_true_iff];rcases bl_total (rot s i) (rot s k) with q|q|q
 ·exact .inl (.inl q)
 ·rcases Nat.lt_or_ge i k with g|g
  ·exact .inl (.inr ⟨q,g⟩)
  ·exact .inr (.inr ⟨q.symm,by omega⟩)
 ·exact .inr (.inl q)
theorem insP_ahead (i:Nat):∀ l:List Nat,i∉l->l.Pairwise (λa b=>aheadP s a b=true)->(insP s i l).Pairwise (λa b=>aheadP s a b=true)
 |[],_,_=>by simp[insP]
 |k::r,hn,h=>by
  rw[pairwise_cons] at h;rw[insP];split
  ·rename_i ha;rw[pairwise_cons,pairwise_cons];refine⟨λx hx=>?_,h.1,h.2⟩;rcases mem_cons.1 hx with rfl|hx
   ·exact ha
   ·exact aheadP_trans ha (h.1 x hx)
  ·rename_i ha;rw[pairwise_cons];refine⟨λx hx=>?_,insP_ahead i r (λz=>hn (mem_cons_of_mem _ z)) h.2⟩;rcases mem_cons.1 ((insP_perm s i r).mem_iff.1 hx) with rfl|hx
   ·exact (aheadP_total λe=>hn (by rw[e];exact mem_cons_self ..)).resolve_left ha
   ·exact h.1 x hx
theorem sortP_ahead (s:List UInt8):∀ n,(sortP s n).Pairwise (λa b=>aheadP s a b=true)
 |0=>.nil
 |n+1=>insP_ahead n _ (λh=>by have:=(sortP_mem s n n).1 h;omega) (sortP_ahead s n)
theorem sortP_uniq {o:List Nat}(hp:o.Perm (List.range s.length)) (h:o.Pairwise λa b=>aheadP s a b=true):o=sortP s s.length:=
 List.Perm.eq_of_pairwise (λx y _ _ h1 h2=>by rw[aheadP_asymm h1] at h2;cases h2) h (sortP_ahead s _) (hp.trans (sortP_perm s _).symm)
def keyS (s:List UInt8) (x:SS):Key:=λat_=>if x.reach=0 then ((s.getD at_ 0).toNat,0) else (x.cls.getD at_ 0,x.cls.getD ((at_+x.reach)%s.length) 0)
def wid (x:SS):Nat:=if x.reach=0 then 1 else x.reach+x.reach
def Cls (s:List UInt8) (x:SS):Prop:=x.reach=0\/∀ a b,a < s.length->b < s.length->(x.cls.getD a 0 < x.cls.getD b 0↔ltm s x.reach a b)/\(x.cls.getD a 0=x.cls.getD b 0↔eqm s x.reach a b)
theorem key_means {x:SS}(h:Cls s x) (ha:a < s.length) (hb:b < s.length):(klt (keyS s x a) (keyS s x b)↔ltm s (wid x) a b)/\(keyS s x a=keyS s x b↔eqm s (wid x) a b):=by
 unfold keyS wid
 by_cases q:x.reach=0
 ·rw[if_pos q,if_pos q,if_pos q]
  have e:∀ z,z < s.length->ch s (z+0)=(s.getD z 0).toNat:=λz hz=>by unfold ch;rw[Nat.add_zero,Nat.mod_eq_of_lt hz]
  constructor
  ·constructor
   ·intro g;refine⟨0,by omega,λi hi=>by omega,?_⟩;rw[e a ha,e b hb];rcases g with g|⟨_,g⟩
    ·exact g
    ·exact absurd g (Nat.lt_irrefl 0)
   ·rintro⟨j,h1,_,h3⟩
    obtain rfl:j=0:=by omega
    rw[e a ha,e b hb] at h3;exact .inl h3
  ·constructor
   ·intro g i hi
    obtain rfl:i=0:=by omega
    rw[e a ha,e b hb];exact congrArg Prod.fst g
   ·intro g;have:=g 0 (by omega);rw[e a ha,e b hb] at this;rw[this]
 ·rw[if_neg q,if_neg q,if_neg q];have hc:=h.resolve_left q
  have h0:0 < s.length:=by omega
  have h1:=hc a b ha hb;have h2:=hc _ _ (Nat.mod_lt (a+x.reach) h0) (Nat.mod_lt (b+x.reach) h0);rw[ltm_mod,eqm_mod] at h2
  constructor
  ·rw[ltm_add,<-h1.1,<-h1.2,<-h2.1];rfl
  ·rw[eqm_add,<-h1.2,<-h2.2,kext]
theorem rk_bound {k:Key}{o:List Nat}:∀ j,rk k o j<=j
 |0=>Nat.le_refl _
 |j+1=>by
  have:=rk_bound (k:=k) (o:=o) j;show rk k o j+(if _ then 1 else 0)<=_
  split <;> omega
theorem klt_trans {p q r:Nat × Nat}(h:klt p q) (g:klt q r):klt p r:=by unfold klt at *;omega
theorem klt_irrefl (p:Nat × Nat):¬ klt p p:=by unfold klt;omega
theorem rk_means {k:Key}{o:List Nat}(hs:o.Pairwise (le k)){i:Nat}:∀ j,i<=j->j < o.length->(rk k o i < rk k o j/\klt (k (o.getD i 0)) (k (o.getD j 0)))\/(rk k o i=rk k o j/\k (o.getD i 0)=k (o.getD j 0))
 |0,h,_=>by rw[show i=0 by omega];exact .inr ⟨rfl,rfl⟩
 |j+1,h,hj=>by
  rcases Nat.lt_or_ge i (j+1) with q|q
  ·have ih:=rk_means hs (i:=i) j (by omega) (by omega)
   have hl:le k (o.getD j 0) (o.getD (j+1) 0):=by
    have:=pairwise_iff_getElem.1 hs j (j+1) (by omega) hj (by omega);rw[getD_eq_getElem?_getD,getD_eq_getElem?_getD,getElem?_eq_getElem (by omega),getElem?_eq_getElem hj];exact this
   have e:rk k o (j+1)=rk k o j+if klt (k (o.getD j 0)) (k (o.getD (j+1) 0)) then 1 else 0:=rfl
   by_cases g:klt (k (o.getD j 0)) (k (o.getD (j+1) 0))
   ·rw[if_pos g] at e;refine .inl ?_;rcases ih with ih|ih
    ·exact⟨by omega,klt_trans ih.2 g⟩
    ·exact⟨by omega,by rw[ih.2];exact g⟩
   ·rw[if_neg g,Nat.add_zero] at e
    have ek:k (o.getD j 0)=k (o.getD (j+1) 0):=by
     rcases hl with hl|hl
     ·exact absurd hl g
     ·exact hl.1
    rw[e,<-ek];exact ih
  ·rw[show i=j+1 by omega];exact .inr ⟨rfl,rfl⟩
structure Inv (s:List UInt8) (x:SS):Prop where
 bs:Bs s.length x
 cls:Cls s x
 ph:PhC (keyS s x) s.length x
theorem mem_idx {o:List Nat}{n a:Nat}(hp:o.Perm (List.range n)) (ha:a < n):∃ i,i < n/\o.getD i 0=a:=by
 have:a∈o:=hp.mem_iff.2 (mem_range.2 ha);obtain⟨i,hi,e⟩:=List.getElem_of_mem this;have:=hp.length_eq;rw[length_range] at this;exact⟨i,by omega,by rw[getD_eq_getElem?_getD,getElem?_eq_getElem hi,e];rfl⟩
theorem pass_ok {x:SS}(h:Inv s x) (h1:¬ 0 < x.merge.hi) (h2:x.stack=[]) (h3:x.ranked+1=s.length) :
  let y:=passS s.length (rank1 (keyS s x) x)
  (y.done=true/\y.order=sortP s s.length)\/(y.done=false/\Inv s y/\x.reach < s.length/\x.reach < y.reach/\y.stack=[⟨0,0,s.length⟩]/\y.merge.hi=0/\y.ranked=0):=by
 obtain⟨hs,hp,hkn,_,hal,hasd,hlast⟩:=rank_ph h.bs h.ph h1 h2;have hol:=h.bs.ol;have hkm:=λa b ha hb=>key_means (a:=a) (b:=b) h.cls ha hb
 have hcls:∀ a b,a < s.length->b < s.length->((rank1 (keyS s x) x).aside.getD a 0 < (rank1 (keyS s x) x).aside.getD b 0↔ltm s (wid x) a b)/\((rank1 (keyS s x) x).aside.getD a 0=(rank1 (keyS s x) x).aside.getD b 0↔eqm s (wid x) a b):=by
  intro a b ha hb;obtain⟨i,hi,ei⟩:=mem_idx hp ha;obtain⟨j,hj,ej⟩:=mem_idx hp hb;have e1:=hasd i (by omega);have e2:=hasd j (by omega);rw[ei] at e1;rw[ej] at e2;rw[e1,e2,<-(hkm a b ha hb).1,<-(hkm a b ha hb).2];rcases Nat.le_total i j with q|q
  ·rcases rk_means hs j q (by omega) with g|g
   ·rw[ei,ej] at g;exact⟨⟨λ_=>g.2,λ_=>g.1⟩,⟨λz=>by omega,λz=>by rw[z] at g;exact absurd g.2 (klt_irrefl _)⟩⟩
   ·rw[ei,ej] at g;exact⟨⟨λz=>by omega,λz=>by rw[g.2] at z;exact absurd z (klt_irrefl _)⟩,⟨λ_=>g.2,λ_=>g.1⟩⟩
  ·rcases rk_means hs i q (by omega) with g|g
   ·rw[ei,ej] at g;exact⟨⟨λz=>by omega,λz=>absurd (klt_trans z g.2) (klt_irrefl _)⟩,⟨λz=>by omega,λz=>by rw[z] at g;exact absurd g.2 (klt_irrefl _)⟩⟩
   ·rw[ei,ej] at g;exact⟨⟨λz=>by omega,λz=>by rw[g.2] at z;exact absurd z (klt_irrefl _)⟩,⟨λ_=>g.2.symm,λ_=>g.1.symm⟩⟩
 have hget:∀ i,i < s.length->x.order.getD i 0 < s.length:=λi hi=>h.bs.om _ (getD_mem (by omega));have hnd:x.order.Nodup:=hp.symm.nodup nodup_range
 have hstrict:∀ i j,i < j->j < s.length->ltm s (wid x) (x.order.getD i 0) (x.order.getD j 0)\/(eqm s (wid x) (x.order.getD i 0) (x.order.getD j 0)/\x.order.getD i 0 < x.order.getD j 0):=by
  intro i j hij hj;have g1:=getD_at (l:=x.order) (i:=i) (by omega);have g2:=getD_at (l:=x.order) (i:=j) (by omega);obtain⟨p1,p2⟩:=List.getElem?_eq_some_iff.1 g1;obtain⟨p3,p4⟩:=List.getElem?_eq_some_iff.1 g2;have hl:=pairwise_iff_getElem.1 hs i j (by omega) (by omega) hij;have hne:=pairwise_iff_getElem.1 hnd i j (by omega) (by omega) hij;rw[p2,p4] at hl hne;have hk:=hkm _ _ (hget i (by omega)) (hget j hj);rcases hl with hl|hl
  ·exact .inl (hk.1.1 hl)
  ·exact .inr ⟨hk.2.1 hl.1,by omega⟩
 intro y
 by_cases q:(rank1 (keyS s x) x).last=s.length - 1\/s.length<=(rank1 (keyS s x) x).reach
 ·have ey:y={ rank1 (keyS s x) x with cls:=(rank1 (keyS s x) x).aside,aside:=(rank1 (keyS s x) x).cls,ranked:=0,done:=true }:=by
   show passS _ _=_;unfold passS;rw[if_pos q]
  rw[ey];refine .inl ⟨rfl,?_⟩;show x.order=_;refine sortP_uniq hp ?_;rw[pairwise_iff_getElem];intro i j hi hj hij
  have e1:x.order[i]=x.order.getD i 0:=by rw[getD_eq_getElem?_getD,getElem?_eq_getElem hi];rfl
  have e2:x.order[j]=x.order.getD j 0:=by rw[getD_eq_getElem?_getD,getElem?_eq_getElem hj];rfl
  rw[e1,e2];have ga:=hget i (by omega);have gb:=hget j (by omega);rcases hstrict i j hij (by omega) with g|⟨g,g2⟩
  ·exact ahead_ltm ga gb (ltm_low g)
  ·rcases q with q|q
   ·exfalso;rw[hlast] at q
    have hr:∀ t,t<=x.ranked->t<=rk (keyS s x) x.order (x.ranked) - (x.ranked - t):=λt ht=>by omega
    have hinc:∀ d t,t+d=x.ranked->rk (keyS s x) x.order t=t:=by
     intro d
     induction d with
     |zero=>intro t ht;rw[show t=x.ranked by omega,q];omega
     |succ d ih=>
      intro t ht;have h5:=ih (t+1) (by omega)
      have h6:rk (keyS s x) x.order (t+1)=rk (keyS s x) x.order t+if klt (keyS s x (x.order.getD t 0)) (keyS s x (x.order.getD (t+1) 0)) then 1 else 0:=rfl
      have h7:=rk_bound (k:=keyS s x) (o:=x.order) t
      split at h6 <;> omega
    have h8:=hinc (x.ranked - i) i (by omega);have h9:=hinc (x.ranked - j) j (by omega);have h10:=(hcls _ _ ga gb).2.2 g;rw[hasd i (by omega),hasd j (by omega)] at h10;omega
   ·refine ahead_eqm ga gb (λt ht=>g t ?_) g2;have q':s.length<=x.reach:=q;unfold wid
    split <;> omega
 ·have ey:y={ rank1 (keyS s x) x with cls:=(rank1 (keyS s x) x).aside,aside:=(rank1 (keyS s x) x).cls,ranked:=0,reach:=max 1 (2*x.reach),stack:=⟨0,0,s.length⟩::x.stack }:=by
   show passS _ _=_;unfold passS;rw[if_neg q];rfl
  have hrl:x.reach < s.length:=by
   rcases Nat.lt_or_ge x.reach s.length with g|g
   ·exact g
   ·exact absurd (.inr g) q
  have hw:max 1 (2*x.reach)=wid x:=by unfold wid;split <;> omega
  rw[ey];refine .inr ⟨h.bs.nd,?_,hrl,by show x.reach < max 1 (2*x.reach);omega,by show _::x.stack=_;rw[h2],by show x.merge.hi=0;omega,rfl⟩;have hcl:(rank1 (keyS s x) x).cls.length=s.length:=h.bs.cl;have htwo:=h.bs.two;refine⟨⟨htwo,hol,hal,hcl,h.bs.om,h.bs.nd⟩,.inr λa b ha hb=>?_,?_⟩
  ·show (_↔ltm s (max 1 (2*x.reach)) a b)/\(_↔eqm s (max 1 (2*x.reach)) a b);rw[hw];exact hcls a b ha hb
  ·generalize hk2:keyS s _=k2
   have hk2m:∀ a b,a < s.length->b < s.length->k2 a=k2 b->eqm s (wid x) a b:=by
    intro a b ha hb e;rw[<-hk2] at e;unfold keyS at e;simp only at e;rw[if_neg (by omega),if_neg (by omega)] at e;exact (hcls a b ha hb).2.1 (congrArg Prod.fst e)
   have hsg:seg x.order 0 s.length=x.order:=by
    unfold seg;rw[drop_zero,Nat.sub_zero,take_of_length_le (by omega)]
   refine .inl ⟨by show x.merge.hi=0;omega,hp,?_,?_,λ_=>rfl,by show 0 < s.length;omega,λi hi=>absurd hi (Nat.not_lt_zero i),λz=>absurd z (Nat.lt_irrefl 0)⟩
   ·show WF k2 s.length (⟨0,0,s.length⟩::x.stack) x.order;rw[h2];refine⟨⟨by show 0 < s.length;omega,Nat.le_refl _⟩,?_,trivial⟩;unfold Cond;rw[if_pos rfl];simp only;rw[hsg,pairwise_iff_getElem];intro i j hi hj hij e
    have e1:x.order[i]=x.order.getD i 0:=by rw[getD_eq_getElem?_getD,getElem?_eq_getElem hi];rfl
    have e2:x.order[j]=x.order.getD j 0:=by rw[getD_eq_getElem?_getD,getElem?_eq_getElem hj];rfl
    rw[e1,e2] at e ⊢;have g:=hk2m _ _ (hget i (by omega)) (hget j (by omega)) e;rcases hstrict i j hij (by omega) with z|z
    ·exact absurd g (ltm_ne z)
    ·omega
   ·show (run k2 (⟨0,0,s.length⟩::x.stack) x.order).Pairwise (le k2);rw[h2];show (ap k2 ⟨0,0,s.length⟩ x.order).Pairwise (le k2);unfold ap rep;simp only;rw[hsg,take_zero,nil_append,drop_of_length_le (by omega),append_nil];exact isort_sorted _ _
end Go.Mr
namespace Go.Mr
open Go.M18
def cost (p:Pt):Nat:=if p.mid=0 then 4*((p.hi - p.lo)*(p.hi - p.lo)) else (p.mid - p.lo)+(p.hi - p.lo)
def costs:List Pt->Nat
 |[]=>0
 |p::st=>cost p+costs st
def mCost (x:SS):Nat:=if x.merge.hi=0 then 0 else (x.merge.mid - x.merge.lo - x.laid)+(x.merge.hi - toS x)
def passC (n:Nat):Nat:=4*(n*n)+2*n+2
def mu (n:Nat) (x:SS):Nat:=if x.done=true then 0 else 1+((n+1 - x.reach)*passC n+costs x.stack+mCost x+(n - x.ranked))
variable {s:List UInt8}{x:SS}{k:Key}{n:Nat}
theorem mu_eq (h:x.done=false):mu n x=1+((n+1 - x.reach)*passC n+costs x.stack+mCost x+(n - x.ranked)):=by
 unfold mu;rw[if_neg (by rw[h];exact Bool.false_ne_true)]
theorem mCost_no (h:x.merge.hi=0):mCost x=0:=by unfold mCost;rw[if_pos h]
theorem mCost_on (h:¬ x.merge.hi=0):mCost x=(x.merge.mid - x.merge.lo - x.laid)+(x.merge.hi - toS x):=by unfold mCost;rw[if_neg h]
theorem join_mu (hb:Bs n x) (h:PhC k n x):mu n (joinS x)=mu n x:=by
 unfold joinS;split
 ·rfl
 ·rename_i p st e;split
  ·rename_i q;rcases h with h|⟨R,h⟩
   ·have hw:=h.wf;rw[e] at hw;obtain⟨⟨w1,w2⟩,hc,_⟩:=hw;unfold Cond at hc;rw[if_neg q.2] at hc;have c1:=hc.1;have c2:=hc.2.1
    have:costs (p::st)=(p.mid - p.lo)+(p.hi - p.lo)+costs st:=by
     show cost p+costs st=_;unfold cost;rw[if_neg q.2]
    rw[mu_eq hb.nd,mu_eq (x:={ x with merge:=p,stack:=st,laid:=0,first:=0,second:=p.mid }) hb.nd,mCost_no q.1,mCost_on (x:={ x with merge:=p,stack:=st,laid:=0,first:=0,second:=p.mid }) (by show ¬ p.hi=0;omega),e,this];show 1+((n+1 - x.reach)*passC n+costs st+(p.mid - p.lo - 0+(p.hi - (p.lo+0+p.mid - p.mid)))+(n - x.ranked))=_;omega
   ·have:=h.m2;omega
  ·rfl
theorem begin_cost {lo hi:Nat}(h:2<=hi - lo):cost ⟨lo,0,(lo+hi)/2⟩+(cost ⟨(lo+hi)/2,0,hi⟩+cost ⟨lo,(lo+hi)/2,hi⟩) < cost ⟨lo,0,hi⟩:=by
 generalize hm:(lo+hi)/2=mid;unfold cost;rw[if_pos rfl,if_pos rfl,if_pos rfl,if_neg (by show ¬ mid=0;omega)];simp only;obtain⟨a,ha⟩:∃ a,a=mid - lo:=⟨_,rfl⟩;obtain⟨b,hb⟩:∃ b,b=hi - mid:=⟨_,rfl⟩
 have e:hi - lo=a+b:=by omega
 rw[e,<-ha,<-hb]
 have h1:1<=a:=by omega
 have h2:1<=b:=by omega
 have h3:a<=a*b:=Nat.le_mul_of_pos_right a h2;have h4:b<=a*b:=Nat.le_mul_of_pos_left b h1
 have h5:(a+b)*(a+b)=a*a+2*(a*b)+b*b:=by
  rw[Nat.add_mul,Nat.mul_add,Nat.mul_add,Nat.mul_comm b a];omega
 rw[h5];omega
theorem pass_mu {y:SS}(hd:x.done=false) (hyd:y.done=false) (h1:x.reach < n) (h2:x.reach < y.reach) (h3:y.stack=[⟨0,0,n⟩]) (h4:y.merge.hi=0) (h5:y.ranked=0):mu n y < mu n x:=by
 unfold mu;rw[hd,hyd,if_neg (by simp),if_neg (by simp),h3,h5]
 have e1:mCost y=0:=by unfold mCost;rw[if_pos h4]
 have e2:costs [⟨0,0,n⟩]=4*(n*n):=by
  show cost ⟨0,0,n⟩+0=_;unfold cost;rw[if_pos rfl];rfl
 rw[e1,e2]
 have h6:(n+1 - y.reach)*passC n+passC n<=(n+1 - x.reach)*passC n:=by
  have h7:(n+1 - y.reach+1)*passC n<=(n+1 - x.reach)*passC n:=Nat.mul_le_mul_right _ (by omega);rw[Nat.add_mul,Nat.one_mul] at h7;exact h7
 have h8:passC n=4*(n*n)+2*n+2:=rfl;omega
theorem rank_mu (hd:x.done=false) (h:x.ranked < n):mu n (rank1 k x) < mu n x:=by
 unfold mu;rw[show (rank1 k x).done=x.done from rfl,hd,if_neg (by simp),if_neg (by simp)];show 1+((n+1 - x.reach)*passC n+costs x.stack+mCost x+(n - (x.ranked+1))) < _;omega
theorem step_ok (h:Inv s x):mu s.length (stepS (keyS s x) s.length x) < mu s.length x/\
  (((stepS (keyS s x) s.length x).done=true/\(stepS (keyS s x) s.length x).order=sortP s s.length)\/Inv s (stepS (keyS s x) s.length x)):=by
 have hj:=join_ph h.bs h.ph;have hjm:=join_mu h.bs h.ph
 have hjk:keyS s (joinS x)=keyS s x/\Cls s (joinS x):=by
  unfold joinS;split
  ·exact⟨rfl,h.cls⟩
  ·split
   ·exact⟨rfl,h.cls⟩
   ·exact⟨rfl,h.cls⟩
 unfold stepS;rw[<-hjm];generalize joinS x=y at *;obtain⟨hb,hp,hm⟩:=hj;obtain⟨hk,hc⟩:=hjk;rw[<-hk] at hp ⊢;have hnd:=hb.nd;unfold restS
 by_cases q1:0 < y.merge.hi/\y.laid < y.merge.mid - y.merge.lo
 ·rw[if_pos q1];obtain⟨b1,b2⟩:=lay_ph hb hp q1.1 q1.2;refine⟨?_,.inr ⟨b1,hc,b2⟩⟩;rw[mu_eq hnd,mu_eq (x:=layS y) hnd,mCost_on (x:=y) (by omega),mCost_on (x:=layS y) (by show ¬ y.merge.hi=0;omega)];show 1+((s.length+1 - y.reach)*passC s.length+costs y.stack+(y.merge.mid - y.merge.lo - (y.laid+1)+(y.merge.hi - toS y))+(s.length - y.ranked)) < _;omega
 ·rw[if_neg q1]
  by_cases q2:0 < y.merge.hi
  ·rw[if_pos q2];have q3:¬ y.laid < y.merge.mid - y.merge.lo:=λz=>q1 ⟨q2,z⟩;obtain⟨b1,b2⟩:=put_ph hb hp q2 q3
   have hcl:Cls s (putS (keyS s y) y):=by
    unfold putS moveS;split
    ·split <;> exact hc
    ·split <;> exact hc
   have hky:keyS s (putS (keyS s y) y)=keyS s y:=by
    unfold putS moveS;split
    ·split <;> rfl
    ·split <;> rfl
   refine⟨?_,.inr ⟨b1,hcl,by rw[hky];exact b2⟩⟩;rcases hp with hp|⟨R,hp⟩
   ·have:=hp.none;omega
   have hm1:=hp.m1;have hm2:=hp.m2;have hlay:=hp.lay
   obtain⟨v,f,c,e,_,_,_,_,t1,_⟩:=move_ok hb hp (by omega);obtain⟨_,_,_,l4,_⟩:=hp.late (by omega);unfold putS;rw[e];rw[mu_eq hnd,mCost_on (x:=y) (by omega)];split
   ·rename_i q;rw[mu_eq (by exact hnd),mCost_no (by rfl)];show 1+((s.length+1 - y.reach)*passC s.length+costs y.stack+0+(s.length - y.ranked)) < _;omega
   ·rename_i q;rw[mu_eq (by exact hnd),mCost_on (by show ¬ y.merge.hi=0;omega)];show 1+((s.length+1 - y.reach)*passC s.length+costs y.stack+(y.merge.mid - y.merge.lo - y.laid+(y.merge.hi - (y.merge.lo+f+c - y.merge.mid)))+(s.length - y.ranked)) < _;omega
  ·rw[if_neg q2]
   by_cases q3:y.stack≠[]
   ·rw[if_pos q3];obtain⟨b1,b2⟩:=begin_ph hb hp q2 q3 (hm (by omega))
    have hcl:Cls s (beginS y):=by
     unfold beginS;split
     ·exact hc
     ·split <;> exact hc
    have hky:keyS s (beginS y)=keyS s y:=by
     unfold beginS;split
     ·rfl
     ·split <;> rfl
    refine⟨?_,.inr ⟨b1,hcl,by rw[hky];exact b2⟩⟩;rcases hp with hp|⟨R,hp⟩
    rotate_left
    ·have:=hp.m2;omega
    unfold beginS;split
    ·rename_i e;exact absurd e q3
    ·rename_i p st e;have hw:=hp.wf;rw[e] at hw;have h0:=hw.1;have hmid:=hm (by omega) p st e;obtain⟨lo,mid,hi⟩:=p;simp only at hmid h0;subst hmid;have ec:costs (⟨lo,0,hi⟩::st)=cost ⟨lo,0,hi⟩+costs st:=rfl;rw[mu_eq hnd,mCost_no (show y.merge.hi=0 by omega),e,ec];split
     ·rename_i q;rw[mu_eq (by exact hnd),mCost_no (by show y.merge.hi=0;omega)]
      have h9:1<=cost ⟨lo,0,hi⟩:=by
       unfold cost;rw[if_pos rfl];have:1<=(hi - lo)*(hi - lo):=Nat.mul_pos (by omega) (by omega);simp only;omega
      show 1+((s.length+1 - y.reach)*passC s.length+costs st+0+(s.length - y.ranked)) < _;omega
     ·rename_i q;simp only at q;rw[mu_eq (by exact hnd),mCost_no (by show y.merge.hi=0;omega)];have h9:=begin_cost (lo:=lo) (hi:=hi) (by omega);show 1+((s.length+1 - y.reach)*passC s.length+(cost ⟨lo,0,(lo+hi)/2⟩+(cost ⟨(lo+hi)/2,0,hi⟩+(cost ⟨lo,(lo+hi)/2,hi⟩+costs st)))+0+(s.length - y.ranked)) < _;omega
   ·rw[if_neg q3];have q4:y.stack=[]:=Classical.byContradiction q3;have hi:Inv s y:=⟨hb,hc,hp⟩;obtain⟨_,_,hkn,hgo,_⟩:=rank_ph hb hp q2 q4;unfold rankS;split
    ·rename_i q;have:=pass_ok hi q2 q4 q;simp only at this;rcases this with⟨p1,p2⟩|⟨p1,p2,p3,p4,p5,p6,p7⟩
     ·refine⟨?_,.inl ⟨p1,p2⟩⟩;unfold mu;rw[p1,hnd,if_pos rfl,if_neg (by simp)];omega
     ·exact⟨pass_mu hnd p1 p3 p4 p5 p6 p7,.inr p2⟩
    ·rename_i q;obtain⟨b1,b2⟩:=hgo (by omega);exact⟨rank_mu hnd hkn,.inr ⟨b1,hc,b2⟩⟩
def start (n:Nat):SS:=⟨List.range n,List.replicate n 0,List.replicate n 0,0,[⟨0,0,n⟩],⟨0,0,0⟩,0,0,0,0,0,false⟩
theorem start_inv (h:2<=s.length):Inv s (start s.length):=by
 have hsg:seg (List.range s.length) 0 s.length=List.range s.length:=by
  unfold seg;rw[drop_zero,Nat.sub_zero,take_of_length_le (by simp)]
 refine⟨⟨h,by simp[start],by simp[start],by simp[start],λa ha=>mem_range.1 ha,rfl⟩,.inl rfl,.inl ⟨rfl,.refl _,⟨⟨by show 0 < s.length;omega,Nat.le_refl _⟩,?_,trivial⟩,?_,λ_=>rfl,by show 0 < s.length;omega,λi hi=>absurd hi (Nat.not_lt_zero i),λz=>absurd z (Nat.lt_irrefl 0)⟩⟩
 ·unfold Cond;rw[if_pos rfl];show (seg (List.range s.length) 0 s.length).Pairwise _;rw[hsg,pairwise_iff_getElem];intro i j hi hj hij _;rw[List.getElem_range,List.getElem_range];omega
 ·show (ap _ ⟨0,0,s.length⟩ (List.range s.length)).Pairwise _;unfold ap rep;simp only;rw[hsg,take_zero,nil_append,drop_of_length_le (by simp),append_nil];exact isort_sorted _ _
theorem mu_start (hn:n<=4000):mu n (start n)<=300000000000:=by
 unfold mu;rw[if_neg (by simp[start])];show 1+((n+1 - 0)*passC n+(cost ⟨0,0,n⟩+0)+0+(n - 0))<=_;have h1:n*n<=4000*4000:=Nat.mul_le_mul hn hn
 have h2:passC n<=4*(4000*4000)+2*4000+2:=by unfold passC;omega
 have h3:(n+1 - 0)*passC n<=4001*(4*(4000*4000)+2*4000+2):=Nat.mul_le_mul (by omega) h2
 have h4:cost ⟨0,0,n⟩=4*(n*n):=by unfold cost;rw[if_pos rfl];rfl
 rw[h4];omega
end Go.Mr
namespace Go.Mr
open Go.M18
variable {s:List UInt8}{x:SS}{k:Key}{n:Nat}
theorem join_reach (x:SS):(joinS x).reach=x.reach:=by
 unfold joinS;split
 ·rfl
 ·split <;> rfl
theorem step_cases (k:Key) (n:Nat) (x:SS):(stepS k n x).reach=x.reach\/((stepS k n x).stack=[⟨0,0,n⟩]/\(stepS k n x).merge.hi=0/\(stepS k n x).ranked=0/\x.reach < n/\(stepS k n x).reach=max 1 (2*x.reach)):=by
 unfold stepS;rw[<-join_reach x];generalize joinS x=y;unfold restS;split
 ·exact .inl rfl
 ·split
  ·refine .inl ?_;unfold putS moveS;split
   ·split <;> rfl
   ·split <;> rfl
  ·rename_i h2;split
   ·refine .inl ?_;unfold beginS;split
    ·rfl
    ·split <;> rfl
   ·rename_i h3;have hs:y.stack=[]:=Classical.byContradiction h3;unfold rankS;split
    ·unfold passS;split
     ·exact .inl rfl
     ·rename_i h4;refine .inr ⟨?_,?_,rfl,?_,rfl⟩
      ·show _::y.stack=_;rw[hs]
      ·show y.merge.hi=0;omega
      ·rcases Nat.lt_or_ge y.reach n with g|g
       ·exact g
       ·exact absurd (.inr g) h4
    ·exact .inl rfl
def ldS (n:Nat) (x:SS):Nat:=costs x.stack+mCost x+(n - x.ranked)
theorem step_load (h:Inv s x) (hl:ldS s.length x<=4*(s.length*s.length)+s.length) (hr:x.reach<=2*s.length) (hd:(stepS (keyS s x) s.length x).done=false) :
  ldS s.length (stepS (keyS s x) s.length x)<=4*(s.length*s.length)+s.length/\(stepS (keyS s x) s.length x).reach<=2*s.length:=by
 have h1:=(step_ok h).1;have h2:=h.bs.two;rw[mu_eq h.bs.nd,mu_eq hd] at h1;rcases step_cases (keyS s x) s.length x with e|⟨e1,e2,e3,e4,e5⟩
 ·rw[e] at h1 ⊢;unfold ldS at *;exact⟨by omega,hr⟩
 ·refine⟨?_,by rw[e5];omega⟩;unfold ldS;rw[mCost_no e2,e1,e3]
  have:costs [⟨0,0,s.length⟩]=4*(s.length*s.length):=by
   show cost ⟨0,0,s.length⟩+0=_;unfold cost;rw[if_pos rfl];rfl
  omega
theorem wf_mem:∀ {st:List Pt}{R:List Nat},WF k n st R->∀ p∈st,p.lo < p.hi/\p.hi<=n
 |[],_,_,p,hp=>by cases hp
 |q::st,R,h,p,hp=>by
  rcases mem_cons.1 hp with rfl|hp
  ·exact h.1
  ·exact wf_mem h.2.2 p hp
theorem len_costs:∀ {st:List Pt},(∀ p∈st,p.lo < p.hi/\p.hi<=n)->st.length<=costs st
 |[],_=>Nat.le_refl _
 |p::st,h=>by
  have h1:=h p (mem_cons_self ..);have h2:=len_costs (st:=st) λq hq=>h q (mem_cons_of_mem _ hq)
  have h3:1<=cost p:=by
   unfold cost;split
   ·have:1<=(p.hi - p.lo)*(p.hi - p.lo):=Nat.mul_pos (by omega) (by omega);omega
   ·omega
  show st.length+1<=cost p+costs st;omega
theorem stack_wf (h:PhC k n x):∀ p∈x.stack,p.lo < p.hi/\p.hi<=n:=by
 rcases h with h|⟨R,h⟩
 ·exact wf_mem h.wf
 ·exact λp hp=>wf_mem h.wf p (mem_cons_of_mem _ hp)
theorem stack_len (h:PhC k n x) (hl:ldS n x<=4*(n*n)+n) (hn:n<=4000):x.stack.length<=64004000:=by
 have h1:=len_costs (stack_wf h);have h2:n*n<=4000*4000:=Nat.mul_le_mul hn hn;unfold ldS at hl;omega
theorem load_start:ldS n (start n)=4*(n*n)+n:=by
 show cost ⟨0,0,n⟩+0+0+(n - 0)=_;unfold cost;rw[if_pos rfl];show 4*((n - 0)*(n - 0))+0+0+(n - 0)=_;rw[Nat.sub_zero];rfl
end Go.Mr
namespace Go.Vc
section
variable {α:Type}{P:Program}{w:World}{L:List HProp}
theorem r_apO {t e:TypeId}{z:Value} [hr:Row P t e z] (H:Holds w L) (i j:Nat){f:α->Value}{oa:Option Addr}{xs ys:List α}{sp:List Value}{l c m c' b2 o2:Nat}{cs:List Value}{ty:TypeId}{K:Value->World->Prop}
  (hi:L[i]?=some (slb f e oa xs sp)) (hj:L[j]?=some (blk b2 e cs)) (hcs:(cs.drop o2).take m=ys.map f) (hm:m=ys.length) (hl:l=xs.length) (hc:c=xs.length+sp.length) (hs:∀ y,sg (f y)=true)
  (hn:xs.length+ys.length<=1099511627776) (hne:0 < ys.length)
  (h:∀ oa' sp' w',Same w w'->Holds w' (L.set i (slb f e oa' (xs++ys) sp'))->K (.slice oa' (xs.length+ys.length) (xs.length+ys.length+sp'.length)) w') :
  Ap P #[t,t] ty #[.slice oa l c,.slice (some ⟨b2,o2,none⟩) m c'] w K:=by
 subst hl hc hm;obtain⟨inf,hinf,hsz,hby,hzz⟩:=hr.inf
 have hnews:∀ k u,(ys.map f)[k]?=some u->w.cell? ((⟨b2,o2,none⟩:Addr).add k)=some u:=by
  intro k u hu
  have e1:(⟨b2,o2,none⟩:Addr).add k=⟨b2,o2+k,none⟩:=by
   unfold Addr.add;split
   ·rename_i h;rw[h];rfl
   ·rfl
  rw[e1,H.cell j hj (o2+k)]
  have hk:k < ys.length:=by have:=(List.getElem?_eq_some_iff.1 hu).1;simpa using this
  rw[<-hu,<-hcs,getElem?_take_of_lt hk,getElem?_drop]
 have hmul:(xs.length+ys.length)*inf.bytes<=140737488355328:=
  Nat.le_trans (Nat.mul_le_mul_left _ hby) (by omega)
 have grow:∀ (b:Addr) (olds:List Value),olds=xs.map f->(∀ k v,olds[k]?=some v->w.cell? (b.add k)=some v)->sp.length < ys.length->
   (∃ o,L[i]?=some o)->Ap P #[t,t] ty #[.slice (some b) xs.length (xs.length+sp.length),.slice (some ⟨b2,o2,none⟩) ys.length c'] w K:=by
  intro b olds ho hold hg _;subst ho
  have hrun:=run_append_grow (P:=P) w t ty e inf z hr.und hinf hzz b xs.length (xs.length+sp.length) (xs.map f) (by simp[hsz]) hold
   ⟨b2,o2,none⟩ ys.length c' (ys.map f) (by simp[hsz]) hnews (by omega) (by omega) (growslice_fits (by omega) hmul)
  refine⟨_,_,hrun,?_⟩;have hcap:=grownCap_ge w (xs.length+ys.length) (xs.length+sp.length) e;generalize grownCap w (xs.length+ys.length) (xs.length+sp.length) e=cap at hcap ⊢
  have hz2:Builtin.zeroCells z.cells (cap - (xs.length+ys.length))=(List.replicate (cap - (xs.length+ys.length)) z).toArray:=by
   rw[hr.one];apply Array.ext
   ·simp[Builtin.zeroCells]
   ·intro j h1 h2;simp[Builtin.zeroCells,Nat.mod_one]
  have hcells:((xs.map f).toArray++(ys.map f).toArray++Builtin.zeroCells z.cells (cap - (xs.length+ys.length)))=((xs++ys).map f++List.replicate (cap - (xs.length+ys.length)) z).toArray:=by
   rw[hz2];simp
  rw[hcells];have H1:Holds w.drew L:=H.same rfl;have H2:=H1.alloc (.cells ((xs++ys).map f++List.replicate (cap - (xs.length+ys.length)) z).toArray e)
  have H3:Holds (w.drew.alloc (.cells ((xs++ys).map f++List.replicate (cap - (xs.length+ys.length)) z).toArray e)) (L.set i (slb f e (some ⟨w.heap.size,0,none⟩) (xs++ys) (List.replicate (cap - (xs.length+ys.length)) z))):=by
   have H4:=(Holds.imp H2 (Q:=slb f e (some ⟨w.heap.size,0,none⟩) (xs++ys) (List.replicate (cap - (xs.length+ys.length)) z)) λg hg=>⟨rfl,rfl,hg⟩);have H5:=H4.dropAt (i+1);rw[eraseIdx_cons_succ] at H5;exact Sat.push i hi H5
  have:=h (some ⟨w.heap.size,0,none⟩) (List.replicate (cap - (xs.length+ys.length)) z) _ ((Same.drew w).trans (.alloc _ _)) H3
  have hc2:xs.length+ys.length+(List.replicate (cap - (xs.length+ys.length)) z).length=cap:=by simp;omega
  rw[hc2] at this;exact this
 cases oa with
 |none=>
  obtain⟨g,⟨h2,h3⟩,_⟩:=H.front i hi;subst h2;subst h3;simp only[length_nil,Nat.zero_add,nil_append] at hn hmul h ⊢;have hrun:=run_append_nil (P:=P) w t ty e inf z hr.und hinf hzz ⟨b2,o2,none⟩ ys.length c' (ys.map f) (by simp[hsz]) hnews (by omega) (by omega) (by omega);refine⟨_,_,hrun,?_⟩;have hcap:=grownCap_ge w ys.length 0 e;generalize grownCap w ys.length 0 e=cap at hcap ⊢
  have hz2:Builtin.zeroCells z.cells (cap - ys.length)=(List.replicate (cap - ys.length) z).toArray:=by
   rw[hr.one];apply Array.ext
   ·simp[Builtin.zeroCells]
   ·intro j h1 h2;simp[Builtin.zeroCells,Nat.mod_one]
  have hcells:((ys.map f).toArray++Builtin.zeroCells z.cells (cap - ys.length))=(ys.map f++List.replicate (cap - ys.length) z).toArray:=by
   rw[hz2];simp
  rw[hcells];have H2:=(H.same (w':=w.drew) rfl).alloc (.cells (ys.map f++List.replicate (cap - ys.length) z).toArray e);have H4:=(Holds.imp H2 (Q:=slb f e (some ⟨w.heap.size,0,none⟩) ys (List.replicate (cap - ys.length) z)) λg hg=>⟨rfl,rfl,hg⟩);have H5:=H4.dropAt (i+1);rw[eraseIdx_cons_succ] at H5;have:=h (some ⟨w.heap.size,0,none⟩) (List.replicate (cap - ys.length) z) _ ((Same.drew w).trans (.alloc _ _)) (Sat.push i hi H5)
  have hc2:ys.length+(List.replicate (cap - ys.length) z).length=cap:=by simp;omega
  rw[hc2] at this;exact this
 |some a=>
  obtain⟨g,⟨h2,h3,_⟩,_⟩:=H.front i hi;obtain⟨b,o,s⟩:=a;simp only at h2 h3;subst h2;subst h3;have Hb:=H.slb i hi;have hgi:(L.set i (blk b e (xs.map f++sp)))[i]?=some (blk b e (xs.map f++sp)):=set_get hi
  have hold:∀ k v,(xs.map f)[k]?=some v->w.cell? ((⟨b,0,none⟩:Addr).add k)=some v:=by
   intro k v hv
   have e1:(⟨b,0,none⟩:Addr).add k=⟨b,k,none⟩:=by
    unfold Addr.add;split
    ·rename_i h;rw[h]
    ·simp
   rw[e1,Hb.cell i hgi k,getElem?_append_left (by simpa using (List.getElem?_eq_some_iff.1 hv).1)];exact hv
  rcases Nat.lt_or_ge sp.length ys.length with hg|hg
  ·exact grow ⟨b,0,none⟩ _ rfl hold hg ⟨_,hi⟩
  ·have hobj:=Hb.obj i hgi
   have hrun:=run_append_room (P:=P) w t ty e inf hr.und hinf b xs.length (xs.length+sp.length) (xs.map f++sp).toArray hobj
    ⟨b2,o2,none⟩ ys.length c' (ys.map f) (by simp[hsz]) hnews (by simpa using λy _=>sg_one (hs y)) (by omega) (by simp[hsz];omega)
   refine⟨_,_,hrun,?_⟩
   have hcells:(((xs.map f++sp).toArray.toList.take (xs.length*inf.size)++ys.map f++(xs.map f++sp).toArray.toList.drop (xs.length*inf.size+(ys.map f).length)).toArray)=((xs++ys).map f++sp.drop ys.length).toArray:=by
    rw[hsz];simp[List.take_append,List.drop_append]
   rw[hcells]
   have H3:Holds (w.setRow b ((xs++ys).map f++sp.drop ys.length).toArray) (L.set i (slb f e (some ⟨b,0,none⟩) (xs++ys) (sp.drop ys.length))):=by
    have:=Hb.upd (w':=w.setRow b ((xs++ys).map f++sp.drop ys.length).toArray) i hgi (o':=.cells ((xs++ys).map f++sp.drop ys.length).toArray e) (setRow_heap w b _ _ e _ hobj) λc hc=>setRow_other w b c _ hc;have h4:=Holds.slb' (f:=f) (e:=e) (b:=b) (xs:=xs++ys) (sp:=sp.drop ys.length) this i (by rw[set_set];exact set_get hi);simpa [set_set] using h4
   have hlen:xs.length+sp.length=xs.length+ys.length+(sp.drop ys.length).length:=by simp;omega
   rw[hlen];exact h _ _ _ ⟨rfl,rfl,rfl,by simp⟩ H3
end
end Go.Vc
namespace Go.Proofs.YtgaiocpkjaaphaaGreatDoor
open Go Go.Vc Tryz
attribute [local irreducible] Vc.Nc Vc.Ld Vc.LdA Vc.St Vc.StA Vc.Fo Vc.Iaa Vc.Ias Vc.Ixs Vc.Ixa Vc.Fd Vc.FdA Vc.Bp Vc.Bb Vc.Bn Vc.Up Vc.Ci Vc.Lns Vc.Lnl Vc.Ex Vc.Sst Vc.Ssl Vc.New Vc.Vif Vc.VJoin Vc.VLoop Vc.KE Vc.Dr Vc.Rk Vc.Cl Vc.Cx Vc.Inv Vc.Be Vc.Cv Vc.Cw Vc.Mf Vc.Sl Vc.Lk Vc.Bd Vc.Bs Vc.Ms Vc.Mm Vc.Mu Vc.Me Vc.Es Vc.Rg Vc.Nx Vc.Ta Vc.Ap Vc.Usd Vc.Ust Vc.Cp Vc.Ln Vc.Bc Vc.Bmin Vc.Bmax Vc.Bdel Vc.Bclr Vc.Pk
namespace P20
open Go.M01 Go.Mb Go.Mp Go.M10 Go.Mc Go.Mz Go.Mk Go.Q20 Go.Q21 Go.Q22
abbrev S_ (B:List UInt8):Value:=.string ⟨B.toArray⟩
abbrev pt (b:Nat):Value:=.pointer (some ⟨b,0,none⟩)
abbrev tB:Nat:=5
abbrev tI:Nat:=3
variable {w:World}{L:List HProp}{K:Value->World->Prop}
theorem sz (t:List UInt8):(⟨t.toArray⟩:ByteArray).size=t.length:=by show t.toArray.size=_;simp
theorem dl (t:List UInt8):(⟨t.toArray⟩:ByteArray).data.toList=t:=by simp
theorem q_len {t:List UInt8}{K:Value->Prop}(h:K (nv t.length)):Lns (S_ t) K:=r_lns (by rw[sz];exact h)
theorem q_ix {t:List UInt8}{k:IntKind}{m:Nat}{K:Value->Prop}(h1:m < t.length) (h:K (bv (t.getD m 0))):Ixs (S_ t) (.int k (m:Int)) K:=r_ixsN (by rw[sz];exact h1) (by rw[dl];exact h)
theorem q_T {t:List UInt8}{k:IntKind}{m:Nat}{K:Value->Prop}(h1:m<=t.length) (h:K (S_ (t.take m))):Sst (S_ t) none (some (.int k (m:Int))) K:=r_sstT (by rw[sz];exact h1) (by rw[dl];exact h)
theorem q_D {t:List UInt8}{k:IntKind}{m:Nat}{K:Value->Prop}(h1:m<=t.length) (h:K (S_ (t.drop m))):Sst (S_ t) (some (.int k (m:Int))) none K:=r_sstD (by rw[sz];exact h1) (by rw[dl];exact h)
theorem q_1 {t:List UInt8}{k k':IntKind}{m:Nat}{K:Value->Prop}(h1:m < t.length) (h:K (S_ [t.getD m 0])):Sst (S_ t) (some (.int k (m:Int))) (some (.int k' ((m+1:Nat):Int))) K:=
 r_sst1 (by rw[sz];exact h1) (by rw[dl];exact h)
theorem q_str (H:Holds w L) (c:UInt8){t e d:TypeId}{z:Value} [hr:Row prog t e z] [hb:Bytes prog t e d] (h:∀ w',Same w w'->Holds w' L->K (S_ [c]) w'):Bs prog t 1 #[(0,bv c)] w λy w2=>Cw prog t d y w2 K:=by
 refine r_bs1 H (by rfl) λb w2 S2 H2=>?_;refine r_cbs (xs:=[c]) (sp:=[]) (oa:=some ⟨b,0,none⟩) ((H2.imp λh hh=>(⟨rfl,rfl,hh⟩:(slb bv e (some ⟨b,0,none⟩) [c] []) h))) 0 rfl rfl ?_;exact h w2 S2 H2.drop
theorem txt_at {l:List Bool}{m:Nat}(h:m < l.length):(txt l).getD m 0=chr (l.getD m false):=txt_getD l m h
theorem q_rem {k:IntKind}{s t:Nat}{K:Value->Prop}(ht:t≠0) (h:K (.int k ((s%t:Nat):Int))):Bp .rem (.int k (s:Int)) (.int k (t:Int)) K:=
 r_bp (v:=.int k ((s%t:Nat):Int)) (by simp only[bp];rw[if_pos ⟨trivial,by omega⟩,Int.tmod_eq_emod_of_nonneg (by omega)];rfl) h
theorem q_quoU32 {s t:Nat}{K:Value->Prop}(hs:s < 4294967296) (ht:t≠0) (h:K (uv (s/t))):Bp .quo (uv s) (uv t) K:=
 r_bp (v:=uv (s/t)) (by
  have h1:s/t<=s:=Nat.div_le_self _ _;simp only[bp];rw[if_pos ⟨trivial,by omega⟩,Int.tdiv_eq_ediv_of_nonneg (by omega),wrapU32 (Int.ediv_nonneg (by omega) (by omega)) (by rw[<-Int.natCast_ediv];omega)]
  rfl) h
theorem Field_spec {v n:Nat}(hn:n<=64) (hv:v < 4294967296) (k:K (S_ (txt (bitsOf v n))) w):Cl prog 51 #[uv v,nv n] w K:=by
 refine Tz51 ?_;unfold Vz51;refine r_loop3 (λx s i w'=>∃ j:Nat,j<=n/\i=nv j/\x=uv (v/2^j)/\s=S_ (txt (bitsOf v j))/\w=w') (λ_ _ i _=>n - (RowKit.intOf i).toNat) ⟨0,by omega,rfl,by simp,rfl,rfl⟩ ?_;rintro _ _ _ _ _ ⟨j,hj,rfl,rfl,rfl,rfl⟩;have hd:v/2^j < 4294967296:=Nat.lt_of_le_of_lt (Nat.div_le_self _ _) hv
 repeat (refine r_lss ?_)
 refine r_ifD (λh=>?_) λh=>?_
 ·have h2:v/2^j%2=(v.testBit j).toNat:=by have:=bit_at v j;rwa [Nat.and_one_is_mod] at this
  have hb:=Bool.toNat_le (v.testBit j);refine q_rem (t:=2) (by decide) (q_rem (t:=2) (by decide) ?_);rw[h2];refine r_addU32 (t:=1) (by omega) ?_;refine q_1 (t:=[48,49]) (by simp;omega) ?_
  have e:[48,49].getD (v.testBit j).toNat 0=chr (v.testBit j):=by cases v.testBit j <;> rfl
  rw[e];refine r_catL (by simp[txt_len,bitsOf_len];omega) ?_;refine q_quoU32 (t:=2) hd (by decide) ?_
  repeat (first|refine r_ke ?_|(refine r_add1N (by omega) ?_))
  refine⟨⟨j+1,by omega,rfl,by rw[Nat.div_div_eq_div_mul,Nat.pow_succ],by rw[bitsOf_succ];rfl,rfl⟩,?_⟩;simp[nv,RowKit.intOf];omega
 ·obtain rfl:j=n:=by omega
  exact k
theorem Bits_spec {s:List UInt8}(hs:s.length<=1000000) (k:K (S_ (txt (bitsL s))) w):Cl prog 29 #[S_ s] w K:=by
 refine Tz29 ?_;unfold Vz29;refine r_loop2 (λo i w'=>∃ j:Nat,j<=s.length/\i=nv j/\o=S_ (txt (bitsL (s.take j)))/\w=w') (λ_ i _=>s.length - (RowKit.intOf i).toNat) ⟨0,by omega,rfl,rfl,rfl⟩ ?_;rintro _ _ _ _ ⟨j,hj,rfl,rfl,rfl⟩;refine q_len ?_
 repeat (refine r_lss ?_)
 refine r_ifD (λh=>?_) λh=>?_
 ·have hlt:j < s.length:=by omega
  refine q_ix hlt ?_;have hc:=(s.getD j 0).toNat_lt
  repeat (refine r_ciu32 (by omega) (by omega) ?_)
  refine Field_spec (n:=8) (by decide) (by omega) ?_;refine r_catL (by have:=bitsL_len (s.take j);simp[txt_len,bitsOf_len,this];omega) ?_
  repeat (first|refine r_ke ?_|(refine r_add1N (by omega) ?_))
  refine⟨⟨j+1,by omega,rfl,?_,rfl⟩,?_⟩
  ·have hg:s[j]?=some (s.getD j 0):=by rw[getD_eq_getElem?_getD,getElem?_eq_getElem hlt];rfl
   rw[take_snoc hg,bitsL_app,txt_app];simp[bitsL]
  ·simp[nv,RowKit.intOf];omega
 ·obtain rfl:j=s.length:=by omega
  rw[take_length];exact k
theorem Number_spec {l:List Bool}(hl:l.length<=32) (k:K (uv (valB l)) w):Cl prog 79 #[S_ (txt l)] w K:=by
 refine Tz79 ?_;unfold Vz79;refine r_loop2 (λx i w'=>∃ j:Nat,j<=l.length/\i=nv j/\x=uv (valB (l.take j))/\w=w') (λ_ i _=>l.length - (RowKit.intOf i).toNat) ⟨0,by omega,rfl,rfl,rfl⟩ ?_;rintro _ _ _ _ ⟨j,hj,rfl,rfl,rfl⟩;refine q_len ?_;rw[txt_len]
 repeat (refine r_lss ?_)
 refine r_ifD (λh=>?_) λh=>?_
 ·have hlt:j < l.length:=by omega
  have hv:=valB_take_lt l j;have hp:(2:Nat)^j<=2^31:=Nat.pow_le_pow_right (by omega) (by omega);have hx:=valB_take_succ hlt;have hx2:=valB_take_lt l (j+1);have hp2:(2:Nat)^(j+1)<=2^32:=Nat.pow_le_pow_right (by omega) (by omega);refine r_mulU32 (s:=2) (by omega) ?_;refine q_ix (by rw[txt_len];exact hlt) ?_;rw[txt_at hlt]
  have ec:(chr (l.getD j false)).toNat=48+(l.getD j false).toNat:=by cases l.getD j false <;> rfl
  rw[show bv (chr (l.getD j false))=.int .u8 ((48+(l.getD j false).toNat:Nat):Int) by rw[<-ec]];have hb:=Bool.toNat_le (l.getD j false);refine r_subU8 (t:=48) (by omega) (by omega) ?_;rw[Nat.add_sub_cancel_left];refine r_ciu32 (by omega) (by omega) ?_;refine r_addU32 (by omega) ?_;rw[<-hx]
  repeat (first|refine r_ke ?_|(refine r_add1N (by omega) ?_))
  refine⟨⟨j+1,by omega,rfl,rfl,rfl⟩,?_⟩;simp[nv,RowKit.intOf];omega
 ·obtain rfl:j=l.length:=by omega
  rw[take_length];exact k
theorem There_spec {s:List UInt8}{b:Nat}(hs:s.length<=1000000) (hb:b < 256) (k:K (.bool (decide (UInt8.ofNat b∈s))) w):Cl prog 104 #[S_ s,nv b] w K:=by
 refine Tz104 ?_;unfold Vz104;refine r_loop1 (λi w'=>∃ j:Nat,j<=s.length/\i=nv j/\UInt8.ofNat b∉s.take j/\w=w') (λi _=>s.length - (RowKit.intOf i).toNat) ⟨0,by omega,rfl,by simp,rfl⟩ ?_;rintro _ _ _ ⟨j,hj,rfl,hno,rfl⟩;refine q_len ?_
 repeat (refine r_lss ?_)
 refine r_ifD (λh=>?_) λh=>?_
 ·have hlt:j < s.length:=by omega
  have hg:s[j]?=some (s.getD j 0):=by rw[getD_eq_getElem?_getD,getElem?_eq_getElem hlt];rfl
  refine q_ix hlt ?_;have hc:=(s.getD j 0).toNat_lt
  repeat (first|refine r_eql ?_|(refine r_ci64 (by omega) (by omega) ?_))
  refine r_ifE (λh2=>?_) λh2=>?_
  ·have hm:UInt8.ofNat b∈s:=by
    have:s.getD j 0=UInt8.ofNat b:=by
     apply UInt8.toNat_inj.1;rw[UInt8.toNat_ofNat_of_lt' (by simpa using hb)];omega
    rw[<-this];exact List.mem_of_getElem? hg
   rw[decide_eq_true hm] at k;exact k
  ·repeat (first|refine r_ke ?_|(refine r_add1N (by omega) ?_))
   refine⟨⟨j+1,by omega,rfl,?_,rfl⟩,?_⟩
   ·rw[take_snoc hg];intro hm;rcases mem_append.1 hm with h3|h3
    ·exact hno h3
    ·rw[List.mem_singleton] at h3;have:=congrArg UInt8.toNat h3;rw[UInt8.toNat_ofNat_of_lt' (by simpa using hb)] at this;omega
   ·simp[nv,RowKit.intOf];omega
 ·obtain rfl:j=s.length:=by omega
  rw[take_length] at hno;rw[decide_eq_false hno] at k;exact k
theorem bv_nat {j:Nat}(h:j < 256):(Value.int .u8 (j:Int))=bv (UInt8.ofNat j):=by
 show _=Value.int .u8 ((UInt8.ofNat j).toNat:Int);rw[UInt8.toNat_ofNat_of_lt' (by simpa using h)]
theorem Symbols_spec {s:List UInt8}(H:Holds w L) (hs:s.length<=1000000) (k:∀ w',Same w w'->Holds w' L->K (S_ (listed λb=>decide (UInt8.ofNat b∈s))) w'):Cl prog 48 #[S_ s] w K:=by
 refine Tz48 ?_;unfold Vz48;refine r_loop2 (λo i w'=>∃ j:Nat,j<=256/\i=nv j/\o=S_ (below (λb=>decide (UInt8.ofNat b∈s)) j)/\Same w w'/\Holds w' L) (λ_ i _=>256 - (RowKit.intOf i).toNat) ⟨0,by omega,rfl,rfl,.refl w,H⟩ ?_;clear H;rintro _ _ _ w1 ⟨j,hj,rfl,rfl,S,H⟩
 repeat (refine r_lss ?_)
 refine r_ifD (λh=>?_) λh=>?_
 ·have hlt:j < 256:=by omega
  have hbl:=below_len (λb=>decide (UInt8.ofNat b∈s)) j;refine There_spec hs hlt ?_;refine r_vif (λh2=>?_) λh2=>?_
  ·repeat (refine r_ciu8 (by omega) (by omega) ?_)
   rw[bv_nat hlt];refine q_str H (UInt8.ofNat j) λw2 S2 H2=>?_;refine r_catL (by simp;omega) ?_
   repeat (first|refine r_ke ?_|(refine r_add1N (by omega) ?_))
   refine⟨⟨j+1,by omega,rfl,?_,S.trans S2,H2⟩,?_⟩
   ·rw[below_succ,if_pos h2]
   ·simp[nv,RowKit.intOf];omega
  ·repeat (first|refine r_ke ?_|(refine r_add1N (by omega) ?_))
   refine⟨⟨j+1,by omega,rfl,?_,S,H⟩,?_⟩
   ·rw[below_succ,if_neg (by rw[h2];simp),append_nil]
   ·simp[nv,RowKit.intOf];omega
 ·obtain rfl:j=256:=by omega
  exact k _ S H
theorem Is_spec {T:Nat->Bool}(H:Holds w L) (hne:listed T≠[]) (k:∀ w',Same w w'->Holds w' L->K (.bool true) w'):Cl prog 105 #[S_ (listed T)] w K:=by
 refine Tz105 ?_;unfold Vz105;have hl:=listed_len T;have h0:0 < (listed T).length:=length_pos_iff.2 hne;refine q_len ?_
 repeat (first|refine r_gtr ?_|((with_reducible refine r_vtD ?h ?_);(case h=>omega)))
 refine Symbols_spec H (by omega) λw2 S2 H2=>?_;rw[listed_listed];refine r_seqL ?_;rw[decide_eq_true rfl];exact k _ S2 H2
theorem Touch_spec {o:List UInt8}{i:Nat}(H:Holds w L) (ho:o.length<=1000000) (hi:i < o.length) (k:∀ w',Same w w'->Holds w' L->K (S_ (frontB o i)) w'):Cl prog 107 #[S_ o,nv i] w K:=by
 refine Tz107 ?_;unfold Vz107;have S:=Same.refl w
 repeat (first|(refine r_add1N (by omega) ?_)|(refine r_dr H ?_;clear H;intro _ S_ H;replace S:=S.trans S_;clear S_))
 refine q_1 hi ?_;refine q_T (by omega) ?_;refine r_catL (by simp;omega) ?_
 repeat (refine r_add1N (by omega) ?_)
 refine q_D (by omega) ?_;refine r_catL (by simp;omega) ?_;exact k _ S H
end P20
namespace P20
open Go.M01 Go.Mb Go.Me Go.M03 Go.M3d P35
variable {w:World}{L:List HProp}{K:Value->World->Prop}
abbrev tPc:Nat:=86
def Fpc (x:UInt8 × Nat):List Value:=[bv x.1,nv x.2]
theorem Fpc_sg:∀ y:UInt8 × Nat,∀ u∈Fpc y,sg u=true:=by
 intro y u hu;simp only[Fpc,mem_cons,List.not_mem_nil,or_false] at hu
 rcases hu with rfl|rfl <;> rfl
theorem pc_zero:(zeroP prog tPc).cells.toList=[.int .u8 0,iv 0]:=by kernel_rfl
instance rowPc:RowN prog 83 tPc 2:=⟨by kernel_rfl,⟨t86,.agg #[.int .u8 0,iv 0],by kernel_rfl,by kernel_rfl,by decide,by kernel_rfl,by kernel_rfl⟩⟩
theorem row_spec {s:List UInt8}(H:Holds w L) (h0:s≠[]) (hl:s.length<=1000000) (k:∀ n w',RunIs s n->Same w w'->Holds w' L->K (nv n) w'):Cl prog 113 #[S_ s] w K:=by
 refine Tz113 ?_;unfold Vz113;have hpos:=length_pos_iff.2 h0;refine r_loop1n (λj x w'=>∃ n,j=255 - n/\x=nv n/\n<=s.length/\n<=255/\s.take n=List.replicate n (s.getD 0 0)/\Same w w'/\Holds w' L) 255 ⟨0,rfl,rfl,by omega,by omega,rfl,.refl _,H⟩ ?_;clear H;rintro _ j _ w1 _ ⟨n,rfl,rfl,hn,h255,ht,S1,H1⟩ hgo;refine r_join1 (λt w'=>t=.bool (decide (n < s.length/\n < 255/\s.getD n 0=s.getD 0 0))/\Same w1 w'/\Holds w' L) ?_ ?_
 rotate_left
 ·refine r_dr H1 λw3 S3 H3=>?_;refine q_len (r_lss (r_ifD (λh1=>?_) λh1=>r_ke ⟨by rw[decide_eq_false (by omega)],S3,H3⟩));refine r_lss (r_ifD (λh2=>?_) λh2=>r_ke ⟨by rw[decide_eq_false (by omega)],S3,H3⟩);refine q_ix (by omega) (q_ix (m:=0) (by omega) ?_);refine r_eql (r_ke ⟨?_,S3,H3⟩)
  congr 1
  rw[Bool.eq_iff_iff,beq_iff_eq,decide_eq_true_iff]
  constructor
  ·intro e;exact⟨by omega,by omega,UInt8.toNat_inj.1 (by omega)⟩
  ·rintro⟨_,_,e⟩;rw[e]
 rintro _ _ w2 ⟨rfl,S2,H2⟩;refine r_ifD (λh=>?_) λh=>?_
 ·refine r_add1N (by omega) (r_ke (hgo (255 - (n+1)) _ _ (by omega) ⟨n+1,rfl,rfl,by omega,by omega,?_,S1.trans S2,H2⟩));rw[take_add_one,getElem?_eq_getElem h.1,ht,List.replicate_succ'];have:=h.2.2;rw[getD_eq_getElem?_getD,getElem?_eq_getElem h.1] at this;simp only[Option.getD_some] at this;rw[this];rfl
 ·refine k n _ ⟨?_,hn,h255,ht,λh4=>?_⟩ (S1.trans S2) H2
  ·rcases Nat.eq_zero_or_pos n with e|e
   ·subst e;exact absurd ⟨hpos,by omega,rfl⟩ h
   ·exact e
  ·by_cases q:n < s.length
   ·right;intro e;refine h ⟨q,by omega,?_⟩;rw[<-e,getD_eq_getElem?_getD,getD_eq_getElem?_getD,getElem?_drop,Nat.add_zero]
   ·exact .inl (drop_of_length_le (by omega))
theorem Pieces_spec {s:List UInt8}(H:Holds w L) (hl:s.length<=1000000) (k:∀ v ps w',Pcs s ps->Same w w'->Holds w' (RW Fpc 2 tPc v ps::L)->K v w'):Cl prog 54 #[S_ s] w K:=by
 refine Tz54 ?_;unfold Vz54
 refine r_loop2n (λj x y w'=>∃ t ps0,j=t.length/\x=S_ t/\t.length+ps0.length<=s.length/\(∀ ps,Pcs t ps->Pcs s (ps0++ps))/\Same w w'/\Holds w' (RW Fpc 2 tPc y ps0::L)) s.length
  ⟨s,[],rfl,rfl,by simp,λps hp=>hp,.refl _,H.nilRW _ _ _⟩ ?_
 clear H;rintro _ j _ y w1 _ ⟨t,ps0,rfl,rfl,hlen,hcons,S1,H1⟩ hgo;refine q_len (r_gtr (r_ifD (λh=>?_) λh=>?_))
 ·have h0:t≠[]:=length_pos_iff.1 (by omega);refine row_spec H1 h0 (by omega) λn w2 hn S2 H2=>?_;have hp:=hn.pos;have hle:=hn.le;refine q_ix (m:=0) (by omega) ?_;refine r_bd (v:=.agg #[bv (t.getD 0 0),nv n]) (by kernel_rfl) ?_;refine r_appN H2 0 (t.getD 0 0,n) rfl (by kernel_rfl) (λy=>rfl) Fpc_sg (by omega) (by decide) λv' w3 S3 H3=>?_;replace H3:Holds w3 (RW Fpc 2 tPc v' (ps0++[(t.getD 0 0,n)])::L):=H3;refine q_D hle (r_ke (hgo (t.drop n).length _ _ _ (by rw[length_drop];omega) ⟨t.drop n,ps0++[(t.getD 0 0,n)],rfl,rfl,by rw[length_drop,length_append,List.length_singleton];omega,λps hp=>?_,S1.trans (S2.trans S3),H3⟩));rw[append_assoc];exact hcons _ (.cons hn hp)
 ·obtain rfl:t=[]:=List.eq_nil_of_length_eq_zero (by omega);have:=hcons [] .nil;rw[append_nil] at this;exact k y ps0 _ this S1 H1
theorem Piece_spec {x:UInt8 × Nat}(H:Holds w L) (h:1<=x.2/\x.2<=255) (k:∀ w',Same w w'->Holds w' L->K (S_ (pieceB x)) w'):Cl prog 55 #[.agg (Fpc x).toArray] w K:=by
 refine Tz55 ?_;unfold Vz55;obtain⟨a,n⟩:=x;simp only at h;refine r_new H λb w1 S1 H1=>?_;replace H1:Holds w1 (blk b tPc [bv a,nv n]::L):=H1;refine r_fo0 (r_ld 0 H1 rfl rfl ?_);refine r_loop2n (λj s y w'=>∃ i,j=n - i/\i<=n/\s=S_ (List.replicate (min i 4) a)/\y=nv i/\Same w w'/\Holds w' (blk b tPc [bv a,nv n]::L)) n ⟨0,rfl,Nat.zero_le _,rfl,rfl,S1,H1⟩ ?_;clear H H1 S1;rintro _ j _ _ w2 _ ⟨i,rfl,hi,rfl,rfl,S2,H2⟩ hgo;refine r_lss (r_ifD (λh1=>?_) λh1=>?_)
 ·refine r_lss (r_ifD (λh2=>?_) λh2=>?_)
  ·refine r_fo0 (r_ld 0 H2 rfl rfl ?_);refine q_str H2 a λw3 S3 H3=>?_;refine r_catL (by simp;omega) ?_;refine r_add1N (by omega) (r_ke (hgo (n - (i+1)) _ _ _ (by omega) ⟨i+1,rfl,by omega,?_,rfl,S2.trans S3,H3⟩));rw[show min (i+1) 4=min i 4+1 by omega,List.replicate_succ']
  ·refine r_add1N (by omega) (r_ke (hgo (n - (i+1)) _ _ _ (by omega) ⟨i+1,rfl,by omega,?_,rfl,S2,H2⟩));rw[show min (i+1) 4=min i 4 by omega]
 ·obtain rfl:i=n:=by omega
  refine r_fo0 (r_ld 0 H2 rfl rfl ?_);refine r_geq (r_ifD (λh4=>?_) λh4=>?_)
  ·refine r_fo0 (r_ld 0 H2 rfl rfl ?_);refine r_sub (by omega) (by omega) ?_;refine r_ciu8 (by omega) (by omega) ?_
   have e:((i:Nat):Int) - 4=(((UInt8.ofNat (i - 4)).toNat:Nat):Int):=by
    simp only[UInt8.toNat_ofNat'];rw[Nat.mod_eq_of_lt (by omega)];omega
   rw[e];refine q_str H2 (UInt8.ofNat (i - 4)) λw3 S3 H3=>?_;refine r_catL (by simp;omega) ?_;have:=k w3 (S2.trans S3) H3.drop;unfold pieceB at this;simp only at this;rw[if_pos (by omega)] at this;exact this
  ·have:=k w2 S2 H2.drop;unfold pieceB at this;simp only at this;rw[if_neg (by omega),append_nil] at this;exact this
theorem encB_len:∀ ps:List (UInt8 × Nat),(encB ps).length<=5*ps.length
 |[]=>Nat.zero_le _
 |x::ps=>by
  have h1:=encB_len ps;have h2:=pieceB_len x;unfold encB at h1 ⊢;rw[List.flatMap_cons,length_append,length_cons];omega
theorem Encode_spec {s:List UInt8}(H:Holds w L) (hl:s.length<=1000000) (k:∀ ps w',Pcs s ps->Same w w'->Holds w' L->K (S_ (encB ps)) w'):Cl prog 19 #[S_ s] w K:=by
 refine Tz19 ?_;unfold Vz19;refine Pieces_spec H hl λv ps w1 hp S1 H1=>?_;have hpl:=hp.len;refine r_lnN 0 H1 rfl ?_;refine r_loop2n (λj o y w'=>∃ i,j=ps.length - i/\i<=ps.length/\o=S_ (encB (ps.take i))/\y=nv i/\Same w w'/\Holds w' (RW Fpc 2 tPc v ps::L)) ps.length ⟨0,rfl,Nat.zero_le _,rfl,rfl,S1,H1⟩ ?_;clear H H1 S1;rintro _ j _ _ w2 _ ⟨i,rfl,hi,rfl,rfl,S2,H2⟩ hgo;refine r_lss (r_ifD (λh1=>?_) λh1=>?_)
 ·have hlt:i < ps.length:=by omega
  have hx:ps[i]?=some ps[i]:=getElem?_eq_getElem hlt
  have he:ps.take (i+1)=ps.take i++[ps[i]]:=by rw[take_add_one,hx];rfl
  have hok:=hp.ok _ (getElem_mem hlt);generalize ps[i]=x at *;refine r_getN 0 H2 rfl hx (λ_=>rfl) ?_;refine r_new H2 λb w3 S3 H3=>?_;rw[pc_zero] at H3;refine r_stA 0 H3 (vs:=Fpc x) rfl (Nat.le_refl 2) rfl rfl λw4 S4 H4=>?_;replace H4:Holds w4 (blk b tPc (Fpc x)::RW Fpc 2 tPc v ps::L):=H4;refine r_ldA 0 H4 (Fpc x) rfl rfl rfl ?_;refine Piece_spec H4 hok λw5 S5 H5=>?_;have h5:=encB_len (ps.take i);have h6:=pieceB_len x;rw[length_take] at h5;refine r_catL (by omega) ?_;refine r_add1N (by omega) (r_ke (hgo (ps.length - (i+1)) _ _ _ (by omega) ⟨i+1,rfl,by omega,?_,rfl,S2.trans (S3.trans (S4.trans S5)),H5.drop⟩));rw[he,encB_snoc]
 ·obtain rfl:i=ps.length:=by omega
  rw[take_length];exact k ps _ hp S2 H2.drop
end P20
namespace S16
open Go.Mr Go.M18
variable {w:World}{L:List HProp}{K:Value->World->Prop}{b n:Nat}{s:List UInt8}{x:SS}
section
variable {α:Type}{P:Program}
theorem RW_pop (i:Nat) (H:Holds w L){F:α->List Value}{k:Nat}{e:TypeId}{v:Value}{ys:List α}{p:α}(hF:∀ y,(F y).length=k) (hi:L[i]?=some (RW F k e v (ys++[p]))) :
  ∃ oa c,v=.slice oa (ys.length+1) c/\ys.length+1<=c/\Holds w (L.set i (RW F k e (.slice oa ys.length c) ys)):=by
 obtain⟨oa,m,sp,rfl,H1⟩:=H.openRW i hi;refine⟨oa,(ys++[p]).length+m,by rw[length_append,List.length_singleton],by rw[length_append,List.length_singleton];omega,?_⟩
 have h2:=H1.at i (set_get hi) (Q:=RW F k e (.slice oa ys.length ((ys++[p]).length+m)) ys) λg hg=>by
  refine⟨oa,m+1,F p++sp,by rw[length_append,List.length_singleton,show ys.length+1+m=ys.length+(m+1) by omega],?_⟩
  cases oa with
  |none=>
   obtain⟨h,_⟩:=hg;simp at h
  |some a=>
   obtain⟨h1,h2,h3,h4⟩:=hg;refine⟨h1,h2,by rw[length_append,hF,h3,Nat.add_mul];omega,?_⟩;rw[flatL_app] at h4
   have e1:flatL F [p]=F p:=by simp[flatL]
   rw[e1,append_assoc] at h4;exact h4
 rw[set_set] at h2;exact h2
theorem r_fldN (i:Nat) (H:Holds w L){F:α->List Value}{k:Nat}{e:TypeId}{v:Value}{xs:List α}{q j:Nat}{kk:IntKind}{y:α}{u:Value}{K:Value->Prop}(hi:L[i]?=some (RW F k e v xs)) (hx:xs[q]?=some y) (hF:∀ y,(F y).length=k)
  (hj:(F y)[j]?=some u) (h:K u):Ias k v (.int kk (q:Int)) λp=>Fo j p λz=>Ld z w K:=by
 have hlt:q < xs.length:=(List.getElem?_eq_some_iff.1 hx).1;obtain⟨oa,m,sp,rfl,H1⟩:=H.openRW i hi;obtain⟨bb,rfl,hsp,Hb⟩:=H1.rwb i (set_get hi) (.inl (by omega));refine r_ias0 hlt (r_fo ?_);refine r_ld i Hb (set_get (set_get hi)) ?_ h;have h1:=flatL_get hF xs q y hx
 have hjk:j < k:=by rw[<-hF y];exact (List.getElem?_eq_some_iff.1 hj).1
 have hlen:=flatL_len (k:=k) hF xs
 have hq:q*k+k<=xs.length*k:=by
  have:(q+1)*k<=xs.length*k:=Nat.mul_le_mul_right _ (by omega);rw[Nat.add_mul,Nat.one_mul] at this;exact this
 rw[getElem?_append_left (by omega),<-hj,<-h1,getElem?_take_of_lt hjk,getElem?_drop]
end
abbrev tSo:Nat:=250
abbrev tPt:Nat:=248
abbrev tK:Nat:=51
instance rowPt:RowN prog 246 tPt 3:=⟨by kernel_rfl,⟨t248,.agg #[iv 0,iv 0,iv 0],by kernel_rfl,by kernel_rfl,by decide,by kernel_rfl,by kernel_rfl⟩⟩
abbrev St_ (s:List UInt8):Value:=.string ⟨s.toArray⟩
def Fp (p:Pt):List Value:=[nv p.lo,nv p.mid,nv p.hi]
theorem Fp_sg:∀ y:Pt,∀ u∈Fp y,sg u=true:=by
 intro y u hu;unfold Fp at hu;rcases mem_cons.1 hu with rfl|hu
 ·rfl
 rcases mem_cons.1 hu with rfl|hu
 ·rfl
 rw[List.mem_singleton.1 hu];rfl
def soC (s:List UInt8) (ov cv av kv:Value) (x:SS) (n:Nat):List Value:=[St_ s,ov,cv,av,nv x.reach,kv,nv x.merge.lo,nv x.merge.mid,nv x.merge.hi,nv x.laid,nv x.first,nv x.second,nv x.ranked,nv x.last,nv n,.bool x.done]
def soL (b:Nat) (s:List UInt8) (ov cv av kv:Value) (x:SS) (n:Nat):List HProp:=[blk b tSo (soC s ov cv av kv x n),SL nv tI ov x.order,SL nv tI cv x.cls,SL nv tI av x.aside,RW Fp 3 tPt kv x.stack.reverse]
def SoR (b:Nat) (s:List UInt8) (x:SS) (n:Nat):HProp:=λh=>∃ ov cv av kv,Sat (soL b s ov cv av kv x n) h
theorem SoR_open (H:Holds w (SoR b s x n::L)):∃ ov cv av kv,Holds w (soL b s ov cv av kv x n++L):=by
 obtain⟨ov,H⟩:=Holds.ex H;obtain⟨cv,H⟩:=Holds.ex H;obtain⟨av,H⟩:=Holds.ex H;obtain⟨kv,H⟩:=Holds.ex H;exact⟨ov,cv,av,kv,Holds.unpack H⟩
theorem SoR_close {ov cv av kv:Value}(H:Holds w (soL b s ov cv av kv x n++L)):Holds w (SoR b s x n::L):=Holds.imp (Holds.pack H) λ_ hh=>⟨ov,cv,av,kv,hh⟩
structure Sz (s:List UInt8) (x:SS):Prop where
 len:s.length<=4000
 cl:x.cls.length=s.length
 al:x.aside.length=s.length
 ol:x.order.length=s.length
 reach:x.reach<=8000
theorem key_spec {ov cv av kv:Value}{a:Nat}(H:Holds w (soL b s ov cv av kv x n++L)) (hz:Sz s x) (ha:a < s.length)
  (k:∀ w',Same w w'->Holds w' (soL b s ov cv av kv x n++L)->K (.agg #[nv (keyS s x a).1,nv (keyS s x a).2]) w'):Cl prog 269 #[pt b,nv a] w K:=by
 refine Tz269 ?_;unfold Vz269;have hlen:=hz.len;have hcl:=hz.cl;have hre:=hz.reach
 have hzz:(zeroP prog tK).cells.toList=[iv 0,iv 0]:=by kernel_rfl
 have hsz:(⟨s.toArray⟩:ByteArray).size=s.length:=by simp[ByteArray.size]
 refine r_new H λkb w1 S1 H1=>?_;rw[hzz] at H1;refine r_nc (r_fo0 (r_ld 1 H1 rfl rfl ?_));refine r_eql (r_ifE (λh=>?_) λh=>?_)
 ·refine r_nc (r_fo0 (r_ld 1 H1 rfl rfl ?_));refine r_ixsN (by rw[hsz];exact ha) ?_;have hc:((⟨s.toArray⟩:ByteArray).data.toList.getD a 0).toNat < 256:=UInt8.toNat_lt _;refine r_ci64 (by omega) (by omega) ?_
  have ek:keyS s x a=((s.getD a 0).toNat,0):=by unfold keyS;rw[if_pos (by omega)]
  rw[ek] at k;refine r_bd (v:=.agg #[nv (s.getD a 0).toNat,nv 0]) (by kernel_rfl) ?_;refine r_stA 0 H1 (vs:=[nv (s.getD a 0).toNat,nv 0]) rfl (by decide) rfl rfl λw2 S2 H2=>?_;refine r_ldA 0 H2 [nv (s.getD a 0).toNat,nv 0] rfl rfl rfl ?_;exact k _ (S1.trans S2) H2.drop
 ·refine r_dr H1 λw2 S2 H2=>?_;refine r_nc (r_fo0 (r_ld 1 H2 rfl rfl ?_));refine r_getS 3 H2 rfl (getD_at (by omega)) ?_;refine r_nc (r_fo0 (r_ld 1 H2 rfl rfl ?_));refine r_nc (r_fo0 (r_ld 1 H2 rfl rfl ?_));refine r_addN (by omega) ?_;refine r_nc (r_fo0 (r_ld 1 H2 rfl rfl ?_));refine r_lns ?_;rw[hsz];refine r_remE (r:=(((a+x.reach)%s.length:Nat):Int)) (by rw[Int.tmod_eq_emod_of_nonneg (by omega)];rfl) (by omega) ?_;have hm:(a+x.reach)%s.length < s.length:=Nat.mod_lt _ (by omega);refine r_getS 3 H2 rfl (getD_at (i:=(a+x.reach)%s.length) (by omega)) ?_
  have ek:keyS s x a=(x.cls.getD a 0,x.cls.getD ((a+x.reach)%s.length) 0):=by unfold keyS;rw[if_neg (by omega)]
  rw[ek] at k;refine r_bd (v:=.agg #[nv (x.cls.getD a 0),nv (x.cls.getD ((a+x.reach)%s.length) 0)]) (by kernel_rfl) ?_;refine r_stA 0 H2 (vs:=[nv (x.cls.getD a 0),nv (x.cls.getD ((a+x.reach)%s.length) 0)]) rfl (by simp) rfl rfl λw3 S3 H3=>?_;refine r_ldA 0 H3 [nv (x.cls.getD a 0),nv (x.cls.getD ((a+x.reach)%s.length) 0)] rfl rfl rfl ?_;exact k _ (S1.trans (S2.trans S3)) H3.drop
theorem above_spec {ov cv av kv:Value}{a c:Nat}(H:Holds w (soL b s ov cv av kv x n++L)) (hz:Sz s x) (ha:a < s.length) (hc:c < s.length)
  (k:∀ w',Same w w'->Holds w' (soL b s ov cv av kv x n++L)->K (.bool (decide (klt (keyS s x c) (keyS s x a)))) w'):Cl prog 250 #[pt b,nv a,nv c] w K:=by
 refine Tz250 ?_;unfold Vz250
 have hzz:(zeroP prog tK).cells.toList=[iv 0,iv 0]:=by kernel_rfl
 refine key_spec H hz ha λw1 S1 H1=>?_;refine key_spec H1 hz hc λw2 S2 H2=>?_;generalize keyS s x a=p at *;generalize keyS s x c=q at *;refine r_new H2 λkb w3 S3 H3=>?_;rw[hzz] at H3;refine r_new H3 λlb w4 S4 H4=>?_;rw[hzz] at H4;refine r_stA 1 H4 (vs:=[nv p.1,nv p.2]) rfl (by decide) rfl rfl λw5 S5 H5=>?_;refine r_stA 0 H5 (vs:=[nv q.1,nv q.2]) rfl (by decide) rfl rfl λw6 S6 H6=>?_;replace H6:Holds w6 (blk lb tK [nv q.1,nv q.2]::blk kb tK [nv p.1,nv p.2]::(soL b s ov cv av kv x n++L)):=H6;have S:=S1.trans (S2.trans (S3.trans (S4.trans (S5.trans S6))))
 have fin:∀ t:Bool,t=decide (klt q p)->K (.bool t) w6:=λt e=>by rw[e];exact k w6 S H6.drop.drop
 refine r_iaaN (m:=0) (by decide) (r_ld 1 H6 rfl rfl ?_);refine r_iaaN (m:=0) (by decide) (r_ld 0 H6 rfl rfl ?_);refine r_gtr (r_ifD (λh=>?_) λh=>?_)
 ·exact fin true (decide_eq_true (.inl (by omega))).symm
 refine r_iaaN (m:=0) (by decide) (r_ld 1 H6 rfl rfl ?_);refine r_iaaN (m:=0) (by decide) (r_ld 0 H6 rfl rfl ?_);refine r_eql (r_ifE (λh2=>?_) λh2=>?_)
 ·refine r_iaaN (m:=1) (by decide) (r_ld 1 H6 rfl rfl ?_);refine r_iaaN (m:=1) (by decide) (r_ld 0 H6 rfl rfl ?_);refine r_gtr (fin _ ?_);exact decide_eq_decide.2 (by unfold klt;omega)
 ·exact fin false (decide_eq_false (by unfold klt;omega)).symm
theorem join_spec (H:Holds w (SoR b s x n::L)) (hst:x.stack.length<=100000000)
  (k:∀ w',Same w w'->Holds w' (SoR b s (joinS x) n::L)->K (.tuple #[]) w'):Cl prog 222 #[pt b] w K:=by
 refine Tz222 ?_;unfold Vz222;obtain⟨ov,cv,av,kv,H⟩:=SoR_open H;refine r_nc (r_fo0 (r_ld 0 H rfl rfl ?_));refine P35.r_lnN 4 H rfl ?_;rw[length_reverse]
 have hnone:joinS x=x->∀ w',Same w w'->Holds w' (soL b s ov cv av kv x n++L)->K (.tuple #[]) w':=λe w' S' H'=>by
  rw[e] at k;exact k w' S' (SoR_close H')
 cases hs:x.stack with
 |nil=>
  have ej:joinS x=x:=by unfold joinS;rw[hs]
  refine r_sub (by simp) (by simp) ?_;refine r_join1 (λt w'=>w=w'/\t=.bool true) ?_ ?_
  rotate_left
  ·exact r_lss (r_vtD (by simp) (r_ke ⟨rfl,rfl⟩))
  rintro _ _ _ ⟨rfl,rfl⟩;exact r_vt (hnone ej _ (.refl _) H)
 |cons p st=>
  rw[hs] at hst;simp only[length_cons] at hst
  have ej:joinS x=if x.merge.hi=0/\p.mid≠0 then { x with merge:=p,stack:=st,laid:=0,first:=0,second:=p.mid } else x:=by unfold joinS;rw[hs]
  have hrev:x.stack.reverse=st.reverse++[p]:=by rw[hs,reverse_cons]
  have hget:x.stack.reverse[st.length]?=some p:=by rw[hrev,getElem?_append_right (by simp),length_reverse,Nat.sub_self];rfl
  refine r_sub1N (a:=(p::st).length) (by simp) (by simp;omega) ?_;rw[show (p::st).length - 1=st.length by simp];refine r_join1 (λt w'=>w=w'/\t=.bool (decide (¬ (x.merge.hi=0/\p.mid≠0)))) ?_ ?_
  rotate_left
  ·refine r_lss (r_vfD (by omega) ?_);refine r_nc (r_fo (r_fo (r_ld 0 H rfl rfl ?_)));refine r_gtr (r_ifD (λh=>?_) λh=>?_)
   ·exact r_ke ⟨rfl,by rw[decide_eq_true (show ¬ (x.merge.hi=0/\p.mid≠0) from λe=>by omega)]⟩
   ·refine r_nc (r_fo0 (r_ld 0 H rfl rfl ?_));refine r_fldN 4 H rfl hget (λ_=>rfl) (j:=1) rfl ?_;refine r_eql (r_ke ⟨rfl,?_⟩);rw[show (((p.mid:Nat):Int)==0)=decide (¬ (x.merge.hi=0/\p.mid≠0)) from by rw[Bool.eq_iff_iff,beq_iff_eq,decide_eq_true_iff];omega]
  rintro _ _ _ ⟨rfl,rfl⟩;refine r_ifD (λh=>?_) λh=>?_
  ·rw[if_neg h] at ej;exact hnone ej _ (.refl _) H
  ·have h':x.merge.hi=0/\p.mid≠0:=Classical.byContradiction h;rw[if_pos h'] at ej;refine r_nc (r_fo0 (r_ld 0 H rfl rfl ?_));refine P35.r_getN 4 H rfl hget (λ_=>rfl) ?_;refine r_nc (r_fo ?_);refine r_stA 0 H (vs:=Fp p) rfl (by simp[soC]) rfl rfl λw1 S1 H1=>?_
   have H1':Holds w1 (blk b tSo [St_ s,ov,cv,av,nv x.reach,kv,nv p.lo,nv p.mid,nv p.hi,nv x.laid,nv x.first,nv x.second,nv x.ranked,nv x.last,nv n,.bool x.done]::SL nv tI ov x.order::SL nv tI cv x.cls::SL nv tI av x.aside::RW Fp 3 tPt kv (st.reverse++[p])::L):=by
    rw[<-hrev];exact H1
   clear H1;refine r_nc (r_fo0 (r_ld 0 H1' rfl rfl ?_));obtain⟨oa,c,rfl,hc,H2⟩:=RW_pop (F:=Fp) (k:=3) (ys:=st.reverse) (p:=p) 4 H1' (λ_=>rfl) rfl;rw[length_reverse] at hc H2 ⊢;refine r_ssl0 (by omega) ?_;refine r_nc (r_fo0 ?_);refine r_st 0 H2 rfl (by simp) rfl λw3 S3 H3=>?_;refine r_nc (r_fo0 ?_);refine r_st 0 H3 rfl (by simp) rfl λw4 S4 H4=>?_;refine r_nc (r_fo0 ?_);refine r_st 0 H4 rfl (by simp) rfl λw5 S5 H5=>?_;refine r_nc (r_fo (r_fo ?_));replace H5:Holds w5 (blk b tSo [St_ s,ov,cv,av,nv x.reach,.slice oa st.length c,nv p.lo,nv p.mid,nv p.hi,nv 0,nv 0,nv x.second,nv x.ranked,nv x.last,nv n,.bool x.done]::SL nv tI ov x.order::SL nv tI cv x.cls::SL nv tI av x.aside::RW Fp 3 tPt (.slice oa st.length c) st.reverse::L):=H5;refine r_ld 0 H5 rfl rfl ?_;refine r_nc (r_fo0 ?_);refine r_st 0 H5 rfl (by simp) rfl λw6 S6 H6=>?_;rw[ej] at k;exact k _ (S1.trans (S3.trans (S4.trans (S5.trans S6)))) (SoR_close (ov:=ov) (cv:=cv) (av:=av) (kv:=.slice oa st.length c) H6)
theorem lay_spec (H:Holds w (SoR b s x n::L)) (hz:Sz s x) (h1:x.laid < x.aside.length) (h2:x.merge.lo+x.laid < x.order.length)
  (k:∀ w',Same w w'->Holds w' (SoR b s (layS x) n::L)->K (.tuple #[]) w'):Cl prog 223 #[pt b] w K:=by
 refine Tz223 ?_;unfold Vz223;have hlen:=hz.len;have hal:=hz.al;have hol:=hz.ol;obtain⟨ov,cv,av,kv,H⟩:=SoR_open H;refine r_dr H λw1 S1 H1=>?_;refine r_nc (r_fo0 (r_ld 0 H1 rfl rfl ?_));refine r_nc (r_fo0 (r_ld 0 H1 rfl rfl ?_));refine r_nc (r_fo0 (r_ld 0 H1 rfl rfl ?_));refine r_nc (r_fo (r_fo (r_ld 0 H1 rfl rfl ?_)));refine r_nc (r_fo0 (r_ld 0 H1 rfl rfl ?_));refine r_addN (by omega) ?_;refine r_getS 1 H1 rfl (getD_at h2) ?_;refine r_setS 3 H1 (x.order.getD (x.merge.lo+x.laid) 0) rfl h1 rfl λw2 S2 H2=>?_;refine r_nc (r_fo0 (r_ld 0 H2 rfl rfl ?_));refine r_add1N (by omega) ?_;refine r_nc (r_fo0 ?_);refine r_st 0 H2 rfl (by simp[soC]) rfl λw3 S3 H3=>?_;exact k _ (S1.trans (S2.trans S3)) (SoR_close (ov:=ov) (cv:=cv) (av:=av) (kv:=kv) H3)
theorem put_spec (H:Holds w (SoR b s x n::L)) (hz:Sz s x) (hm:x.merge.hi<=s.length/\x.merge.mid<=x.merge.hi/\x.merge.lo<=x.merge.mid/\0 < x.merge.hi) (h1:toS x < s.length) (h2:x.merge.mid<=x.second) (h3:x.second<=x.merge.hi) (h4:x.first<=x.laid) (h5:x.laid<=s.length)
  (h6:x.second=x.merge.hi->x.first < x.laid) (hA:x.first < x.laid->x.aside.getD x.first 0 < s.length) (hO:x.second < x.merge.hi->x.order.getD x.second 0 < s.length)
  (k:∀ w',Same w w'->Holds w' (SoR b s (putS (keyS s x) x) n::L)->K (.tuple #[]) w'):Cl prog 224 #[pt b] w K:=by
 refine Tz224 ?_;unfold Vz224;have hlen:=hz.len;have hal:=hz.al;have hol:=hz.ol
 have hzp:(zeroP prog tPt).cells.toList=[iv 0,iv 0,iv 0]:=by kernel_rfl
 have hto:toS x=x.merge.lo+x.first+x.second - x.merge.mid:=rfl;obtain⟨ov,cv,av,kv,H⟩:=SoR_open H;refine r_nc (r_fo ?_);refine r_ldA 0 H (Fp x.merge) rfl rfl rfl ?_;refine r_new H λmb w1 S1 H1=>?_;rw[hzp] at H1;refine r_stA 0 H1 (vs:=Fp x.merge) rfl (by decide) rfl rfl λw2 S2 H2=>?_;replace H2:Holds w2 (blk mb tPt (Fp x.merge)::(soL b s ov cv av kv x n++L)):=H2;refine r_dr H2 λw3 S3 H3=>?_;have S:=S1.trans (S2.trans S3);clear H H1 H2 S1 S2 S3;refine r_fo0 (r_ld 0 H3 rfl rfl ?_);refine r_nc (r_fo0 (r_ld 1 H3 rfl rfl ?_));refine r_addN (by omega) ?_;refine r_nc (r_fo0 (r_ld 1 H3 rfl rfl ?_));refine r_addN (by omega) ?_;refine r_fo0 (r_ld 0 H3 rfl rfl ?_);refine r_sub (by omega) (by omega) ?_;rw[show (((x.merge.lo+x.first+x.second:Nat):Int)) - (x.merge.mid:Int)=((toS x:Nat):Int) by omega]
 refine r_join0 (λw'=>Same w w'/\∃ (ov cv av kv:Value),Holds w' (blk mb tPt (Fp x.merge)::(soL b s ov cv av kv (moveS (keyS s x) x) n++L))) ?_ ?_
 ·rintro _ w4 ⟨S4,ov,cv,av,kv,H4⟩
  have hmm:(moveS (keyS s x) x).merge=x.merge:=by unfold moveS;split <;> rfl
  refine r_fo0 (r_ld 0 H4 rfl rfl ?_);refine r_sub (by omega) (by omega) ?_;refine r_eql (r_ifE (λh=>?_) λh=>?_)
  ·refine r_bd (v:=.agg (Fp ⟨0,0,0⟩).toArray) (by kernel_rfl) ?_;refine r_nc (r_fo ?_);refine r_stA 1 H4 (vs:=Fp ⟨0,0,0⟩) rfl (by simp[soC]) rfl rfl λw5 S5 H5=>?_
   have e:putS (keyS s x) x={ moveS (keyS s x) x with merge:=⟨0,0,0⟩ }:=by unfold putS;rw[if_pos (by omega)]
   rw[e] at k;exact k _ (S4.trans S5) (SoR_close (ov:=ov) (cv:=cv) (av:=av) (kv:=kv) H5.drop)
  ·have e:putS (keyS s x) x=moveS (keyS s x) x:=by unfold putS;rw[if_neg (by omega)]
   rw[e] at k;exact k _ S4 (SoR_close H4.drop)
 refine r_join1 (λt w'=>Same w w'/\Holds w' (blk mb tPt (Fp x.merge)::(soL b s ov cv av kv x n++L))/\t=.bool (decide (fromA (keyS s x) x))) ?_ ?_
 ·rintro _ _ w4 ⟨S4,H4,rfl⟩;refine r_ifD (λh=>?_) λh=>?_
  ·have hf:x.first < x.laid:=by
    rcases h with h|h
    ·exact h6 h
    ·exact h.1
   refine r_dr H4 λw5 S5 H5=>?_;refine r_nc (r_fo0 (r_ld 1 H5 rfl rfl ?_));refine r_nc (r_fo0 (r_ld 1 H5 rfl rfl ?_));refine r_nc (r_fo0 (r_ld 1 H5 rfl rfl ?_));refine r_getS 4 H5 rfl (getD_at (by omega)) ?_;refine r_setS (j:=toS x) 2 H5 (x.aside.getD x.first 0) rfl (by omega) rfl λw6 S6 H6=>?_;refine r_nc (r_fo0 (r_ld 1 H6 rfl rfl ?_));refine r_add1N (by omega) ?_;refine r_nc (r_fo0 ?_);refine r_st 1 H6 rfl (by simp[soC]) rfl λw7 S7 H7=>?_;refine r_ke ⟨S4.trans (S5.trans (S6.trans S7)),ov,cv,av,kv,?_⟩;unfold moveS;rw[if_pos h];exact H7
  ·have hf:x.second < x.merge.hi:=by
    rcases Nat.lt_or_ge x.second x.merge.hi with g|g
    ·exact g
    ·exact absurd (.inl (by omega)) h
   refine r_dr H4 λw5 S5 H5=>?_;refine r_nc (r_fo0 (r_ld 1 H5 rfl rfl ?_));refine r_nc (r_fo0 (r_ld 1 H5 rfl rfl ?_));refine r_nc (r_fo0 (r_ld 1 H5 rfl rfl ?_));refine r_getS 2 H5 rfl (getD_at (by omega)) ?_;refine r_setS (j:=toS x) 2 H5 (x.order.getD x.second 0) rfl (by omega) rfl λw6 S6 H6=>?_;refine r_nc (r_fo0 (r_ld 1 H6 rfl rfl ?_));refine r_add1N (by omega) ?_;refine r_nc (r_fo0 ?_);refine r_st 1 H6 rfl (by simp[soC]) rfl λw7 S7 H7=>?_;refine r_ke ⟨S4.trans (S5.trans (S6.trans S7)),ov,cv,av,kv,?_⟩;unfold moveS;rw[if_neg h];exact H7
 ·refine r_dr H3 λw4 S4 H4=>?_;refine r_nc (r_fo0 (r_ld 1 H4 rfl rfl ?_));refine r_fo0 (r_ld 0 H4 rfl rfl ?_);refine r_eql (r_ifE (λh=>?_) λh=>?_)
  ·exact r_ke ⟨S.trans S4,H4,by rw[decide_eq_true (.inl (by omega))]⟩
  refine r_nc (r_fo0 (r_ld 1 H4 rfl rfl ?_));refine r_nc (r_fo0 (r_ld 1 H4 rfl rfl ?_));refine r_lss (r_ifD (λh7=>?_) λh7=>?_)
  ·refine r_nc (r_fo0 (r_ld 1 H4 rfl rfl ?_));refine r_nc (r_fo0 (r_ld 1 H4 rfl rfl ?_));refine r_getS 4 H4 rfl (getD_at (by omega)) ?_;refine r_nc (r_fo0 (r_ld 1 H4 rfl rfl ?_));refine r_nc (r_fo0 (r_ld 1 H4 rfl rfl ?_));refine r_getS 2 H4 rfl (getD_at (by omega)) ?_
   have H5:Holds w4 (soL b s ov cv av kv x n++(blk mb tPt (Fp x.merge)::L)):=by have h_:=Holds.ord 6 [1,2,3,4,5,0] H4 rfl;exact h_
   refine above_spec H5 hz (hA (by omega)) (hO (by omega)) λw5 S5 H6=>?_;refine r_not (r_ke ⟨S.trans (S4.trans S5),by have h_:=Holds.ord 6 [5,0,1,2,3,4] H6 rfl;exact h_,?_⟩);rw[show (!decide (klt (keyS s x (x.order.getD x.second 0)) (keyS s x (x.aside.getD x.first 0))))=decide (fromA (keyS s x) x) from ?_];rw[Bool.eq_iff_iff,Bool.not_eq_true',decide_eq_false_iff_not,decide_eq_true_iff];unfold fromA
   constructor
   ·exact λz=>.inr ⟨by omega,z⟩
   ·rintro (z|z)
    ·omega
    ·exact z.2
  ·refine r_ke ⟨S.trans S4,H4,?_⟩
   rw[decide_eq_false (show ¬ fromA (keyS s x) x from λz=>by
    rcases z with z|z
    ·omega
    ·exact h7 (by have:=z.1;omega))]
end S16
namespace S16
open Go.Mr Go.M18
variable {w:World}{L:List HProp}{K:Value->World->Prop}{b n:Nat}{s:List UInt8}{x:SS}
theorem begin_spec (H:Holds w (SoR b s x n::L)) (hz:Sz s x) (hne:x.stack≠[]) (hst:x.stack.length<=100000000) (hp:∀ p∈x.stack,p.lo<=p.hi/\p.hi<=4000)
  (k:∀ w',Same w w'->Holds w' (SoR b s (beginS x) n::L)->K (.tuple #[]) w'):Cl prog 225 #[pt b] w K:=by
 refine Tz225 ?_;unfold Vz225
 have hzp:(zeroP prog tPt).cells.toList=[iv 0,iv 0,iv 0]:=by kernel_rfl
 obtain⟨ov,cv,av,kv,H⟩:=SoR_open H
 cases hs:x.stack with
 |nil=>exact absurd hs hne
 |cons p st=>
  rw[hs] at hst;simp only[length_cons] at hst;have hpb:=hp p (by rw[hs];exact mem_cons_self ..)
  have ej:beginS x=if p.hi - p.lo < 2 then { x with stack:=st } else { x with stack:=⟨p.lo,0,(p.lo+p.hi)/2⟩::⟨(p.lo+p.hi)/2,0,p.hi⟩::⟨p.lo,(p.lo+p.hi)/2,p.hi⟩::st }:=by unfold beginS;rw[hs]
  have hrev:x.stack.reverse=st.reverse++[p]:=by rw[hs,reverse_cons]
  have H0:Holds w (blk b tSo (soC s ov cv av kv x n)::SL nv tI ov x.order::SL nv tI cv x.cls::SL nv tI av x.aside::RW Fp 3 tPt kv (st.reverse++[p])::L):=by rw[<-hrev];exact H
  have hget:(st.reverse++[p])[st.length]?=some p:=by rw[getElem?_append_right (by simp),length_reverse,Nat.sub_self];rfl
  have hll:(st.reverse++[p]).length=st.length+1:=by simp
  clear H;refine r_dr H0 λw1 S1 H1=>?_;refine r_nc (r_fo0 (r_ld 0 H1 rfl rfl ?_));refine r_nc (r_fo0 (r_ld 0 H1 rfl rfl ?_));refine P35.r_lnN 4 H1 rfl ?_;rw[hll];refine r_sub1N (by omega) (by omega) ?_;rw[Nat.add_sub_cancel]
  obtain⟨oa,m,sp,rfl,Ho⟩:=H1.openRW 4 rfl;obtain⟨sb,rfl,hsp,Hb⟩:=Ho.rwb 4 rfl (.inl (by rw[hll];omega));have Hb':Holds w1 (blk b tSo (soC s ov cv av (.slice (some ⟨sb,0,none⟩) (st.reverse++[p]).length ((st.reverse++[p]).length+m)) x n)::SL nv tI ov x.order::SL nv tI cv x.cls::SL nv tI av x.aside::blk sb tPt (flatL Fp (st.reverse++[p])++sp)::L):=Hb
  have hcell:((flatL Fp (st.reverse++[p])++sp).drop (st.length*3)).take 3=Fp p:=by
   have h1:=flatL_get (F:=Fp) (k:=3) (λ_=>rfl) _ _ _ hget;have hlen:=flatL_len (F:=Fp) (k:=3) (λ_=>rfl) (st.reverse++[p]);rw[hll] at hlen;rw[List.drop_append_of_le_length (by omega),List.take_append_of_le_length (by rw[length_drop];omega)];exact h1
  refine r_ias0 (by rw[hll];omega) ?_;refine r_ldA 4 Hb' (Fp p) rfl hcell rfl ?_;refine r_new Hb' λpb w2 S2 H2=>?_;rw[hzp] at H2;refine r_rk (r_ldA 5 H2 (Fp p) rfl hcell rfl rfl) (r_rk (r_lnl (by rw[hll])) (r_rk (r_ld 1 H2 rfl rfl rfl) (r_rk (r_ld 1 H2 rfl rfl rfl) ?_)));refine r_stA 0 H2 (vs:=Fp p) rfl (by decide) rfl rfl λw3 S3 H3=>?_
  have H3':Holds w3 (blk pb tPt (Fp p)::blk b tSo (soC s ov cv av (.slice (some ⟨sb,0,none⟩) (st.length+1) (st.length+1+m)) x n)::SL nv tI ov x.order::SL nv tI cv x.cls::SL nv tI av x.aside::blk sb tPt (flatL Fp (st.reverse++[p])++sp)::L):=by
   have h:Holds w3 (blk pb tPt (Fp p)::blk b tSo (soC s ov cv av (.slice (some ⟨sb,0,none⟩) (st.reverse++[p]).length ((st.reverse++[p]).length+m)) x n)::SL nv tI ov x.order::SL nv tI cv x.cls::SL nv tI av x.aside::blk sb tPt (flatL Fp (st.reverse++[p])++sp)::L):=H3;rw[hll] at h;exact h
  refine r_dr H3' λw4 S4 H4=>?_;have S:=S1.trans (S2.trans (S3.trans S4));clear H0 H1 Ho Hb Hb' H2 H3 H3' S1 S2 S3 S4;refine r_nc (r_fo0 (r_ld 1 H4 rfl rfl ?_));refine r_nc (r_fo0 (r_ld 1 H4 rfl rfl ?_));refine r_lnl ?_;refine r_sub1N (a:=st.length+1) (by omega) (by omega) ?_;rw[Nat.add_sub_cancel];refine r_ssl0 (by omega) ?_;refine r_nc (r_fo0 ?_);refine r_st 1 H4 rfl (by simp[soC]) rfl λw5 S5 H5=>?_
  have H6:Holds w5 (blk pb tPt (Fp p)::blk b tSo (soC s ov cv av (.slice (some ⟨sb,0,none⟩) st.length (st.length+1+m)) x n)::SL nv tI ov x.order::SL nv tI cv x.cls::SL nv tI av x.aside::RW Fp 3 tPt (.slice (some ⟨sb,0,none⟩) st.length (st.length+1+m)) st.reverse::L):=by
   have h:=H5.at 5 rfl (Q:=RW Fp 3 tPt (.slice (some ⟨sb,0,none⟩) st.length (st.length+1+m)) st.reverse) λg hg=>by
    refine⟨some ⟨sb,0,none⟩,m+1,Fp p++sp,by rw[length_reverse,show st.length+1+m=st.length+(m+1) by omega],rfl,rfl,by rw[length_append,hsp];show 3+m*3=_;omega,?_⟩;have hg':blk sb tPt (flatL Fp (st.reverse++[p])++sp) g:=hg;rw[flatL_app,append_assoc] at hg'
    have e1:flatL Fp [p]=Fp p:=by simp[flatL]
    rw[e1] at hg';exact hg'
   exact h
  clear H4 H5;replace S:=S.trans S5;refine r_fo0 (r_ld 0 H6 rfl rfl ?_);refine r_fo0 (r_ld 0 H6 rfl rfl ?_);refine r_sub (by omega) (by omega) ?_;refine r_lss (r_ifD (λh=>?_) λh=>?_)
  ·rw[if_pos (by omega)] at ej;rw[ej] at k;exact k _ S (SoR_close (ov:=ov) (cv:=cv) (av:=av) H6.drop)
  rw[if_neg (by omega)] at ej;rw[ej] at k;refine r_fo0 (r_ld 0 H6 rfl rfl ?_);refine r_fo0 (r_ld 0 H6 rfl rfl ?_);refine r_addN (by omega) ?_;refine r_quo (by omega) (by omega) (by omega) ?_;rw[show ((p.lo+p.hi:Nat):Int)/2=(((p.lo+p.hi)/2:Nat):Int) by omega];generalize (p.lo+p.hi)/2=mid at *;refine r_dr H6 λw7 S7 H7=>?_;refine r_nc (r_fo0 (r_ld 1 H7 rfl rfl ?_));refine r_fo0 (r_ld 0 H7 rfl rfl ?_);refine r_fo0 (r_ld 0 H7 rfl rfl ?_);refine r_bd (v:=.agg (Fp ⟨p.lo,mid,p.hi⟩).toArray) (by kernel_rfl) ?_;refine r_fo0 (r_ld 0 H7 rfl rfl ?_);refine r_bd (v:=.agg (Fp ⟨mid,0,p.hi⟩).toArray) (by kernel_rfl) ?_;refine r_fo0 (r_ld 0 H7 rfl rfl ?_);refine r_bd (v:=.agg (Fp ⟨p.lo,0,mid⟩).toArray) (by kernel_rfl) ?_;refine r_bsK (e:=tPt) (Fp ⟨p.lo,mid,p.hi⟩++Fp ⟨mid,0,p.hi⟩++Fp ⟨p.lo,0,mid⟩) H7 (by kernel_rfl) λnb w8 S8 H8=>?_;refine r_rk (r_ld 2 H8 rfl rfl rfl) ?_;refine r_apN (F:=Fp) (xs:=st.reverse) (ys:=[⟨p.lo,mid,p.hi⟩,⟨mid,0,p.hi⟩,⟨p.lo,0,mid⟩]) H8 6 0 rfl rfl (by omega) rfl rfl (λ_=>rfl) Fp_sg (by simp;omega) (by simp) (by decide) λkv2 w9 S9 H9=>?_;refine r_nc (r_fo0 ?_)
  have hsg:sg kv2=true:=by
   obtain⟨oa2,m2,sp2,rfl,_⟩:=H9.openRW 6 rfl;rfl
  refine r_st 2 H9 rfl (by simp[soC]) hsg λw10 S10 H10=>?_
  have H11:Holds w10 (soL b s ov cv av kv2 { x with stack:=⟨p.lo,0,mid⟩::⟨mid,0,p.hi⟩::⟨p.lo,mid,p.hi⟩::st } n++L):=by
   have h:=H10.drop.drop;unfold soL;simp only[reverse_cons,append_assoc];exact h
  exact k _ (S.trans (S7.trans (S8.trans (S9.trans S10)))) (SoR_close H11)
theorem pass_spec (H:Holds w (SoR b s x n::L)) (hz:Sz s x) (hst:x.stack.length<=100000000) (h0:0 < s.length)
  (k:∀ w',Same w w'->Holds w' (SoR b s (passS s.length x) n::L)->K (.tuple #[]) w'):Cl prog 251 #[pt b] w K:=by
 refine Tz251 ?_;unfold Vz251;have hlen:=hz.len;have hol:=hz.ol;have hre:=hz.reach;obtain⟨ov,cv,av,kv,H⟩:=SoR_open H;refine r_nc (r_fo0 (r_ld 0 H rfl rfl ?_));refine r_nc (r_fo0 (r_ld 0 H rfl rfl ?_))
 have hsg:∀ {v:Value} {l:List Nat} {i:Nat},(soL b s ov cv av kv x n++L)[i]?=some (SL nv tI v l)->sg v=true:=λhi=>by
  obtain⟨oa,sp,rfl,_⟩:=H.open _ hi;rfl
 refine r_nc (r_fo0 ?_);refine r_st 0 H rfl (by simp[soC]) (hsg (i:=3) rfl) λw1 S1 H1=>?_;refine r_nc (r_fo0 ?_);refine r_st 0 H1 rfl (by simp[soC]) (hsg (i:=2) rfl) λw2 S2 H2=>?_;refine r_nc (r_fo0 ?_);refine r_st 0 H2 rfl (by simp[soC]) rfl λw3 S3 H3=>?_
 have H4:Holds w3 (soL b s ov av cv kv { x with cls:=x.aside,aside:=x.cls,ranked:=0 } n++L):=by
  have h_:=Holds.ord 5 [0,1,3,2,4] H3 rfl;exact h_
 have S:=S1.trans (S2.trans S3);clear H H1 H2 H3 S1 S2 S3 hsg;refine r_join1 (λt w'=>Same w w'/\Holds w' (soL b s ov av cv kv { x with cls:=x.aside,aside:=x.cls,ranked:=0 } n++L)/\t=.bool (decide (x.last=s.length - 1\/s.length<=x.reach))) ?_ ?_
 rotate_left
 ·refine r_dr H4 λw4 S4 H5=>?_;refine r_nc (r_fo0 (r_ld 0 H5 rfl rfl ?_));refine r_nc (r_fo0 (r_ld 0 H5 rfl rfl ?_));refine r_lnS 1 H5 rfl ?_;rw[hol];refine r_sub1N (by omega) (by omega) ?_;refine r_eql (r_ifE (λh=>?_) λh=>?_)
  ·have h':((x.last:Nat):Int)=((s.length - 1:Nat):Int):=h;exact r_ke ⟨S.trans S4,H5,by rw[decide_eq_true (.inl (by omega))]⟩
  ·have h':¬ ((x.last:Nat):Int)=((s.length - 1:Nat):Int):=h;refine r_nc (r_fo0 (r_ld 0 H5 rfl rfl ?_));refine r_nc (r_fo0 (r_ld 0 H5 rfl rfl ?_));refine r_lnS 1 H5 rfl ?_;rw[hol];refine r_geq (r_ke ⟨S.trans S4,H5,?_⟩);rw[show decide (((s.length:Nat):Int)<=((x.reach:Nat):Int))=decide (x.last=s.length - 1\/s.length<=x.reach) from decide_eq_decide.2 (by omega)]
 rintro _ _ w4 ⟨S4,H5,rfl⟩;refine r_ifD (λh=>?_) λh=>?_
 ·refine r_nc (r_fo0 ?_);refine r_st 0 H5 rfl (by simp[soC]) rfl λw5 S5 H6=>?_
  have e:passS s.length x={ x with cls:=x.aside,aside:=x.cls,ranked:=0,done:=true }:=by unfold passS;rw[if_pos h]
  rw[e] at k;exact k _ (S4.trans S5) (SoR_close (ov:=ov) (cv:=av) (av:=cv) (kv:=kv) H6)
 ·have e:passS s.length x={ x with cls:=x.aside,aside:=x.cls,ranked:=0,reach:=max 1 (2*x.reach),stack:=⟨0,0,s.length⟩::x.stack }:=by unfold passS;rw[if_neg h]
  rw[e] at k;refine r_nc (r_fo0 (r_ld 0 H5 rfl rfl ?_));refine r_mulE (((2*x.reach:Nat)):Int) (by show 2*((x.reach:Nat):Int)=_;omega) (by omega) (by omega) ?_;refine r_max ?_;rw[show max (1:Int) ((2*x.reach:Nat):Int)=((max 1 (2*x.reach):Nat):Int) by omega];refine r_nc (r_fo0 ?_);refine r_st 0 H5 rfl (by simp[soC]) rfl λw5 S5 H6=>?_;replace H6:Holds w5 (soL b s ov av cv kv { x with cls:=x.aside,aside:=x.cls,ranked:=0,reach:=max 1 (2*x.reach) } n++L):=H6;refine r_dr H6 λw6 S6 H7=>?_;refine r_nc (r_fo0 (r_ld 0 H7 rfl rfl ?_));refine r_nc (r_fo0 (r_ld 0 H7 rfl rfl ?_));refine r_lnS 1 H7 rfl ?_;rw[hol];refine r_bd (v:=.agg (Fp ⟨0,0,s.length⟩).toArray) (by kernel_rfl) ?_;refine r_bsK (e:=tPt) (Fp ⟨0,0,s.length⟩) H7 (by kernel_rfl) λnb w8 S8 H8=>?_;refine r_rk (r_ld 1 H8 rfl rfl rfl) ?_;refine r_apN (F:=Fp) (xs:=x.stack.reverse) (ys:=[⟨0,0,s.length⟩]) H8 5 0 rfl rfl (by omega) rfl rfl (λ_=>rfl) Fp_sg (by rw[length_reverse];simp;omega) (by simp) (by decide) λkv2 w9 S9 H9=>?_;refine r_nc (r_fo0 ?_)
  have hsg:sg kv2=true:=by
   obtain⟨oa2,m2,sp2,rfl,_⟩:=H9.openRW 5 rfl;rfl
  refine r_st 1 H9 rfl (by simp[soC]) hsg λw10 S10 H10=>?_
  have H11:Holds w10 (soL b s ov av cv kv2 { x with cls:=x.aside,aside:=x.cls,ranked:=0,reach:=max 1 (2*x.reach),stack:=⟨0,0,s.length⟩::x.stack } n++L):=by
   have h:=H10.drop;unfold soL;simp only[reverse_cons];exact h
  exact k _ (S4.trans (S5.trans (S6.trans (S8.trans (S9.trans S10))))) (SoR_close H11)
theorem rank_spec (H:Holds w (SoR b s x n::L)) (hz:Sz s x) (hst:x.stack.length<=100000000) (hr:x.ranked < s.length) (hl:0 < x.ranked->x.last<=8000) (hO:∀ a∈x.order,a < s.length)
  (k:∀ w',Same w w'->Holds w' (SoR b s (rankS (keyS s x) s.length x) n::L)->K (.tuple #[]) w'):Cl prog 226 #[pt b] w K:=by
 refine Tz226 ?_;unfold Vz226;have hlen:=hz.len;have hol:=hz.ol;have hal:=hz.al;obtain⟨ov,cv,av,kv,H⟩:=SoR_open H;refine r_nc (r_fo0 (r_ld 0 H rfl rfl ?_));refine r_join0 (λw'=>Same w w'/\Holds w' (soL b s ov cv av kv { x with last:=lastN (keyS s x) x } n++L)) ?_ ?_
 ·rintro _ w1 ⟨S1,H1⟩;refine r_dr H1 λw2 S2 H2=>?_;refine r_nc (r_fo0 (r_ld 0 H2 rfl rfl ?_));refine r_nc (r_fo0 (r_ld 0 H2 rfl rfl ?_));refine r_getS 1 H2 rfl (getD_at (l:=x.order) (i:=x.ranked) (by omega)) ?_;refine r_nc (r_fo0 (r_ld 0 H2 rfl rfl ?_));have hm:=hO _ (getD_mem (l:=x.order) (i:=x.ranked) (by omega));refine r_setS (j:=x.order.getD x.ranked 0) 3 H2 (lastN (keyS s x) x) rfl (by show _ < x.aside.length;omega) rfl λw3 S3 H3=>?_;refine r_nc (r_fo0 (r_ld 0 H3 rfl rfl ?_));refine r_add1N (a:=x.ranked) (by omega) ?_;refine r_nc (r_fo0 ?_);refine r_st 0 H3 rfl (by simp[soC]) rfl λw4 S4 H4=>?_;replace H4:Holds w4 (soL b s ov cv av kv (rank1 (keyS s x) x) n++L):=H4;refine r_dr H4 λw5 S5 H5=>?_;refine r_nc (r_fo0 (r_ld 0 H5 rfl rfl ?_));refine r_nc (r_fo0 (r_ld 0 H5 rfl rfl ?_));refine r_lnS 1 H5 rfl ?_;refine r_eql (r_ifE (λh=>?_) λh=>?_)
  ·have hq:x.ranked+1=s.length:=by
    have h':((x.ranked+1:Nat):Int)=((x.order.length:Nat):Int):=h;omega
   refine pass_spec (SoR_close H5) ⟨hlen,hz.cl,by show (List.set _ _ _).length=_;rw[length_set];exact hal,hol,hz.reach⟩ hst (by omega) λw6 S6 H6=>?_
   have e:rankS (keyS s x) s.length x=passS s.length (rank1 (keyS s x) x):=by unfold rankS;rw[if_pos hq]
   rw[e] at k;exact k _ (S1.trans (S2.trans (S3.trans (S4.trans (S5.trans S6))))) H6
  ·have hq:¬ x.ranked+1=s.length:=by
    have h':¬ ((x.ranked+1:Nat):Int)=((x.order.length:Nat):Int):=h;omega
   have e:rankS (keyS s x) s.length x=rank1 (keyS s x) x:=by unfold rankS;rw[if_neg hq]
   rw[e] at k;exact k _ (S1.trans (S2.trans (S3.trans (S4.trans S5)))) (SoR_close H5)
 ·refine r_eql (r_ifE (λh=>?_) λh=>?_)
  ·refine r_nc (r_fo0 ?_);refine r_st 0 H rfl (by simp[soC]) rfl λw1 S1 H1=>?_;refine r_ke ⟨S1,?_⟩
   have e:lastN (keyS s x) x=0:=by unfold lastN;rw[if_pos (by omega)]
   rw[e];exact H1
  ·refine r_dr H λw1 S1 H1=>?_;refine r_nc (r_fo0 (r_ld 0 H1 rfl rfl ?_));refine r_getS 1 H1 rfl (getD_at (by omega)) ?_;refine r_nc (r_fo0 (r_ld 0 H1 rfl rfl ?_));refine r_sub1N (by omega) (by omega) ?_;refine r_getS 1 H1 rfl (getD_at (by omega)) ?_;refine above_spec H1 hz (hO _ (getD_mem (by omega))) (hO _ (getD_mem (by omega))) λw2 S2 H2=>?_;refine r_ifD (λh2=>?_) λh2=>?_
   ·have hl':=hl (by omega);refine r_nc (r_fo0 (r_ld 0 H2 rfl rfl ?_));refine r_add1N (by omega) ?_;refine r_nc (r_fo0 ?_);refine r_st 0 H2 rfl (by simp[soC]) rfl λw3 S3 H3=>?_;refine r_ke ⟨S1.trans (S2.trans S3),?_⟩
    have e:lastN (keyS s x) x=x.last+1:=by unfold lastN;rw[if_neg (by omega),if_pos h2]
    rw[e];exact H3
   ·refine r_ke ⟨S1.trans S2,?_⟩
    have e:lastN (keyS s x) x=x.last:=by unfold lastN;rw[if_neg (by omega),if_neg h2]
    rw[e];exact H2
end S16
namespace S16
open Go.Mr Go.M18
variable {w:World}{L:List HProp}{K:Value->World->Prop}{b n:Nat}{s:List UInt8}{x:SS}
theorem step_spec (H:Holds w (SoR b s x n::L)) (hI:Inv s x) (hlen:s.length<=4000) (hr:x.reach<=2*s.length) (hl:ldS s.length x<=4*(s.length*s.length)+s.length) (hn:n<=1000000000000)
  (k:∀ w',Same w w'->Holds w' (SoR b s (stepS (keyS s x) s.length x) (n+1)::L)->K (.tuple #[]) w'):Cl prog 183 #[pt b] w K:=by
 refine Tz183 ?_;unfold Vz183;have hsl:=stack_len hI.ph hl hlen;refine join_spec H (by omega) λw1 S1 H1=>?_;have hj:=join_ph hI.bs hI.ph
 have hjk:keyS s (joinS x)=keyS s x:=by
  unfold joinS;split
  ·rfl
  ·split <;> rfl
 have hjs:(joinS x).stack.length<=x.stack.length:=by
  unfold joinS;split
  ·exact Nat.le_refl _
  ·rename_i e;split
   ·rw[e];simp
   ·exact Nat.le_refl _
 have hjr:=join_reach x;unfold stepS at k;generalize joinS x=y at *;obtain⟨hb,hp,hm⟩:=hj;rw[<-hjk] at hp k;have hz:Sz s y:=⟨hlen,hb.cl,hb.al,hb.ol,by omega⟩;have hol:=hb.ol;have hal:=hb.al;have hwf:=stack_wf hp;refine r_join0 (λw'=>Same w w'/\Holds w' (SoR b s (restS (keyS s y) s.length y) n::L)) ?_ ?_
 ·rintro _ w2 ⟨S2,H2⟩;obtain⟨ov,cv,av,kv,H3⟩:=SoR_open H2;refine r_nc (r_fo0 (r_ld 0 H3 rfl rfl ?_));refine r_add1N (by omega) ?_;refine r_nc (r_fo0 ?_);refine r_st 0 H3 rfl (by simp[soC]) rfl λw3 S3 H4=>?_;exact k _ (S2.trans S3) (SoR_close (ov:=ov) (cv:=cv) (av:=av) (kv:=kv) H4)
 refine r_join1 (λt w'=>Same w w'/\Holds w' (SoR b s y n::L)/\t=.bool (decide (0 < y.merge.hi/\y.laid < y.merge.mid - y.merge.lo))) ?_ ?_
 ·rintro _ _ w2 ⟨S2,H2,rfl⟩;refine r_ifD (λh=>?_) λh=>?_
  ·have e:restS (keyS s y) s.length y=layS y:=by unfold restS;rw[if_pos h]
   rw[e];rcases hp with hp|⟨R,hp⟩
   ·have:=hp.none;omega
   have m3:=hp.m3;have m2:=hp.m2;refine lay_spec H2 hz (by omega) (by omega) λw3 S3 H3=>?_;exact r_ke ⟨S2.trans S3,H3⟩
  obtain⟨ov,cv,av,kv,H3⟩:=SoR_open H2;refine r_nc (r_fo (r_fo (r_ld 0 H3 rfl rfl ?_)));refine r_gtr (r_ifD (λh2=>?_) λh2=>?_)
  ·have e:restS (keyS s y) s.length y=putS (keyS s y) y:=by unfold restS;rw[if_neg h,if_pos (by omega)]
   rw[e];rcases hp with hp|⟨R,hp⟩
   ·have:=hp.none;omega
   have m3:=hp.m3;have m2:=hp.m2;have m1:=hp.m1;have hlay:=hp.lay
   have hla:y.laid=y.merge.mid - y.merge.lo:=by omega
   obtain⟨l1,l2,l3,l4,_⟩:=hp.late hla;have hto:toS y=y.merge.lo+y.first+y.second - y.merge.mid:=rfl;refine put_spec H2 hz ⟨m3,by omega,by omega,by omega⟩ (by omega) l2 l3 l1 (by omega) (λ_=>by omega) (λhf=>?_) (λhs=>hb.om _ (getD_mem (by omega))) λw3 S3 H4=>?_
   ·refine hp.asm _ ?_
    rw[show y.aside.getD y.first 0=(seg y.aside 0 y.laid).getD y.first 0 from by
     unfold seg
     rw[drop_zero,Nat.sub_zero,getD_eq_getElem?_getD,getD_eq_getElem?_getD,getElem?_take_of_lt hf]]
    exact getD_mem (by rw[seg_len (by omega)];omega)
   ·exact r_ke ⟨S2.trans S3,H4⟩
  refine r_nc (r_fo0 (r_ld 0 H3 rfl rfl ?_));refine P35.r_lnN 4 H3 rfl ?_;rw[length_reverse]
  have hph:PhA (keyS s y) s.length y:=by
   rcases hp with hp|⟨R,hp⟩
   ·exact hp
   ·have:=hp.m2;omega
  refine r_gtr (r_ifD (λh3=>?_) λh3=>?_)
  ·have hne:y.stack≠[]:=λe=>by rw[e] at h3;simp at h3
   have e:restS (keyS s y) s.length y=beginS y:=by unfold restS;rw[if_neg h,if_neg (by omega),if_pos hne]
   rw[e];refine begin_spec H2 hz hne (by omega) (λp hpp=>by have:=hwf p hpp;omega) λw3 S3 H4=>?_;exact r_ke ⟨S2.trans S3,H4⟩
  ·have he:y.stack=[]:=List.eq_nil_of_length_eq_zero (by omega)
   have e:restS (keyS s y) s.length y=rankS (keyS s y) s.length y:=by unfold restS;rw[if_neg h,if_neg (by omega),if_neg (by simpa using he)]
   rw[e];have hkn:=hph.rkn;refine rank_spec H2 hz (by omega) hkn (λhr0=>?_) hb.om λw3 S3 H4=>?_
   ·rw[hph.lst hr0];have:=rk_bound (k:=keyS s y) (o:=y.order) (y.ranked - 1);omega
   ·exact r_ke ⟨S2.trans S3,H4⟩
 ·refine r_dr H1 λw2 S2 H2=>?_;obtain⟨ov,cv,av,kv,H3⟩:=SoR_open H2;have close:Holds w2 (SoR b s y n::L):=H2;refine r_nc (r_fo (r_fo (r_ld 0 H3 rfl rfl ?_)));refine r_gtr (r_ifD (λh=>?_) λh=>?_)
  ·have hm12:y.merge.lo<=y.merge.mid/\y.merge.mid<=s.length:=by
    rcases hp with hp|⟨R,hp⟩
    ·have:=hp.none;omega
    ·have:=hp.m1;have:=hp.m2;have:=hp.m3;omega
   refine r_nc (r_fo0 (r_ld 0 H3 rfl rfl ?_));refine r_nc (r_fo (r_fo (r_ld 0 H3 rfl rfl ?_)));refine r_nc (r_fo (r_fo (r_ld 0 H3 rfl rfl ?_)));refine r_sub (by omega) (by omega) ?_;refine r_lss (r_ke ⟨S1.trans S2,H2,?_⟩);rw[show decide (((y.laid:Nat):Int) < ((y.merge.mid:Nat):Int) - ((y.merge.lo:Nat):Int))=decide (0 < y.merge.hi/\y.laid < y.merge.mid - y.merge.lo) from decide_eq_decide.2 (by omega)]
  ·refine r_ke ⟨S1.trans S2,H2,?_⟩;rw[decide_eq_false (show ¬ (0 < y.merge.hi/\y.laid < y.merge.mid - y.merge.lo) from λe=>by omega)]
def Fini (s:List UInt8) (x:SS):Prop:=x.done=true/\x.order=sortP s s.length
theorem Done_spec (H:Holds w (SoR b s x n::L)) (k:K (.bool x.done) w):Cl prog 136 #[pt b] w K:=by
 refine Tz136 ?_;unfold Vz136;obtain⟨ov,cv,av,kv,H⟩:=SoR_open H;exact r_bnST (r_vt (r_nc (r_fo0 (r_ld 0 H rfl rfl k))))
theorem Order_spec (H:Holds w (SoR b s x n::L)) (hf:Fini s x) (hlen:s.length<=4000) (k:∀ v w',Same w w'->Holds w' (SL nv tI v (sortP s s.length)::SoR b s x n::L)->K v w'):Cl prog 137 #[pt b] w K:=by
 refine Tz137 ?_;unfold Vz137;refine Done_spec H ?_;rw[hf.1];refine r_notT (r_vf ?_);obtain⟨ov,cv,av,kv,H⟩:=SoR_open H;refine r_nc (r_fo0 (r_ld 0 H rfl rfl ?_));refine Clone_spec H 1 rfl (by rw[hf.2,sortP_len];omega) λv w1 S1 H1=>?_;rw[hf.2] at H1;refine k v w1 S1 ?_
 have h2:Holds w1 ((soL b s ov cv av kv x n++SL nv tI v (sortP s s.length)::L)):=by
  have h_:=Holds.ord 6 [1,2,3,4,5,0] H1 rfl;exact h_
 exact (SoR_close h2).swap
theorem Step_spec (H:Holds w (SoR b s x 0::L)) (hx:Fini s x\/(Inv s x/\x.reach<=2*s.length/\ldS s.length x<=4*(s.length*s.length)+s.length/\mu s.length x<=300000000000)) (hlen:s.length<=4000)
  (k:∀ y m w',Fini s y->m<=300000000000->Same w w'->Holds w' (SoR b s y m::L)->K (nv m) w'):Cl prog 135 #[pt b,iv 1099511627776] w K:=by
 refine Tz135 ?_;unfold Vz135;refine r_bnSF (r_vf ?_);obtain⟨ov,cv,av,kv,H0⟩:=SoR_open H;refine r_nc (r_fo0 (r_ld 0 H0 rfl rfl ?_));clear H0 ov cv av kv
 refine r_loop0n (λj w'=>∃ (y:SS) (m:Nat),m+j<=300000000000/\Same w w'/\Holds w' (SoR b s y m::L)/\(Fini s y\/(j=mu s.length y/\Inv s y/\y.reach<=2*s.length/\ldS s.length y<=4*(s.length*s.length)+s.length)))
  (if x.done=true then 0 else mu s.length x) ?_ ?_
 ·rcases hx with hx|⟨h1,h2,h3,h4⟩
  ·rw[if_pos hx.1];exact⟨x,0,by omega,.refl _,H,.inl hx⟩
  ·rw[if_neg (by rw[h1.bs.nd];exact Bool.false_ne_true)];exact⟨x,0,by omega,.refl _,H,.inr ⟨rfl,h1,h2,h3⟩⟩
 clear H hx;rintro _ j w1 _ ⟨y,m,hm,S1,H1,hy⟩ hgo;obtain⟨ov,cv,av,kv,H2⟩:=SoR_open H1
 have hd:y.done=true->Fini s y:=λe=>by
  rcases hy with hy|⟨_,hy,_⟩
  ·exact hy
  ·rw[hy.bs.nd] at e;cases e
 refine r_join1 (λt w'=>w1=w'/\t=.bool (!y.done)) ?_ ?_
 ·rintro _ _ _ ⟨rfl,rfl⟩
  cases hdn:y.done with
  |true=>
   refine r_vf ?_;refine r_nc (r_fo0 (r_ld 0 H2 rfl rfl ?_));refine r_sub (by omega) (by omega) ?_;rw[show ((m:Nat):Int) - ((0:Nat):Int)=((m:Nat):Int) by omega];exact k y m _ (hd hdn) (by omega) S1 H1
  |false=>
   refine r_vt ?_;rcases hy with hy|⟨hj,hI,hr,hl⟩
   ·rw[hy.1] at hdn;cases hdn
   refine step_spec H1 hI hlen hr hl (by omega) λw2 S2 H3=>?_;obtain⟨h5,h6⟩:=step_ok hI;refine r_ke ?_;rcases h6 with h6|h6
   ·refine hgo 0 _ ?_ ⟨_,m+1,?_,S1.trans S2,H3,.inl h6⟩
    ·omega
    ·omega
   ·obtain⟨h7,h8⟩:=step_load hI hl hr h6.bs.nd;refine hgo (mu s.length (stepS (keyS s y) s.length y)) _ (by omega) ⟨_,m+1,by omega,S1.trans S2,H3,.inr ⟨rfl,h6,h8,h7⟩⟩
 ·refine r_nc (r_fo0 (r_ld 0 H2 rfl rfl ?_))
  cases hdn:y.done with
  |true=>exact r_notT (r_vf (r_ke ⟨rfl,rfl⟩))
  |false=>
   refine r_notF (r_vt ?_);refine r_nc (r_fo0 (r_ld 0 H2 rfl rfl ?_));refine r_sub (by omega) (by omega) ?_;exact r_lss (r_ke ⟨rfl,by rw[decide_eq_true (by omega)];rfl⟩)
def startD (n:Nat):SS:={ Go.Mr.start n with done:=decide (n < 2) }
theorem startD_ok (h0:s≠[]) (hlen:s.length<=4000):Fini s (startD s.length)\/(Inv s (startD s.length)/\(startD s.length).reach<=2*s.length/\ldS s.length (startD s.length)<=4*(s.length*s.length)+s.length/\mu s.length (startD s.length)<=300000000000):=by
 have hpos:=length_pos_iff.2 h0;rcases Nat.lt_or_ge s.length 2 with h|h
 ·refine .inl ⟨decide_eq_true h,?_⟩;show List.range s.length=_;rw[show s.length=1 by omega];rfl
 ·refine .inr ?_
  have e:startD s.length=Go.Mr.start s.length:=by unfold startD;rw[decide_eq_false (by omega)];rfl
  rw[e];exact⟨start_inv h,Nat.zero_le _,Nat.le_of_eq load_start,mu_start hlen⟩
theorem New_spec (H:Holds w L) (h0:s≠[]) (hlen:s.length<=4000) (k:∀ b w',Same w w'->Holds w' (SoR b s (startD s.length) 0::L)->K (.tuple #[pt b,iv 0]) w'):Cl prog 134 #[St_ s] w K:=by
 refine Tz134 ?_;unfold Vz134;have hpos:=length_pos_iff.2 h0
 have hsz:(⟨s.toArray⟩:ByteArray).size=s.length:=by simp[ByteArray.size]
 refine r_lns ?_;rw[hsz];refine r_gtr (r_vfD (by omega) ?_)
 refine r_join1 (λx w'=>∃ (b b1 b2 b3:Nat),x=pt b/\Same w w'/\Holds w' (blk b tSo [St_ s,.slice (some ⟨b1,0,none⟩) s.length s.length,.slice (some ⟨b2,0,none⟩) s.length s.length,.slice (some ⟨b3,0,none⟩) s.length s.length,nv 0,.slice none 0 0,nv 0,nv 0,nv 0,nv 0,nv 0,nv 0,nv 0,nv 0,nv 0,.bool (decide (s.length < 2))] ::
   SL nv tI (.slice (some ⟨b1,0,none⟩) s.length s.length) (List.replicate s.length 0)::SL nv tI (.slice (some ⟨b2,0,none⟩) s.length s.length) (List.replicate s.length 0)::SL nv tI (.slice (some ⟨b3,0,none⟩) s.length s.length) (List.replicate s.length 0)::L)) ?_ ?_
 ·rintro _ _ w1 ⟨b,b1,b2,b3,rfl,S1,H1⟩;refine r_nc (r_fo0 (r_ld 0 H1 rfl rfl ?_));refine r_lnl ?_
  refine r_loop1 (λq w'=>∃ u:Nat,q=nv u/\u<=s.length/\Same w w'/\Holds w' (blk b tSo [St_ s,.slice (some ⟨b1,0,none⟩) s.length s.length,.slice (some ⟨b2,0,none⟩) s.length s.length,.slice (some ⟨b3,0,none⟩) s.length s.length,nv 0,.slice none 0 0,nv 0,nv 0,nv 0,nv 0,nv 0,nv 0,nv 0,nv 0,nv 0,.bool (decide (s.length < 2))] ::
   SL nv tI (.slice (some ⟨b1,0,none⟩) s.length s.length) (filled (List.range s.length) 0 s.length u)::SL nv tI (.slice (some ⟨b2,0,none⟩) s.length s.length) (List.replicate s.length 0)::SL nv tI (.slice (some ⟨b3,0,none⟩) s.length s.length) (List.replicate s.length 0)::L)) (λq _=>s.length - (RowKit.intOf q).toNat)
   ⟨0,rfl,Nat.zero_le _,S1,by rw[filled_zero];exact H1⟩ ?_
  clear H1 S1;rintro _ _ w2 ⟨u,rfl,hu,S2,H2⟩;refine r_lss (r_ifD (λh=>?_) λh=>?_)
  ·have hlt:u < s.length:=by omega
   refine r_nc (r_fo0 (r_ld 0 H2 rfl rfl ?_));refine r_setS (j:=u) 1 H2 u rfl (by rw[filled_len (by omega) (by simp)];exact hlt) rfl λw3 S3 H3=>?_;refine r_add1N (by omega) (r_ke ⟨⟨u+1,rfl,hlt,S2.trans S3,?_⟩,?_⟩)
   ·have e:=filled_set (xs:=List.range s.length) (z:=0) (x:=u) hlt (by simp) (by simp[hlt])
    have h3:Holds w3 (blk b tSo [St_ s,.slice (some ⟨b1,0,none⟩) s.length s.length,.slice (some ⟨b2,0,none⟩) s.length s.length,.slice (some ⟨b3,0,none⟩) s.length s.length,nv 0,.slice none 0 0,nv 0,nv 0,nv 0,nv 0,nv 0,nv 0,nv 0,nv 0,nv 0,.bool (decide (s.length < 2))] ::
     SL nv tI (.slice (some ⟨b1,0,none⟩) s.length s.length) ((filled (List.range s.length) 0 s.length u).set u u)::SL nv tI (.slice (some ⟨b2,0,none⟩) s.length s.length) (List.replicate s.length 0)::SL nv tI (.slice (some ⟨b3,0,none⟩) s.length s.length) (List.replicate s.length 0)::L):=H3
    rw[e] at h3;exact h3
   ·simp only[nv,RowKit.intOf,Int.toNat_natCast];omega
  ·obtain rfl:u=s.length:=by omega
   rw[filled_all (by simp)] at H2;refine r_bd (v:=.agg (Fp ⟨0,0,s.length⟩).toArray) (by kernel_rfl) ?_;refine r_bsK (e:=tPt) (Fp ⟨0,0,s.length⟩) H2 (by kernel_rfl) λnb w3 S3 H3=>?_;refine r_nc (r_fo0 ?_);refine r_st 1 H3 rfl (by simp) rfl λw4 S4 H4=>?_;have H5:=RW_of_blk (F:=Fp) (k:=3) 0 [⟨0,0,s.length⟩] H4 rfl;refine k b w4 (S2.trans (S3.trans S4)) (SoR_close (ov:=.slice (some ⟨b1,0,none⟩) s.length s.length) (cv:=.slice (some ⟨b2,0,none⟩) s.length s.length) (av:=.slice (some ⟨b3,0,none⟩) s.length s.length) (kv:=.slice (some ⟨nb,0,none⟩) 1 1) ?_);have h_:=Holds.ord 5 [1,2,3,4,0] H5 rfl;exact h_
 ·refine r_dr H λw1 S1 H1=>?_;refine r_lss ?_
  have mk:∀ {w2:World} {M:List HProp} {Q:Value->World->Prop},Holds w2 M->(∀ b w',Same w2 w'->Holds w' (SL nv tI (.slice (some ⟨b,0,none⟩) s.length s.length) (List.replicate s.length 0)::M)->Q (.slice (some ⟨b,0,none⟩) s.length s.length) w')->
    Ms prog 69 (nv s.length) (nv s.length) w2 Q:=λH2 hQ=>by
   refine r_ms (f:=nv) (x:=0) H2 rfl (by omega) (by omega) λb w' S' H3=>?_;rw[Int.toNat_natCast] at H3 ⊢;have H4:=H3.close 0 rfl;simp only[set_cons_zero,length_replicate,length_nil,Nat.add_zero] at H4;exact hQ b w' S' H4
  have hdec:decide (((s.length:Nat):Int) < 2)=decide (s.length < 2):=decide_eq_decide.2 (by omega);rw[hdec]
  have fin:∀ {b1 b2 b3:Nat} {w2:World} {Q:Value->World->Prop},Same w w2->Holds w2 (SL nv tI (.slice (some ⟨b1,0,none⟩) s.length s.length) (List.replicate s.length 0)::SL nv tI (.slice (some ⟨b2,0,none⟩) s.length s.length) (List.replicate s.length 0)::SL nv tI (.slice (some ⟨b3,0,none⟩) s.length s.length) (List.replicate s.length 0)::L)->
    (∀ x w',(∃ (b b1 b2 b3:Nat),x=pt b/\Same w w'/\Holds w' (blk b tSo [St_ s,.slice (some ⟨b1,0,none⟩) s.length s.length,.slice (some ⟨b2,0,none⟩) s.length s.length,.slice (some ⟨b3,0,none⟩) s.length s.length,nv 0,.slice none 0 0,nv 0,nv 0,nv 0,nv 0,nv 0,nv 0,nv 0,nv 0,nv 0,.bool (decide (s.length < 2))] ::
     SL nv tI (.slice (some ⟨b1,0,none⟩) s.length s.length) (List.replicate s.length 0)::SL nv tI (.slice (some ⟨b2,0,none⟩) s.length s.length) (List.replicate s.length 0)::SL nv tI (.slice (some ⟨b3,0,none⟩) s.length s.length) (List.replicate s.length 0)::L))->Q x w')->
    Bd prog tSo #[(0,St_ s),(1,.slice (some ⟨b1,0,none⟩) s.length s.length),(2,.slice (some ⟨b2,0,none⟩) s.length s.length),(3,.slice (some ⟨b3,0,none⟩) s.length s.length),(13,.bool (decide (s.length < 2)))] w2 λx=>New x tSo w2 Q:=λ{b1 b2 b3 w2 Q} S2 H2 hQ=>by
   refine r_bd (v:=.agg #[St_ s,.slice (some ⟨b1,0,none⟩) s.length s.length,.slice (some ⟨b2,0,none⟩) s.length s.length,.slice (some ⟨b3,0,none⟩) s.length s.length,nv 0,.slice none 0 0,nv 0,nv 0,nv 0,nv 0,nv 0,nv 0,nv 0,nv 0,nv 0,.bool (decide (s.length < 2))]) (by kernel_rfl) ?_;refine r_new H2 λb w3 S3 H3=>?_;exact hQ _ _ ⟨b,b1,b2,b3,rfl,S2.trans S3,H3⟩
  refine⟨?_,?_,?_⟩
  ·refine mk H1 λb1 w2 S2 H2=>⟨mk H2 λb2 w3 S3 H3=>mk H3 λb3 w4 S4 H4=>fin (S1.trans (S2.trans (S3.trans S4))) (by have h_:=Holds.ord 3 [2,1,0] H4 rfl;exact h_) λx w' hx=>r_ke hx,mk H2 λb2 w3 S3 H3=>mk H3 λb3 w4 S4 H4=>fin (S1.trans (S2.trans (S3.trans S4))) (by have h_:=Holds.ord 3 [2,0,1] H4 rfl;exact h_) λx w' hx=>r_ke hx⟩
  ·refine mk H1 λb1 w2 S2 H2=>⟨mk H2 λb2 w3 S3 H3=>mk H3 λb3 w4 S4 H4=>fin (S1.trans (S2.trans (S3.trans S4))) (by have h_:=Holds.ord 3 [1,2,0] H4 rfl;exact h_) λx w' hx=>r_ke hx,mk H2 λb2 w3 S3 H3=>mk H3 λb3 w4 S4 H4=>fin (S1.trans (S2.trans (S3.trans S4))) (by have h_:=Holds.ord 3 [0,2,1] H4 rfl;exact h_) λx w' hx=>r_ke hx⟩
  ·refine mk H1 λb1 w2 S2 H2=>⟨mk H2 λb2 w3 S3 H3=>mk H3 λb3 w4 S4 H4=>fin (S1.trans (S2.trans (S3.trans S4))) (by have h_:=Holds.ord 3 [1,0,2] H4 rfl;exact h_) λx w' hx=>r_ke hx,mk H2 λb2 w3 S3 H3=>mk H3 λb3 w4 S4 H4=>fin (S1.trans (S2.trans (S3.trans S4))) (by have h_:=Holds.ord 3 [0,1,2] H4 rfl;exact h_) λx w' hx=>r_ke hx⟩
end S16
namespace P13
open Go.M01 Go.Mb Go.Mp Go.Mv
variable {w:World}{L:List HProp}{K:Value->World->Prop}{b wb n:Nat}{bs:List Bool}
abbrev tOr:Nat:=256
theorem order_get {o:List Nat}{j:Nat}(h6:o.length=6) (hj:j < 6):(o.map nv)[j]?=some (nv (o.getD j 0)):=by
 rw[getElem?_map,getD_eq_getElem?_getD,getElem?_eq_getElem (by omega)];rfl
theorem touch0_spec {i:Nat}{o:List Nat}(ho:o.length=6) (H:Holds w (blk b tOr (o.map nv)::L)) (hi:i < 6)
  (k:∀ w',Same w w'->Holds w' (blk b tOr ((front o i).map nv)::L)->K (nv (o.getD i 0)) w'):Cl prog 232 #[pt b,nv i] w K:=by
 refine Tz232 ?_;unfold Vz232;refine r_nc (r_iaaN (by omega) (r_ld 0 H rfl (by rw[Nat.zero_add];exact order_get ho hi) ?_))
 have hlen:∀ j,j<=i->(o.take (j+1)++((o.drop j).take (i - j)++o.drop (i+1))).length=6:=λj hj=>by
  simp;omega
 refine r_loop1 (λx w'=>∃ j:Nat,j<=i/\x=nv j/\Same w w'/\Holds w' (blk b tOr ((o.take (j+1)++((o.drop j).take (i - j)++o.drop (i+1))).map nv)::L)) (λx _=>(RowKit.intOf x).toNat) ⟨i,Nat.le_refl _,rfl,.refl w,?_⟩ ?_
 ·rw[Nat.sub_self,take_zero,nil_append,List.take_append_drop];exact H
 clear H;rintro _ _ w1 ⟨j,hj,rfl,S,H⟩;have h6:=hlen j hj;refine r_gtr (r_ifD (λh=>?_) λh=>?_)
 ·refine r_dr H λw2 S2 H2=>?_;refine r_sub1N (by omega) (by omega) ?_;refine r_nc (r_iaaN (by omega) (r_ld 0 H2 rfl (by rw[Nat.zero_add];exact order_get h6 (by omega)) ?_));refine r_nc (r_iaaN (by omega) ?_);refine r_st 0 H2 rfl (by rw[length_map];omega) rfl λw3 S3 H3=>?_;rw[set_cons_zero,Nat.zero_add,<-List.map_set] at H3
  have e:(o.take (j+1)++((o.drop j).take (i - j)++o.drop (i+1))).set j ((o.take (j+1)++((o.drop j).take (i - j)++o.drop (i+1))).getD (j - 1) 0)=o.take (j - 1+1)++((o.drop (j - 1)).take (i - (j - 1))++o.drop (i+1)):=by
   have hx:(o.take (j+1)++((o.drop j).take (i - j)++o.drop (i+1))).getD (j - 1) 0=o.getD (j - 1) 0:=by
    rw[getD_eq_getElem?_getD,getD_eq_getElem?_getD,getElem?_append_left (by simp;omega),getElem?_take_of_lt (by omega)]
   rw[hx];obtain⟨m,rfl⟩:∃ m,j=m+1:=⟨j - 1,by omega⟩;rw[Nat.add_sub_cancel]
   have h1:o.drop m=o.getD m 0::o.drop (m+1):=by
    rw[getD_eq_getElem?_getD,getElem?_eq_getElem (by omega)];exact (List.getElem_cons_drop (by omega)).symm
   have h2:o.take (m+1+1)=o.take (m+1)++[o.getD (m+1) 0]:=by
    refine take_snoc ?_;rw[getD_eq_getElem?_getD,getElem?_eq_getElem (by omega)];rfl
   rw[h1,show i - m=(i - (m+1))+1 by omega,List.take_succ_cons,h2,append_assoc,List.set_append_right _ _ (by simp;omega)]
   have h3:(o.take (m+1)).length=m+1:=by simp;omega
   rw[h3,Nat.sub_self];rfl
  rw[e] at H3;refine r_sub1N (by omega) (by omega) ?_;refine r_ke ⟨⟨j - 1,by omega,rfl,(S.trans S2).trans S3,H3⟩,?_⟩;simp only[nv,RowKit.intOf,Int.toNat_natCast];omega
 ·obtain rfl:j=0:=by omega
  refine r_nc (r_iaaN (m:=0) (by omega) ?_);refine r_st 0 H rfl (by rw[length_map];omega) rfl λw2 S2 H2=>?_;rw[set_cons_zero,Nat.zero_add,<-List.map_set] at H2
  have e:(o.take (0+1)++((o.drop 0).take (i - 0)++o.drop (i+1))).set 0 (o.getD i 0)=front o i:=by
   unfold front
   cases o with
   |nil=>simp at ho
   |cons x o=>rfl
  rw[e] at H2;exact k _ (S.trans S2) H2
theorem find_spec {t:Nat}{o:List Nat}(ho:o.length=6) (H:Holds w (blk b tOr (o.map nv)::L)) (ht:t∈o)
  (k:∀ w',Same w w'->Holds w' (blk b tOr ((front o (o.idxOf t)).map nv)::L)->K (nv (o.idxOf t)) w'):Cl prog 194 #[pt b,nv t] w K:=by
 refine Tz194 ?_;unfold Vz194;have hlt:=idxN_lt ht;refine r_loop1 (λx w'=>∃ i:Nat,i<=o.idxOf t/\x=nv i/\w=w') (λx _=>6 - (RowKit.intOf x).toNat) ⟨0,Nat.zero_le _,rfl,rfl⟩ ?_;rintro _ _ _ ⟨i,hi,rfl,rfl⟩;refine r_nc (r_iaaN (by omega) (r_ld 0 H rfl (by rw[Nat.zero_add];exact order_get ho (by omega)) ?_));refine r_neq (r_ifN (λh=>?_) λh=>?_)
 ·have hne:i≠o.idxOf t:=by
   rintro rfl;rw[idxN_at ht] at h;exact h rfl
  refine r_add1N (by omega) ?_;refine r_ke ⟨⟨i+1,by omega,rfl,rfl⟩,?_⟩;simp only[nv,RowKit.intOf,Int.toNat_natCast];omega
 ·have hx:o[i]=t:=by
   have:o.getD i 0=t:=by omega
   rw[getD_eq_getElem?_getD,getElem?_eq_getElem (by omega)] at this;exact this
  have hie:i=o.idxOf t:=by
   rcases Nat.lt_or_ge i (o.idxOf t) with h1|h1
   ·exact absurd hx (by simpa using List.not_of_lt_findIdx (p:=(·==t)) h1)
   ·omega
  subst hie;exact touch0_spec ho H (by omega) k
theorem set_midN (A:List Nat) (m x:Nat):(A++List.replicate (m+1) 0).set A.length x=A++[x]++List.replicate m 0:=by
 rw[List.set_append_right _ _ (Nat.le_refl _),Nat.sub_self,List.replicate_succ,set_cons_zero];simp
abbrev ord0:List Nat:=[0,1,2,3,4,5]
theorem places_spec {v:Value}{l:List Nat}(H:Holds w (SL nv tI v l::L)) (hl:l.length<=1000000) (hp:∀ p∈l,p < 6)
  (k:∀ v' w',Same w w'->Holds w' (SL nv tI v' (pickE ord0 l).2::SL nv tI v l::L)->K v' w'):Cl prog 144 #[v] w K:=by
 refine Tz144 ?_;unfold Vz144
 have hmem:∀ p∈l,p∈ord0:=λp h=>by
  have:=hp p h
  rcases (show p=0\/p=1\/p=2\/p=3\/p=4\/p=5 by omega) with h|h|h|h|h|h <;> rw[h] <;> simp
 refine fresh_spec H λw1 S1 H1=>?_
 have hz:(zeroP prog tOr).cells.toList=[nv 0,nv 0,nv 0,nv 0,nv 0,nv 0]:=by kernel_rfl
 refine r_new H1 λob w2 S2 H2=>?_;rw[hz] at H2;refine r_stA 0 H2 (vs:=[nv 0,nv 1,nv 2,nv 3,nv 4,nv 5]) rfl (Nat.le_refl 6) rfl rfl λw3 S3 H3=>?_;replace H3:Holds w3 (blk ob tOr (ord0.map nv)::SL nv tI v l::L):=H3;refine r_lnS 1 H3 rfl ?_;refine r_ms (f:=nv) (x:=0) H3 rfl (by omega) (by omega) λq w4 S4 H4=>?_;rw[Int.toNat_natCast] at H4 ⊢;have H5:=H4.close 0 rfl;simp only[set_cons_zero,length_replicate,length_nil,Nat.add_zero] at H5;generalize hv:Value.slice (some ⟨q,0,none⟩) l.length l.length=v2 at H5 ⊢;refine r_lnS 2 H5 rfl ?_
 have hinv:∀ i,i<=l.length->(∀ x,x∈(pickE ord0 (l.take i)).1↔x∈ord0)/\(pickE ord0 (l.take i)).1.length=6/\(pickE ord0 (l.take i)).2.length=i:=λi hi=>by
  have:=pickE_inv (o:=ord0) (l:=l.take i) λc hc=>hmem c (List.mem_of_mem_take hc);exact⟨this.1,this.2.1,by rw[this.2.2.1,length_take];omega⟩
 refine r_loop1 (λx w'=>∃ i:Nat,i<=l.length/\x=nv i/\Same w w'/\Holds w' (blk ob tOr ((pickE ord0 (l.take i)).1.map nv)::SL nv tI v2 ((pickE ord0 (l.take i)).2++List.replicate (l.length - i) 0)::SL nv tI v l::L)) (λx _=>l.length - (RowKit.intOf x).toNat)
  ⟨0,Nat.zero_le _,rfl,((S1.trans S2).trans S3).trans S4,by rw[take_zero,Nat.sub_zero];exact H5.swap⟩ ?_
 clear H H1 H2 H3 H4 H5 S1 S2 S3 S4;rintro _ _ w5 ⟨i,hi,rfl,S,H⟩;obtain⟨hm,h6,hln⟩:=hinv i hi;refine r_lss (r_ifD (λh=>?_) λh=>?_)
 ·have hlt:i < l.length:=by omega
  have hg:l.take (i+1)=l.take i++[l[i]]:=by rw[take_add_one,getElem?_eq_getElem hlt];rfl
  refine r_getS 2 H rfl (getElem?_eq_getElem hlt) ?_;have hc:l[i]∈(pickE ord0 (l.take i)).1:=(hm _).2 (hmem _ (getElem_mem _));refine find_spec h6 H hc λw6 S6 H6=>?_;refine r_setS 1 H6 (j:=i) ((pickE ord0 (l.take i)).1.idxOf l[i]) rfl (by rw[length_append,hln,length_replicate];omega) rfl λw7 S7 H7=>?_;refine r_add1N (by omega) ?_
  have e1:((pickE ord0 (l.take i)).2++List.replicate (l.length - i) 0).set i ((pickE ord0 (l.take i)).1.idxOf l[i])=(pickE ord0 (l.take (i+1))).2++List.replicate (l.length - (i+1)) 0:=by
   rw[hg,pickE_snoc];have:=set_midN (pickE ord0 (l.take i)).2 (l.length - (i+1)) ((pickE ord0 (l.take i)).1.idxOf l[i]);rw[hln,show l.length - (i+1)+1=l.length - i by omega] at this;exact this
  have e2:front (pickE ord0 (l.take i)).1 ((pickE ord0 (l.take i)).1.idxOf l[i])=(pickE ord0 (l.take (i+1))).1:=by rw[hg,pickE_snoc];rfl
  replace H7:Holds w7 (blk ob tOr ((front (pickE ord0 (l.take i)).1 ((pickE ord0 (l.take i)).1.idxOf l[i])).map nv)::SL nv tI v2 (((pickE ord0 (l.take i)).2++List.replicate (l.length - i) 0).set i ((pickE ord0 (l.take i)).1.idxOf l[i]))::SL nv tI v l::L):=H7;rw[e1,e2] at H7;refine r_ke ⟨⟨i+1,by omega,rfl,(S.trans S6).trans S7,H7⟩,?_⟩;simp only[nv,RowKit.intOf,Int.toNat_natCast];omega
 ·obtain rfl:i=l.length:=by omega
  rw[take_length,Nat.sub_self,List.replicate_zero,append_nil] at H;exact k _ _ S H.drop
theorem Write_spec {v:Value}{l:List Nat}{t:Nat}(H:Holds w (W01.WrR wb bs n::SL nv tI v l::L)) (ht:2<=t/\t<=6) (hl0:l≠[]) (hll:l.length<=32767) (hp:∀ p∈l,p < t) (hl:bs.length<=10000000000) (hn:n<=bs.length/8)
  (k:∀ w',Same w w'->Holds w' (W01.WrR wb (bs++picksB l t) n::SL nv tI v l::L)->K (iv 0) w'):Cl prog 100 #[pt wb,v,nv t] w K:=by
 refine Tz100 ?_;unfold Vz100;have h0:0 < l.length:=length_pos_iff.2 hl0;refine r_bnSF (r_vf ?_);refine r_cl (K:=λx w'=>x=.bool true/\Same w w'/\Holds w' (W01.WrR wb bs n::SL nv tI v l::L)) ?_ ?_
 ·refine Tz143 ?_;unfold Vz143;refine r_new H λtb w1 S1 H1=>?_;replace H1:Holds w1 (blk tb tI [nv t]::W01.WrR wb bs n::SL nv tI v l::L):=H1;refine r_join1 (λx w'=>w1=w'/\x=.bool false) ?_ ?_
  rotate_left
  ·refine r_ld 0 H1 rfl rfl ?_;refine r_cl (K:=λx w'=>w1=w'/\x=.bool true) ?_ ?_
   ·refine Tz190 ?_;unfold Vz190;refine r_geq (r_vtD (by omega) ?_);exact r_leq ⟨rfl,by rw[decide_eq_true (by omega)]⟩
   rintro _ _ ⟨rfl,rfl⟩;refine r_notT (r_vf ?_);refine r_lnS 2 H1 rfl ?_;refine r_eql (r_vfE (by omega) ?_);refine r_lnS 2 H1 rfl ?_;exact r_gtr (r_ke ⟨rfl,by rw[decide_eq_false (by omega)]⟩)
  rintro _ _ _ ⟨rfl,rfl⟩;refine r_vf ?_;refine r_mf (.func (.func 192) #[] #[pt tb]) (by kernel_rfl) ?_;refine D11.none_spec H1 2 rfl (by omega) (λx hx Q hQ=>?_) ?_
  ·have:=hp x hx;refine r_inv (f:=192) (args:=#[nv x,pt tb]) (by kernel_rfl) ?_;refine Tz192 ?_;unfold Vz192;refine r_lss (r_vfD (by omega) ?_);refine r_ld 0 H1 rfl rfl ?_;refine r_geq ?_;rw[decide_eq_false (by omega)];exact hQ
  ·exact r_notF ⟨rfl,S1,H1.drop⟩
 clear H;rintro _ w1 ⟨rfl,S,H⟩;refine r_notT (r_vf ?_);refine r_ciu32 (by omega) (by omega) ?_;refine W01.Put_spec (n:=3) H (by omega) hn (by omega) (by omega) λw2 S2 H2=>?_;refine r_lnS 1 H2 rfl ?_;refine r_ciu32 (by omega) (by omega) ?_;have h3:(bitsOf t 3).length=3:=bitsOf_len _ _;have h15:(bitsOf l.length 15).length=15:=bitsOf_len _ _;refine W01.Put_spec (n:=15) H2 (by rw[length_append];omega) (by rw[length_append];omega) (by omega) (by omega) λw3 S3 H3=>?_;refine places_spec H3.swap (by omega) (λp h=>by have:=hp p h;omega) λpv w4 S4 H4=>?_
 have hinv:=pickE_inv (o:=ord0) (l:=l) λc hc=>by
  have:=hp c hc
  rcases (show c=0\/c=1\/c=2\/c=3\/c=4\/c=5 by omega) with h|h|h|h|h|h <;> rw[h] <;> simp
 obtain⟨_,_,hpl,hp6⟩:=hinv;generalize hP:(pickE ord0 l).2=P at *;replace H4:Holds w4 (W01.WrR wb (bs++bitsOf t 3++bitsOf l.length 15) n::SL nv tI pv P::SL nv tI v l::L):=(by have h_:=Holds.ord 3 [2,0,1] H4 rfl;exact h_);refine r_lnS 1 H4 rfl ?_
 refine r_loop1 (λx w'=>∃ i:Nat,i<=P.length/\x=nv i/\Same w w'/\Holds w' (W01.WrR wb (bs++bitsOf t 3++bitsOf l.length 15++onesB (P.take i)) n::SL nv tI pv P::SL nv tI v l::L)) (λx _=>P.length - (RowKit.intOf x).toNat)
  ⟨0,Nat.zero_le _,rfl,((S.trans S2).trans S3).trans S4,by rw[take_zero,onesB,List.flatMap_nil,append_nil];exact H4⟩ ?_
 clear H H2 H3 H4 S S2 S3 S4;rintro _ _ w5 ⟨i,hi,rfl,S,H⟩;refine r_lss (r_ifD (λh=>?_) λh=>?_)
 ·have hlt:i < P.length:=by omega
  have hg:P.take (i+1)=P.take i++[P[i]]:=by rw[take_add_one,getElem?_eq_getElem hlt];rfl
  have h6:=hp6 _ (getElem_mem hlt);have hol:=onesB_len (l:=P.take i) (m:=6) λp h=>hp6 p (List.mem_of_mem_take h);rw[length_take] at hol
  have hal:(bs++bitsOf t 3++bitsOf l.length 15++onesB (P.take i)).length<=bs.length+18+6*32767:=by rw[length_append,length_append,length_append];omega
  have hal2:bs.length<=(bs++bitsOf t 3++bitsOf l.length 15++onesB (P.take i)).length:=by rw[length_append,length_append,length_append];omega
  refine r_getS 1 H rfl (getElem?_eq_getElem hlt) ?_;generalize P[i]=a at *;replace h6:a < 6:=h6;refine r_add1N (by omega) ?_;have hpw:2^(a+1)<=2^6:=Nat.pow_le_pow_right (by decide) (by omega);have hpw2:2^1<=2^(a+1):=Nat.pow_le_pow_right (by decide) (by omega);refine r_shlU32 (s:=1) (n:=a+1) (by omega) ?_;rw[Nat.one_mul,Nat.mod_eq_of_lt (by omega)];refine r_subU32 (s:=2^(a+1)) (t:=2) (by omega) (by omega) ?_;refine r_add1N (by omega) ?_;refine W01.Put_spec (n:=a+1) H (by omega) (by omega) (by omega) (by omega) λw6 S6 H6=>?_;rw[ones_bits,append_assoc,<-onesB_snoc,<-hg] at H6;refine r_add1N (by omega) ?_;refine r_ke ⟨⟨i+1,by omega,rfl,S.trans S6,H6⟩,?_⟩;simp only[nv,RowKit.intOf,Int.toNat_natCast];omega
 ·obtain rfl:i=P.length:=by omega
  rw[take_length] at H;refine k _ S ?_;unfold picksB;rw[hP,<-append_assoc,<-append_assoc];exact Holds.dropAt H 1
end P13
namespace F08
variable {w:World}{L:List HProp}{K:Value->World->Prop}
def cnt (l:List Nat) (size:Nat):List Nat:=(List.range size).map λx=>l.count x
theorem cnt_len (l:List Nat) (size:Nat):(cnt l size).length=size:=by unfold cnt;simp
theorem cnt_get {l:List Nat}{size x:Nat}(h:x < size):(cnt l size)[x]?=some (l.count x):=by
 unfold cnt;rw[getElem?_map,getElem?_range h];rfl
theorem cnt_snoc {l:List Nat}{size x:Nat}(h:x < size):(cnt l size).set x (l.count x+1)=cnt (l++[x]) size:=by
 apply ext_getElem?;intro i;rw[getElem?_set]
 by_cases e:x=i
 ·subst e;rw[if_pos rfl,if_pos (by rw[cnt_len];exact h),cnt_get h,count_append];simp
 ·rw[if_neg e];rcases Nat.lt_or_ge i size with q|q
  ·rw[cnt_get q,cnt_get q,count_append,List.count_singleton]
   have:(x==i)=false:=by simpa using e
   rw[this];rfl
  ·rw[getElem?_eq_none (by rw[cnt_len];exact q),getElem?_eq_none (by rw[cnt_len];exact q)]
theorem cnt_nil (size:Nat):cnt [] size=List.replicate size 0:=by
 unfold cnt;apply ext_getElem?;intro i;rw[getElem?_map,getElem?_replicate];split
 ·rename_i h;rw[getElem?_range h];rfl
 ·rename_i h;rw[getElem?_eq_none (by simp;omega)];rfl
theorem Counts_spec {v:Value}{l:List Nat}{i n:Nat}(H:Holds w L) (hi:L[i]?=some (SL nv tI v l)) (h3:3<=n) (hn:n<=258) (hl:l.length<=1000000000) (hb:∀ x∈l,x < n)
  (k:∀ v' w',Same w w'->Holds w' (SL nv tI v' (cnt l n)::L)->K (.tuple #[v',iv 0]) w'):Cl prog 186 #[v,nv n] w K:=by
 refine Tz186 ?_;unfold Vz186;refine r_join1 (λt w'=>w=w'/\t=.bool false) ?_ ?_
 rotate_left
 ·refine r_lss (r_vfD (by omega) ?_);refine r_gtr (r_ke ⟨rfl,by rw[decide_eq_false (by omega)]⟩)
 rintro _ _ _ ⟨rfl,rfl⟩;refine r_vf ?_;refine r_ms (f:=nv) (x:=0) H rfl (by omega) (by omega) λob w2 S2 H2=>?_;rw[Int.toNat_natCast] at H2 ⊢;have H3:=H2.close 0 rfl;simp only[set_cons_zero,length_replicate,length_nil,Nat.add_zero] at H3;generalize hv:Value.slice (some ⟨ob,0,none⟩) n n=ov at H3 ⊢;refine r_lnS i H hi ?_;refine r_loop1 (λq w'=>∃ (t:Nat),q=nv t/\t<=l.length/\Same w w'/\Holds w' (SL nv tI ov (cnt (l.take t) n)::L)) (λq _=>l.length - (RowKit.intOf q).toNat) ⟨0,rfl,Nat.zero_le _,S2,by rw[take_zero,cnt_nil];exact H3⟩ ?_;clear H H2 H3 S2;rintro _ _ w3 ⟨t,rfl,ht,S3,H3⟩;refine r_lss (r_ifD (λh=>?_) λh=>?_)
 ·have hlt:t < l.length:=by omega
  have hx:=hb _ (getElem_mem hlt)
  have e:l.take (t+1)=l.take t++[l[t]]:=by rw[take_add_one,getElem?_eq_getElem hlt];rfl
  have hc:(l.take t).count l[t]<=t:=Nat.le_trans count_le_length (by rw[length_take];omega);refine r_getS (i+1) H3 (by rw[getElem?_cons_succ];exact hi) (getElem?_eq_getElem hlt) ?_;generalize l[t]=x at *;refine r_join1 (λz w'=>w3=w'/\z=.bool false) ?_ ?_
  rotate_left
  ·refine r_lss (r_vfD (by omega) ?_);exact r_geq (r_ke ⟨rfl,by rw[decide_eq_false (by omega)]⟩)
  rintro _ _ _ ⟨rfl,rfl⟩;refine r_vf ?_;refine r_getS 0 H3 rfl (cnt_get hx) ?_;refine r_add1N (by omega) ?_;refine r_setS 0 H3 ((l.take t).count x+1) rfl (by rw[cnt_len];exact hx) rfl λw4 S4 H4=>?_;replace H4:Holds w4 (SL nv tI ov ((cnt (l.take t) n).set x ((l.take t).count x+1))::L):=H4;rw[cnt_snoc hx,<-e] at H4;refine r_add1N (by omega) (r_ke ⟨⟨t+1,rfl,by omega,S3.trans S4,H4⟩,?_⟩);simp only[nv,RowKit.intOf,Int.toNat_natCast];omega
 ·rw[take_of_length_le (by omega)] at H3;exact k ov w3 S3 H3
theorem count_spec {v:Value}{l:List Nat}{i x:Nat}(H:Holds w L) (hi:L[i]?=some (SL nv tI v l)) (hl:l.length<=1000000000) (k:K (nv (l.count x)) w):Cl prog 204 #[v,nv x] w K:=by
 refine Tz204 ?_;unfold Vz204;refine r_lnS i H hi ?_;refine r_loop2 (λp q w'=>∃ t:Nat,p=nv ((l.take t).count x)/\q=nv t/\t<=l.length/\w=w') (λ_ q _=>l.length - (RowKit.intOf q).toNat) ⟨0,rfl,rfl,Nat.zero_le _,rfl⟩ ?_;rintro _ _ _ _ ⟨t,rfl,rfl,ht,rfl⟩;refine r_lss (r_ifD (λh=>?_) λh=>?_)
 ·have hlt:t < l.length:=by omega
  have e:l.take (t+1)=l.take t++[l[t]]:=by rw[take_add_one,getElem?_eq_getElem hlt];rfl
  have hc:(l.take t).count x<=t:=Nat.le_trans count_le_length (by rw[length_take];omega);refine r_getS i H hi (getElem?_eq_getElem hlt) ?_;generalize l[t]=y at *
  have e2:(l.take (t+1)).count x=(l.take t).count x+if y=x then 1 else 0:=by
   rw[e,count_append,List.count_singleton];simp
  refine r_eql (r_ifE (λq=>?_) λq=>?_)
  ·rw[if_pos (by omega)] at e2;refine r_add1N (by omega) (r_add1N (by omega) (r_ke ⟨⟨t+1,by rw[e2],rfl,by omega,rfl⟩,?_⟩));simp only[nv,RowKit.intOf,Int.toNat_natCast];omega
  ·rw[if_neg (by omega)] at e2;refine r_add1N (by omega) (r_ke ⟨⟨t+1,by rw[e2];rfl,rfl,by omega,rfl⟩,?_⟩);simp only[nv,RowKit.intOf,Int.toNat_natCast];omega
 ·rw[take_of_length_le (by omega)];exact k
theorem CountsD_spec {v:Value}{l:List Nat}{i n:Nat}(H:Holds w L) (hi:L[i]?=some (SL nv tI v l)) (hn:n<=1000000) (hl:l.length<=1000000000)
  (k:∀ v' w',Same w w'->Holds w' (SL nv tI v' (cnt l n)::L)->K v' w'):Cl prog 156 #[v,nv n] w K:=by
 refine Tz156 ?_;unfold Vz156;refine r_loop2 (λp q w'=>∃ t:Nat,q=nv t/\t<=n/\Same w w'/\Holds w' (SL nv tI p (cnt l t)::L)) (λ_ q _=>n - (RowKit.intOf q).toNat) ⟨0,rfl,Nat.zero_le _,.refl _,H.nilSL nv tI⟩ ?_;clear H;rintro _ p _ w3 ⟨t,rfl,ht,S3,H3⟩;refine r_lss (r_ifD (λh=>?_) λh=>?_)
 ·refine count_spec H3 (i:=i+1) (by rw[getElem?_cons_succ];exact hi) hl ?_;refine r_app1 (f:=nv) H3 0 (xs:=cnt l t) rfl (l.count t) (λ_=>rfl) (by rw[cnt_len];omega) λv' w4 S4 H4=>?_
  have e:cnt l t++[l.count t]=cnt l (t+1):=by unfold cnt;rw[range_succ,map_append];rfl
  rw[e] at H4;refine r_add1N (by omega) (r_ke ⟨⟨t+1,rfl,by omega,S3.trans S4,H4⟩,?_⟩);simp only[nv,RowKit.intOf,Int.toNat_natCast];omega
 ·obtain rfl:t=n:=by omega
  exact k p w3 S3 H3
end F08
namespace F08
variable {w:World}{L:List HProp}{K:Value->World->Prop}
def cost (l lens:List Nat):Nat:=(l.map λx=>lens.getD x 0).sum
def costD (l lens:List Nat) (t:Nat):Nat:=((List.range t).map λx=>l.count x*lens.getD x 0).sum
theorem sum_snoc (l:List Nat) (x:Nat):(l++[x]).sum=l.sum+x:=by simp
theorem costD_succ (l lens:List Nat) (t:Nat):costD l lens (t+1)=costD l lens t+l.count t*lens.getD t 0:=by
 unfold costD;rw[range_succ,map_append,map_cons,List.map_nil,sum_snoc]
theorem costD_cons (y:Nat) (l lens:List Nat):∀ t,costD (y::l) lens t=costD l lens t+if y < t then lens.getD y 0 else 0
 |0=>by simp[costD]
 |t+1=>by
  rw[costD_succ,costD_succ,costD_cons y l lens t,List.count_cons]
  by_cases e:y=t
  ·subst e;rw[if_neg (Nat.lt_irrefl _),if_pos (by simp),if_pos (by omega),Nat.add_mul,Nat.one_mul];omega
  ·have:(y==t)=false:=by simpa using e
   rw[this];simp only[Bool.false_eq_true,if_false,Nat.add_zero]
   by_cases q:y < t
   ·rw[if_pos q,if_pos (by omega)];omega
   ·rw[if_neg q,if_neg (by omega),Nat.add_zero,Nat.add_zero]
theorem costD_all (lens:List Nat):∀ l:List Nat,(∀ x∈l,x < lens.length)->costD l lens lens.length=cost l lens
 |[],_=>by
  have:∀ t,costD [] lens t=0:=by
   intro t
   induction t with
   |zero=>rfl
   |succ t ih=>rw[costD_succ,ih];simp
  exact this _
 |y::l,h=>by
  rw[costD_cons,costD_all lens l λx hx=>h x (mem_cons_of_mem _ hx),if_pos (h y (mem_cons_self ..))];unfold cost;rw[map_cons,List.sum_cons];omega
theorem getD_le {lens:List Nat}(h:∀ x∈lens,x<=20) (y:Nat):lens.getD y 0<=20:=by
 rw[getD_eq_getElem?_getD];rcases Nat.lt_or_ge y lens.length with q|q
 ·rw[getElem?_eq_getElem q];exact h _ (getElem_mem q)
 ·rw[getElem?_eq_none q];exact Nat.zero_le _
theorem costD_le {lens:List Nat}(h:∀ x∈lens,x<=20) (t:Nat):∀ l:List Nat,costD l lens t<=l.length*20
 |[]=>by
  have:∀ t,costD [] lens t=0:=by
   intro t
   induction t with
   |zero=>rfl
   |succ t ih=>rw[costD_succ,ih];simp
  rw[this];exact Nat.zero_le _
 |y::l=>by
  have h1:=costD_le h t l;have h2:=getD_le h y;rw[costD_cons,length_cons,Nat.add_mul]
  split <;> omega
theorem cost_le {lens:List Nat}(h:∀ x∈lens,x<=20):∀ l:List Nat,cost l lens<=l.length*20
 |[]=>Nat.le_refl _
 |y::l=>by
  have h1:=cost_le h l;have h2:=getD_le h y;show ((lens.getD y 0::l.map λx=>lens.getD x 0):List Nat).sum<=_;unfold cost at h1;rw[List.sum_cons,length_cons,Nat.add_mul];omega
theorem all_spec {v:Value}{l:List Nat}{i:Nat}(H:Holds w L) (hi:L[i]?=some (SL nv tI v l)) (hl:l.length<=1000000) (hb:∀ x∈l,x<=1099511627776) (k:K (.bool true) w):Cl prog 199 #[v] w K:=by
 refine Tz199 ?_;unfold Vz199;refine D11.none_spec H i hi hl (λx hx Q hQ=>?_) (r_notF k);have h1:=hb x hx;refine r_inv (f:=233) (args:=#[nv x]) (by kernel_rfl) ?_;refine Tz233 ?_;unfold Vz233;refine r_cl (K:=λz w'=>w=w'/\z=.bool true) ?_ ?_
 ·refine Tz234 ?_;unfold Vz234;refine r_geq (r_vtD (by omega) ?_);exact r_leq ⟨rfl,by rw[decide_eq_true (by omega)]⟩
 rintro _ _ ⟨rfl,rfl⟩;exact r_notT hQ
theorem together_spec {a b:Nat}(h:a+b<=1099511627776) (k:K (nv (a+b)) w):Cl prog 200 #[nv a,nv b] w K:=by
 refine Tz200 ?_;unfold Vz200;refine r_addN (by omega) (r_min ?_);rw[show min (((a+b:Nat):Int)) 1099511627776=((a+b:Nat):Int) by omega];exact k
theorem Cost_spec {v v2:Value}{l lens:List Nat}{i j:Nat}(H:Holds w L) (hi:L[i]?=some (SL nv tI v l)) (hj:L[j]?=some (SL nv tI v2 lens)) (hl:l.length<=10000000) (hn:lens.length<=1000000) (h20:∀ x∈lens,x<=20) (hx:∀ x∈l,x < lens.length)
  (k:K (.tuple #[nv (cost l lens),iv 0]) w):Cl prog 150 #[v,v2] w K:=by
 refine Tz150 ?_;unfold Vz150;refine all_spec H hj hn (λx hx=>by have:=h20 x hx;omega) (r_notT (r_vf ?_));refine r_lnS i H hi ?_;refine r_loop2 (λp q w'=>∃ t:Nat,p=nv (cost (l.take t) lens)/\q=nv t/\t<=l.length/\w=w') (λ_ q _=>l.length - (RowKit.intOf q).toNat) ⟨0,rfl,rfl,Nat.zero_le _,rfl⟩ ?_;rintro _ _ _ _ ⟨t,rfl,rfl,ht,rfl⟩;refine r_lss (r_ifD (λh=>?_) λh=>?_)
 ·have hlt:t < l.length:=by omega
  have e:l.take (t+1)=l.take t++[l[t]]:=by rw[take_add_one,getElem?_eq_getElem hlt];rfl
  have hxt:=hx _ (getElem_mem hlt);have hc:=cost_le h20 (l.take t);rw[length_take] at hc;refine r_getS i H hi (getElem?_eq_getElem hlt) ?_;generalize l[t]=x at *;have hg:=getD_le h20 x
  have e2:cost (l.take (t+1)) lens=cost (l.take t) lens+lens.getD x 0:=by
   unfold cost;rw[e,map_append,map_cons,List.map_nil,sum_snoc]
  refine r_join1 (λz w'=>w=w'/\z=.bool false) ?_ ?_
  rotate_left
  ·refine r_lss (r_vfD (by omega) ?_);refine r_lnS j H hj (r_geq (r_ke ⟨rfl,by rw[decide_eq_false (by omega)]⟩))
  rintro _ _ _ ⟨rfl,rfl⟩;refine r_vf ?_;refine r_getS j H hj (x:=lens.getD x 0) (by rw[getD_eq_getElem?_getD,getElem?_eq_getElem hxt];rfl) ?_;refine together_spec (by omega) ?_;rw[<-e2];refine r_add1N (by omega) (r_ke ⟨⟨t+1,rfl,rfl,by omega,rfl⟩,?_⟩);simp only[nv,RowKit.intOf,Int.toNat_natCast];omega
 ·rw[take_of_length_le (by omega)];exact k
theorem CostD_spec {v v2:Value}{l lens:List Nat}{i j:Nat}(H:Holds w L) (hi:L[i]?=some (SL nv tI v l)) (hj:L[j]?=some (SL nv tI v2 lens)) (hl:l.length<=10000000) (hn:lens.length<=1000000) (h20:∀ x∈lens,x<=20) (hx:∀ x∈l,x < lens.length)
  (k:K (nv (cost l lens)) w):Cl prog 205 #[v,v2] w K:=by
 refine Tz205 ?_;unfold Vz205;refine r_lnS j H hj ?_;refine r_loop2 (λp q w'=>∃ t:Nat,p=nv (costD l lens t)/\q=nv t/\t<=lens.length/\w=w') (λ_ q _=>lens.length - (RowKit.intOf q).toNat) ⟨0,rfl,rfl,Nat.zero_le _,rfl⟩ ?_;rintro _ _ _ _ ⟨t,rfl,rfl,ht,rfl⟩;refine r_lss (r_ifD (λh=>?_) λh=>?_)
 ·have hlt:t < lens.length:=by omega
  have hs:=costD_succ l lens t;have hle:=costD_le h20 (t+1) l;refine r_getS j H hj (x:=lens.getD t 0) (by rw[getD_eq_getElem?_getD,getElem?_eq_getElem hlt];rfl) ?_;refine count_spec H (i:=i) (x:=t) hi (by omega) ?_;have hcl:l.count t<=l.length:=count_le_length;generalize lens.getD t 0=y at *;generalize l.count t=c at *;generalize costD l lens t=b at *;refine r_loop2 (λp q w'=>∃ m:Nat,p=nv (b+m*y)/\q=nv m/\m<=c/\w=w') (λ_ q _=>c - (RowKit.intOf q).toNat) ⟨0,by rw[Nat.zero_mul,Nat.add_zero],rfl,Nat.zero_le _,rfl⟩ ?_;rintro _ _ _ _ ⟨m,rfl,rfl,hm,rfl⟩;refine r_lss (r_ifD (λh2=>?_) λh2=>?_)
  ·have h3:(m+1)*y<=c*y:=Nat.mul_le_mul_right _ (by omega)
   have h4:(m+1)*y=m*y+y:=by rw[Nat.add_mul,Nat.one_mul]
   refine r_addN (by omega) ?_;refine r_cl (K:=λz w'=>w=w'/\z=nv (b+(m+1)*y)) ?_ ?_
   ·refine Tz236 ?_;unfold Vz236;refine r_gtr (r_vfD (by omega) ?_);exact⟨rfl,by rw[h4,Nat.add_assoc]⟩
   rintro _ _ ⟨rfl,rfl⟩;refine r_add1N (by omega) (r_ke ⟨⟨m+1,rfl,rfl,by omega,rfl⟩,?_⟩);simp only[nv,RowKit.intOf,Int.toNat_natCast];omega
  ·obtain rfl:m=c:=by omega
   refine r_add1N (by omega) (r_ke ⟨⟨t+1,by rw[hs],rfl,by omega,rfl⟩,?_⟩);simp only[nv,RowKit.intOf,Int.toNat_natCast];omega
 ·obtain rfl:t=lens.length:=by omega
  rw[costD_all lens l hx];exact k
theorem Groups_spec {n:Nat}(hn:n<=1000000000) (k:K (nv ((n+49)/50)) w):Cl prog 148 #[nv n] w K:=by
 refine Tz148 ?_;unfold Vz148;refine r_leq (r_ifD (λh=>?_) λh=>?_)
 ·obtain rfl:n=0:=by omega
  exact k
 ·refine r_sub1N (by omega) (by omega) ?_;refine r_quo (by omega) (by omega) (by omega) ?_;rw[show ((n - 1:Nat):Int)/50=(((n - 1)/50:Nat):Int) by omega];refine r_add1N (by omega) ?_;rw[show (n - 1)/50+1=(n+49)/50 by omega];exact k
def addL (a b:List Nat):List Nat:=List.zipWith (·+·) a b
theorem Add_spec {v v2:Value}{a b:List Nat}{i j:Nat}(H:Holds w L) (hi:L[i]?=some (SL nv tI v a)) (hj:L[j]?=some (SL nv tI v2 b)) (hl:a.length<=1000000) (hab:b.length=a.length) (ha:∀ x∈a,x<=500000000000) (hb:∀ x∈b,x<=500000000000)
  (k:∀ v' w',Same w w'->Holds w' (SL nv tI v' (addL a b)::L)->K (.tuple #[v',iv 0]) w'):Cl prog 229 #[v,v2] w K:=by
 refine Tz229 ?_;unfold Vz229;refine r_join1 (λt w'=>w=w'/\t=.bool false) ?_ ?_
 rotate_left
 ·refine r_lnS i H hi (r_lnS j H hj (r_neq (r_vfN (by omega) ?_)));refine all_spec H hi hl (λx hx=>by have:=ha x hx;omega) (r_notT (r_vf ?_));exact all_spec H hj (by omega) (λx hx=>by have:=hb x hx;omega) (r_notT (r_ke ⟨rfl,rfl⟩))
 rintro _ _ _ ⟨rfl,rfl⟩;refine r_vf ?_;refine r_lnS i H hi ?_;refine r_ms (f:=nv) (x:=0) H rfl (by omega) (by omega) λob w2 S2 H2=>?_;rw[Int.toNat_natCast] at H2 ⊢;have H3:=H2.close 0 rfl;simp only[set_cons_zero,length_replicate,length_nil,Nat.add_zero] at H3;generalize hv:Value.slice (some ⟨ob,0,none⟩) a.length a.length=ov at H3 ⊢;refine r_lnS 0 H3 rfl ?_;rw[length_replicate];refine r_loop1 (λq w'=>∃ (t:Nat),q=nv t/\t<=a.length/\Same w w'/\Holds w' (SL nv tI ov (addL (a.take t) (b.take t)++List.replicate (a.length - t) 0)::L)) (λq _=>a.length - (RowKit.intOf q).toNat) ⟨0,rfl,Nat.zero_le _,S2,H3⟩ ?_;clear H H2 H3 S2;rintro _ _ w3 ⟨t,rfl,ht,S3,H3⟩;refine r_lss (r_ifD (λh=>?_) λh=>?_)
 ·have hlt:t < a.length:=by omega
  have hlt2:t < b.length:=by omega
  have h1:=ha _ (getElem_mem hlt);have h2:=hb _ (getElem_mem hlt2)
  have e1:a.take (t+1)=a.take t++[a[t]]:=by rw[take_add_one,getElem?_eq_getElem hlt];rfl
  have e2:b.take (t+1)=b.take t++[b[t]]:=by rw[take_add_one,getElem?_eq_getElem hlt2];rfl
  refine r_dr H3 λw4 S4 H4=>?_;refine r_getS (i+1) H4 (by rw[getElem?_cons_succ];exact hi) (getElem?_eq_getElem hlt) ?_;refine r_getS (j+1) H4 (by rw[getElem?_cons_succ];exact hj) (getElem?_eq_getElem hlt2) ?_;generalize a[t]=x at *;generalize b[t]=y at *
  have hlen:(addL (a.take t) (b.take t)).length=t:=by unfold addL;rw[List.length_zipWith,length_take,length_take];omega
  refine together_spec (by omega) ?_;refine r_setS 0 H4 (x+y) rfl (by rw[length_append,hlen,length_replicate];omega) rfl λw5 S5 H5=>?_;refine r_add1N (by omega) (r_ke ⟨⟨t+1,rfl,by omega,S3.trans (S4.trans S5),?_⟩,?_⟩)
  ·replace H5:Holds w5 (SL nv tI ov ((addL (a.take t) (b.take t)++List.replicate (a.length - t) 0).set t (x+y))::L):=H5;rw[List.set_append_right _ _ (by omega),hlen,Nat.sub_self,show a.length - t=(a.length - (t+1))+1 by omega,List.replicate_succ,set_cons_zero] at H5
   have e3:addL (a.take (t+1)) (b.take (t+1))=addL (a.take t) (b.take t)++[x+y]:=by
    unfold addL;rw[e1,e2,List.zipWith_append (by rw[length_take,length_take];omega)];rfl
   rw[e3,append_assoc];exact H5
  ·simp only[nv,RowKit.intOf,Int.toNat_natCast];omega
 ·obtain rfl:t=a.length:=by omega
  rw[take_length,take_of_length_le (by omega),Nat.sub_self,List.replicate_zero,append_nil] at H3;exact k ov w3 S3 H3
end F08
namespace T12
variable {w:World}{L:List HProp}{K:Value->World->Prop}
def bnd:List Nat:=[200,600,1200,2400]
def numAt (n t:Nat):Nat:=2+((bnd.take t).filter λb=>decide (b<=n)).length
def num (n:Nat):Nat:=numAt n 4
theorem numAt_succ (n:Nat){t:Nat}(h:t < 4):numAt n (t+1)=numAt n t+if bnd.getD t 0<=n then 1 else 0:=by
 unfold numAt;have hl:t < bnd.length:=h;rw[take_add_one,getElem?_eq_getElem hl,filter_append,length_append,getD_eq_getElem?_getD,getElem?_eq_getElem hl];show 2+(_+(List.filter _ [bnd[t]]).length)=_
 by_cases e:bnd[t]<=n
 ·rw[List.filter_cons_of_pos (by simpa using e)]
  show _=_+if bnd[t]<=n then 1 else 0
  rw[if_pos e];simp;omega
 ·rw[List.filter_cons_of_neg (by simpa using e)]
  show _=_+if bnd[t]<=n then 1 else 0
  rw[if_neg e];simp
def BndOk (L:List HProp):Prop:=∀ w',Holds w' L->∃ e z,w'.heap[1]?=some (.cells (bnd.map nv).toArray e z)
theorem BndOk.up {Q:HProp}(h:BndOk L):BndOk (Q::L):=λw' H=>h w' H.drop
theorem Number_spec {n:Nat}(H:Holds w L) (hb:BndOk L) (k:K (nv (num n)) w):Cl prog 227 #[nv n] w K:=by
 refine Tz227 ?_;unfold Vz227;obtain⟨e,z,hh⟩:=hb w H;refine r_ldAP (p:=⟨1,0,none⟩) (cs:=(bnd.map nv).toArray) rfl (λj v hv=>?_) ?_
 ·have e1:(⟨1,0,none⟩:Addr).add j=⟨1,j,none⟩:=by
   unfold Addr.add;split
   ·rename_i q;rw[q]
   ·simp
  rw[e1];simp only[World.cell?,hh];exact hv
 refine r_loop2 (λp q w'=>∃ t:Nat,p=nv (numAt n t)/\q=nv t/\t<=4/\numAt n t<=2+t/\w=w') (λ_ q _=>4 - (RowKit.intOf q).toNat) ⟨0,rfl,rfl,by omega,Nat.le_refl _,rfl⟩ ?_;rintro _ _ _ _ ⟨t,rfl,rfl,ht,hle,rfl⟩;refine r_lss (r_ifD (λh=>?_) λh=>?_)
 ·have hlt:t < 4:=by omega
  have hs:=numAt_succ n hlt;have hl:t < bnd.length:=hlt
  refine r_ixa1 (nv (bnd.getD t 0)) (by omega) (by omega) (by
   rw[Int.toNat_natCast,getElem?_map,getElem?_eq_getElem hl,getD_eq_getElem?_getD,getElem?_eq_getElem hl];rfl) ?_
  refine r_geq (r_ifD (λq=>?_) λq=>?_)
  ·rw[if_pos (by omega)] at hs;refine r_add1N (by omega) (r_add1N (by omega) (r_ke ⟨⟨t+1,by rw[hs],rfl,by omega,by omega,rfl⟩,?_⟩));simp only[nv,RowKit.intOf,Int.toNat_natCast];omega
  ·rw[if_neg (by omega)] at hs;refine r_add1N (by omega) (r_ke ⟨⟨t+1,by rw[hs];rfl,rfl,by omega,by omega,rfl⟩,?_⟩);simp only[nv,RowKit.intOf,Int.toNat_natCast];omega
 ·obtain rfl:t=4:=by omega
  exact k
theorem NumberD_spec {n:Nat}(k:K (nv (num n)) w):Cl prog 203 #[nv n] w K:=by
 refine Tz203 ?_;unfold Vz203;have h0:numAt n 0=2:=rfl;have h1:numAt n 1=numAt n 0+_:=numAt_succ n (t:=0) (by omega);have h2:numAt n 2=numAt n 1+_:=numAt_succ n (t:=1) (by omega);have h3:numAt n 3=numAt n 2+_:=numAt_succ n (t:=2) (by omega);have h4:numAt n 4=numAt n 3+_:=numAt_succ n (t:=3) (by omega);rw[show bnd.getD 0 0=200 from rfl] at h1;rw[show bnd.getD 1 0=600 from rfl] at h2;rw[show bnd.getD 2 0=1200 from rfl] at h3;rw[show bnd.getD 3 0=2400 from rfl] at h4;have hn:num n=numAt n 4:=rfl;refine r_lss (r_ifD (λq=>?_) λq=>?_)
 ·rw[if_neg (by omega)] at h1 h2 h3 h4;rw[show num n=2 by omega] at k;exact k
 refine r_lss (r_ifD (λq2=>?_) λq2=>?_)
 ·rw[if_pos (by omega)] at h1;rw[if_neg (by omega)] at h2 h3 h4;rw[show num n=3 by omega] at k;exact k
 refine r_lss (r_ifD (λq3=>?_) λq3=>?_)
 ·rw[if_pos (by omega)] at h1 h2;rw[if_neg (by omega)] at h3 h4;rw[show num n=4 by omega] at k;exact k
 refine r_lss (r_ifD (λq4=>?_) λq4=>?_)
 ·rw[if_pos (by omega)] at h1 h2 h3;rw[if_neg (by omega)] at h4;rw[show num n=5 by omega] at k;exact k
 ·rw[if_pos (by omega)] at h1 h2 h3 h4;rw[show num n=6 by omega] at k;exact k
end T12
namespace F08
variable {w:World}{L:List HProp}{K:Value->World->Prop}
theorem CloneO_spec {b o m c j:Nat}{cs:List Value}{xs:List Nat}(H:Holds w L) (hj:L[j]?=some (blk b tI cs)) (hcs:(cs.drop o).take m=xs.map nv) (hm:m=xs.length) (hne:0 < xs.length) (hn:xs.length<=1000000000)
  (k:∀ v' w',Same w w'->Holds w' (SL nv tI v' xs::L)->K v' w'):Cl prog 153 #[.slice (some ⟨b,o,none⟩) m c] w K:=by
 refine Tz153 ?_;unfold Vz153;refine eq_nilI _ _ _ (r_vf ?_);refine r_bsK (e:=tI) [] H (by kernel_rfl) λb0 w1 S1 H1=>?_;have H2:=Holds.slb' (f:=nv) (xs:=[]) (sp:=[]) H1 0 rfl;rw[set_cons_zero] at H2;refine r_apO (f:=nv) (xs:=[]) (ys:=xs) (sp:=[]) (l:=0) (c:=0) H2 0 (j+1) rfl (by rw[getElem?_cons_succ];exact hj) hcs hm rfl rfl sg_nv (by simp only[length_nil];omega) hne λoa' sp' w2 S2 H3=>?_;rw[set_cons_zero,nil_append] at H3;have H4:=H3.close 0 rfl;rw[set_cons_zero] at H4;have:=k _ w2 (S1.trans S2) H4;simpa only[length_nil,Nat.zero_add] using this
theorem Group_spec {v:Value}{l:List Nat}{i g:Nat}(H:Holds w L) (hi:L[i]?=some (SL nv tI v l)) (hl:l.length<=100000000) (hg:g*50 < l.length)
  (k:∀ v' w',Same w w'->Holds w' (SL nv tI v' ((l.drop (g*50)).take 50)::L)->K (.tuple #[v',iv 0]) w'):Cl prog 149 #[v,nv g] w K:=by
 refine Tz149 ?_;unfold Vz149;refine r_join1 (λt w'=>w=w'/\t=.bool false) ?_ ?_
 rotate_left
 ·refine r_lss (r_vfD (by omega) ?_);refine r_lnS i H hi (Groups_spec (by omega) ?_);exact r_geq (r_ke ⟨rfl,by rw[decide_eq_false (by omega)]⟩)
 rintro _ _ _ ⟨rfl,rfl⟩;refine r_vf ?_;refine r_cl (K:=λz w'=>Same w w'/\Holds w' (SL nv tI z ((l.drop (g*50)).take 50)::L)) ?_ ?_
 ·refine Tz198 ?_;unfold Vz198;refine r_mulE ((g*50:Nat):Int) (by omega) (by omega) (by omega) ?_;refine r_lnS i H hi (r_add1N (by omega) ?_);refine r_mulE (((g+1)*50:Nat):Int) (by omega) (by omega) (by omega) ?_;refine r_min ?_;obtain⟨h,hh⟩:∃ h,h=min l.length ((g+1)*50):=⟨_,rfl⟩;rw[show min (l.length:Int) (((g+1)*50:Nat):Int)=(h:Int) by omega];obtain⟨oa,sp,rfl,H1⟩:=H.open i hi
  cases oa with
  |none=>
   obtain⟨q,⟨h2,_⟩,_⟩:=H1.front i (set_get hi);subst h2;simp at hg
  |some a=>
   obtain⟨q,⟨h2,h3,_⟩,_⟩:=H1.front i (set_get hi);obtain⟨b,o,s⟩:=a;simp only at h2 h3;subst h2;subst h3;refine r_sslLH (by omega) (by omega) ?_;rw[if_neg (by omega)];have H2:=H1.slb i (set_get hi);rw[set_set] at H2
   have e1:Option.map (λx:Addr=>x.add (g*50*1)) (some (⟨b,0,none⟩:Addr))=some (⟨b,g*50,none⟩:Addr):=by
    show some ((⟨b,0,none⟩:Addr).add (g*50*1))=_;rw[Nat.mul_one];unfold Addr.add;split
    ·rename_i e;rw[e]
    ·simp
   rw[e1]
   have hlen:((l.drop (g*50)).take 50).length=h - g*50:=by rw[length_take,length_drop];omega
   refine CloneO_spec (xs:=(l.drop (g*50)).take 50) H2 (j:=i) (set_get hi) ?_ hlen.symm (by omega) (by omega) λv' w2 S2 H3=>⟨S2,?_⟩
   ·rw[List.drop_append_of_le_length (by rw[length_map];omega),List.take_append_of_le_length (by rw[length_drop,length_map];omega),<-List.map_drop,<-List.map_take]
    congr 1
    rcases Nat.le_total ((g+1)*50) l.length with q|q
    ·rw[show h - g*50=50 by omega]
    ·rw[take_of_length_le (by rw[length_drop];omega),take_of_length_le (by rw[length_drop];omega)]
   ·have H4:=(Holds.slb' (f:=nv) (xs:=l) (sp:=sp) H3 (i+1) (by rw[getElem?_cons_succ];exact set_get hi));have H5:=H4.close (i+1) (by rw[set_cons_succ,getElem?_cons_succ];exact set_get (set_get hi));rw[set_cons_succ,set_cons_succ,set_set,set_set] at H5
    have e2:L.set i (SL nv tI (.slice (some ⟨b,0,none⟩) l.length (l.length+sp.length)) l)=L:=by
     obtain⟨p1,p2⟩:=List.getElem?_eq_some_iff.1 hi;rw[<-p2,set_getElem_self]
    rw[e2] at H5;exact H5
 rintro v' w' ⟨S2,H2⟩;exact k v' w' S2 H2
theorem addL_cnt (a b:List Nat) (n:Nat):addL (cnt a n) (cnt b n)=cnt (a++b) n:=by
 unfold addL;apply ext_getElem?;intro i;rw[List.getElem?_zipWith];rcases Nat.lt_or_ge i n with q|q
 ·rw[cnt_get q,cnt_get q,cnt_get q,count_append]
 ·have e:∀ z,(cnt z n)[i]?=none:=λz=>getElem?_eq_none (by rw[cnt_len];exact q);rw[e,e,e]
theorem cnt_le (l:List Nat) (n:Nat):∀ x∈cnt l n,x<=l.length:=by
 intro x hx;unfold cnt at hx;obtain⟨y,_,rfl⟩:=List.mem_map.1 hx;exact count_le_length
end F08
namespace Rw
variable {w:World}{L:List HProp}{K:Value->World->Prop}
abbrev tIs:Nat:=69
instance rowIs:Row prog 146 tIs (.slice none 0 0):=⟨by kernel_rfl,⟨t69,by kernel_rfl,by kernel_rfl,by decide,by kernel_rfl⟩,rfl⟩
abbrev Sw:Type:=Option Addr × Nat × Nat
abbrev sw (x:Sw):Value:=.slice x.1 x.2.1 x.2.2
theorem sg_sw (x:Sw):sg (sw x)=true:=rfl
def RI (vs:List Sw) (rs:List (List Nat)):List HProp:=(vs.zip rs).map λx=>SL nv tI (sw x.1) x.2
def RR (v:Value) (rs:List (List Nat)):HProp:=λh=>∃ vs,vs.length=rs.length/\Sat (SL sw tIs v vs::RI vs rs) h
theorem ri_get {vs:List Sw}{rs:List (List Nat)}{q:Nat}{x:Sw}{l:List Nat}(hx:vs[q]?=some x) (hl:rs[q]?=some l):(RI vs rs)[q]?=some (SL nv tI (sw x) l):=by
 unfold RI;rw[getElem?_map,(List.getElem?_zip_eq_some (z:=(x,l))).2 ⟨hx,hl⟩];rfl
theorem ri_len {vs:List Sw}{rs:List (List Nat)}(h:vs.length=rs.length):(RI vs rs).length=rs.length:=by unfold RI;simp[h]
theorem ri_set {vs:List Sw}{rs:List (List Nat)}{q:Nat}(x:Sw) (l:List Nat) (h:vs.length=rs.length):(RI vs rs).set q (SL nv tI (sw x) l)=RI (vs.set q x) (rs.set q l):=by
 unfold RI;apply ext_getElem?;intro i;rw[getElem?_set,getElem?_map,getElem?_map,length_map,List.length_zip,h,Nat.min_self]
 by_cases e:q=i
 ·subst e;rw[if_pos rfl]
  by_cases hq:q < rs.length
  ·rw[if_pos hq,(List.getElem?_zip_eq_some (z:=(x,l))).2 ⟨by rw[List.getElem?_set_self (by omega)],by rw[List.getElem?_set_self hq]⟩];rfl
  ·rw[if_neg hq,getElem?_eq_none (by rw[List.length_zip,length_set,length_set];omega)];rfl
 ·rw[if_neg e]
  congr 1
  apply Option.ext;rintro⟨y,m⟩;rw[List.getElem?_zip_eq_some,List.getElem?_zip_eq_some,getElem?_set_ne e,getElem?_set_ne e]
theorem sl_sw {v:Value}{l:List Nat}{i:Nat}(H:Holds w L) (hi:L[i]?=some (SL nv tI v l)):∃ x,v=sw x:=by
 obtain⟨oa,sp,rfl,_⟩:=H.open i hi;exact⟨(oa,_,_),rfl⟩
theorem rr_nil (H:Holds w L):Holds w (RR (.slice none 0 0) []::L):=by
 have H1:=H.nilSL sw tIs;have H2:Holds w (Sat [SL sw tIs (.slice none 0 0) []]::L):=Holds.pack (A:=[_]) H1;exact Holds.imp H2 λh hh=>⟨[],rfl,hh⟩
theorem rr_ln (i:Nat) (H:Holds w L){v:Value}{rs:List (List Nat)}{K:Value->Prop}(hi:L[i]?=some (RR v rs)) (h:K (nv rs.length)):Lnl v K:=by
 obtain⟨vs,H1⟩:=H.atEx (α:=List Sw) (Q:=λvs h=>vs.length=rs.length/\Sat (SL sw tIs v vs::RI vs rs) h) i hi λg hg=>hg;obtain⟨hl,H2⟩:=H1.atPure (Q:=Sat (SL sw tIs v vs::RI vs rs)) i (set_get hi) λg hg=>hg;rw[set_set] at H2;have H3:=H2.front i (set_get hi);rw[eraseIdx_set_eq] at H3;have H4:Holds w (SL sw tIs v vs::(RI vs rs++L.eraseIdx i)):=Holds.unpack H3;refine r_lnS 0 H4 rfl ?_;rw[hl];exact h
theorem r_getP {α:Type}(i:Nat) (H:Holds w L){f:α->Value}{e:TypeId}{v:Value}{xs:List α}{k:IntKind}{j:Nat}{x:α}{J:Value->Prop}(hi:L[i]?=some (SL f e v xs)) (hx:xs[j]?=some x)
  (h:∀ p,(∀ J':Value->Prop,J' (f x)->Ld p w J')->J p):Ias 1 v (.int k (j:Int)) J:=by
 obtain⟨oa,sp,rfl,H1⟩:=H.open i hi;have hj:j < xs.length:=(List.getElem?_eq_some_iff.1 hx).1;refine r_iasN i H1 (set_get hi) hj (Nat.le_refl _) λb hb=>?_;subst hb;exact h _ λJ' hJ=>r_ldsl i H1 (set_get hi) hx hJ
theorem rr_shut {x:Sw}{R:HProp}{v:Value}{rs':List (List Nat)}{l':List Nat}(hR:∀ h,Sat [SL nv tI (sw x) l',R] h->RR v rs' h) (N:List HProp) (i:Nat){L':List HProp}(hi:L'[i]?=some R){w':World}
  (H:Holds w' (N++SL nv tI (sw x) l'::L')):Holds w' (N++L'.set i (RR v rs')):=by
 have key:∀ h,Sat (SL nv tI (sw x) l'::L') h->Sat (L'.set i (RR v rs')) h:=by
  intro h hh
  have h1:Sat (R::SL nv tI (sw x) l'::L'.eraseIdx i) h:=by
   have:=Sat.pull (i+1) hh (P:=R) (by rw[getElem?_cons_succ];exact hi);rw[eraseIdx_cons_succ] at this;exact this
  have h4:Sat ([SL nv tI (sw x) l',R]++L'.eraseIdx i) h:=Sat.swap h1;exact Sat.push i hi (Sat.imp (Sat.pack h4) λg hg=>hR g hg)
 have lift:∀ (N:List HProp) h,Sat (N++SL nv tI (sw x) l'::L') h->Sat (N++L'.set i (RR v rs')) h:=by
  intro N
  induction N with
  |nil=>exact key
  |cons P N ih=>exact λh hh=>Sat_tail ih hh
 exact lift N _ H
theorem rr_sw {v:Value}{rs:List (List Nat)}{i:Nat}(H:Holds w L) (hi:L[i]?=some (RR v rs)):∃ x,v=sw x:=by
 obtain⟨vs,H1⟩:=H.atEx (α:=List Sw) (Q:=λvs h=>vs.length=rs.length/\Sat (SL sw tIs v vs::RI vs rs) h) i hi λg hg=>hg;obtain⟨_,H2⟩:=H1.atPure (Q:=Sat (SL sw tIs v vs::RI vs rs)) i (set_get hi) λg hg=>hg;rw[set_set] at H2;have H3:=H2.front i (set_get hi);rw[eraseIdx_set_eq] at H3;have H4:Holds w (SL sw tIs v vs::(RI vs rs++L.eraseIdx i)):=Holds.unpack H3;obtain⟨oa,sp,rfl,_⟩:=H4.open 0 rfl;exact⟨(oa,_,_),rfl⟩
theorem rr_open (i:Nat) (H:Holds w L){v:Value}{rs:List (List Nat)}{q:Nat}{l:List Nat}(hi:L[i]?=some (RR v rs)) (hq:rs[q]?=some l) :
  ∃ (x:Sw) (R:HProp),(∀ (k:IntKind) (J:Value->Prop),(∀ p,(∀ J':Value->Prop,J' (sw x)->Ld p w J')->J p)->Ias 1 v (.int k (q:Int)) J)/\Holds w (SL nv tI (sw x) l::L.set i R)/\
   (∀ (N:List HProp) (w':World),Holds w' (N++SL nv tI (sw x) l::L.set i R)->Holds w' (N++L))/\
   (∀ (l':List Nat) (N:List HProp) (w':World),Holds w' (N++SL nv tI (sw x) l'::L.set i R)->Holds w' (N++L.set i (RR v (rs.set q l'))))/\
   (∀ l' h,Sat [SL nv tI (sw x) l',R] h->RR v (rs.set q l') h)/\∀ h,Sat [SL nv tI (sw x) l,R] h->RR v rs h:=by
 obtain⟨vs,H1⟩:=H.atEx (α:=List Sw) (Q:=λvs h=>vs.length=rs.length/\Sat (SL sw tIs v vs::RI vs rs) h) i hi λg hg=>hg;obtain⟨hl,H2⟩:=H1.atPure (Q:=Sat (SL sw tIs v vs::RI vs rs)) i (set_get hi) λg hg=>hg;rw[set_set] at H2;have hqr:q < rs.length:=(List.getElem?_eq_some_iff.1 hq).1;have hx:vs[q]?=some vs[q]:=getElem?_eq_getElem (by omega);generalize vs[q]=x at hx;have hri:=ri_get hx hq
 have hA:(SL sw tIs v vs::RI vs rs)[q+1]?=some (SL nv tI (sw x) l):=by rw[getElem?_cons_succ];exact hri
 have hR:∀ l' h,Sat [SL nv tI (sw x) l',Sat ((SL sw tIs v vs::RI vs rs).eraseIdx (q+1))] h->RR v (rs.set q l') h:=by
  intro l' g hg;have h6:Sat (Sat ((SL sw tIs v vs::RI vs rs).eraseIdx (q+1))::[SL nv tI (sw x) l']) g:=Sat.swap hg;have h7:=Sat.unpack h6
  have h8:(((SL sw tIs v vs::RI vs rs).eraseIdx (q+1))++[SL nv tI (sw x) l'])[((SL sw tIs v vs::RI vs rs).eraseIdx (q+1)).length]?=some (SL nv tI (sw x) l'):=by simp
  have h9:=Sat.pull _ h7 h8;rw[List.eraseIdx_append_of_length_le (Nat.le_refl _),Nat.sub_self,List.eraseIdx_cons_zero,append_nil] at h9;refine⟨vs,by rw[length_set];exact hl,?_⟩;have:=Sat.push (q+1) hA h9;rw[set_cons_succ,ri_set x l' hl] at this
  have e:vs.set q x=vs:=by
   obtain⟨p1,p2⟩:=List.getElem?_eq_some_iff.1 hx;rw[<-p2,set_getElem_self]
  rw[e] at this;exact this
 have back:∀ (l':List Nat) (N:List HProp) (w':World),Holds w' (N++SL nv tI (sw x) l'::L.set i (Sat ((SL sw tIs v vs::RI vs rs).eraseIdx (q+1))))->Holds w' (N++L.set i (RR v (rs.set q l'))):=by
  intro l' N w' HN;have:=rr_shut (hR l') N i (set_get hi) HN;rw[set_set] at this;exact this
 have e1:rs.set q l=rs:=by
  obtain⟨p1,p2⟩:=List.getElem?_eq_some_iff.1 hq;rw[<-p2,set_getElem_self]
 refine⟨x,Sat ((SL sw tIs v vs::RI vs rs).eraseIdx (q+1)),?_,?_,?_,back,hR,λh hh=>by have:=hR l h hh;rw[e1] at this;exact this⟩
 ·intro k J hJ;have H3:=H2.front i (set_get hi);rw[eraseIdx_set_eq] at H3;have H4:Holds w (SL sw tIs v vs::(RI vs rs++L.eraseIdx i)):=Holds.unpack H3;exact r_getP 0 H4 rfl hx hJ
 ·have H3:=H2.front i (set_get hi);rw[eraseIdx_set_eq] at H3;have H4:Holds w (Sat (SL nv tI (sw x) l::(SL sw tIs v vs::RI vs rs).eraseIdx (q+1))::L.eraseIdx i):=Holds.imp H3 λg hg=>Sat.pull (q+1) hg hA;have H5:Holds w (SL nv tI (sw x) l::((SL sw tIs v vs::RI vs rs).eraseIdx (q+1)++L.eraseIdx i)):=Holds.unpack H4;have H6:Holds w (SL nv tI (sw x) l::Sat ((SL sw tIs v vs::RI vs rs).eraseIdx (q+1))::L.eraseIdx i):=Sat_tail (λh hh=>Sat.pack hh) H5;exact Sat_tail (λh hh=>Sat.push i hi hh) H6
 ·intro N w' HN;have:=back l N w' HN
  have e2:L.set i (RR v rs)=L:=by
   obtain⟨p1,p2⟩:=List.getElem?_eq_some_iff.1 hi;rw[<-p2,set_getElem_self]
  rw[e1,e2] at this;exact this
theorem rr_set (i:Nat){v v':Value}{rs:List (List Nat)}{q:Nat}{l:List Nat}(H:Holds w (SL nv tI v' l::L)) (hi:L[i]?=some (RR v rs)) (hq:q < rs.length){k:IntKind}{J:World->Prop}
  (h:∀ w',Same w w'->Holds w' (L.set i (RR v (rs.set q l)))->J w'):Ias 1 v (.int k (q:Int)) λp=>St p v' w J:=by
 obtain⟨y,rfl⟩:=sl_sw H (i:=0) rfl
 have hi':(SL nv tI (sw y) l::L)[i+1]?=some (RR v rs):=by rw[getElem?_cons_succ];exact hi
 obtain⟨vs,H1⟩:=H.atEx (α:=List Sw) (Q:=λvs h=>vs.length=rs.length/\Sat (SL sw tIs v vs::RI vs rs) h) (i+1) hi' λg hg=>hg;obtain⟨hl,H2⟩:=H1.atPure (Q:=Sat (SL sw tIs v vs::RI vs rs)) (i+1) (set_get hi') λg hg=>hg;rw[set_set] at H2;have H3:=H2.front (i+1) (set_get hi');rw[eraseIdx_set_eq,eraseIdx_cons_succ] at H3;have H4:Holds w (SL sw tIs v vs::(RI vs rs++SL nv tI (sw y) l::L.eraseIdx i)):=Holds.unpack H3;refine r_setS (f:=sw) 0 H4 y rfl (by omega) rfl λw' S' H5=>h w' S' ?_;rw[set_cons_zero] at H5
 have h6:((SL sw tIs v (vs.set q y)::RI vs rs)++SL nv tI (sw y) l::L.eraseIdx i)[rs.length+1]?=some (SL nv tI (sw y) l):=by
  rw[cons_append,getElem?_cons_succ,getElem?_append_right (by rw[ri_len hl];omega),ri_len hl,Nat.sub_self];rfl
 have H6:Holds w' (((SL sw tIs v (vs.set q y)::RI vs rs))++SL nv tI (sw y) l::L.eraseIdx i):=H5;have H7:=H6.front _ h6;rw[cons_append,eraseIdx_cons_succ,List.eraseIdx_append_of_length_le (by rw[ri_len hl];omega),ri_len hl,Nat.sub_self,List.eraseIdx_cons_zero] at H7;have H8:Holds w' (Sat (SL nv tI (sw y) l::SL sw tIs v (vs.set q y)::RI vs rs)::L.eraseIdx i):=Holds.pack H7
 have H9:Holds w' (RR v (rs.set q l)::L.eraseIdx i):=Holds.imp H8 λg hg=>⟨vs.set q y,by simp[hl],by
  have hA:(SL sw tIs v (vs.set q y)::RI vs rs)[q+1]?=some (SL nv tI (sw vs[q]) rs[q]):=by
   rw[getElem?_cons_succ];exact ri_get (getElem?_eq_getElem (by omega)) (getElem?_eq_getElem hq)
  obtain⟨g1,hg1,hs1,hr⟩:=hg
  have h10:Sat (SL nv tI (sw y) l::(SL sw tIs v (vs.set q y)::RI vs rs).eraseIdx (q+1)) g:=by
   refine⟨g1,hg1,hs1,?_⟩;obtain⟨g2,_,_,hr2⟩:=Sat.pull (q+1) hr hA
   exact hr2.mono λb o hb=>by
    unfold Hp.minus at hb;split at hb
    ·cases hb
    ·exact hb
  have:=Sat.push (q+1) hA h10;rw[set_cons_succ,ri_set y l hl] at this
  exact this⟩
 exact Sat.push i hi H9
theorem rr_app (i:Nat){v v':Value}{rs:List (List Nat)}{l:List Nat}{ty:TypeId}(H:Holds w (SL nv tI v' l::L)) (hi:L[i]?=some (RR v rs)) (hn:rs.length+1<=1099511627776)
  (h:∀ v2 w',Same w w'->Holds w' (L.set i (RR v2 (rs++[l])))->K v2 w'):Bs prog 146 1 #[(0,v')] w λy w2=>Ap prog #[146,146] ty #[v,y] w2 K:=by
 obtain⟨y,rfl⟩:=sl_sw H (i:=0) rfl
 have hi':(SL nv tI (sw y) l::L)[i+1]?=some (RR v rs):=by rw[getElem?_cons_succ];exact hi
 obtain⟨vs,H1⟩:=H.atEx (α:=List Sw) (Q:=λvs h=>vs.length=rs.length/\Sat (SL sw tIs v vs::RI vs rs) h) (i+1) hi' λg hg=>hg;obtain⟨hl,H2⟩:=H1.atPure (Q:=Sat (SL sw tIs v vs::RI vs rs)) (i+1) (set_get hi') λg hg=>hg;rw[set_set] at H2;have H3:=H2.front (i+1) (set_get hi');rw[eraseIdx_set_eq,eraseIdx_cons_succ] at H3;have H4:Holds w (SL sw tIs v vs::(RI vs rs++SL nv tI (sw y) l::L.eraseIdx i)):=Holds.unpack H3;refine r_app1 (f:=sw) H4 0 rfl y sg_sw (by omega) λv2 w' S' H5=>h v2 w' S' ?_;rw[set_cons_zero] at H5
 have e:RI (vs++[y]) (rs++[l])=RI vs rs++[SL nv tI (sw y) l]:=by
  unfold RI;rw[List.zip_append hl,map_append];rfl
 have H6:Holds w' ((SL sw tIs v2 (vs++[y])::RI (vs++[y]) (rs++[l]))++L.eraseIdx i):=by
  rw[e,cons_append,append_assoc];exact H5
 have H7:Holds w' (RR v2 (rs++[l])::L.eraseIdx i):=Holds.imp (Holds.pack H6) λg hg=>⟨vs++[y],by simp[hl],hg⟩;exact Sat.push i hi H7
theorem ri_nils:∀ (n:Nat){h:Hp},Sat L h->Sat (RI (List.replicate n (none,0,0)) (List.replicate n [])++L) h
 |0,_,H=>H
 |n+1,h,H=>by
  refine⟨λ_=>none,SL_nil nv tI _,(λb o hb=>by cases hb),?_⟩
  have e:h.minus (λ_=>none)=h:=by funext b;simp[Hp.minus]
  rw[e];exact ri_nils n H
theorem rr_make (H:Holds w L){k k':IntKind}{n:Nat}{J:Value->World->Prop}(hn:n<=1000000)
  (h:∀ v w',Same w w'->Holds w' (RR v (List.replicate n [])::L)->J v w'):Ms prog 146 (.int k (n:Int)) (.int k' (n:Int)) w J:=by
 refine r_ms (f:=sw) (x:=(none,0,0)) H rfl (by omega) (by omega) λb w' S' H2=>?_;rw[Int.toNat_natCast] at H2 ⊢;have H3:=H2.close 0 rfl;simp only[set_cons_zero,length_replicate,length_nil,Nat.add_zero] at H3;refine h _ w' S' ?_;have H4:Holds w' (SL sw tIs (.slice (some ⟨b,0,none⟩) n n) (List.replicate n (none,0,0))::(RI (List.replicate n (none,0,0)) (List.replicate n [])++L)):=Sat_tail (λh hh=>ri_nils n hh) H3;exact Holds.imp (Holds.pack (A:=SL sw tIs (.slice (some ⟨b,0,none⟩) n n) (List.replicate n (none,0,0))::RI (List.replicate n (none,0,0)) (List.replicate n [])) H4) λg hg=>⟨List.replicate n (none,0,0),by simp,hg⟩
end Rw
namespace T12
open F08 Rw
variable {w:World}{L:List HProp}{K:Value->World->Prop}
def blw (c:List Nat) (n v:Nat):Nat:=min ((c.take v).sum) (n - 1)
def firstV (c:List Nat) (n t p v:Nat):Nat:=if blw c n v*t/n=p then 0 else 15
def firstR (c:List Nat) (n t p:Nat):List Nat:=(List.range c.length).map (firstV c n t p)
def firstL (c:List Nat) (n t:Nat):List (List Nat):=(List.range t).map (firstR c n t)
theorem firstR_len (c:List Nat) (n t p:Nat):(firstR c n t p).length=c.length:=by simp[firstR]
theorem firstR_get {c:List Nat}{n t p v:Nat}(h:v < c.length):(firstR c n t p)[v]?=some (firstV c n t p v):=by simp[firstR,h]
theorem firstL_len (c:List Nat) (n t:Nat):(firstL c n t).length=t:=by simp[firstL]
theorem blw_succ {c:List Nat}{n v:Nat}(h:v < c.length):min (blw c n v+c.getD v 0) (n - 1)=blw c n (v+1):=by
 unfold blw
 have e:c.take (v+1)=c.take v++[c.getD v 0]:=by rw[take_add_one,getD_eq_getElem?_getD,getElem?_eq_getElem h];rfl
 rw[e,List.sum_append];simp;omega
theorem map_range_set {α:Type}{t p:Nat}(g g':Nat->α) (hp:p < t) (h:∀ i,i < t->i≠p->g i=g' i):((List.range t).map g).set p (g' p)=(List.range t).map g':=by
 apply ext_getElem?;intro i;rw[getElem?_set,length_map,length_range]
 by_cases e:p=i
 ·subst e;rw[if_pos rfl,if_pos hp,getElem?_map,getElem?_range hp];rfl
 ·rw[if_neg e,getElem?_map,getElem?_map];rcases Nat.lt_or_ge i t with q|q
  ·rw[getElem?_range q];show some (g i)=some (g' i);rw[h i q (Ne.symm e)]
  ·rw[getElem?_eq_none (by simpa using q)];rfl
theorem map_range_get {α:Type}{t p:Nat}(g:Nat->α) (hp:p < t):((List.range t).map g)[p]?=some (g p):=by rw[getElem?_map,getElem?_range hp];rfl
theorem map_range_congr {α:Type}{t:Nat}(g g':Nat->α) (h:∀ i,i < t->g i=g' i):(List.range t).map g=(List.range t).map g':=List.map_congr_left λi hi=>h i (mem_range.1 hi)
theorem filled_same {xs:List Nat}{n i:Nat}(hi:i < n) (hn:xs.length=n) (hx:xs[i]?=some 0):filled xs 0 n i=filled xs 0 n (i+1):=by
 rw[<-filled_set hi hn hx]
 have e:(filled xs 0 n i)[i]?=some 0:=by
  unfold filled
  have hl:(xs.take i).length=i:=by rw[length_take];omega
  rw[getElem?_append_right (by omega),hl,Nat.sub_self,getElem?_replicate,if_pos (by omega)]
 obtain⟨p1,p2⟩:=List.getElem?_eq_some_iff.1 e;have h:=set_getElem_self p1;rw[p2] at h;exact h.symm
theorem num_lim (n:Nat):2<=num n/\num n<=6:=by
 unfold num numAt;have h:(bnd.take 4).length=4:=rfl;have:=List.length_filter_le (λb=>decide (b<=n)) (bnd.take 4);omega
theorem mine_calc {c:List Nat}{n v t:Nat}(hn:1<=n) (hn2:n<=100000000) (ht:t<=6){K:Value->Prop}(h:K (nv (blw c n v*t/n))):Bp .mul (nv (blw c n v)) (nv t) λx=>Bp .quo x (nv n) K:=by
 have h1:blw c n v<=n:=by unfold blw;omega
 have h2:blw c n v*t<=n*6:=Nat.mul_le_mul h1 ht;refine r_mulE ((blw c n v*t:Nat):Int) (Int.natCast_mul _ _).symm (by omega) (by omega) ?_;generalize blw c n v*t=z at *;have h3:z/n<=z:=Nat.div_le_self _ _;generalize hq:z/n=q at *;refine r_quoE (q:=(q:Int)) ?_ (by omega) (by omega) (by omega) h;rw[Int.tdiv_eq_ediv_of_nonneg (by omega),<-hq];rfl
theorem first_spec {v:Value}{c:List Nat}{n i:Nat}(H:Holds w L) (hb:BndOk L) (hi:L[i]?=some (SL nv tI v c)) (hc:c.length<=1000000) (hcx:∀ x∈c,x<=100000000) (hn:1<=n) (hn2:n<=100000000)
  (k:∀ v' w',Same w w'->Holds w' (RR v' (firstL c n (num n))::L)->K v' w'):Cl prog 188 #[v,nv n] w K:=by
 refine Tz188 ?_;unfold Vz188;refine Number_spec H hb ?_;have hnl:=num_lim n;generalize hnt:num n=t at *;refine rr_make H (by omega) λov w2 S2 H2=>?_;refine rr_ln 0 H2 rfl ?_;rw[length_replicate]
 refine r_loop1 (λq w'=>∃ p:Nat,q=nv p/\p<=t/\Same w w'/\Holds w' (RR ov ((List.range t).map λj=>if j < p then List.replicate c.length 0 else [])::L)) (λq _=>t - (RowKit.intOf q).toNat)
  ⟨0,rfl,Nat.zero_le _,S2,by
   have e:(List.range t).map (λj=>if j < 0 then List.replicate c.length 0 else ([]:List Nat))=List.replicate t []:=by
    apply ext_getElem?;intro j;rw[getElem?_replicate];split
    ·rename_i q;rw[map_range_get _ q,if_neg (by omega)]
    ·rename_i q;rw[getElem?_eq_none (by simpa using q)]
   rw[e];exact H2⟩ ?_
 clear H H2 S2;rintro _ _ w3 ⟨p,rfl,hp,S3,H3⟩
 have hi3:(RR ov ((List.range t).map λj=>if j < p then List.replicate c.length 0 else [])::L)[i+1]?=some (SL nv tI v c):=by rw[getElem?_cons_succ];exact hi
 refine r_lss (r_ifD (λh=>?_) λh=>?_)
 ·have hlt:p < t:=by omega
  refine r_lnS (i+1) H3 hi3 ?_;refine r_ms (f:=nv) (x:=0) H3 rfl (by omega) (by omega) λnb w4 S4 H4=>?_;rw[Int.toNat_natCast] at H4 ⊢;have H5:=H4.close 0 rfl;simp only[set_cons_zero,length_replicate,length_nil,Nat.add_zero] at H5;refine rr_set 0 H5 rfl (by rw[length_map,length_range];exact hlt) λw5 S5 H6=>?_
  have e6:=map_range_set (λj=>if j < p then List.replicate c.length 0 else ([]:List Nat)) (λj=>if j < p+1 then List.replicate c.length 0 else ([]:List Nat)) hlt (λj hj hjp=>by
   by_cases q:j < p
   ·rw[if_pos q,if_pos (by omega)]
   ·rw[if_neg q,if_neg (by omega)])
  simp only[Nat.lt_succ_self,if_true] at e6;rw[set_cons_zero,e6] at H6;refine r_add1N (by omega) (r_ke ⟨⟨p+1,rfl,hlt,S3.trans (S4.trans S5),H6⟩,?_⟩);simp only[nv,RowKit.intOf,Int.toNat_natCast];omega
 ·obtain rfl:p=t:=by omega
  have e0:(List.range p).map (λj=>if j < p then List.replicate c.length 0 else ([]:List Nat))=(List.range p).map λj=>filled (firstR c n p j) 0 c.length 0:=
   map_range_congr _ _ λj hj=>by rw[if_pos hj,filled_zero]
  rw[e0] at H3;refine r_lnS (i+1) H3 (by rw[getElem?_cons_succ];exact hi) ?_
  refine r_loop2 (λx y w'=>∃ u:Nat,x=nv (blw c n u)/\y=nv u/\u<=c.length/\Same w w'/\Holds w' (RR ov ((List.range p).map λj=>filled (firstR c n p j) 0 c.length u)::L)) (λ_ y _=>c.length - (RowKit.intOf y).toNat)
   ⟨0,by unfold blw;simp,rfl,Nat.zero_le _,S3,H3⟩ ?_
  clear H3 S3 hi3 h e0;rintro _ _ _ w4 ⟨u,rfl,rfl,hu,S4,H4⟩;refine r_lss (r_ifD (λh=>?_) λh=>?_)
  ·have hlt:u < c.length:=by omega
   have hcu:=hcx _ (getElem_mem hlt);refine r_getS (i+1) H4 (by rw[getElem?_cons_succ];exact hi) (x:=c.getD u 0) (by rw[getD_eq_getElem?_getD,getElem?_eq_getElem hlt];rfl) ?_;refine mine_calc hn hn2 hnl.2 ?_;refine rr_ln 0 H4 rfl ?_;rw[length_map,length_range]
   refine r_loop1 (λx w'=>∃ j:Nat,x=nv j/\j<=p/\Same w w'/\Holds w' (RR ov ((List.range p).map λz=>filled (firstR c n p z) 0 c.length (if z < j then u+1 else u))::L)) (λx _=>p - (RowKit.intOf x).toNat)
    ⟨0,rfl,Nat.zero_le _,S4,by simpa using H4⟩ ?_
   clear H4 S4;rintro _ _ w5 ⟨j,rfl,hj,S5,H5⟩;refine r_lss (r_ifD (λh2=>?_) λh2=>?_)
   ·have hjp:j < p:=by omega
    have hfg:=firstR_get (n:=n) (t:=p) (p:=j) hlt;have hfl:=firstR_len c n p j
    have hnext:∀ z,z < p->z≠j->filled (firstR c n p z) 0 c.length (if z < j then u+1 else u)=filled (firstR c n p z) 0 c.length (if z < j+1 then u+1 else u):=λz _ hz=>by
     by_cases q:z < j
     ·rw[if_pos q,if_pos (by omega)]
     ·rw[if_neg q,if_neg (by omega)]
    refine r_neq (r_ifN (λq=>?_) λq=>?_)
    ·have hfv:firstV c n p j u=15:=by unfold firstV;rw[if_neg (by omega)]
     rw[hfv] at hfg
     have hrow:((List.range p).map λz=>filled (firstR c n p z) 0 c.length (if z < j then u+1 else u))[j]?=some (filled (firstR c n p j) 0 c.length u):=by
      rw[map_range_get _ hjp,if_neg (by omega)]
     obtain⟨x,R,hld,H6,_,hback,_⟩:=rr_open 0 H5 rfl hrow;refine hld _ _ λ_ hp_=>hp_ _ ?_;refine r_setS (xs:=filled (firstR c n p j) 0 c.length u) 0 H6 15 rfl (by rw[filled_len (by omega) hfl];exact hlt) rfl λw6 S6 H7=>?_;rw[set_cons_zero,filled_set hlt hfl hfg] at H7;have H8:=hback _ [] _ H7;rw[nil_append,set_cons_zero] at H8;have e:=map_range_set (λz=>filled (firstR c n p z) 0 c.length (if z < j then u+1 else u)) (λz=>filled (firstR c n p z) 0 c.length (if z < j+1 then u+1 else u)) hjp hnext;simp only[Nat.lt_succ_self,if_true] at e;rw[e] at H8;refine r_add1N (by omega) (r_ke ⟨⟨j+1,rfl,hjp,S5.trans S6,H8⟩,?_⟩);simp only[nv,RowKit.intOf,Int.toNat_natCast];omega
    ·have hfv:firstV c n p j u=0:=by unfold firstV;rw[if_pos (by omega)]
     rw[hfv] at hfg;have hs:=filled_same hlt hfl hfg;refine r_add1N (by omega) (r_ke ⟨⟨j+1,rfl,hjp,S5,?_⟩,?_⟩)
     ·have e:((List.range p).map λz=>filled (firstR c n p z) 0 c.length (if z < j then u+1 else u))=(List.range p).map λz=>filled (firstR c n p z) 0 c.length (if z < j+1 then u+1 else u):=
       map_range_congr _ _ λz hz=>by
        by_cases g:z=j
        ·subst g;rw[if_neg (by omega),if_pos (by omega)];exact hs
        ·exact hnext z hz g
      rw[<-e];exact H5
     ·simp only[nv,RowKit.intOf,Int.toNat_natCast];omega
   ·obtain rfl:j=p:=by omega
    have e:((List.range j).map λz=>filled (firstR c n j z) 0 c.length (if z < j then u+1 else u))=(List.range j).map λz=>filled (firstR c n j z) 0 c.length (u+1):=
     map_range_congr _ _ λz hz=>by rw[if_pos hz]
    rw[e] at H5
    have hbl:blw c n u<=n:=by unfold blw;omega
    have hcg:c.getD u 0<=100000000:=by rw[getD_eq_getElem?_getD,getElem?_eq_getElem hlt];exact hcu
    refine r_addN (by omega) ?_;refine r_sub1N (by omega) (by omega) (r_min ?_);rw[show min (((blw c n u+c.getD u 0:Nat)):Int) (((n - 1:Nat)):Int)=((min (blw c n u+c.getD u 0) (n - 1):Nat):Int) by omega,blw_succ hlt];refine r_add1N (by omega) (r_ke ⟨⟨u+1,rfl,rfl,by omega,S5,H5⟩,?_⟩);simp only[nv,RowKit.intOf,Int.toNat_natCast];omega
  ·obtain rfl:u=c.length:=by omega
   have e:((List.range p).map λj=>filled (firstR c n p j) 0 c.length c.length)=firstL c n p:=
    map_range_congr _ _ λz hz=>filled_all (firstR_len c n p z)
   rw[e] at H4;exact k _ _ S4 H4
theorem FirstD_spec {v:Value}{c:List Nat}{n i:Nat}(H:Holds w L) (hi:L[i]?=some (SL nv tI v c)) (hc:c.length<=1000000) (hcx:∀ x∈c,x<=100000000) (hn:1<=n) (hn2:n<=100000000)
  (k:∀ v' w',Same w w'->Holds w' (RR v' (firstL c n (num n))::L)->K v' w'):Cl prog 155 #[v,nv n] w K:=by
 refine Tz155 ?_;unfold Vz155;refine NumberD_spec ?_;have hnl:=num_lim n;generalize hnt:num n=t at *
 refine r_loop2 (λo q w'=>∃ p:Nat,q=nv p/\p<=t/\Same w w'/\Holds w' (RR o ((List.range p).map (firstR c n t))::L)) (λ_ q _=>t - (RowKit.intOf q).toNat)
  ⟨0,rfl,Nat.zero_le _,.refl _,rr_nil H⟩ ?_
 clear H;rintro _ ov _ w3 ⟨p,rfl,hp,S3,H3⟩;refine r_lss (r_ifD (λh=>?_) λh=>?_)
 ·have hlt:p < t:=by omega
  refine r_lnS (i+1) H3 (by rw[getElem?_cons_succ];exact hi) ?_
  refine r_loop3 (λl x y w'=>∃ (u z:Nat),x=nv z/\min z (n - 1)=blw c n u/\z<=200000000/\y=nv u/\u<=c.length/\Same w w'/\Holds w' (SL nv tI l ((firstR c n t p).take u)::RR ov ((List.range p).map (firstR c n t))::L)) (λ_ _ y _=>c.length - (RowKit.intOf y).toNat)
   ⟨0,0,rfl,by unfold blw;simp,by omega,rfl,Nat.zero_le _,S3,H3.nilSL nv tI⟩ ?_
  clear H3 S3;rintro _ lv _ _ w4 ⟨u,z,rfl,hz,hzl,rfl,hu,S4,H4⟩;refine r_lss (r_ifD (λh2=>?_) λh2=>?_)
  ·have hlu:u < c.length:=by omega
   have hcu:=hcx _ (getElem_mem hlu)
   have hcg:c.getD u 0<=100000000:=by rw[getD_eq_getElem?_getD,getElem?_eq_getElem hlu];exact hcu
   refine r_getS (i+2) H4 (by rw[getElem?_cons_succ,getElem?_cons_succ];exact hi) (x:=c.getD u 0) (by rw[getD_eq_getElem?_getD,getElem?_eq_getElem hlu];rfl) ?_;refine r_join1 (λx w'=>w4=w'/\x=nv (blw c n u)) ?_ ?_
   rotate_left
   ·refine r_sub1N (by omega) (by omega) (r_gtr (r_ifD (λq=>?_) λq=>?_))
    ·refine r_sub1N (by omega) (by omega) (r_ke ⟨rfl,?_⟩);rw[<-hz,Nat.min_eq_right (by omega)]
    ·refine r_ke ⟨rfl,?_⟩;rw[<-hz,Nat.min_eq_left (by omega)]
   rintro _ _ _ ⟨rfl,rfl⟩;have hfg:=firstR_get (n:=n) (t:=t) (p:=p) hlu
   have hgo:∀ l' w',Same w4 w'->Holds w' (SL nv tI l' ((firstR c n t p).take u++[firstV c n t p u])::RR ov ((List.range p).map (firstR c n t))::L)->Holds w' (SL nv tI l' ((firstR c n t p).take (u+1))::RR ov ((List.range p).map (firstR c n t))::L):=λl' w' _ Hx=>by
    rw[take_add_one,hfg];exact Hx
   refine r_join1 (λx w'=>Same w4 w'/\Holds w' (SL nv tI x ((firstR c n t p).take (u+1))::RR ov ((List.range p).map (firstR c n t))::L)) ?_ ?_
   rotate_left
   ·refine mine_calc hn hn2 hnl.2 (r_eql (r_ifE (λq=>?_) λq=>?_))
    ·refine r_app1 (f:=nv) H4 0 rfl 0 (λ_=>rfl) (by rw[length_take,firstR_len];omega) λv' w5 S5 H5=>?_;rw[set_cons_zero] at H5;refine r_ke ⟨S5,hgo _ _ S5 ?_⟩
     have e:firstV c n t p u=0:=by unfold firstV;rw[if_pos (by omega)]
     rw[e];exact H5
    ·refine r_app1 (f:=nv) H4 0 rfl 15 (λ_=>rfl) (by rw[length_take,firstR_len];omega) λv' w5 S5 H5=>?_;rw[set_cons_zero] at H5;refine r_ke ⟨S5,hgo _ _ S5 ?_⟩
     have e:firstV c n t p u=15:=by unfold firstV;rw[if_neg (by omega)]
     rw[e];exact H5
   rintro _ l' w5 ⟨S5,H5⟩
   have hbl:blw c n u<=n:=by unfold blw;omega
   refine r_addN (by omega) ?_;refine r_add1N (by omega) (r_ke ⟨⟨u+1,_,rfl,blw_succ hlu,by omega,rfl,by omega,S4.trans S5,H5⟩,?_⟩);simp only[nv,RowKit.intOf,Int.toNat_natCast];omega
  ·rw[take_of_length_le (by rw[firstR_len];omega)] at H4;refine rr_app 0 H4 rfl (by rw[length_map,length_range];omega) λv2 w5 S5 H5=>?_;rw[set_cons_zero] at H5;refine r_add1N (by omega) (r_ke ⟨⟨p+1,rfl,by omega,S4.trans S5,?_⟩,?_⟩)
   ·rw[range_succ,map_append];exact H5
   ·simp only[nv,RowKit.intOf,Int.toNat_natCast];omega
 ·obtain rfl:p=t:=by omega
  exact k _ _ S3 H3
def bst (c:Nat->Nat):Nat->Nat
 |0=>0
 |p+1=>if c p < c (bst c p) then p else bst c p
def pk (g:List Nat) (ts:List (List Nat)):Nat:=bst (λp=>cost g (ts.getD p [])) ts.length
theorem bst_lt (c:Nat->Nat):∀ n,0 < n->bst c n < n
 |0,h=>by omega
 |n+1,_=>by
  rw[bst];split
  ·omega
  ·rcases Nat.eq_zero_or_pos n with q|q
   ·subst q;exact Nat.zero_lt_one
   ·have:=bst_lt c n q;omega
structure Tb (size:Nat) (ts:List (List Nat)):Prop where
 n2:2<=ts.length
 n6:ts.length<=6
 sz:∀ t∈ts,t.length=size
 le:∀ t∈ts,∀ x∈t,x<=20
theorem row_mem {ts:List (List Nat)}{p:Nat}(h:p < ts.length):ts.getD p []∈ts:=by rw[getD_eq_getElem?_getD,getElem?_eq_getElem h];exact getElem_mem h
theorem row_at {ts:List (List Nat)}{p:Nat}(h:p < ts.length):ts[p]?=some (ts.getD p []):=by rw[getD_eq_getElem?_getD,getElem?_eq_getElem h];rfl
theorem pick_spec {v tv:Value}{g:List Nat}{ts:List (List Nat)}{size i j:Nat}(H:Holds w L) (hi:L[i]?=some (SL nv tI v g)) (hj:L[j]?=some (RR tv ts)) (hij:i≠j) (hT:Tb size ts) (hs:size<=258) (hg:g.length<=50) (hgx:∀ x∈g,x < size)
  (k:K (nv (pk g ts)) w):Cl prog 228 #[v,tv] w K:=by
 refine Tz228 ?_;unfold Vz228;have h6:=hT.n6;have h2:=hT.n2;refine rr_ln j H hj ?_
 have hcl:∀ p,p < ts.length->cost g (ts.getD p [])<=1000:=λp hp=>by
  have:=cost_le (hT.le _ (row_mem hp)) g;omega
 refine r_loop3 (λb l x w'=>∃ (p m:Nat),b=nv (bst (λp=>cost g (ts.getD p [])) p)/\l=nv m/\x=nv p/\p<=ts.length/\(if p=0 then m=1099511627776 else m=cost g (ts.getD (bst (λp=>cost g (ts.getD p [])) p) []))/\w=w') (λ_ _ x _=>ts.length - (RowKit.intOf x).toNat)
  ⟨0,1099511627776,rfl,rfl,rfl,Nat.zero_le _,by rw[if_pos rfl],rfl⟩ ?_
 rintro _ _ _ _ _ ⟨p,m,rfl,rfl,rfl,hp,hm,rfl⟩;refine r_lss (r_ifD (λh=>?_) λh=>?_)
 ·have hlt:p < ts.length:=by omega
  have hq:ts[p]?=some (ts.getD p []):=by rw[getD_eq_getElem?_getD,getElem?_eq_getElem hlt];rfl
  have hmem:ts.getD p []∈ts:=by rw[getD_eq_getElem?_getD,getElem?_eq_getElem hlt];exact getElem_mem hlt
  have htl:=hT.sz _ hmem;obtain⟨x,R,hld,H6,_,_⟩:=rr_open j H hj hq;refine hld _ _ λ_ hp_=>hp_ _ ?_;refine Cost_spec H6 (i:=i+1) (j:=0) (by rw[getElem?_cons_succ,getElem?_set_ne (Ne.symm hij)];exact hi) rfl (by omega) (by omega) (hT.le _ hmem) (λx hx=>by rw[htl];exact hgx x hx) ?_;refine r_ex20 (r_ex21 ?_)
  have hbs:bst (λp=>cost g (ts.getD p [])) (p+1)=if cost g (ts.getD p []) < cost g (ts.getD (bst (λp=>cost g (ts.getD p [])) p) []) then p else bst (λp=>cost g (ts.getD p [])) p:=rfl
  have hc1:=hcl p hlt;generalize hb:bst (λp=>cost g (ts.getD p [])) p=b at *;refine r_lss (r_ifD (λq=>?_) λq=>?_)
  ·refine r_add1N (by omega) (r_ke ⟨⟨p+1,cost g (ts.getD p []),?_,rfl,rfl,by omega,?_,rfl⟩,?_⟩)
   ·rw[hbs];rcases Nat.eq_zero_or_pos p with e|e
    ·subst e;have:b=0:=hb.symm;subst this;rw[if_neg (Nat.lt_irrefl _)]
    ·rw[if_neg (by omega)] at hm;rw[if_pos (by omega)]
   ·rw[if_neg (by omega),hbs];rcases Nat.eq_zero_or_pos p with e|e
    ·subst e;have:b=0:=hb.symm;subst this;rw[if_neg (Nat.lt_irrefl _)]
    ·rw[if_neg (by omega)] at hm;rw[if_pos (by omega)]
   ·simp only[nv,RowKit.intOf,Int.toNat_natCast];omega
  ·have hp0:p≠0:=λe=>by rw[if_pos e] at hm;omega
   rw[if_neg hp0] at hm;refine r_add1N (by omega) (r_ke ⟨⟨p+1,m,?_,rfl,rfl,by omega,?_,rfl⟩,?_⟩)
   ·rw[hbs,if_neg (by omega)]
   ·rw[if_neg (by omega),hbs,if_neg (by omega)];exact hm
   ·simp only[nv,RowKit.intOf,Int.toNat_natCast];omega
 ·obtain rfl:p=ts.length:=by omega
  exact k
theorem pickD_spec {v tv:Value}{g:List Nat}{ts:List (List Nat)}{size i j:Nat}(H:Holds w L) (hi:L[i]?=some (SL nv tI v g)) (hj:L[j]?=some (RR tv ts)) (hij:i≠j) (hT:Tb size ts) (hs:size<=258) (hg:g.length<=50) (hgx:∀ x∈g,x < size)
  (k:∀ w',Same w w'->Holds w' L->K (nv (pk g ts)) w'):Cl prog 158 #[v,tv] w K:=by
 refine Tz158 ?_;unfold Vz158;have h6:=hT.n6;have h2:=hT.n2;refine rr_ln j H hj ?_
 refine r_loop2 (λb x w'=>∃ (p:Nat),b=nv (bst (λp=>cost g (ts.getD p [])) p)/\x=nv p/\p<=ts.length/\Same w w'/\Holds w' L) (λ_ x _=>ts.length - (RowKit.intOf x).toNat)
  ⟨0,rfl,rfl,Nat.zero_le _,.refl _,H⟩ ?_
 clear H;rintro _ _ _ w1 ⟨p,rfl,rfl,hp,S1,H1⟩;refine r_lss (r_ifD (λh=>?_) λh=>?_)
 ·have hlt:p < ts.length:=by omega
  have hget:∀ q,q < ts.length->ts[q]?=some (ts.getD q [])/\ts.getD q []∈ts:=λq hq=>⟨by rw[getD_eq_getElem?_getD,getElem?_eq_getElem hq];rfl,by rw[getD_eq_getElem?_getD,getElem?_eq_getElem hq];exact getElem_mem hq⟩
  have hbl:bst (λp=>cost g (ts.getD p [])) p < ts.length:=by
   rcases Nat.eq_zero_or_pos p with e|e
   ·subst e;show 0 < _;omega
   ·have:=bst_lt (λp=>cost g (ts.getD p [])) p e;omega
  have hbs:bst (λp=>cost g (ts.getD p [])) (p+1)=if cost g (ts.getD p []) < cost g (ts.getD (bst (λp=>cost g (ts.getD p [])) p) []) then p else bst (λp=>cost g (ts.getD p [])) p:=rfl
  generalize hb:bst (λp=>cost g (ts.getD p [])) p=b at *;obtain⟨x,R,hld,H6,hcl,_⟩:=rr_open j H1 hj (hget p hlt).1;refine hld _ _ λ_ hp_=>hp_ _ ?_;have H1':=hcl [] _ H6;refine r_dr H6 λw2 S2 H7=>?_;have hL2:Holds w2 L:=hcl [] _ H7;refine CostD_spec H7 (i:=i+1) (j:=0) (by rw[getElem?_cons_succ,getElem?_set_ne (Ne.symm hij)];exact hi) rfl (by omega) (by have:=hT.sz _ (hget p hlt).2;omega) (hT.le _ (hget p hlt).2) (λx hx=>by rw[hT.sz _ (hget p hlt).2];exact hgx x hx) ?_;obtain⟨y,R2,hld2,H8,hcl2,_⟩:=rr_open j hL2 hj (hget b hbl).1;refine hld2 _ _ λ_ hp_=>hp_ _ (r_rk (hp_ _ rfl) ?_);refine CostD_spec H8 (i:=i+1) (j:=0) (by rw[getElem?_cons_succ,getElem?_set_ne (Ne.symm hij)];exact hi) rfl (by omega) (by have:=hT.sz _ (hget b hbl).2;omega) (hT.le _ (hget b hbl).2) (λx hx=>by rw[hT.sz _ (hget b hbl).2];exact hgx x hx) ?_;refine r_lss (r_ifD (λq=>?_) λq=>?_)
  ·refine r_add1N (by omega) (r_ke ⟨⟨p+1,by rw[hbs,if_pos (by omega)],rfl,by omega,S1.trans S2,hL2⟩,?_⟩);simp only[nv,RowKit.intOf,Int.toNat_natCast];omega
  ·refine r_add1N (by omega) (r_ke ⟨⟨p+1,by rw[hbs,if_neg (by omega)],rfl,by omega,S1.trans S2,hL2⟩,?_⟩);simp only[nv,RowKit.intOf,Int.toNat_natCast];omega
 ·obtain rfl:p=ts.length:=by omega
  exact k _ S1 H1
end T12
namespace U18
open Go.M18
variable {w:World}{L:List HProp}{K:Value->World->Prop}
end U18
end Go.Proofs.YtgaiocpkjaaphaaGreatDoor
