/- Several texts in one: Q21, Q22, Q23, Sw, Mf, Mg, N18, P18, Mr, Mt, Mu, My, Mz2, Ex, P20, Y2e, Z07, U05, B20, B21, W2p, W2q, R3b, W2x, W08, W2h. -/
import Derived.Test.YtgaiocpkjaaphaaGreatDoorMG1
import Derived.Test.YtgaiocpkjaaphaaGreatDoorMG0
import Derived.Deep.AppendSrc
import Derived.Deep.Upon
import Derived.Lib.UnsafeStr
import Derived.Lib.Bytealg
import Derived.Lib.MakeNoZero
import Derived.Test.YtgaiocpkjaaphaaGreatDoorFm
import Derived.Shelf.Strings.Repeat
set_option linter.unusedVariables false
set_option linter.unusedSimpArgs false
open Go.RowKit (intOf)
open List (drop_drop drop_of_length_le drop_zero eq_nil_of_length_eq_zero ext_getElem? filter_append filter_cons filter_nil getElem?_eq_none getElem_mem length_cons map_append map_map mem_cons mem_filter mem_range mem_singleton nodup_range pairwise_cons pairwise_iff_getElem range_succ replicate_succ' set_set take_zero)
namespace Go.Q21
open Go.M01 Go.Mb Go.Mp Go.M10 Go.Mc Go.Mz Go.Mk Go.Q20
theorem foldl_val (l:List Bool):∀ a:Nat,l.foldl (λa b=>2*a+b.toNat) a=a*2^l.length+valB l:=by
 induction l with
 |nil=>intro a;simp[valB]
 |cons b l ih=>
  intro a;have h1:=ih (2*a+b.toNat);have h2:=ih (2*0+b.toNat);unfold valB;rw[List.foldl_cons,List.foldl_cons,h1,h2,length_cons,Nat.pow_succ,Nat.add_mul,Nat.add_mul,Nat.mul_comm 2 a,Nat.mul_assoc,Nat.mul_comm 2 (2^l.length)];omega
theorem valB_app (a b:List Bool):valB (a++b)=valB a*2^b.length+valB b:=by
 have:=foldl_val b (valB a);unfold valB at this ⊢;rw[List.foldl_append];exact this
theorem valB_cons (b:Bool) (l:List Bool):valB (b::l)=b.toNat*2^l.length+valB l:=by
 have:=valB_app [b] l
 rwa [Zgb] at this
theorem Yc5 {l:List Bool}(h:18<=l.length):valB (l.take 18)/32768=valB (l.take 3)/\valB (l.take 18)%32768=valB ((l.drop 3).take 15):=by
 have e:l.take 18=l.take 3++(l.drop 3).take 15:=by rw[<-List.take_add]
 have hl:((l.drop 3).take 15).length=15:=by simp;omega
 have hv:=Zb1 ((l.drop 3).take 15);rw[hl] at hv;rw[e,valB_app,hl];omega
theorem Zpu (v j:Nat):bitsOf v (j+1)=v.testBit j::bitsOf v j:=by
 apply ext_getElem?;intro i
 cases i with
 |zero=>rw[Mb.bitsOf_get _ _ _ (by omega)];simp
 |succ i=>
  rw[gF];rcases hU_ i j with h|h
  ·rw[Mb.bitsOf_get _ _ _ (by omega),Mb.bitsOf_get _ _ _ h]
   congr 2;omega
  ·rw[getElem?_eq_none (by rw[Za1];omega),getElem?_eq_none (by rw[Za1];omega)]
theorem Zkx {l:List Bool}{v n:Nat}(hl:l.length=n) (hv:valB l=v):l=bitsOf v n:=by
 subst hl hv;exact valB_inj (n:=l.length) rfl (Za1 _ _) (valB_bitsOf _ _ (Zb1 l)).symm
def inc:List Bool->List Bool × Bool
 |[]=>([],true)
 |b::s=>((b != (inc s).2)::(inc s).1,(inc s).2&&b)
theorem Zif:∀ s:List Bool,(inc s).1.length=s.length
 |[]=>rfl
 |b::s=>by simp[inc,Zif s]
theorem Zxu:∀ s:List Bool,valB (inc s).1+(inc s).2.toNat*2^s.length=valB s+1
 |[]=>rfl
 |b::s=>by
  have ih:=Zxu s;have hl:=Zif s;simp only[inc,valB_cons,length_cons,hl];rw[Nat.pow_succ];generalize 2^s.length=p at *;generalize (inc s).2=c at *;generalize valB (inc s).1=x at *
  cases b <;> cases c <;> simp at*<;> omega
theorem Zyj {s:List Bool}{v:Nat}(h:s=bitsOf v s.length) (hv:v+1 < 2^s.length):(inc s).1=bitsOf (v+1) s.length:=by
 have h1:=Zxu s;have h2:=Zif s
 have e:valB s=v:=by
  have:=congrArg valB h;rw[valB_bitsOf _ _ (by omega)] at this;exact this
 have hlt:=Zb1 (inc s).1;rw[h2] at hlt;refine Zkx h2 ?_
 cases hc:(inc s).2 with
 |false=>rw[hc] at h1;simp at h1;omega
 |true=>rw[hc] at h1;simp at h1;omega
theorem Zrn (v n:Nat):∀ k,bitsOf v n++List.replicate k false=bitsOf (v*2^k) (n+k):=by
 intro k;apply ext_getElem?;intro i;rcases hU_ i n with h|h
 ·rw[gM (by rw[Za1];exact h),Mb.bitsOf_get _ _ _ h,Mb.bitsOf_get _ _ _ (by omega)]
  congr 1
  rw[Nat.mul_comm v,Nat.testBit_two_pow_mul];rw[decide_eq_true (by omega),Bool.true_and]
  congr 1;omega
 ·rw[gT (by rw[Za1];exact h),Za1];rcases hU_ i (n+k) with h2|h2
  ·rw[List.getElem?_replicate,if_pos (by omega),Mb.bitsOf_get _ _ _ h2];rw[Nat.mul_comm v,Nat.testBit_two_pow_mul,decide_eq_false (by omega),Bool.false_and]
  ·rw[List.getElem?_replicate,if_neg (by omega),getElem?_eq_none (by rw[Za1];omega)]
def LastC (code:List Bool) (n next:Nat):Prop:=(code=[]/\next=0)\/∃ v m,1<=m/\m<=n/\code=bitsOf v m/\(v+1)*2^(n - m)=next
theorem LastC.up {code:List Bool}{n next:Nat}(h:LastC code n next):LastC code (n+1) (2*next):=by
 rcases h with⟨h1,h2⟩|⟨v,m,h1,h2,h3,h4⟩
 ·exact .inl ⟨h1,by omega⟩
 ·refine .inr ⟨v,m,h1,by omega,h3,?_⟩;rw[show n+1 - m=(n - m)+1 by omega,Nat.pow_succ,<-Nat.mul_assoc,h4];omega
def nextB (code:List Bool) (n:Nat):List Bool:=if code=[] then List.replicate n false else (inc code).1++List.replicate (n - code.length) false
theorem LastC.next {code:List Bool}{n next:Nat}(h:LastC code n next) (hn:1<=n) (hlt:next < 2^n):nextB code n=bitsOf next n/\LastC (nextB code n) n (next+1):=by
 have key:nextB code n=bitsOf next n:=by
  unfold nextB;rcases h with⟨rfl,rfl⟩|⟨v,m,h1,h2,h3,h4⟩
  ·rw[if_pos rfl];have:=Zrn 0 0 n;simpa [bitsOf] using this
  ·have hl:code.length=m:=by rw[h3,Za1]
   rw[if_neg (by rintro rfl;simp at hl;omega)]
   have hv:v+1 < 2^m:=by
    have hp:2^n=2^m*2^(n - m):=by rw[<-Nat.pow_add];congr 1;omega
    rw[<-h4,hp] at hlt;exact Nat.lt_of_mul_lt_mul_right hlt
   have e:=Zyj (s:=code) (v:=v) (by rw[hl];exact h3) (by rw[hl];exact hv);rw[e,hl,Zrn,h4]
   congr 1;omega
 refine⟨key,.inr ⟨next,n,hn,Nat.le_refl _,key,by simp⟩⟩
theorem Yc9 {lens:List Nat}(hw:Whole lens){i:Nat}(hi:i < lens.length):codeN lens i < 2^lens.getD i 0:=by
 have hx:1<=lens.getD i 0/\lens.getD i 0<=20:=by
  rw[gB,gA hi];exact hw.sized _ (getElem_mem hi)
 exact Nat.lt_of_lt_of_le (Zhr hi hx.1) (nx_le hw _ hx.2)
def begins (lens:List Nat) (l:List Bool) (i:Nat):Bool:=decide (lens.getD i 0<=l.length/\l.take (lens.getD i 0)=codeB lens i)
theorem Zp0 (f:Nat->Bool) (l:List Bool) (b:Nat):∀ j,usedT ((List.range j).filter f) l b=(decide (b/16 < j)&&f (b/16)&&l.getD (16*((List.range (b/16)).filter f).length+b%16) false):=by
 intro j
 induction j with
 |zero=>simp[usedT]
 |succ j ih=>
  rw[range_succ,filter_append]
  by_cases hf:f j=true
  ·rw[filter_cons,if_pos hf,filter_nil,Zgq,ih];rcases Nat.lt_trichotomy (b/16) j with h|h|h
   ·rw[decide_eq_true h,decide_eq_true (show b/16 < j+1 by omega),decide_eq_false (show ¬ b/16=j by omega)];simp
   ·rw[decide_eq_false (show ¬ b/16 < j by omega),decide_eq_true (show b/16 < j+1 by omega),decide_eq_true h,h,hf];simp[gB,hH_]
   ·rw[decide_eq_false (show ¬ b/16 < j by omega),decide_eq_false (show ¬ b/16 < j+1 by omega),decide_eq_false (show ¬ b/16=j by omega)];simp
  ·rw[filter_cons,if_neg hf,filter_nil,gU,ih];rcases Nat.lt_trichotomy (b/16) j with h|h|h
   ·rw[decide_eq_true h,decide_eq_true (show b/16 < j+1 by omega)]
   ·rw[h,show f j=false by simpa using hf];simp
   ·rw[decide_eq_false (show ¬ b/16 < j by omega),decide_eq_false (show ¬ b/16 < j+1 by omega)]
def cnt (q:List Bool) (i:Nat):Nat:=((List.range i).filter λi=>q.getD i false).length
theorem Yam (q:List Bool) (i:Nat):cnt q (i+1)=cnt q i+(q.getD i false).toNat:=by
 unfold cnt;rw[range_succ,filter_append,gD]
 congr 1
 rw[filter_cons]
 cases q.getD i false <;> rfl
theorem cnt_le (q:List Bool):∀ i,i<=16->cnt q i<=(marksL q).length:=by
 have mono:∀ i k,cnt q i<=cnt q (i+k):=by
  intro i k
  induction k with
  |zero=>exact Nat.le_refl _
  |succ k ih=>rw[<-hG_,Yam];omega
 intro i hi;have:=mono i (16 - i)
 rwa [show i+(16 - i)=16 by omega] at this
def usedOf (l:List Bool):Nat->Bool:=usedT (marksL (l.take 16)) (l.drop 16)
theorem Ycv {l:List Bool}{i k:Nat}(hi:i < 16) (hk:k < 16) (hl:16<=l.length):usedOf l (16*i+k)=(l.getD i false&&l.getD (16+16*cnt (l.take 16) i+k) false):=by
 unfold usedOf marksL;rw[Zp0,show (16*i+k)/16=i by omega,show (16*i+k)%16=k by omega,decide_eq_true hi,Bool.true_and]
 congr 1
 ·simp[gB,List.getElem?_take,hi]
 ·simp[gB,hH_,cnt,hG_]
def below (T:Nat->Bool) (b:Nat):List UInt8:=((List.range b).filter T).map UInt8.ofNat
theorem Zk8 (T:Nat->Bool) (b:Nat):below T (b+1)=below T b++if T b=true then [UInt8.ofNat b] else []:=by
 unfold below;rw[range_succ,filter_append,map_append]
 congr 1
 rw[filter_cons]
 split <;> rfl
theorem Zvj (T:Nat->Bool) (b:Nat):(below T b).length<=b:=by
 unfold below;rw[hS_];exact Nat.le_trans (List.length_filter_le _ _) (by simp)
theorem Zu5 {T:Nat->Bool}{b:Nat}(hb:b < 256):UInt8.ofNat b∈listed T↔T b=true:=by
 unfold listed;rw[List.mem_map]
 constructor
 ·rintro⟨x,hx,he⟩;rw[mem_filter,mem_range] at hx
  have:x=b:=by
   have:=congrArg UInt8.toNat he
   rwa [UInt8.toNat_ofNat_of_lt' (by simpa using hx.1),UInt8.toNat_ofNat_of_lt' (by simpa using hb)] at this
  subst this;exact hx.2
 ·intro h;exact⟨b,by rw[mem_filter,mem_range];exact⟨hb,h⟩,rfl⟩
theorem Zll (T:Nat->Bool):listed (λb=>decide (UInt8.ofNat b∈listed T))=listed T:=by
 generalize hS:(λb=>decide (UInt8.ofNat b∈listed T))=S;unfold listed
 congr 1
 apply List.filter_congr;intro b hb;rw[mem_range] at hb;have:=Zu5 (T:=T) hb;rw[<-hS];simp only
 cases hT:T b with
 |true=>rw[decide_eq_true (this.2 hT)]
 |false=>rw[decide_eq_false (λh=>by rw[this.1 h] at hT;cases hT)]
def valR (row:List Nat):Nat × Nat:=row.foldl (λx c=>(x.1+x.2*2^c,2*x.2)) (0,1)
theorem Zo2 (row:List Nat) (c:Nat):valR (row++[c])=((valR row).1+(valR row).2*2^c,2*(valR row).2):=by simp[valR]
theorem snocRec {motive:List Nat->Prop}(l:List Nat) (nil:motive []) (snoc:∀ t c,motive t->motive (t++[c])):motive l:=by
 have:∀ n (l:List Nat),l.length=n->motive l:=by
  intro n
  induction n with
  |zero=>intro l h;rw[List.length_eq_zero_iff.1 h];exact nil
  |succ n ih=>
   intro l h
   have hne:l≠[]:=by rintro rfl;simp at h
   rw[<-List.dropLast_concat_getLast hne];exact snoc _ _ (ih _ (by simp[h]))
 exact this _ l rfl
theorem Zv3 (row:List Nat) (t:List Nat):(valR row).1<=(valR (row++t)).1/\(valR row).2<=(valR (row++t)).2:=by
 refine snocRec (motive:=λt=>(valR row).1<=(valR (row++t)).1/\(valR row).2<=(valR (row++t)).2) t ?_ λt c ih=>?_
 ·simp
 ·rw[<-gI,Zo2]
  constructor
  ·exact Nat.le_trans ih.1 (Nat.le_add_right _ _)
  ·simp only;omega
structure ZRow (z:ZS) (row:List Nat):Prop where
 zeros:z.zeros=(valR row).1
 weight:z.weight=(valR row).2
 two:∀ c∈row,c<=1
abbrev DRun (size:Nat) (l:List Bool) (d:DS) (k:Nat):Prop:=Run dstep DS.done (d0 size) l d k
abbrev PRun (l:List Bool) (p:PS) (k:Nat):Prop:=Run pstep PS.done p0 l p k
theorem DRun.ok {size:Nat}{l:List Bool}{d:DS}{k:Nat}(h:DRun size l d k):d.Ok/\d.size=size:=by
 obtain⟨i,h⟩:=h
 induction h with
 |start=>exact⟨d0_ok size,rfl⟩
 |next h hd hs ih=>
  refine⟨Zfi hs ih.1 hd,?_⟩;rw[<-ih.2];unfold dstep turn at hs
  repeat' split at hs
  all_goals first
   |(cases hs;rfl)
   |cases hs
theorem PRun.ok {l:List Bool}{p:PS}{k:Nat}(h:PRun l p k):p.Ok:=by
 obtain⟨i,h⟩:=h
 induction h with
 |start=>exact p0_ok
 |next h hd hs ih=>exact Zhh hs ih hd
theorem CRun.ok {size:Nat}{l:List Bool}{c:CS}{L:List Nat}{k:Nat}(h1:3<=size) (h2:size<=258) (h:CRun size l c L k):c.Ok/\c.size=size/\(∀ x∈L,x < size):=by
 obtain⟨i,h⟩:=h
 have:∀ {i:Nat} {x:CS × List Nat} {k:Nat},RunN cstepL cdone (c0 size,[]) l i x k->x.1.Ok/\x.1.size=size/\(∀ y∈x.2,y < size):=by
  intro i x k h
  induction h with
  |start=>exact⟨c0_ok h1 h2,rfl,λy hy=>by cases hy⟩
  |next h hd hs ih=>
   rename_i j x x' k n;obtain⟨c,L⟩:=x;unfold cstepL at hs;simp only at hs ih
   cases hc:cstep c (l.drop k) with
   |short=>rw[hc] at hs;cases hs
   |bad e=>rw[hc] at hs;cases hs
   |ok y n'=>
    obtain⟨c',o⟩:=y;rw[hc] at hs;cases hs;have h3:=Zdr hc ih.1;refine⟨h3.1,h3.2.1.trans ih.2.1,?_⟩;intro y hy;simp only at hy;rcases hT_.1 hy with h4|h4
    ·exact ih.2.2 y h4
    ·cases o with
     |none=>cases h4
     |some s=>
      simp at h4;subst h4;have:=h3.2.2 y rfl;rw[ih.2.1] at this;exact this
 exact this h
theorem Zts {size:Nat}{l:List Bool}{p:PS}{k:Nat}(h:PRun l p k):CRun size l ⟨size,p,d0 size,[],0,false⟩ [] k:=by
 obtain⟨i,h⟩:=h
 induction h with
 |start=>exact .start
 |next h hd hs ih=>
  refine ih.next rfl ?_;unfold cstepL cstep;simp only[if_pos hd,hs,withPicks,Option.toList_none,gU]
def withL (c:CS) (d:DS):CS:=⟨c.size,c.picks,d,c.codes,c.count,c.done⟩
def addC (c:CS) (t:List Nat):CS:=⟨c.size,c.picks,d0 c.size,c.codes++[t],c.count,c.done⟩
theorem Zv8 {c:CS}{d:DS}{q:List Bool}(hp:c.picks.done=true) (ht:c.codes.length < c.picks.t):cstep (withL c d) q=withLens (withL c d) (dstep d q):=by
 unfold cstep withL;simp only[hp,ht,if_true,Bool.true_eq_false,if_false]
theorem Zyd {size:Nat}{l:List Bool}{c:CS}{L:List Nat}{k:Nat}(hp:c.picks.done=true) (ht:c.codes.length < c.picks.t) (hl:c.lens=d0 c.size) (hdn:c.done=false) (hsz:3<=c.size)
  (hr:CRun size l c L k) {d:DS} {k2:Nat} (h:DRun c.size (l.drop k) d k2) :
  if d.done=true then
   if share d.lens=1048576 then CRun size l (addC c d.lens) L (k+k2) else ∃ c' k',CRun size l c' L k'/\c'.done=false/\cstep c' (l.drop k')=.bad 22
  else CRun size l (withL c d) L (k+k2):=by
 obtain⟨i,h⟩:=h
 induction h with
 |start=>
  rw[if_neg (by rw[d0_nd hsz];simp)]
  have:withL c (d0 c.size)=c:=by rw[<-hl];rfl
  rw[this];exact hr
 |next h hd hs ih=>
  rename_i j s s' k2 n;rw[if_neg (by rw[hd];simp)] at ih;rw[drop_drop] at hs;have hst:=Zv8 (q:=l.drop (k+k2)) (d:=s) hp ht;rw[hs] at hst;unfold withLens at hst
  by_cases hd':s'.done=true
  ·rw[if_pos hd'];simp only[hd',if_true] at hst
   by_cases hsh:share s'.lens=1048576
   ·rw[if_pos hsh];rw[if_pos hsh] at hst;rw[<-hG_];refine ih.next (step:=cstepL) (done:=cdone) hdn ?_;unfold cstepL;simp only[hst,Option.toList_none,gU];rfl
   ·rw[if_neg hsh];rw[if_neg hsh] at hst;exact⟨_,_,ih,hdn,hst⟩
  ·rw[if_neg hd'];simp only[show s'.done=false by simpa using hd',Bool.false_eq_true,if_false] at hst;rw[<-hG_];refine ih.next (step:=cstepL) (done:=cdone) hdn ?_;unfold cstepL;simp only[hst,Option.toList_none,gU];rfl
def readC (c:CS) (s:Nat):CS:=⟨c.size,c.picks,c.lens,c.codes,c.count+1,decide (s=c.size - 1)⟩
theorem Zyr {c:CS}{q:List Bool}(hp:c.picks.done=true) (ht:¬ c.codes.length < c.picks.t):cstep c q=if c.picks.picks.length<=c.count/50 then .bad 25 else withSymbol c (getC c.table q):=by
 unfold cstep;rw[if_neg (by rw[hp];simp),if_neg ht]
theorem Yaj {size:Nat}{l:List Bool}{c:CS}{L:List Nat}{k s n:Nat}(hp:c.picks.done=true) (ht:¬ c.codes.length < c.picks.t) (hdn:c.done=false) (hg:¬ c.picks.picks.length<=c.count/50)
  (hr:CRun size l c L k) (hs:getC c.table (l.drop k)=some (s,n)):CRun size l (readC c s) (L++[s]) (k+n):=by
 refine hr.next (step:=cstepL) (done:=cdone) hdn ?_;unfold cstepL;simp only[Zyr hp ht,if_neg hg,hs,withSymbol,Option.toList_some];rfl
def Ends (size:Nat) (l:List Bool) (L:List Nat) (r:Res (Nat × List Nat)):Prop:=
 ∃ c k,CRun size l c L k/\((c.done=true/\r=.ok (c.picks.picks.length+c.size*c.codes.length,L) k)\/(c.done=false/\cstep c (l.drop k)=.short/\r=.short)\/∃ e,c.done=false/\cstep c (l.drop k)=.bad e/\r=.bad e)
theorem Zzz {c:CS}{L:List Nat}{q:List Bool}(h:cstep c q=.short):cstepL (c,L) q=.short:=by unfold cstepL;simp only[h]
theorem Ydi {c:CS}{L:List Nat}{q:List Bool}{e:Nat}(h:cstep c q=.bad e):cstepL (c,L) q=.bad e:=by unfold cstepL;simp only[h]
theorem Zn2 {l:List Bool}{c:CS}{L:List Nat}{k:Nat}{r:Res (Nat × List Nat)}
  (h:(c.done=true/\r=.ok (c.picks.picks.length+c.size*c.codes.length,L) k)\/(c.done=false/\cstep c (l.drop k)=.short/\r=.short)\/∃ e,c.done=false/\cstep c (l.drop k)=.bad e/\r=.bad e):Stop cstepL cdone l (c,L) k:=by
 rcases h with h|h|⟨e,h⟩
 ·exact Zj2 h.1
 ·exact Zen (Zzz h.2.1)
 ·exact Zfu (Ydi h.2.1)
theorem Ends.det {size:Nat}{l:List Bool}{L L2:List Nat}{r r2:Res (Nat × List Nat)}(h:Ends size l L r) (h2:Ends size l L2 r2):L=L2/\r=r2:=by
 obtain⟨c,k,hr,h⟩:=h;obtain⟨c2,k2,hr2,h2⟩:=h2;obtain⟨he,rfl⟩:=hr.stop_eq (Zn2 h) hr2 (Zn2 h2);cases he;refine⟨rfl,?_⟩
 rcases h with⟨h1,rfl⟩|⟨h1,h3,rfl⟩|⟨e,h1,h3,rfl⟩ <;> rcases h2 with⟨h4,rfl⟩|⟨h4,h6,rfl⟩|⟨e2,h4,h6,rfl⟩
 ·rfl
 ·rw[h1] at h4;cases h4
 ·rw[h1] at h4;cases h4
 ·rw[h1] at h4;cases h4
 ·rfl
 ·rw[h3] at h6;cases h6
 ·rw[h1] at h4;cases h4
 ·rw[h3] at h6;cases h6
 ·rw[h3] at h6;cases h6;rfl
end Go.Q21
namespace Go.Q22
open Go.M01 Go.Mb Go.Mp Go.M10 Go.Mc Go.Mz Go.Mk Go.Q20 Go.Q21
structure Row1 (size:Nat) (done:Bool) (L:List Nat):Prop where
 lt:∀ x∈L,x < size
 ne:∀ j,j+1 < L.length->L[j]?≠some (size - 1)
 last:done=false->∀ x∈L,x≠size - 1
 done:done=true->L[L.length - 1]?=some (size - 1)/\0 < L.length
structure ZAll (n room:Nat) (z:ZS) (pl:List Nat):Prop where
 ok:z.Ok
 en:z.n=n
 em:z.most=room
 lt:∀ p∈pl,p < n
 len:pl.length=z.told
structure Upto (n room:Nat) (L:List Nat) (i:Nat) (z:ZS) (pl:List Nat):Prop where
 all:ZAll n room z pl
 eq:zall (z0 n room) (L.take i)=some (z,pl)
 done:z.done=true↔0 < i/\L[i - 1]?=some (n+1)
end Go.Q22
namespace Go.Q23
open Go.M01 Go.Mb Go.Mp Go.M10 Go.Mc Go.Mz Go.Mk Go.Q20 Go.Q21 Go.Q22
theorem Zwb {p p':PS}{l:List Bool}{n:Nat}(h:pstep p l=.ok p' n):1<=n:=by
 unfold pstep at h
 repeat' split at h
 all_goals first
  |(cases h;omega)
  |cases h
theorem Zui {p p':DS}{l:List Bool}{n:Nat}(h:dstep p l=.ok p' n):1<=n:=by
 unfold dstep turn at h
 repeat' split at h
 all_goals first
  |(cases h;omega)
  |cases h
theorem Zig {c c':CS}{l:List Bool}{o:Option Nat}{n:Nat}(hc:c.Ok) (h:cstep c l=.ok (c',o) n):1<=n:=by
 unfold cstep at h;split at h
 ·unfold withPicks at h;split at h
  ·cases h
  ·cases h
  ·rename_i p k hp;cases h;exact Zwb hp
 ·rename_i hd;split at h
  ·unfold withLens at h;split at h
   ·cases h
   ·cases h
   ·rename_i d k hdl
    repeat' split at h
    all_goals first
     |(cases h;exact Zui hdl)
     |cases h
  ·rename_i hlt;split at h
   ·cases h
   ·rename_i hg;unfold withSymbol at h;split at h
    ·cases h
    ·rename_i s k hs;cases h;obtain⟨x,h1,h2,h3,h4,h5⟩:=Zq6 hc (by simpa using hd) hlt hg;exact (Zs6 h4 hs).2.2.1
theorem Zmt {l:List Bool}{T:Nat->Bool}{n:Nat}(h:uread l=.ok T n):1<=n/\n<=l.length/\listed T≠[]:=by
 unfold uread at h;split at h
 ·cases h
 ·split at h
  ·cases h
  ·split at h
   ·cases h
   ·cases h;exact⟨by omega,by omega,by assumption⟩
theorem Zeb {b b':BS}{k k':Nat}(h:bend b k=.ok b' k'):k'=k/\b'.last=b.last/\b'.room=b.room:=by
 unfold bend at h
 repeat' split at h
 all_goals first
  |(cases h;exact⟨rfl,rfl,rfl⟩)
  |cases h
theorem Zes {b b':BS}{l:List Bool}{n:Nat}(hb:b.Ok) (h:bstep b l=.ok b' n):b'.room=b.room/\((1<=n/\b'.last=b.last)\/(n=0/\b'.last.length=b.last.length+1)):=by
 unfold bstep at h;split at h
 ·unfold bhead at h;split at h
  ·cases h
  ·split at h
   ·cases h
   ·have:=Zeb h;exact⟨this.2.2,.inl ⟨by omega,this.2.1⟩⟩
 ·split at h
  ·unfold buse at h;split at h
   ·cases h
   ·cases h
   ·rename_i T k hu;have:=Zeb h;exact⟨this.2.2,.inl ⟨by have:=Zmt hu;omega,this.2.1⟩⟩
  ·rename_i r hr;split at h
   ·unfold bnext at h;have:=Zeb h;exact⟨this.2.2,.inr ⟨this.1,by rw[this.2.1];simp⟩⟩
   ·unfold bsym at h;have hco:=(hb.some_ r hr).2.1.code;split at h
    ·cases h
    ·cases h
    ·rename_i c k hc;have:=Zeb h;exact⟨this.2.2,.inl ⟨by have:=Zig hco hc;omega,this.2.1⟩⟩
    ·rename_i c s k hc;unfold btold at h;split at h
     ·cases h
     ·have:=Zeb h;exact⟨this.2.2,.inl ⟨by have:=Zig hco hc;omega,this.2.1⟩⟩
theorem Ze2 {b:BS}(hb:b.Ok):b.last.length<=b.room:=by
 cases hr:b.row with
 |none=>rw[(hb.none_ hr).1];exact hE _
 |some r=>
  obtain⟨h1,h2,h3,h4,h5⟩:=hb.some_ r hr;have:=h2.zeros.sum;omega
section
variable {room:Nat}{l:List Bool}
end
end Go.Q23
namespace Go.Vc
section
variable {P:Program}{w:World}{L:List HProp}
theorem Zs1:∀ (us cs:List Value) (o:Nat),o+us.length<=cs.length->setL cs o us=cs.take o++us++cs.drop (o+us.length)
 |[],cs,o,h=>by simp[setL]
 |u::us,cs,o,h=>by
  simp only[length_cons] at h;rw[setL,Zs1 us (cs.set o u) (o+1) (by rw[hX_];omega)]
  have h1:(cs.set o u).take (o+1)=cs.take o++[u]:=by
   rw[gO,List.getElem?_set_self (by omega)];simp only[Option.toList_some]
   congr 1
   exact List.take_set_of_le (Nat.le_refl o)
  have h2:(cs.set o u).drop (o+1+us.length)=cs.drop (o+(us.length+1)):=by
   rw[show o+1+us.length=o+(us.length+1) by omega];exact List.drop_set_of_lt (by omega)
  rw[h1,h2];simp
theorem Zjb (b:Nat):∀ (vs:List Value) (w:World) (o:Nat),w.setCells b o vs=Vc.setCells w ⟨b,0,none⟩ vs o
 |[],w,o=>rfl
 |v::r,w,o=>by
  rw[World.setCells,Vc.setCells,Zjb b r]
  have e1:(⟨b,0,none⟩:Addr).add o=⟨b,o,none⟩:=by
   unfold Addr.add;split
   ·rename_i h;rw[h]
   ·simp
  rw[e1]
theorem r_cx {f:FuncId}{args:Array Value}{v:Value}{K:KT}(h:(callFunc f args).run P w=.ok (.value v) w) (k:K v w):Cx P f args w K:=⟨v,w,h,k⟩
theorem r_cw {s d:TypeId}{x v:Value}{K:KT}(h:(convert s d x).run P w=.ok v w) (k:K v w):Cw P s d x w K:=⟨v,w,h,k⟩
theorem Yem {e:TypeId}{neg:Bool}{a:Addr}{i:TypeInfo}{K:Value->Prop}(h:P.info? e=some i) (k:K (.bool (!neg))):Bn P e neg (.pointer (some a)) (.pointer (some a)) K:=.inr ⟨i,a,h,rfl,rfl,k⟩
theorem Zwg {t e tx:TypeId}{z:Value} [hr:Row P t e z] (hk:P.underlying tx=some .string) (H:Holds w L) (i:Nat){v:Value}{xs ys:List UInt8}{ty:TypeId}{K:KT}
  (hi:L[i]?=some (SL bv e v xs)) (hn:xs.length+ys.length<=1099511627776)
  (h:∀ v' w',Same w w'->Holds w' (L.set i (SL bv e v' (xs++ys)))->K v' w'):Ap P #[t,tx] ty #[v,.string ⟨ys.toArray⟩] w K:=by
 obtain⟨inf,hinf,hsz,hby,hzz⟩:=hr.inf
 have hb:byteCells ⟨ys.toArray⟩=ys.map bv:=by
  unfold byteCells;simp
 have hsrc:∀ w,Src P inf.size tx (.string ⟨ys.toArray⟩) ys.length (ys.map bv) w:=λw=>by
  have:=Src.ofString (P:=P) w hk ⟨ys.toArray⟩;rw[hb] at this;rw[hsz]
  have e:(⟨ys.toArray⟩:ByteArray).size=ys.length:=by show ys.toArray.size=_;simp
  rw[e] at this;exact this
 obtain⟨oa,sp,rfl,H1⟩:=H.open i hi;have hil:i < L.length:=(gH.1 hi).1
 by_cases hy:ys=[]
 ·subst hy;refine⟨_,_,run_append_nothing w t tx ty e inf hr.und hinf oa xs.length (xs.length+sp.length) (by omega) _ (hsrc w),h _ _ (.refl _) ?_⟩
  rw[gU,show L.set i (SL bv e (.slice oa xs.length (xs.length+sp.length)) xs)=L from by
   have e1:L[i]=_:=(gH.1 hi).2
   rw[<-e1,List.set_getElem_self]]
  exact H
 have hy0:0 < ys.length:=gZ.2 hy;have hmul:(xs.length+ys.length)*inf.bytes<=140737488355328:=Nat.le_trans (Nat.mul_le_mul_left _ hby) (by omega)
 have hold:(Builtin.firstCells inf.size xs.length (.slice oa xs.length (xs.length+sp.length))).run P w.drew=.ok (xs.map bv).toArray w.drew:=by
  cases oa with
  |none=>
   obtain⟨g,⟨h2,h3⟩,_⟩:=H1.front i (Za5 hi);subst h2;exact run_firstCells_none w.drew inf.size 0 0 _
  |some a=>
   obtain⟨g,⟨h2,h3,_⟩,_⟩:=H1.front i (Za5 hi);obtain⟨b,o,s⟩:=a;simp only at h2 h3;subst h2;subst h3;have Hb:=H1.slb i (Za5 hi);refine run_firstCells_some w.drew inf.size xs.length ⟨b,0,none⟩ xs.length _ (xs.map bv) (by simp[hsz]) ?_;intro k u hu
   have e1:(⟨b,0,none⟩:Addr).add k=⟨b,k,none⟩:=by
    unfold Addr.add;split
    ·rename_i h;rw[h]
    ·simp
   rw[set_set] at Hb;have hc:=Hb.cell i (Za5 hi) k;rw[gM (by simpa using (gH.1 hu).1),hu] at hc;rw[e1];exact hc
 rcases hU_ sp.length ys.length with hg|hg
 ·have hrun:=run_append_grow_src (P:=P) w t tx ty e inf z hr.und hinf hzz oa xs.length (xs.length+sp.length) (xs.map bv) hold _ ys.length _ (hsrc w) (by omega) (by omega) (growslice_fits (by omega) hmul);refine⟨_,_,hrun,?_⟩;have hcap:=grownCap_ge w (xs.length+ys.length) (xs.length+sp.length) e;generalize grownCap w (xs.length+ys.length) (xs.length+sp.length) e=cap at hcap ⊢
  have hz2:Builtin.zeroCells z.cells (cap - (xs.length+ys.length))=(List.replicate (cap - (xs.length+ys.length)) z).toArray:=by
   rw[hr.one];apply Array.ext
   ·simp[Builtin.zeroCells]
   ·intro j h1 h2;simp[Builtin.zeroCells,Nat.mod_one]
  have hcells:((xs.map bv++ys.map bv).toArray++Builtin.zeroCells z.cells (cap - (xs.length+ys.length)))=((xs++ys).map bv++List.replicate (cap - (xs.length+ys.length)) z).toArray:=by
   rw[hz2];simp
  rw[hcells];have H2:=(H.same (w':=w.drew) rfl).alloc (.cells ((xs++ys).map bv++List.replicate (cap - (xs.length+ys.length)) z).toArray e);have H4:=(Holds.imp H2 (Q:=slb bv e (some ⟨w.heap.size,0,none⟩) (xs++ys) (List.replicate (cap - (xs.length+ys.length)) z)) λg hg=>⟨rfl,rfl,hg⟩);have H5:=H4.dropAt (i+1);rw[List.eraseIdx_cons_succ] at H5;have H6:Holds _ (L.set i (slb bv e (some ⟨w.heap.size,0,none⟩) (xs++ys) (List.replicate (cap - (xs.length+ys.length)) z))):=Sat.push i hi H5;have H7:=H6.close i (Za5 hi);rw[set_set] at H7
  have hc2:(xs++ys).length+(List.replicate (cap - (xs.length+ys.length)) z).length=cap:=by simp;omega
  have hl2:(xs++ys).length=xs.length+ys.length:=gD;rw[hc2,hl2] at H7;exact h _ _ ((Same.drew w).trans (.alloc _ _)) H7
 ·cases oa with
  |none=>
   obtain⟨g,⟨h2,h3⟩,_⟩:=H1.front i (Za5 hi);subst h3;simp at hg;exact absurd hg hy
  |some a=>
   obtain⟨g,⟨h2,h3,_⟩,_⟩:=H1.front i (Za5 hi);obtain⟨b,o,s⟩:=a;simp only at h2 h3;subst h2;subst h3;have Hb:=H1.slb i (Za5 hi);rw[set_set] at Hb;have hgi:=Za5 (Q:=blk b e (xs.map bv++sp)) hi
   have hrun:=run_append_room_src (P:=P) w t tx ty e inf hr.und hinf b 0 xs.length (xs.length+sp.length) _ ys.length _ (hsrc w) (by omega)
    (λj hj=>by
     rw[hS_] at hj
     rw[Hb.cell i hgi,hsz,Nat.mul_one,Nat.zero_add,gA (by rw[gD,hS_];omega)];rfl)
    (λj hj=>Hb.frozen i hgi _)
   refine⟨_,_,hrun,?_⟩;rw[Zjb,hsz,Nat.mul_one,Nat.zero_add];have H3:=Holds.setCells (o:=0) i (ys.map bv) xs.length Hb hgi;rw[set_set,Zs1 _ _ _ (by simp;omega)] at H3
   have e2:(xs.map bv++sp).take (0+xs.length)++ys.map bv++(xs.map bv++sp).drop (0+xs.length+(ys.map bv).length)=(xs++ys).map bv++sp.drop ys.length:=by
    simp[List.take_append,List.drop_append]
   rw[e2] at H3;have H4:=Holds.slb' (f:=bv) (e:=e) (b:=b) (xs:=xs++ys) (sp:=sp.drop ys.length) H3 i (Za5 hi);rw[set_set] at H4;have H5:=H4.close i (Za5 hi);rw[set_set] at H5
   have hl:(xs++ys).length+(sp.drop ys.length).length=xs.length+sp.length:=by simp;omega
   have hl2:(xs++ys).length=xs.length+ys.length:=gD;rw[hl,hl2] at H5;exact h _ _ (Same.setCells _ _ _ _) H5
theorem Yee {e pty ity:TypeId}{ats:Array TypeId}{ty:TypeId}(hp:P.underlying pty=some (.pointer e)) (hty:P.underlying ty=some (.pointer e)) (hc:P.cellsOf e=1) (H:Holds w L) (i:Nat){v:Value}{xs:List UInt8}{Q:KT}
  (hi:L[i]?=some (SL bv e v xs)) (hn:xs.length<=1099511627776)
  (h:∀ p w2,Same w w2->Holds w2 (L.eraseIdx i)->(∀ (K:KT),(∀ w',Same w2 w'->Holds w' (L.eraseIdx i)->K (.string ⟨xs.toArray⟩) w')->∀ ty2,Ust P #[pty,ity] ty2 #[p,nv xs.length] w2 K)->Q p w2) :
  Usd P ats ty #[v] w Q:=by
 obtain⟨oa,sp,rfl,H1⟩:=H.open i hi;have Hd:Holds w (L.eraseIdx i):=H.dropAt i
 cases oa with
 |none=>
  obtain⟨g,⟨h2,h3⟩,_⟩:=H1.front i (Za5 hi);subst h2;exact⟨_,w,Lib.run_unsafeSliceData_nil (P:=P) w ats ty _ _,h _ w (.refl w) Hd λK k ty2=>⟨_,w,Lib.run_unsafeString_none (P:=P) w pty ity ty2 none,k w (.refl w) Hd⟩⟩
 |some a=>
  obtain⟨g,⟨h2,h3,_⟩,_⟩:=H1.front i (Za5 hi);obtain⟨b,o,s⟩:=a;simp only at h2 h3;subst h2;subst h3;have Hb:=H1.slb i (Za5 hi);rw[set_set] at Hb;have hgi:=Za5 (Q:=blk b e (xs.map bv++sp)) hi;have hobj:=Hb.obj i hgi
  have hsh:w.shape? b=some (e,(xs.map bv++sp).length):=by
   unfold World.shape?;rw[hobj];simp
  by_cases hcap:xs.length+sp.length=0
  ·have hx:xs=[]:=eq_nil_of_length_eq_zero (by omega);subst hx;have hs0:sp=[]:=eq_nil_of_length_eq_zero (by omega);subst hs0;exact⟨_,_,Lib.run_unsafeSliceData_zero (P:=P) w ats ty e hty ⟨b,0,none⟩ 0 _ hsh,h _ _ (.alloc _ _) (Hd.alloc _).drop λK k ty2=>⟨_,_,Lib.run_unsafeString_none (P:=P) _ pty ity ty2 _,k _ (.refl _) (Hd.alloc _).drop⟩⟩
  ·refine⟨_,w,Lib.run_unsafeSliceData_row (P:=P) w ats ty _ _ _ hcap,h _ w (.refl w) Hd λK k ty2=>?_⟩
   by_cases hx:xs=[]
   ·subst hx;exact⟨_,w,Lib.run_unsafeString_none (P:=P) w pty ity ty2 _,k w (.refl w) Hd⟩
   ·have hrun:=Lib.run_unsafeString_row (P:=P) w pty ity ty2 e hp hc b _ hsh xs hx (by simp) (by omega) (λj x hj=>by
     have e1:(⟨b,0,none⟩:Addr).add j=⟨b,j,none⟩:=by
      unfold Addr.add;split
      ·rename_i h;rw[h]
      ·simp
     have hjl:=(gH.1 hj).1;rw[e1,Hb.cell i hgi j,gM (by simpa using hjl),hV_,hj]
     rfl)
    refine⟨_,_,hrun,k _ ⟨?_,?_,?_,?_⟩ ?_⟩
    ·unfold World.freeze;split <;> rfl
    ·unfold World.freeze;split <;> rfl
    ·unfold World.freeze;split <;> rfl
    ·unfold World.freeze;split <;> simp
    ·have Hf:=Hb.front i hgi;obtain⟨g,hg,hgs,hL⟩:=Hf
     have he:(L.set i (blk b e (xs.map bv++sp))).eraseIdx i=L.eraseIdx i:=by rw[List.eraseIdx_set_eq]
     rw[he] at hL;refine Sat.mono hL λc x hx=>?_;unfold Hp.minus at hx;split at hx
     ·cases hx
     ·rename_i hgc
      have hcb:c≠b:=by
       rintro rfl;apply hgc;have:g c=some _:=hg;rw[this];rfl
      show (w.freeze ⟨b,0,none⟩ xs.length).heap[c]?=some x;unfold World.freeze;split
      ·exact hx
      ·simp only[Array.getElem?_modify];rw[if_neg (λe=>hcb e.symm)];exact hx
end
end Go.Vc
namespace Go.Me
open Go.M01 Go.Mb Go.M03 Go.M3d Go.Mx
def txs (ps:List (UInt8 × Nat)):List UInt8:=ps.flatMap λx=>List.replicate x.2 x.1
theorem Zp1 (a b:List (UInt8 × Nat)):txs (a++b)=txs a++txs b:=by simp[txs]
theorem Zqq (a b:List (UInt8 × Nat)):encB (a++b)=encB a++encB b:=by simp[encB]
structure Adj (ps:List (UInt8 × Nat)):Prop where
 ok:∀ x∈ps,1<=x.2/\x.2<=255
 ne:∀ (i:Nat) (x y:UInt8 × Nat),ps[i]?=some x->ps[i+1]?=some y->x.2 < 4->y.1≠x.1
theorem Adj.tail {x:UInt8 × Nat}{ps:List (UInt8 × Nat)}(h:Adj (x::ps)):Adj ps:=
 ⟨λy hy=>h.ok y (hK_ _ hy),λi a b ha hb=>h.ne (i+1) a b (by simpa using ha) (by simpa using hb)⟩
theorem Adj.part {ps:List (UInt8 × Nat)}(h:Adj ps) (a n:Nat):Adj ((ps.drop a).take n):=by
 refine⟨λy hy=>h.ok y (List.mem_of_mem_drop (List.mem_of_mem_take hy)),λi x y hx hy=>?_⟩
 have g:∀ {i:Nat} {z:UInt8 × Nat},((ps.drop a).take n)[i]?=some z->ps[a+i]?=some z:=by
  intro i z hz;rw[List.getElem?_take] at hz;split at hz
  ·rw[hH_] at hz;exact hz
  ·cases hz
 exact h.ne (a+i) x y (g hx) (g hy)
theorem Yac {x:UInt8 × Nat}{ps:List (UInt8 × Nat)}(h:1<=x.2):(encB (x::ps)).getD 0 0=x.1:=by
 unfold encB;rw[hM_];unfold pieceB;rw[show min x.2 4=(min x.2 4 - 1)+1 by omega,List.replicate_succ];rfl
theorem Zub {ps:List (UInt8 × Nat)}(h:Adj ps) (h0:ps≠[]):encB ps≠[]:=by
 cases ps with
 |nil=>exact absurd rfl h0
 |cons x ps=>
  have:=(h.ok x (hJ_ ..)).1;unfold encB;rw[hM_];unfold pieceB;rw[show min x.2 4=(min x.2 4 - 1)+1 by omega,List.replicate_succ];simp
theorem Adj.rle_:∀ {ps:List (UInt8 × Nat)},Adj ps->∀ out p,rleA out 0 p (encB ps)=some (out++txs ps)
 |[],_,out,p=>by simp[encB,txs,rleA]
 |x::ps,h,out,p=>by
  obtain⟨h1,h2⟩:=h.ok x (hJ_ ..)
  have e:encB (x::ps)=pieceB (x.1,x.2)++encB ps:=by unfold encB;rw[hM_]
  have e2:txs (x::ps)=List.replicate x.2 x.1++txs ps:=by unfold txs;rw[hM_]
  rw[e,Zn9 h1 h2 λh4=>?_,Adj.rle_ h.tail,e2,gI]
  cases ps with
  |nil=>exact .inl rfl
  |cons y ps=>
   right;rw[Yac (h.tail.ok y (hJ_ ..)).1];exact h.ne 0 x y rfl rfl h4
theorem Adj.back {ps:List (UInt8 × Nat)}(h:Adj ps):Go.M03.rle (encB ps)=some (txs ps):=h.rle_ [] 0
theorem Pcs.txs_ {s:List UInt8}{ps:List (UInt8 × Nat)}(h:Pcs s ps):txs ps=s:=by
 induction h with
 |nil=>rfl
 |cons h r ih=>
  rename_i s n ps
  have e2:txs ((s.getD 0 0,n)::ps)=List.replicate n (s.getD 0 0)++txs ps:=by unfold txs;rw[hM_]
  rw[e2,ih,<-h.same,hN_]
theorem Pcs.first {s:List UInt8}{ps:List (UInt8 × Nat)}{y:UInt8 × Nat}(h:Pcs s ps) (hy:ps[0]?=some y):y.1=s.getD 0 0/\s≠[]:=by
 cases h with
 |nil=>simp at hy
 |cons h r=>
  simp only[List.getElem?_cons_zero,Option.some.injEq] at hy;subst hy
  exact⟨rfl,λe=>by
   have h1:=h.pos;have h2:=h.le;rw[e] at h2;simp at h2
   omega⟩
theorem Pcs.adj {s:List UInt8}{ps:List (UInt8 × Nat)}(h:Pcs s ps):Adj ps:=by
 induction h with
 |nil=>exact⟨λx hx=>(by cases hx),λi x y hx=>(by simp at hx)⟩
 |cons h r ih=>
  rename_i s n ps;refine⟨λx hx=>?_,λi x y hx hy h4=>?_⟩
  ·rcases mem_cons.1 hx with rfl|hx
   ·exact⟨h.pos,h.n255⟩
   ·exact ih.ok x hx
  ·cases i with
   |zero=>
    simp only[List.getElem?_cons_zero,Option.some.injEq] at hx;subst hx;rw[gF] at hy;obtain⟨e1,e2⟩:=r.first hy;rw[e1];exact (h.fin h4).resolve_left e2
   |succ i=>
    rw[gF] at hx hy;exact ih.ne i x y hx hy h4
abbrev Bl:Type:=List UInt8 × List UInt8
def BlOk (room:Nat) (b:Bl):Prop:=b.1≠[]/\b.1.length<=room/\Go.M03.rle b.1=some b.2
structure Cuts (s:List UInt8) (room:Nat) (bs:List Bl):Prop where
 ok:∀ b∈bs,BlOk room b
 txt:bs.flatMap (λb=>b.2)=s
 len:(bs.map λb=>b.1.length).sum<=5*s.length
 cnt:bs.length<=s.length
end Go.Me
namespace Go.Me
open Go.M01 Go.Mb Go.M03 Go.M3d Go.Mx
theorem Adj.pre {ps qs:List (UInt8 × Nat)}(h:Adj (ps++qs)):Adj ps:=by
 have:=h.part 0 ps.length;rw[drop_zero,List.take_left'] at this
 ·exact this
 ·rfl
theorem Adj.grow {ps:List (UInt8 × Nat)}{c:UInt8}{n m:Nat}(h:Adj (ps++[(c,n)])) (hm:1<=m/\m<=255):Adj (ps++[(c,m)]):=by
 refine⟨λx hx=>?_,λi x y hx hy h4=>?_⟩
 ·rcases hT_.1 hx with hx|hx
  ·exact h.ok x (List.mem_append_left _ hx)
  ·rw[mem_singleton.1 hx];exact hm
 ·have hl:=(gH.1 hy).1;rw[gD,gQ] at hl
  have hx2:(ps++[(c,n)])[i]?=some x:=by
   rw[gM (by omega)] at hx ⊢;exact hx
  by_cases hi:i+1 < ps.length
  ·refine h.ne i x y hx2 ?_ h4;rw[gM hi] at hy ⊢;exact hy
  ·obtain rfl:y=(c,m):=by
    rw[gT (by omega),show i+1 - ps.length=0 by omega] at hy;simpa using hy.symm
   refine h.ne i x (c,n) hx2 ?_ h4;rw[gT (by omega),show i+1 - ps.length=0 by omega];rfl
theorem Adj.more {ps:List (UInt8 × Nat)}{x y:UInt8 × Nat}(h:Adj (ps++[x])) (hy:1<=y.2/\y.2<=255) (hn:y.1≠x.1):Adj (ps++[x]++[y]):=by
 refine⟨λz hz=>?_,λi a b ha hb h4=>?_⟩
 ·rcases hT_.1 hz with hz|hz
  ·exact h.ok z hz
  ·rw[mem_singleton.1 hz];exact hy
 ·have hl:=(gH.1 hb).1;rw[gD,gD,gQ,gQ] at hl
  have hlen:(ps++[x]).length=ps.length+1:=by simp
  rw[gM (by omega)] at ha
  by_cases hi:i+1 < (ps++[x]).length
  ·rw[gM hi] at hb;exact h.ne i a b ha hb h4
  ·rw[gT (by omega),show i+1 - (ps++[x]).length=0 by omega] at hb
   obtain rfl:y=b:=by simpa using hb
   rw[gT (by omega),show i - ps.length=0 by omega] at ha
   obtain rfl:x=a:=by simpa using ha
   exact hn
theorem Adj.one {x:UInt8 × Nat}(h:1<=x.2/\x.2<=255):Adj [x]:=
 ⟨λy hy=>by rw[mem_singleton.1 hy];exact h,λi a b _ hb=>by simp at hb⟩
theorem Zin (x:UInt8 × Nat):(pieceB x).length<=5*x.2/\(pieceB x).length<=5:=by
 unfold pieceB
 split <;> simp <;> omega
theorem Zrb (x:UInt8 × Nat):encB [x]=pieceB x:=by simp[encB]
theorem Zue (x:UInt8 × Nat):txs [x]=List.replicate x.2 x.1:=by simp[txs]
theorem Ye6 (ps:List (UInt8 × Nat)):(encB ps).length<=5*(txs ps).length:=by
 induction ps with
 |nil=>simp[encB]
 |cons x ps ih=>
  have e:encB (x::ps)=pieceB x++encB ps:=by unfold encB;rw[hM_]
  have e2:txs (x::ps)=List.replicate x.2 x.1++txs ps:=by unfold txs;rw[hM_]
  have:=(Zin x).1;rw[e,e2,gD,gD,gP];omega
theorem Yd9 {ps:List (UInt8 × Nat)}(h:Adj ps) (h0:ps≠[]):1<=(txs ps).length:=by
 cases ps with
 |nil=>exact absurd rfl h0
 |cons x ps=>
  have e2:txs (x::ps)=List.replicate x.2 x.1++txs ps:=by unfold txs;rw[hM_]
  have:=(h.ok x (hJ_ ..)).1;rw[e2,gD,gP];omega
def BlG (room:Nat) (b:Bl):Prop:=∃ ps,ps≠[]/\Adj ps/\b=(encB ps,txs ps)/\(encB ps).length<=room
theorem Zls {room:Nat}:∀ {bs:List Bl},(∀ b∈bs,BlG room b)->Cuts (bs.flatMap λb=>b.2) room bs
 |[],_=>⟨λb hb=>(by cases hb),rfl,by simp,by simp⟩
 |b::bs,h=>by
  have ih:=Zls (bs:=bs) λx hx=>h x (hK_ _ hx);obtain⟨ps,h0,ha,rfl,hr⟩:=h b (hJ_ ..);have h1:=Ye6 ps;have h2:=Yd9 ha h0;have i1:=ih.len;have i2:=ih.cnt;refine⟨λx hx=>?_,rfl,?_,?_⟩
  ·rcases mem_cons.1 hx with rfl|hx
   ·exact⟨Zub ha h0,hr,ha.back⟩
   ·exact ih.ok x hx
  ·rw[hR_,hQ_,hM_,gD];show (encB ps).length+_<=5*((txs ps).length+_);omega
  ·rw[hM_,gD,length_cons];show bs.length+1<=(txs ps).length+_;omega
structure Cg (room:Nat) (s:List UInt8) (bs:List Bl) (body tx:List UInt8) (x:UInt8 × Nat):Prop where
 ok:∀ b∈bs,BlG room b
 cur:∃ ps,(x.2=0->ps=[])/\body=encB ps/\tx=txs ps/\(0 < x.2->Adj (ps++[x]))
 rm:body.length<=room
 txt:(bs.flatMap λb=>b.2)++tx++List.replicate x.2 x.1=s
structure Cq (room:Nat) (s:List UInt8) (bs:List Bl) (body tx:List UInt8) (c:UInt8):Prop where
 ok:∀ b∈bs,BlG room b
 cur:∃ ps n,body=encB (ps++[(c,n)])/\tx=txs (ps++[(c,n)])/\Adj (ps++[(c,n)])
 rm:body.length<=room
 txt:(bs.flatMap λb=>b.2)++tx=s
variable {room:Nat}{s body tx:List UInt8}{bs:List Bl}{x:UInt8 × Nat}{c d:UInt8}
theorem Cg.le (h:Cg room s bs body tx x):tx.length+x.2<=s.length:=by
 have:=congrArg List.length h.txt;simp only[gD,gP] at this;omega
theorem Cg.start (room:Nat):Cg room [] [] [] [] (0,0):=
 ⟨λb hb=>(by cases hb),⟨[],λ_=>rfl,rfl,rfl,λh=>absurd h (by decide)⟩,hE _,rfl⟩
theorem Cg.same (h:Cg room s bs body tx x) (hx:x.2+1<=255) (hd:¬ (0 < x.2/\x.1≠d)):Cg room (s++[d]) bs body tx (d,x.2+1):=by
 obtain⟨c,n⟩:=x;simp only at hx hd;obtain⟨ps,h1,h2,h3,h4⟩:=h.cur;simp only at h1 h4;refine⟨h.ok,⟨ps,λh=>absurd h (Nat.succ_ne_zero _),h2,h3,λ_=>?_⟩,h.rm,?_⟩
 ·by_cases h0:n=0
  ·rw[h1 h0,h0];exact Adj.one ⟨Nat.le_refl 1,by show (0+1:Nat)<=255;decide⟩
  ·obtain rfl:c=d:=Classical.byContradiction λe=>hd ⟨by omega,e⟩;exact (h4 (by omega)).grow ⟨Nat.succ_le_succ (hE n),hx⟩
 ·have e:List.replicate n c++[d]=List.replicate (n+1) d:=by
   by_cases h0:n=0
   ·subst h0;rfl
   ·obtain rfl:c=d:=Classical.byContradiction λe=>hd ⟨by omega,e⟩;exact replicate_succ'.symm
  have:=h.txt;rw[<-this,gI _ _ [d]];show _++List.replicate (n+1) d=_++(List.replicate n c++[d]);rw[e]
theorem Cg.piece (h:Cg room s bs body tx x) (hx:0 < x.2) (hr:body.length+(pieceB x).length<=room):Cq room s bs (body++pieceB x) (tx++List.replicate x.2 x.1) x.1:=by
 obtain⟨ps,h1,h2,h3,h4⟩:=h.cur;refine⟨h.ok,⟨ps,x.2,?_,?_,h4 hx⟩,by rw[gD];exact hr,by rw[<-gI];exact h.txt⟩
 ·rw[Zqq,Zrb,h2]
 ·rw[Zp1,Zue,h3]
theorem Cg.cut (h:Cg room s bs body tx x) (hx:0 < x.2) (hr:room < body.length+(pieceB x).length) (h5:5<=room) :
  body≠[]/\Cq room s (bs++[(body,tx)]) (pieceB x) (List.replicate x.2 x.1) x.1:=by
 obtain⟨ps,h1,h2,h3,h4⟩:=h.cur;have hp:=(Zin x).2
 have hb:body≠[]:=λe=>by rw[e] at hr;simp at hr;omega
 have h0:ps≠[]:=λe=>hb (by rw[h2,e];rfl);have ha:=h4 hx;refine⟨hb,λb hb=>?_,⟨[],x.2,?_,?_,?_⟩,by omega,?_⟩
 ·rcases hT_.1 hb with hb|hb
  ·exact h.ok b hb
  ·rw[mem_singleton.1 hb];exact⟨ps,h0,ha.pre,by rw[h2,h3],by rw[<-h2];exact h.rm⟩
 ·rw[hO_,Zrb]
 ·rw[hO_,Zue]
 ·exact Adj.one (ha.ok x (List.mem_append_right _ (mem_singleton.2 rfl)))
 ·rw[hL_]
  have e:([(body,tx)]:List Bl).flatMap (λb=>b.2)=tx:=by simp
  rw[e];exact h.txt
theorem Cq.put (h:Cq room s bs body tx c) (hd:c≠d):Cg room (s++[d]) bs body tx (d,1):=by
 obtain⟨ps,n,h2,h3,h4⟩:=h.cur;exact⟨h.ok,⟨ps++[(c,n)],λh=>absurd h (Nat.succ_ne_zero 0),h2,h3,λ_=>h4.more ⟨Nat.le_refl 1,(by decide:(1:Nat)<=255)⟩ (Ne.symm hd)⟩,h.rm,by rw[h.txt];rfl⟩
theorem Cq.fin (h:Cq room s bs body tx c):body≠[]/\Cuts s room (bs++[(body,tx)]):=by
 obtain⟨ps,n,h2,h3,h4⟩:=h.cur
 have h0:ps++[(c,n)]≠[]:=by simp
 refine⟨by rw[h2];exact Zub h4 h0,?_⟩
 have:=Zls (room:=room) (bs:=bs++[(body,tx)]) λb hb=>by
  rcases hT_.1 hb with hb|hb
  ·exact h.ok b hb
  ·rw[mem_singleton.1 hb];exact⟨_,h0,h4,by rw[h2,h3],by rw[<-h2];exact h.rm⟩
 rw[hL_] at this
 have e:([(body,tx)]:List Bl).flatMap (λb=>b.2)=tx:=by simp
 rw[e,h.txt] at this;exact this
theorem Cg.fin0 (h:Cg room s bs body tx x) (hx:x.2=0):body=[]/\Cuts s room bs:=by
 obtain⟨ps,h1,h2,h3,h4⟩:=h.cur;have e:=h1 hx;refine⟨by rw[h2,e];rfl,?_⟩;have:=Zls h.ok;have et:=h.txt;rw[h3,e,hx] at et
 have e3:(bs.flatMap λb=>b.2)++txs []++List.replicate 0 x.1=bs.flatMap λb=>b.2:=by simp[txs]
 rw[e3] at et;rw[et] at this;exact this
end Go.Me
namespace Go.M18
def refBi (l:List UInt8) (b i:Nat):List Nat:=(List.range i).filter λk=>decide ((l.getD k 0).toNat=b)
def refL (l:List UInt8):Nat->List Nat
 |0=>[]
 |b+1=>refL l b++refBi l b l.length
theorem Zgw (l:List UInt8) (b i:Nat):refBi l b (i+1)=refBi l b i++if (l.getD i 0).toNat=b then [i] else []:=by
 unfold refBi;rw[range_succ,filter_append]
 congr 1
 by_cases h:(l.getD i 0).toNat=b
 ·rw[if_pos h,List.filter_cons_of_pos (by simpa using h),filter_nil]
 ·rw[if_neg h,List.filter_cons_of_neg (by simpa using h),filter_nil]
theorem Ziy (l:List UInt8) (b:Nat):∀ i,i<=l.length->(refBi l b i).length=cntB (l.take i) b
 |0,_=>by simp[refBi,cntB]
 |i+1,h=>by
  rw[Zgw,gD,Ziy l b i (by omega),Zbi l i b (by omega)]
  split <;> simp
theorem Zlj (l:List UInt8):∀ b,(refL l b).length=blw l b
 |0=>by rw[Zrf];rfl
 |b+1=>by rw[refL,gD,Zlj l b,Ziy l b _ (Nat.le_refl _),hF_,blw_succ]
theorem Ycu (l:List UInt8):blw l 256=l.length:=by
 unfold blw;rw[List.countP_eq_length];intro a _;simpa using UInt8.toNat_lt a
theorem Zrl (l:List UInt8) (c:Nat):∀ d,∃ r,refL l (c+d)=refL l c++r
 |0=>⟨[],by simp⟩
 |d+1=>by
  obtain⟨r,h⟩:=Zrl l c d;exact⟨r++refBi l (c+d) l.length,by rw[<-hG_,refL,h,gI]⟩
theorem Zni (l:List UInt8) (b i:Nat):∀ d,∃ r,refBi l b (i+d)=refBi l b i++r
 |0=>⟨[],by simp⟩
 |d+1=>by
  obtain⟨r,h⟩:=Zni l b i d;exact⟨_,by rw[<-hG_,Zgw,h,gI]⟩
theorem Zli (l:List UInt8) (i:Nat) (h:i < l.length):(refL l 256)[pos l i]?=some i:=by
 have hb:=Zi6 l i;obtain⟨r,hr⟩:=Zrl l ((l.getD i 0).toNat+1) (256 - ((l.getD i 0).toNat+1));rw[show (l.getD i 0).toNat+1+(256 - ((l.getD i 0).toNat+1))=256 by omega] at hr;obtain⟨r2,hr2⟩:=Zni l (l.getD i 0).toNat (i+1) (l.length - (i+1));rw[show i+1+(l.length - (i+1))=l.length by omega,Zgw,if_pos rfl] at hr2;rw[hr,refL,hr2]
 have e:pos l i=(refL l (l.getD i 0).toNat).length+(refBi l (l.getD i 0).toNat i).length:=by
  rw[Zlj,Ziy _ _ _ (by omega)];rfl
 rw[e,gI,gT (by omega),Nat.add_sub_cancel_left,gI,gI,gT (by omega),Nat.sub_self];rfl
theorem Yc1 (l:List UInt8) (i j:Nat) (hi:i < l.length) (hj:j < l.length) (h:pos l i=pos l j):i=j:=by
 have h1:=Zli l i hi;rw[h,Zli l j hj] at h1;injection h1 with h1;exact h1.symm
theorem Zv1 (l:List UInt8):∀ m,m<=l.length->∀ i,i < m->(lnk l m)[pos l i]?=some i
 |0,_,i,hi=>by omega
 |m+1,hm,i,hi=>by
  rw[lnk,List.getElem?_set,Zi9]
  by_cases e:pos l m=pos l i
  ·rw[if_pos e,if_pos (Ybu l m (by omega)),Yc1 l m i (by omega) (by omega) e]
  ·rw[if_neg e];have:i≠m:=λh=>e (by rw[h]);exact Zv1 l m (by omega) i (by omega)
theorem Ze8 (l:List UInt8) (b i x:Nat):x∈refBi l b i↔x < i/\(l.getD x 0).toNat=b:=by
 unfold refBi;rw[mem_filter,mem_range,decide_eq_true_iff]
theorem Zdl (l:List UInt8):∀ b x,x∈refL l b↔x < l.length/\(l.getD x 0).toNat < b
 |0,x=>by simp[refL]
 |b+1,x=>by
  rw[refL,hT_,Zdl l b x,Ze8];omega
theorem Zgv (l:List UInt8):∀ b,(refL l b).Nodup
 |0=>by simp[refL]
 |b+1=>by
  rw[refL,List.nodup_append];refine⟨Zgv l b,List.Nodup.sublist (List.filter_sublist) nodup_range,?_⟩;intro x hx y hy e;subst e;rw[Zdl] at hx;rw[Ze8] at hy;omega
theorem Ya6 (l:List UInt8) (a v:Nat) (h:(refL l 256)[a]?=some v):v < l.length/\pos l v=a:=by
 have hv:v < l.length:=((Zdl l 256 v).1 (List.mem_of_getElem? h)).1;refine⟨hv,?_⟩;have h1:=Zli l v hv;have hn:=Zgv l 256;obtain⟨ha,ha2⟩:=gH.1 h;obtain⟨hp,hp2⟩:=gH.1 h1;exact (List.getElem_inj hn).1 (hp2.trans ha2.symm)
theorem Zib (l:List UInt8):links l=refL l 256:=by
 have hl:(links l).length=l.length:=Zi9 _ _;have hr:(refL l 256).length=l.length:=(Zlj l 256).trans (Ycu l);apply ext_getElem?;intro a;rcases hU_ a l.length with ha|ha
 ·obtain⟨v,h⟩:∃ v,(refL l 256)[a]?=some v:=⟨_,gA (by rw[hr];exact ha)⟩;obtain⟨hv,hp⟩:=Ya6 l a _ h;have:=Zv1 l l.length (Nat.le_refl _) _ hv;rw[hp] at this;rw[h,<-this];rfl
 ·rw[getElem?_eq_none (by omega),getElem?_eq_none (by omega)]
theorem Zxc (l:List UInt8):(links l).length=l.length:=Zi9 _ _
theorem Zoq (l:List UInt8):(links l).Nodup:=by rw[Zib];exact Zgv l 256
end Go.M18
namespace Go.M18
abbrev bl:=Op.bytesLess
theorem Zed:∀ a:List UInt8,bl a a=false
 |[]=>rfl
 |a::x=>by
  have:=Zed x;simp[bl,Op.bytesLess] at this ⊢;exact this
theorem Ze3 (a b:UInt8) (x y:List UInt8):bl (a::x) (b::y)=(decide (a < b)||(a==b&&bl x y)):=rfl
theorem Zhq:∀ a b c:List UInt8,bl a b=true->bl b c=true->bl a c=true
 |_,[],_,h,_=>by cases ‹List UInt8› <;> simp[bl,Op.bytesLess] at h
 |_,_::_,[],_,h=>by simp[bl,Op.bytesLess] at h
 |[],_::_,_::_,_,_=>rfl
 |a::x,b::y,c::z,h,k=>by
  rw[Ze3] at *;simp only[Bool.or_eq_true,decide_eq_true_iff,Bool.and_eq_true,beq_iff_eq,UInt8.lt_iff_toNat_lt] at *;rcases h with h|⟨rfl,h⟩
  ·rcases k with k|⟨rfl,k⟩
   ·exact .inl (by omega)
   ·exact .inl h
  ·rcases k with k|⟨rfl,k⟩
   ·exact .inl k
   ·exact .inr ⟨rfl,Zhq x y z h k⟩
theorem Zhs:∀ a b:List UInt8,bl a b=true\/a=b\/bl b a=true
 |[],[]=>.inr (.inl rfl)
 |[],_::_=>.inl rfl
 |_::_,[]=>.inr (.inr rfl)
 |a::x,b::y=>by
  rw[Ze3,Ze3];simp only[Bool.or_eq_true,decide_eq_true_iff,Bool.and_eq_true,beq_iff_eq,UInt8.lt_iff_toNat_lt];rcases Nat.lt_trichotomy a.toNat b.toNat with h|h|h
  ·exact .inl (.inl h)
  ·have e:a=b:=UInt8.toNat_inj.1 h;subst e;rcases Zhs x y with h|h|h
   ·exact .inl (.inr ⟨rfl,h⟩)
   ·exact .inr (.inl (by rw[h]))
   ·exact .inr (.inr (.inr ⟨rfl,h⟩))
  ·exact .inr (.inr (.inl h))
theorem Zre {a b:List UInt8}(h:bl a b=true):bl b a=false:=by
 cases k:bl b a with
 |false=>rfl
 |true=>rw[<-Zed a,Zhq a b a h k]
def ble (a b:List UInt8):Prop:=bl b a=false
theorem Zo8 {a b:List UInt8}(h:ble a b) (k:ble b a):a=b:=by
 unfold ble at *;rcases Zhs a b with h1|h1|h1
 ·rw[k] at h1;cases h1
 ·exact h1
 ·rw[h] at h1;cases h1
theorem Zxl {a b c:List UInt8}(h:ble a b) (k:ble b c):ble a c:=by
 unfold ble at *
 cases e:bl c a with
 |false=>rfl
 |true=>
  rcases Zhs a b with h1|h1|h1
  ·rw[Zhq c a b e h1] at k;cases k
  ·rw[<-h1,e] at k;cases k
  ·rw[h] at h1;cases h1
theorem Zum (c:UInt8):∀ x y:List UInt8,x.length=y.length->bl (x++[c]) (y++[c])=bl x y
 |[],[],_=>by simp[bl,Op.bytesLess]
 |a::x,b::y,h=>by
  rw[List.cons_append,List.cons_append,Ze3,Ze3,Zum c x y (by simpa using h)]
def rot (s:List UInt8) (i:Nat):List UInt8:=s.drop i++s.take i
def lastB (r:List UInt8):UInt8:=r.getD (r.length - 1) 0
def rotR (r:List UInt8):List UInt8:=lastB r::r.take (r.length - 1)
theorem lastB_snoc (x:List UInt8) (c:UInt8):lastB (x++[c])=c:=by simp[lastB]
theorem Zvz (x:List UInt8) (c:UInt8):rotR (x++[c])=c::x:=by
 unfold rotR;rw[lastB_snoc];simp
theorem Zg2 (r:List UInt8) (h:0 < r.length):r=r.take (r.length - 1)++[lastB r]:=by
 have:=Zep r (r.length - 1) (by omega);rw[show r.length - 1+1=r.length by omega,hF_] at this;exact this
theorem Zco (s:List UInt8) (i:Nat) (h:i<=s.length):(rot s i).length=s.length:=by
 simp[rot];omega
theorem Zr4 (s:List UInt8) (i:Nat) (h:i < s.length):rot s i=s.getD i 0::(s.drop (i+1)++s.take i):=by
 unfold rot;rw[List.drop_eq_getElem_cons h,List.cons_append,gB,gA h];rfl
theorem Zsc (s:List UInt8) (i:Nat) (h:i < s.length):rot s (i+1)=(s.drop (i+1)++s.take i)++[s.getD i 0]:=by
 unfold rot;rw[Zep s i h,gI]
theorem Zs4 (s:List UInt8) (i:Nat) (h:i < s.length):rotR (rot s (i+1))=rot s i:=by
 rw[Zsc s i h,Zvz,Zr4 s i h]
theorem Zrv (s:List UInt8):rot s 0=s:=by simp[rot]
theorem Zzt (s:List UInt8):rot s s.length=s:=by simp[rot]
theorem Zvy (s:List UInt8) (h:0 < s.length):rotR (rot s 0)=rot s (s.length - 1):=by
 rw[Zrv];have:=Zs4 s (s.length - 1) (by omega);rw[show s.length - 1+1=s.length by omega,Zzt] at this;exact this
def aheadP (s:List UInt8) (i k:Nat):Bool:=bl (rot s i) (rot s k)||(decide (rot s i=rot s k)&&decide (i < k))
def insP (s:List UInt8) (i:Nat):List Nat->List Nat
 |[]=>[i]
 |k::r=>if aheadP s i k then i::k::r else k::insP s i r
def sortP (s:List UInt8):Nat->List Nat
 |0=>[]
 |i+1=>insP s i (sortP s i)
theorem Zfm (s:List UInt8) (i:Nat):∀ l,(insP s i l).Perm (i::l)
 |[]=>.refl _
 |k::r=>by
  rw[insP];split
  ·exact .refl _
  ·exact ((Zfm s i r).cons k).trans (.swap i k r)
theorem Zcf (s:List UInt8):∀ n,(sortP s n).Perm (List.range n)
 |0=>.refl _
 |n+1=>by
  rw[sortP,range_succ];exact ((Zfm s n _).trans ((Zcf s n).cons n)).trans (List.perm_append_comm (l₁:=[n]))
theorem Zqp {s:List UInt8}{i k:Nat}(h:aheadP s i k=true):ble (rot s i) (rot s k):=by
 unfold aheadP at h;rw[Bool.or_eq_true,Bool.and_eq_true,decide_eq_true_iff] at h;rcases h with h|h
 ·exact Zre h
 ·unfold ble;rw[h.1];exact Zed _
theorem Zml {s:List UInt8}{i k:Nat}(h:aheadP s i k=false):ble (rot s k) (rot s i):=by
 unfold aheadP at h;rw[Bool.or_eq_false_iff] at h;exact h.1
theorem Zhz (s:List UInt8) (i:Nat):∀ l:List Nat,l.Pairwise (λa b=>ble (rot s a) (rot s b))->(insP s i l).Pairwise (λa b=>ble (rot s a) (rot s b))
 |[],_=>by simp[insP]
 |k::r,h=>by
  rw[pairwise_cons] at h;rw[insP];split
  ·rename_i ha;rw[pairwise_cons,pairwise_cons];refine⟨λx hx=>?_,h.1,h.2⟩;rcases mem_cons.1 hx with rfl|hx
   ·exact Zqp ha
   ·exact Zxl (Zqp ha) (h.1 x hx)
  ·rename_i ha;rw[pairwise_cons];refine⟨λx hx=>?_,Zhz s i r h.2⟩;rcases mem_cons.1 ((Zfm s i r).mem_iff.1 hx) with rfl|hx
   ·exact Zml (by simpa using ha)
   ·exact h.1 x hx
theorem Ze4 (s:List UInt8):∀ n,(sortP s n).Pairwise (λa b=>ble (rot s a) (rot s b))
 |0=>by simp[sortP]
 |n+1=>Zhz s n _ (Ze4 s n)
theorem Zb4 (s:List UInt8) (n:Nat):(sortP s n).length=n:=by rw[(Zcf s n).length_eq,hW_]
theorem Zc9 (s:List UInt8) (n x:Nat):x∈sortP s n↔x < n:=by rw[(Zcf s n).mem_iff,mem_range]
theorem Zio (s:List UInt8) (n:Nat):(sortP s n).Nodup:=(Zcf s n).symm.nodup nodup_range
def lastL (s:List UInt8):List UInt8:=(sortP s s.length).map λi=>lastB (rot s i)
def rots (s:List UInt8):List (List UInt8):=(sortP s s.length).map (rot s)
theorem Zaq (s:List UInt8):(lastL s).length=s.length:=by simp[lastL,Zb4]
theorem Zz8 (s:List UInt8):(rots s).length=s.length:=by simp[rots,Zb4]
theorem Zjp {α:Type}(l:List α) (d:α):(List.range l.length).map (λj=>l.getD j d)=l:=by
 apply ext_getElem?;intro i;rw[hV_];rcases hU_ i l.length with h|h
 ·rw[gA (by simpa using h),List.getElem_range,gA h];simp[List.getD,h]
 ·rw[getElem?_eq_none (by simpa using h),getElem?_eq_none h];rfl
theorem Ztd (l:List UInt8):(links l).Perm (List.range l.length):=by
 rw[List.perm_ext_iff_of_nodup (Zoq l) nodup_range];intro a;rw[mem_range,Zib,Zdl];have:=Zi6 l a;omega
theorem Zxy (s:List UInt8):((rots s).map rotR).Perm (rots s):=by
 have h1:(rots s).Perm ((List.range s.length).map (rot s)):=(Zcf s s.length).map _;refine ((h1.map rotR).trans ?_).trans h1.symm;rw[map_map];obtain⟨m,hm⟩:∃ m,s.length=m:=⟨_,rfl⟩;rw[hm]
 cases m with
 |zero=>exact .refl _
 |succ m=>
  have e1:(List.range (m+1)).map (rotR ∘ rot s)=rot s m::(List.range m).map (rot s):=by
   rw[List.range_succ_eq_map,hR_,map_map]
   have h0:(rotR ∘ rot s) 0=rot s m:=by
    have:=Zvy s (by omega);rw[hm] at this;exact this
   rw[h0]
   congr 1
   apply List.map_congr_left;intro i hi;rw[mem_range] at hi;exact Zs4 s i (by omega)
  rw[e1,range_succ,map_append];exact List.perm_append_comm (l₁:=[_])
theorem Zix (l:List UInt8):∀ b,(refL l b).Pairwise (λj k=>(l.getD j 0).toNat < (l.getD k 0).toNat\/(l.getD j 0=l.getD k 0/\j < k))
 |0=>by simp[refL]
 |b+1=>by
  rw[refL,List.pairwise_append];refine⟨Zix l b,?_,?_⟩
  ·refine List.Pairwise.imp_of_mem ?_ ((List.pairwise_lt_range (n:=l.length)).sublist (List.filter_sublist (p:=λk=>decide ((l.getD k 0).toNat=b))));intro j k hj hk hlt;have h1:=(Ze8 l b l.length j).1 hj;have h2:=(Ze8 l b l.length k).1 hk;exact .inr ⟨UInt8.toNat_inj.1 (h1.2.trans h2.2.symm),hlt⟩
  ·intro j hj k hk;rw[Zdl] at hj;rw[Ze8] at hk;exact .inl (by omega)
theorem Zjj (s:List UInt8) (j:Nat) (h:j < s.length):(lastL s).getD j 0=lastB ((rots s).getD j []):=by
 have hj:j < (sortP s s.length).length:=by rw[Zb4];exact h
 simp[lastL,rots,List.getD,hj]
theorem Ze1 (s:List UInt8) (j:Nat) (h:j < s.length):((rots s).getD j []).length=s.length:=by
 have hj:j < (sortP s s.length).length:=by rw[Zb4];exact h
 have hm:=(Zc9 s s.length _).1 (getElem_mem hj);simp only[rots,List.getD,hV_,gA hj];exact Zco s _ (by omega)
theorem Zx4 (s:List UInt8) (a:Nat) (h:a < s.length):rotR ((rots s).getD ((links (lastL s)).getD a 0) [])=(rots s).getD a []:=by
 have hll:=Zaq s;have hrl:=Zz8 s
 have hq:(links (lastL s)).map (λj=>rotR ((rots s).getD j []))=rots s:=by
  refine List.Perm.eq_of_pairwise (le:=ble) (λa b _ _=>Zo8) ?_ ?_ ?_
  ·rw[List.pairwise_map,Zib];refine List.Pairwise.imp_of_mem ?_ (Zix (lastL s) 256);intro j k hj hk hjk;have hj:=((Zdl _ _ _).1 hj).1;have hk:=((Zdl _ _ _).1 hk).1;rw[hll] at hj hk;rw[Zjj s j hj,Zjj s k hk] at hjk;have lj:=Ze1 s j hj;have lk:=Ze1 s k hk;unfold ble rotR;rw[Ze3];rcases hjk with h1|⟨h1,h2⟩
   ·rw[Bool.or_eq_false_iff,decide_eq_false_iff_not,Bool.and_eq_false_iff];refine⟨by rw[UInt8.lt_iff_toNat_lt];omega,.inl ?_⟩;rw[beq_eq_false_iff_ne];intro e;rw[e] at h1;omega
   ·rw[h1,Bool.or_eq_false_iff,decide_eq_false_iff_not,Bool.and_eq_false_iff];refine⟨by rw[UInt8.lt_iff_toNat_lt];omega,.inr ?_⟩
    have hs:(rots s).Pairwise ble:=by
     unfold rots;rw[List.pairwise_map];exact Ze4 s s.length
    have h3:=pairwise_iff_getElem.1 hs j k (by omega) (by omega) h2
    have ej:(rots s)[j]'(by omega)=(rots s).getD j []:=by simp[List.getD,hrl,hj]
    have ek:(rots s)[k]'(by omega)=(rots s).getD k []:=by simp[List.getD,hrl,hk]
    rw[ej,ek] at h3;unfold ble at h3;rw[Zg2 ((rots s).getD j []) (by omega),Zg2 ((rots s).getD k []) (by omega),<-h1] at h3;rw[Zum _ _ _ (by simp only[gN];omega)] at h3;exact h3
  ·unfold rots;rw[List.pairwise_map];exact Ze4 s s.length
  ·have h1:=(Ztd (lastL s)).map (λj=>rotR ((rots s).getD j []));refine h1.trans ?_
   have h2:(List.range (lastL s).length).map (λj=>rotR ((rots s).getD j []))=(rots s).map rotR:=by
    have:=congrArg (List.map rotR) (Zjp (rots s) []);rw[map_map] at this;rw[hll,<-hrl];exact this
   rw[h2];exact Zxy s
 have hlk:a < (links (lastL s)).length:=by rw[Zxc,hll];exact h
 have:=congrArg (λl=>l.getD a []) hq;simp only[List.getD,hV_,gA hlk] at this ⊢;exact this
theorem Znb (s:List UInt8) (o:Nat) (ho:o < s.length) (h0:(sortP s s.length)[o]?=some 0) :
  ∀ k,k<=s.length->(rots s).getD (atK (lastL s) o k) []=rot s k/\outK (lastL s) o k=s.take k
 |0,_=>by
  refine⟨?_,by rw[take_zero];rfl⟩;show (rots s).getD o []=rot s 0;simp[rots,List.getD,h0]
 |k+1,hk=>by
  obtain⟨h1,h2⟩:=Znb s o ho h0 k (by omega);have ha:=Zr7 (lastL s) o (by rw[Zaq];exact ho) k;have ha':=Zr7 (lastL s) o (by rw[Zaq];exact ho) (k+1);rw[Zaq] at ha ha';have h3:=Zx4 s _ ha;rw[h1] at h3;have h4:atK (lastL s) o (k+1)=(links (lastL s)).getD (atK (lastL s) o k) 0:=rfl;rw[<-h4] at h3;have hl:=Ze1 s _ ha';have h5:=Zg2 ((rots s).getD (atK (lastL s) o (k+1)) []) (by omega);have h6:=Zjj s _ ha';rw[Zr4 s k (by omega)] at h3;unfold rotR at h3;obtain⟨h7,h8⟩:=List.cons.inj h3;refine⟨?_,?_⟩
  ·rw[h5,h7,h8,Zsc s k (by omega)]
  ·rw[outK,h2,h6,h7,Zep s k (by omega)]
theorem Zxb (s:List UInt8) (o:Nat) (ho:o < s.length) (h0:(sortP s s.length)[o]?=some 0):text (lastL s) o=s:=by
 unfold text;rw[Zaq,(Znb s o ho h0 s.length (Nat.le_refl _)).2,hF_]
end Go.M18
namespace Go.Mr
abbrev Key:=Nat->Nat × Nat
def klt (p q:Nat × Nat):Prop:=p.1 < q.1\/(p.1=q.1/\p.2 < q.2)
instance (p q:Nat × Nat):Decidable (klt p q):=inferInstanceAs (Decidable (_\/_))
def le (k:Key) (a b:Nat):Prop:=klt (k a) (k b)\/(k a=k b/\a<=b)
instance (k:Key) (a b:Nat):Decidable (le k a b):=inferInstanceAs (Decidable (_\/_))
theorem kext {p q:Nat × Nat}:p=q↔p.1=q.1/\p.2=q.2:=⟨λh=>by rw[h];exact⟨rfl,rfl⟩,λh=>Prod.ext h.1 h.2⟩
theorem le_refl (k:Key) (a:Nat):le k a a:=.inr ⟨rfl,Nat.le_refl _⟩
theorem le_total (k:Key) (a b:Nat):le k a b\/le k b a:=by
 unfold le klt;rw[kext,kext];omega
theorem le_trans {k:Key}{a b c:Nat}(h:le k a b) (g:le k b c):le k a c:=by
 unfold le klt at *;rw[kext] at *;omega
theorem Zq2 {k:Key}{a b:Nat}(h:le k a b) (g:le k b a):a=b:=by
 unfold le klt at *;rw[kext] at *;omega
theorem Zu3 {k:Key}{a b:Nat}(h:¬ klt (k b) (k a)) (e:k a=k b->a<=b):le k a b:=by
 unfold le
 by_cases q:k a=k b
 ·exact .inr ⟨q,e q⟩
 ·refine .inl ?_;unfold klt at *;rw[kext] at q;omega
def ins (k:Key) (a:Nat):List Nat->List Nat
 |[]=>[a]
 |b::l=>if le k a b then a::b::l else b::ins k a l
def isort (k:Key):List Nat->List Nat
 |[]=>[]
 |a::l=>ins k a (isort k l)
theorem Zmd (k:Key) (a:Nat):∀ l,(ins k a l).Perm (a::l)
 |[]=>.refl _
 |b::l=>by
  rw[ins];split
  ·exact .refl _
  ·exact ((Zmd k a l).cons b).trans (.swap a b l)
theorem Zb3 (k:Key):∀ l,(isort k l).Perm l
 |[]=>.refl _
 |a::l=>(Zmd k a _).trans ((Zb3 k l).cons a)
theorem Zkk (k:Key) (a:Nat):∀ l,l.Pairwise (le k)->(ins k a l).Pairwise (le k)
 |[],_=>by simp[ins]
 |b::l,h=>by
  rw[pairwise_cons] at h;rw[ins];split
  ·rename_i q;rw[pairwise_cons,pairwise_cons];refine⟨λx hx=>?_,h.1,h.2⟩;rcases mem_cons.1 hx with rfl|hx
   ·exact q
   ·exact le_trans q (h.1 x hx)
  ·rename_i q;rw[pairwise_cons];refine⟨λx hx=>?_,Zkk k a l h.2⟩;rcases mem_cons.1 ((Zmd k a l).mem_iff.1 hx) with rfl|hx
   ·exact (le_total k x b).resolve_left q
   ·exact h.1 x hx
theorem Zax (k:Key):∀ l,(isort k l).Pairwise (le k)
 |[]=>.nil
 |a::l=>Zkk k a _ (Zax k l)
theorem Zqc {k:Key}{a b:List Nat}(ha:a.Pairwise (le k)) (hb:b.Pairwise (le k)) (h:a.Perm b):a=b:=
 List.Perm.eq_of_pairwise (λx y _ _=>Zq2) ha hb h
theorem Zlh {k:Key}{a l:List Nat}(ha:a.Pairwise (le k)) (h:a.Perm l):a=isort k l:=Zqc ha (Zax k l) (h.trans (Zb3 k l).symm)
theorem Zq4 {k:Key}{a b:List Nat}(h:a.Perm b):isort k a=isort k b:=Zlh (Zax k a) ((Zb3 k a).trans h)
def mrg (k:Key):List Nat->List Nat->List Nat
 |[],B=>B
 |a::A,[]=>a::A
 |a::A,b::B=>if klt (k b) (k a) then b::mrg k (a::A) B else a::mrg k A (b::B)
termination_by A B=>A.length+B.length
theorem Zmc (k:Key) (B:List Nat):mrg k [] B=B:=by rw[mrg]
theorem Zl9 (k:Key) (A:List Nat):mrg k A []=A:=by cases A <;> rw[mrg]
theorem Zlb (k:Key) (a:Nat) (A:List Nat) (b:Nat) (B:List Nat):mrg k (a::A) (b::B)=if klt (k b) (k a) then b::mrg k (a::A) B else a::mrg k A (b::B):=by rw[mrg]
theorem Zu9 (k:Key):∀ (n:Nat) (A B:List Nat),A.length+B.length<=n->A.Pairwise (le k)->B.Pairwise (le k)->(∀ a∈A,∀ b∈B,k a=k b->a<=b)->(mrg k A B).Perm (A++B)/\(mrg k A B).Pairwise (le k)
 |n,[],B,_,_,hB,_=>by rw[Zmc];exact⟨.refl _,hB⟩
 |n,a::A,[],_,hA,_,_=>by rw[Zl9,gU];exact⟨.refl _,hA⟩
 |0,a::A,b::B,hn,_,_,_=>by simp at hn
 |n+1,a::A,b::B,hn,hA,hB,hc=>by
  rw[Zlb];simp only[length_cons] at hn;rw[pairwise_cons] at hA hB;split
  ·rename_i q;have h:=Zu9 k n (a::A) B (by simp only[length_cons];omega) (pairwise_cons.2 hA) hB.2 λx hx y hy=>hc x hx y (hK_ _ hy);refine⟨(h.1.cons b).trans (List.perm_middle.symm),pairwise_cons.2 ⟨λx hx=>?_,h.2⟩⟩;rcases hT_.1 (h.1.mem_iff.1 hx) with hx|hx
   ·have h1:le k b a:=.inl q;rcases mem_cons.1 hx with rfl|hx
    ·exact h1
    ·exact le_trans h1 (hA.1 x hx)
   ·exact hB.1 x hx
  ·rename_i q;have h:=Zu9 k n A (b::B) (by simp only[length_cons];omega) hA.2 (pairwise_cons.2 hB) λx hx y hy=>hc x (hK_ _ hx) y hy;refine⟨h.1.cons a,pairwise_cons.2 ⟨λx hx=>?_,h.2⟩⟩;rcases hT_.1 (h.1.mem_iff.1 hx) with hx|hx
   ·exact hA.1 x hx
   ·have h1:le k a b:=Zu3 q λe=>hc a (hJ_ ..) b (hJ_ ..) e;rcases mem_cons.1 hx with rfl|hx
    ·exact h1
    ·exact le_trans h1 (hB.1 x hx)
structure Pt where
 lo:Nat
 mid:Nat
 hi:Nat
def seg (R:List Nat) (lo hi:Nat):List Nat:=(R.drop lo).take (hi - lo)
def rep (R:List Nat) (lo hi:Nat) (X:List Nat):List Nat:=R.take lo++X++R.drop hi
theorem Zdw {R:List Nat}{lo hi:Nat}(h:hi<=R.length):(seg R lo hi).length=hi - lo:=by unfold seg;rw[gN,gS];omega
theorem Zdv {R:List Nat}{lo mid hi:Nat}(h1:lo<=mid) (h2:mid<=hi):seg R lo hi=seg R lo mid++seg R mid hi:=by
 unfold seg;rw[show hi - lo=(mid - lo)+(hi - mid) by omega,List.take_add,drop_drop,show lo+(mid - lo)=mid by omega]
theorem cut3 (R:List Nat){lo hi:Nat}(h:lo<=hi):R=R.take lo++seg R lo hi++R.drop hi:=by
 have h1:R.drop lo=seg R lo hi++R.drop hi:=by
  unfold seg;have:=(hN_ (hi - lo) (R.drop lo)).symm;rw[drop_drop,show lo+(hi - lo)=hi by omega] at this;exact this
 rw[gI,<-h1,hN_]
theorem Yc3 {R X:List Nat}{lo hi:Nat}(h:lo<=hi) (h2:hi<=R.length) (hX:X.length=hi - lo):(rep R lo hi X).length=R.length:=by
 unfold rep;simp only[gD,gN,gS];omega
theorem Zwt {R X:List Nat}{lo hi:Nat}(h:lo<=hi) (h2:hi<=R.length) (hX:X.length=hi - lo):seg (rep R lo hi X) lo hi=X:=by
 unfold rep seg
 have e:(R.take lo).length=lo:=by rw[gN];omega
 rw[gI,List.drop_append_of_le_length (by omega),drop_of_length_le (by omega),hO_,List.take_append_of_le_length (by omega),gK (by omega)]
theorem Zqt {R X:List Nat}{lo hi:Nat}(h:lo<=R.length):(rep R lo hi X).take lo=R.take lo:=by
 unfold rep
 have e:(R.take lo).length=lo:=by rw[gN];omega
 rw[gI,List.take_append_of_le_length (by omega),gK (by omega)]
theorem Zr9 {R X:List Nat}{lo hi:Nat}(h:lo<=hi) (h2:hi<=R.length) (hX:X.length=hi - lo):(rep R lo hi X).drop hi=R.drop hi:=by
 unfold rep
 have e:(R.take lo++X).length=hi:=by rw[gD,gN];omega
 rw[List.drop_append_of_le_length (by omega),drop_of_length_le (by omega),hO_]
theorem Zz0 {R X:List Nat}{lo hi:Nat}(h:lo<=hi) (hX:X.Perm (seg R lo hi)):(rep R lo hi X).Perm R:=by
 have e:=cut3 R h;unfold rep;refine List.Perm.trans ?_ (List.Perm.of_eq e.symm);exact (hX.append_left _).append_right _
theorem Zj0 {R R':List Nat}{a b lo:Nat}(hb:b<=lo) (e:R'.take lo=R.take lo):seg R' a b=seg R a b:=by
 unfold seg;rw[<-List.drop_take,<-List.drop_take]
 have e1:∀ Q:List Nat,Q.take b=(Q.take lo).take b:=λQ=>by rw[List.take_take,Nat.min_eq_left hb]
 rw[e1 R',e1 R,e]
theorem Zi7 {R R':List Nat}{a b hi:Nat}(ha:hi<=a) (e:R'.drop hi=R.drop hi):seg R' a b=seg R a b:=by
 unfold seg
 have e1:∀ Q:List Nat,Q.drop a=(Q.drop hi).drop (a - hi):=λQ=>by rw[drop_drop,show hi+(a - hi)=a by omega]
 rw[e1 R',e1 R,e]
variable {k:Key}{n:Nat}
def ap (k:Key) (p:Pt) (R:List Nat):List Nat:=rep R p.lo p.hi (isort k (seg R p.lo p.hi))
def run (k:Key):List Pt->List Nat->List Nat
 |[],R=>R
 |p::st,R=>run k st (ap k p R)
def Cond (k:Key) (p:Pt) (R:List Nat):Prop:=
 if p.mid=0 then (seg R p.lo p.hi).Pairwise λa b=>k a=k b->a<=b
 else p.lo < p.mid/\p.mid < p.hi/\(seg R p.lo p.mid).Pairwise (le k)/\(seg R p.mid p.hi).Pairwise (le k)/\∀ a∈seg R p.lo p.mid,∀ b∈seg R p.mid p.hi,k a=k b->a<=b
def WF (k:Key) (n:Nat):List Pt->List Nat->Prop
 |[],_=>True
 |p::st,R=>(p.lo < p.hi/\p.hi<=n)/\Cond k p R/\WF k n st (ap k p R)
theorem Zfh (l:List Nat):(isort k l).length=l.length:=(Zb3 k l).length_eq
theorem Ybx {p:Pt}{R:List Nat}(h:p.lo<=p.hi) (h2:p.hi<=R.length):(ap k p R).length=R.length:=Yc3 h h2 (by rw[Zfh,Zdw h2])
theorem Ycn {p:Pt}{R:List Nat}(h:p.lo<=p.hi):(ap k p R).Perm R:=Zz0 h (Zb3 _ _)
theorem ap_eq {p:Pt}{R R':List Nat}(h:p.lo<=p.hi) (h2:p.hi<=R.length) (h3:R'.length=R.length) (ht:R'.take p.lo=R.take p.lo) (hd:R'.drop p.hi=R.drop p.hi) (hs:(seg R' p.lo p.hi).Pairwise (le k)) (hp:(seg R' p.lo p.hi).Perm (seg R p.lo p.hi)):R'=ap k p R:=by
 have e:=cut3 R' h;rw[ht,hd,Zlh hs hp] at e;exact e
theorem Yek {p:Pt}{R:List Nat}(h:p.lo < p.hi) (h2:p.hi<=R.length) (h1:p.hi - p.lo < 2):ap k p R=R:=by
 refine (ap_eq (Nat.le_of_lt h) h2 rfl rfl rfl ?_ (.refl _)).symm;have:=Zdw (lo:=p.lo) h2
 match hl:seg R p.lo p.hi with
 |[]=>exact .nil
 |[x]=>exact List.pairwise_singleton _ _
 |x::y::r=>rw[hl] at this;simp at this;omega
theorem Zyo {lo hi:Nat}{st:List Pt}{R:List Nat}(hn:R.length=n) (h2:2<=hi - lo) (h:WF k n (⟨lo,0,hi⟩::st) R) :
  WF k n (⟨lo,0,(lo+hi)/2⟩::⟨(lo+hi)/2,0,hi⟩::⟨lo,(lo+hi)/2,hi⟩::st) R/\
  run k (⟨lo,0,(lo+hi)/2⟩::⟨(lo+hi)/2,0,hi⟩::⟨lo,(lo+hi)/2,hi⟩::st) R=run k (⟨lo,0,hi⟩::st) R:=by
 obtain⟨⟨h0,hh⟩,hc,hw⟩:=h;simp only at h0 hh;generalize hm:(lo+hi)/2=mid
 have m1:lo < mid:=by omega
 have m2:mid < hi:=by omega
 unfold Cond at hc;rw[if_pos rfl] at hc;simp only at hc;rw[Zdv (Nat.le_of_lt m1) (Nat.le_of_lt m2),List.pairwise_append] at hc;obtain⟨c1,c2,c3⟩:=hc
 have l1:(ap k ⟨lo,0,mid⟩ R).length=n:=by rw[Ybx (Nat.le_of_lt m1) (by show mid<=_;omega)];exact hn
 have g1:(isort k (seg R lo mid)).length=mid - lo:=by rw[Zfh,Zdw (by omega)]
 have s1:seg (ap k ⟨lo,0,mid⟩ R) lo mid=isort k (seg R lo mid):=Zwt (R:=R) (lo:=lo) (hi:=mid) (Nat.le_of_lt m1) (by omega) g1;have t1:(ap k ⟨lo,0,mid⟩ R).take lo=R.take lo:=Zqt (R:=R) (lo:=lo) (hi:=mid) (by omega);have d1:(ap k ⟨lo,0,mid⟩ R).drop mid=R.drop mid:=Zr9 (R:=R) (lo:=lo) (hi:=mid) (Nat.le_of_lt m1) (by omega) g1;have s1b:seg (ap k ⟨lo,0,mid⟩ R) mid hi=seg R mid hi:=Zi7 (Nat.le_refl _) d1;generalize hR1:ap k ⟨lo,0,mid⟩ R=R1 at *
 have l2:(ap k ⟨mid,0,hi⟩ R1).length=n:=by rw[Ybx (Nat.le_of_lt m2) (by show hi<=_;omega)];exact l1
 have g2:(isort k (seg R1 mid hi)).length=hi - mid:=by rw[Zfh,Zdw (by omega)]
 have s2:seg (ap k ⟨mid,0,hi⟩ R1) mid hi=isort k (seg R mid hi):=by
  rw[<-s1b];exact Zwt (R:=R1) (lo:=mid) (hi:=hi) (Nat.le_of_lt m2) (by omega) g2
 have t2:(ap k ⟨mid,0,hi⟩ R1).take mid=R1.take mid:=Zqt (R:=R1) (lo:=mid) (hi:=hi) (by omega);have d2:(ap k ⟨mid,0,hi⟩ R1).drop hi=R1.drop hi:=Zr9 (R:=R1) (lo:=mid) (hi:=hi) (Nat.le_of_lt m2) (by omega) g2
 have s2a:seg (ap k ⟨mid,0,hi⟩ R1) lo mid=isort k (seg R lo mid):=by rw[<-s1];exact Zj0 (Nat.le_refl _) t2
 generalize hR2:ap k ⟨mid,0,hi⟩ R1=R2 at *
 have hpm:(seg R2 lo hi).Perm (seg R lo hi):=by
  rw[Zdv (Nat.le_of_lt m1) (Nat.le_of_lt m2),s2a,s2,Zdv (R:=R) (Nat.le_of_lt m1) (Nat.le_of_lt m2)];exact (Zb3 _ _).append (Zb3 _ _)
 have t3:R2.take lo=R.take lo:=by
  have:∀ Q:List Nat,Q.take lo=(Q.take mid).take lo:=λQ=>by rw[List.take_take,Nat.min_eq_left (by omega)]
  rw[this R2,t2,<-this R1,t1]
 have d3:R2.drop hi=R.drop hi:=by
  have:∀ Q:List Nat,Q.drop hi=(Q.drop mid).drop (hi - mid):=λQ=>by rw[drop_drop,show mid+(hi - mid)=hi by omega]
  rw[d2,this R1,d1,<-this R]
 have e3:ap k ⟨lo,mid,hi⟩ R2=ap k ⟨lo,0,hi⟩ R:=by
  unfold ap rep;simp only;rw[t3,d3,Zq4 hpm]
 constructor
 ·refine⟨⟨m1,by show mid<=n;omega⟩,?_,⟨m2,hh⟩,?_,⟨by show lo < hi;omega,hh⟩,?_,?_⟩
  ·unfold Cond;rw[if_pos rfl];exact c1
  ·rw[hR1];unfold Cond;rw[if_pos rfl];simp only;rw[s1b];exact c2
  ·rw[hR1,hR2];unfold Cond;rw[if_neg (by show ¬ mid=0;omega)];simp only;rw[s2a,s2];exact⟨m1,m2,Zax _ _,Zax _ _,λa ha b hb=>c3 a ((Zb3 _ _).mem_iff.1 ha) b ((Zb3 _ _).mem_iff.1 hb)⟩
  ·rw[hR1,hR2,e3];exact hw
 ·show run k st (ap k ⟨lo,mid,hi⟩ (ap k ⟨mid,0,hi⟩ (ap k ⟨lo,0,mid⟩ R)))=run k st (ap k ⟨lo,0,hi⟩ R);rw[hR1,hR2,e3]
end Go.Mr
namespace Go.Mr
structure SS where
 order:List Nat
 cls:List Nat
 aside:List Nat
 reach:Nat
 stack:List Pt
 merge:Pt
 laid:Nat
 first:Nat
 second:Nat
 ranked:Nat
 last:Nat
 done:Bool
def joinS (x:SS):SS:=match x.stack with
 |[]=>x
 |p::st=>if x.merge.hi=0/\p.mid≠0 then { x with merge:=p,stack:=st,laid:=0,first:=0,second:=p.mid } else x
def layS (x:SS):SS:={ x with aside:=x.aside.set x.laid (x.order.getD (x.merge.lo+x.laid) 0),laid:=x.laid+1 }
def toS (x:SS):Nat:=x.merge.lo+x.first+x.second - x.merge.mid
def fromA (k:Key) (x:SS):Prop:=x.second=x.merge.hi\/(x.first < x.laid/\¬ klt (k (x.order.getD x.second 0)) (k (x.aside.getD x.first 0)))
instance (k:Key) (x:SS):Decidable (fromA k x):=inferInstanceAs (Decidable (_\/_))
def moveS (k:Key) (x:SS):SS:=if fromA k x then { x with order:=x.order.set (toS x) (x.aside.getD x.first 0),first:=x.first+1 }
 else { x with order:=x.order.set (toS x) (x.order.getD x.second 0),second:=x.second+1 }
def putS (k:Key) (x:SS):SS:=if toS x=x.merge.hi - 1 then { moveS k x with merge:=⟨0,0,0⟩ } else moveS k x
def beginS (x:SS):SS:=match x.stack with
 |[]=>x
 |p::st=>if p.hi - p.lo < 2 then { x with stack:=st } else { x with stack:=⟨p.lo,0,(p.lo+p.hi)/2⟩::⟨(p.lo+p.hi)/2,0,p.hi⟩::⟨p.lo,(p.lo+p.hi)/2,p.hi⟩::st }
def lastN (k:Key) (x:SS):Nat:=if x.ranked=0 then 0 else if klt (k (x.order.getD (x.ranked - 1) 0)) (k (x.order.getD x.ranked 0)) then x.last+1 else x.last
def rank1 (k:Key) (x:SS):SS:={ x with aside:=x.aside.set (x.order.getD x.ranked 0) (lastN k x),last:=lastN k x,ranked:=x.ranked+1 }
def passS (n:Nat) (x:SS):SS:=if x.last=n - 1\/n<=x.reach then { x with cls:=x.aside,aside:=x.cls,ranked:=0,done:=true }
 else { x with cls:=x.aside,aside:=x.cls,ranked:=0,reach:=max 1 (2*x.reach),stack:=⟨0,0,n⟩::x.stack }
def rankS (k:Key) (n:Nat) (x:SS):SS:=if x.ranked+1=n then passS n (rank1 k x) else rank1 k x
def restS (k:Key) (n:Nat) (x:SS):SS:=if 0 < x.merge.hi/\x.laid < x.merge.mid - x.merge.lo then layS x else if 0 < x.merge.hi then putS k x else if x.stack≠[] then beginS x else rankS k n x
def stepS (k:Key) (n:Nat) (x:SS):SS:=restS k n (joinS x)
def rk (k:Key) (o:List Nat):Nat->Nat
 |0=>0
 |i+1=>rk k o i+if klt (k (o.getD i 0)) (k (o.getD (i+1) 0)) then 1 else 0
structure Bs (n:Nat) (x:SS):Prop where
 two:2<=n
 ol:x.order.length=n
 cl:x.cls.length=n
 al:x.aside.length=n
 om:∀ a∈x.order,a < n
 nd:x.done=false
structure PhA (k:Key) (n:Nat) (x:SS):Prop where
 none:x.merge.hi=0
 perm:x.order.Perm (List.range n)
 wf:WF k n x.stack x.order
 srt:(run k x.stack x.order).Pairwise (le k)
 rk0:x.stack≠[]->x.ranked=0
 rkn:x.ranked < n
 asd:∀ i,i < x.ranked->x.aside.getD (x.order.getD i 0) 0=rk k x.order i
 lst:0 < x.ranked->x.last=rk k x.order (x.ranked - 1)
structure PhB (k:Key) (n:Nat) (x:SS) (R:List Nat):Prop where
 len:R.length=n
 perm:R.Perm (List.range n)
 m1:x.merge.lo < x.merge.mid
 m2:x.merge.mid < x.merge.hi
 m3:x.merge.hi<=n
 wf:WF k n (x.merge::x.stack) R
 srt:(run k (x.merge::x.stack) R).Pairwise (le k)
 rk0:x.ranked=0
 lay:x.laid<=x.merge.mid - x.merge.lo
 asm:∀ a∈seg x.aside 0 x.laid,a < n
 early:x.laid < x.merge.mid - x.merge.lo->x.order=R/\x.first=0/\x.second=x.merge.mid/\x.aside.take x.laid=seg R x.merge.lo (x.merge.lo+x.laid)
 late:x.laid=x.merge.mid - x.merge.lo->x.first<=x.laid/\x.merge.mid<=x.second/\x.second<=x.merge.hi/\toS x < x.merge.hi/\x.order.take x.merge.lo=R.take x.merge.lo/\x.order.drop x.merge.hi=R.drop x.merge.hi/\
  seg x.order x.merge.lo (toS x)++mrg k (seg x.aside x.first x.laid) (seg x.order x.second x.merge.hi)=isort k (seg R x.merge.lo x.merge.hi)
def PhC (k:Key) (n:Nat) (x:SS):Prop:=PhA k n x\/∃ R,PhB k n x R
variable {k:Key}{n:Nat}{x:SS}
theorem Zba {l:List Nat}{i:Nat}(h:i < l.length):l[i]?=some (l.getD i 0):=by rw[gB,gA h];rfl
theorem Zbh {l:List Nat}{i:Nat}(h:i < l.length):l.getD i 0∈l:=by rw[gB,gA h];exact getElem_mem h
theorem Zg7 {l:List Nat}{a b:Nat}(h:a < b) (h2:b<=l.length):seg l a b=l.getD a 0::seg l (a+1) b:=by
 unfold seg
 have h1:a < l.length:=by omega
 rw[List.drop_eq_getElem_cons h1,show b - a=(b - (a+1))+1 by omega,List.take_succ_cons,gB,gA h1];rfl
theorem Zs5 {l:List Nat}{a b:Nat}(h:a<=b) (h2:b < l.length):seg l a (b+1)=seg l a b++[l.getD b 0]:=by
 rw[Zdv h (Nat.le_succ b),Zg7 (a:=b) (Nat.lt_succ_self b) h2];unfold seg;simp
theorem seg_nil {l:List Nat}{a b:Nat}(h:b<=a):seg l a b=[]:=by unfold seg;rw[show b - a=0 by omega,take_zero]
theorem Ycb {l:List Nat}{a b y:Nat}(h:y∈seg l a b):y∈l:=List.mem_of_mem_drop (List.mem_of_mem_take h)
theorem Zf5 {l:List Nat}{i j v:Nat}(h:i<=j):(l.set j v).take i=l.take i:=by rw[List.take_set_of_le h]
theorem Zjm {l:List Nat}{i j v:Nat}(h:j < i):(l.set j v).drop i=l.drop i:=by rw[List.drop_set_of_lt h]
theorem Zw1 (hb:Bs n x) (h:PhC k n x):Bs n (joinS x)/\PhC k n (joinS x)/\((joinS x).merge.hi=0->∀ p st,(joinS x).stack=p::st->p.mid=0):=by
 unfold joinS;split
 ·rename_i e;exact⟨hb,h,λ_ p st q=>by rw[e] at q;cases q⟩
 ·rename_i p st e;split
  ·rename_i q;rcases h with h|⟨R,h⟩
   ·have hw:=h.wf;rw[e] at hw;have hs:=h.srt;rw[e] at hs;obtain⟨⟨w1,w2⟩,hc,hw2⟩:=id hw;unfold Cond at hc;rw[if_neg q.2] at hc;obtain⟨c1,c2,c3,c4,c5⟩:=hc;refine⟨⟨hb.two,hb.ol,hb.cl,hb.al,hb.om,hb.nd⟩,.inr ⟨x.order,?_⟩,?_⟩
    ·refine⟨hb.ol,h.perm,c1,c2,w2,hw,hs,h.rk0 (by rw[e];exact List.cons_ne_nil _ _),hE _,λa ha=>?_,λ_=>⟨rfl,rfl,rfl,?_⟩,λe2=>?_⟩
     ·rw[seg_nil (Nat.le_refl 0)] at ha;cases ha
     ·show x.aside.take 0=seg x.order p.lo (p.lo+0);rw[take_zero,seg_nil (by omega)]
     ·exfalso;simp only at e2;omega
    ·intro z;simp only at z;omega
   ·have:=h.m2;omega
  ·rename_i q;refine⟨hb,h,λz p' st' e2=>?_⟩;rw[e] at e2;injection e2 with e2 e3;subst e2
   by_cases q2:p.mid=0
   ·exact q2
   ·exact absurd ⟨z,q2⟩ q
theorem Ydt (hb:Bs n x) (h:PhC k n x) (h1:0 < x.merge.hi) (h2:x.laid < x.merge.mid - x.merge.lo):Bs n (layS x)/\PhC k n (layS x):=by
 rcases h with h|⟨R,h⟩
 ·have:=h.none;omega
 have hm1:=h.m1;have hm2:=h.m2;have hm3:=h.m3
 obtain⟨e1,e2,e3,e4⟩:=h.early h2;have hol:=hb.ol;have hal:=hb.al
 have hlt:x.merge.lo+x.laid < x.order.length:=by omega
 have hval:=Zbh hlt;refine⟨⟨hb.two,hb.ol,hb.cl,by show (List.set _ _ _).length=_;rw[hX_];exact hb.al,hb.om,hb.nd⟩,.inr ⟨R,?_⟩⟩
 have ht:(x.aside.set x.laid (x.order.getD (x.merge.lo+x.laid) 0)).take (x.laid+1)=seg R x.merge.lo (x.merge.lo+(x.laid+1)):=by
  rw[<-hG_,Zs5 (by omega) (by rw[h.len];omega),<-e4,gO,List.getElem?_set_self (by omega),Zf5 (Nat.le_refl _),e1];rfl
 refine⟨h.len,h.perm,h.m1,h.m2,h.m3,h.wf,h.srt,h.rk0,h2,λa ha=>?_,λq=>⟨e1,e2,e3,ht⟩,λq=>?_⟩
 ·have:seg (layS x).aside 0 (layS x).laid=seg R x.merge.lo (x.merge.lo+(x.laid+1)):=by
   rw[<-ht];unfold seg;rw[drop_zero,Nat.sub_zero];rfl
  rw[this] at ha;have:=Ycb ha;have h3:=h.perm.mem_iff.1 this;exact mem_range.1 h3
 ·replace q:x.laid+1=x.merge.mid - x.merge.lo:=q
  have e5:toS (layS x)=x.merge.lo:=by
   show x.merge.lo+x.first+x.second - x.merge.mid=_;omega
  refine⟨by show x.first<=x.laid+1;omega,by show x.merge.mid<=x.second;omega,by show x.second<=x.merge.hi;omega,by rw[e5];show x.merge.lo < x.merge.hi;omega,congrArg (List.take x.merge.lo) e1,congrArg (List.drop x.merge.hi) e1,?_⟩;rw[e5];show seg x.order x.merge.lo x.merge.lo++mrg k (seg (x.aside.set x.laid (x.order.getD (x.merge.lo+x.laid) 0)) x.first (x.laid+1)) (seg x.order x.second x.merge.hi)=isort k (seg R x.merge.lo x.merge.hi);rw[seg_nil (Nat.le_refl _),hO_,e2,e3,e1]
  have e6:seg (x.aside.set x.laid (x.order.getD (x.merge.lo+x.laid) 0)) 0 (x.laid+1)=seg R x.merge.lo x.merge.mid:=by
   have:seg (x.aside.set x.laid (x.order.getD (x.merge.lo+x.laid) 0)) 0 (x.laid+1)=(x.aside.set x.laid (x.order.getD (x.merge.lo+x.laid) 0)).take (x.laid+1):=by
    unfold seg;rw[drop_zero,Nat.sub_zero]
   rw[this,ht,show x.merge.lo+(x.laid+1)=x.merge.mid by omega]
  rw[e1] at e6;rw[e6,Zdv (mid:=x.merge.mid) (Nat.le_of_lt hm1) (Nat.le_of_lt hm2)];have hc:=h.wf.2.1;unfold Cond at hc;rw[if_neg (by omega)] at hc;obtain⟨_,_,c3,c4,c5⟩:=hc;obtain⟨p1,p2⟩:=Zu9 k _ _ _ (Nat.le_refl _) c3 c4 c5;exact Zlh p2 p1
theorem Zkf {l:List Nat}{t v a b:Nat}(h:t < a\/b<=a):seg (l.set t v) a b=seg l a b:=by
 rcases h with h|h
 ·exact Zi7 (Nat.le_refl a) (Zjm h)
 ·rw[seg_nil h,seg_nil h]
theorem Zh3 {l:List Nat}{t v a:Nat}(h:a<=t) (h2:t < l.length):seg (l.set t v) a (t+1)=seg l a t++[v]:=by
 rw[Zs5 h (by rw[hX_];exact h2),Zj0 (Nat.le_refl t) (Zf5 (Nat.le_refl t))]
 congr 2
 rw[gB,List.getElem?_set_self h2];rfl
theorem Zwo {R:List Nat}(hb:Bs n x) (h:PhB k n x R) (hl:x.laid=x.merge.mid - x.merge.lo) :
  ∃ v f c,moveS k x={ x with order:=x.order.set (toS x) v,first:=f,second:=c }/\v < n/\f<=x.laid/\x.merge.mid<=c/\c<=x.merge.hi/\x.merge.lo+f+c - x.merge.mid=toS x+1/\
   seg (x.order.set (toS x) v) x.merge.lo (toS x+1)++mrg k (seg x.aside f x.laid) (seg (x.order.set (toS x) v) c x.merge.hi)=isort k (seg R x.merge.lo x.merge.hi):=by
 have hm1:=h.m1;have hm2:=h.m2;have hm3:=h.m3
 obtain⟨l1,l2,l3,l4,l5,l6,l7⟩:=h.late hl;have hol:=hb.ol;have hal:=hb.al;have hto:toS x=x.merge.lo+x.first+x.second - x.merge.mid:=rfl
 have hge:x.merge.lo<=toS x:=by omega
 unfold moveS
 by_cases q:fromA k x
 ·rw[if_pos q]
  have hf:x.first < x.laid:=by
   rcases q with q|q
   ·omega
   ·exact q.1
  have hA:=Zg7 (l:=x.aside) hf (by omega)
  have hv:x.aside.getD x.first 0 < n:=h.asm _ (by
   rw[show x.aside.getD x.first 0=(seg x.aside 0 x.laid).getD x.first 0 from by
    unfold seg
    rw[drop_zero,Nat.sub_zero,gB,gB,hI_ hf]]
   exact Zbh (by rw[Zdw (by omega)];omega))
  refine⟨_,x.first+1,x.second,rfl,hv,hf,l2,l3,by omega,?_⟩;rw[Zh3 hge (by omega),gI,<-l7,hA]
  congr 1
  have hB:seg (x.order.set (toS x) (x.aside.getD x.first 0)) x.second x.merge.hi=seg x.order x.second x.merge.hi:=Zkf (by omega);rw[hB];rcases hU_ x.second x.merge.hi with g|g
  ·have hBc:=Zg7 (l:=x.order) g (by omega)
   have hk:¬ klt (k (x.order.getD x.second 0)) (k (x.aside.getD x.first 0)):=by
    rcases q with q|q
    ·omega
    ·exact q.2
   rw[hBc,Zlb,if_neg hk];rfl
  ·rw[seg_nil g,Zl9,Zl9];rfl
 ·rw[if_neg q]
  have hs:x.second < x.merge.hi:=by
   rcases hU_ x.second x.merge.hi with g|g
   ·exact g
   ·exact absurd (.inl (by omega)) q
  have hBc:=Zg7 (l:=x.order) hs (by omega);have hv:x.order.getD x.second 0 < n:=hb.om _ (Zbh (by omega));refine⟨_,x.first,x.second+1,rfl,hv,l1,by omega,by omega,by omega,?_⟩;rw[Zh3 hge (by omega),gI,<-l7,hBc]
  congr 1
  have hB:seg (x.order.set (toS x) (x.order.getD x.second 0)) (x.second+1) x.merge.hi=seg x.order (x.second+1) x.merge.hi:=Zkf (by omega);rw[hB];rcases hU_ x.first x.laid with g|g
  ·have hA:=Zg7 (l:=x.aside) g (by omega)
   have hk:klt (k (x.order.getD x.second 0)) (k (x.aside.getD x.first 0)):=by
    by_cases z:klt (k (x.order.getD x.second 0)) (k (x.aside.getD x.first 0))
    ·exact z
    ·exact absurd (.inr ⟨g,z⟩) q
   rw[hA,Zlb,if_pos hk];rfl
  ·rw[seg_nil g,Zmc,Zmc];rfl
theorem Zt6 {l:List Nat}{t v:Nat}(hl:∀ a∈l,a < n) (hv:v < n):∀ a∈l.set t v,a < n:=λa ha=>by
 rcases List.mem_or_eq_of_mem_set ha with h|h
 ·exact hl a h
 ·rw[h];exact hv
theorem Ye8 (hb:Bs n x) (h:PhC k n x) (h1:0 < x.merge.hi) (h2:¬ x.laid < x.merge.mid - x.merge.lo):Bs n (putS k x)/\PhC k n (putS k x):=by
 rcases h with h|⟨R,h⟩
 ·have:=h.none;omega
 have hm1:=h.m1;have hm2:=h.m2;have hm3:=h.m3
 have hlay:=h.lay
 have hl:x.laid=x.merge.mid - x.merge.lo:=by omega
 obtain⟨l1,l2,l3,l4,l5,l6,l7⟩:=h.late hl;have hol:=hb.ol;obtain⟨v,f,c,e,hv,f1,c1,c2,t1,hq⟩:=Zwo hb h hl;have hto:toS x=x.merge.lo+x.first+x.second - x.merge.mid:=rfl
 have hge:x.merge.lo<=toS x:=by omega
 have hOl:(x.order.set (toS x) v).length=n:=by rw[hX_];exact hol
 have hOm:=Zt6 (t:=toS x) hb.om hv
 have hT:(x.order.set (toS x) v).take x.merge.lo=R.take x.merge.lo:=by rw[Zf5 hge];exact l5
 have hD:(x.order.set (toS x) v).drop x.merge.hi=R.drop x.merge.hi:=by rw[Zjm l4];exact l6
 unfold putS;rw[e];generalize hO:x.order.set (toS x) v=O at *;split
 ·rename_i q
  have hlen:(seg O x.merge.lo (toS x+1)).length=x.merge.hi - x.merge.lo:=by rw[Zdw (by omega)];omega
  have hz:mrg k (seg x.aside f x.laid) (seg O c x.merge.hi)=[]:=by
   have:=congrArg List.length hq;rw[gD,hlen,Zfh,Zdw (by rw[h.len];exact hm3)] at this;exact eq_nil_of_length_eq_zero (by omega)
  rw[hz,gU,show toS x+1=x.merge.hi by omega] at hq
  have hap:O=ap k x.merge R:=by
   have e1:=cut3 O (lo:=x.merge.lo) (hi:=x.merge.hi) (by omega);rw[hT,hD,hq] at e1;exact e1
  refine⟨⟨hb.two,hOl,hb.cl,hb.al,hOm,hb.nd⟩,.inl ⟨rfl,?_,?_,?_,λ_=>h.rk0,?_,λi hi=>?_,λhi=>?_⟩⟩
  ·show O.Perm _;rw[hap];exact (Ycn (by omega)).trans h.perm
  ·show WF k n x.stack O;rw[hap];exact h.wf.2.2
  ·show (run k x.stack O).Pairwise _;rw[hap];exact h.srt
  ·show x.ranked < n;rw[h.rk0];have:=hb.two;omega
  ·replace hi:i < x.ranked:=hi;rw[h.rk0] at hi;omega
  ·replace hi:0 < x.ranked:=hi;rw[h.rk0] at hi;omega
 ·rename_i q;refine⟨⟨hb.two,hOl,hb.cl,hb.al,hOm,hb.nd⟩,.inr ⟨R,h.len,h.perm,hm1,hm2,hm3,h.wf,h.srt,h.rk0,hlay,h.asm,λz=>?_,λ_=>⟨f1,c1,c2,?_,hT,hD,?_⟩⟩⟩
  ·exact absurd z h2
  ·show x.merge.lo+f+c - x.merge.mid < x.merge.hi;omega
  ·show seg O x.merge.lo (x.merge.lo+f+c - x.merge.mid)++mrg k (seg x.aside f x.laid) (seg O c x.merge.hi)=_;rw[t1];exact hq
theorem Zz3 (hb:Bs n x) (h:PhC k n x) (h1:¬ 0 < x.merge.hi) (h2:x.stack≠[]) (h3:∀ p st,x.stack=p::st->p.mid=0):Bs n (beginS x)/\PhC k n (beginS x):=by
 rcases h with h|⟨R,h⟩
 rotate_left
 ·have:=h.m2;omega
 unfold beginS;split
 ·rename_i e;exact absurd e h2
 ·rename_i p st e;have hw:=h.wf;rw[e] at hw;have hs:=h.srt;rw[e] at hs;have hr:=h.rk0 h2;have hm:=h3 p st e;obtain⟨lo,mid,hi⟩:=p;simp only at hm;subst hm;have h0:=hw.1;simp only at h0;split
  ·rename_i q;simp only at q;have e1:ap k ⟨lo,0,hi⟩ x.order=x.order:=Yek h0.1 (by rw[hb.ol];exact h0.2) q;refine⟨⟨hb.two,hb.ol,hb.cl,hb.al,hb.om,hb.nd⟩,.inl ⟨h.none,h.perm,?_,?_,λ_=>hr,h.rkn,h.asd,h.lst⟩⟩
   ·have:=hw.2.2;rw[e1] at this;exact this
   ·have:(run k st (ap k ⟨lo,0,hi⟩ x.order)).Pairwise (le k):=hs;rw[e1] at this;exact this
  ·rename_i q;simp only at q;obtain⟨b1,b2⟩:=Zyo hb.ol (by omega) hw;refine⟨⟨hb.two,hb.ol,hb.cl,hb.al,hb.om,hb.nd⟩,.inl ⟨h.none,h.perm,b1,?_,λ_=>hr,h.rkn,h.asd,h.lst⟩⟩;show (run k (⟨lo,0,(lo+hi)/2⟩::⟨(lo+hi)/2,0,hi⟩::⟨lo,(lo+hi)/2,hi⟩::st) x.order).Pairwise (le k);rw[b2];exact hs
theorem Zw4 (hb:Bs n x) (h:PhC k n x) (h1:¬ 0 < x.merge.hi) (h2:x.stack=[]) :
  x.order.Pairwise (le k)/\x.order.Perm (List.range n)/\x.ranked < n/\(x.ranked+1 < n->Bs n (rank1 k x)/\PhC k n (rank1 k x))/\
   (rank1 k x).aside.length=n/\(∀ i,i < x.ranked+1->(rank1 k x).aside.getD (x.order.getD i 0) 0=rk k x.order i)/\(rank1 k x).last=rk k x.order x.ranked:=by
 rcases h with h|⟨R,h⟩
 rotate_left
 ·have:=h.m2;omega
 have hs:=h.srt;rw[h2] at hs;have hkn:=h.rkn;have hol:=hb.ol;have hnd:x.order.Nodup:=h.perm.symm.nodup nodup_range
 have hlast:lastN k x=rk k x.order x.ranked:=by
  unfold lastN
  by_cases q:x.ranked=0
  ·rw[if_pos q,q];rfl
  ·rw[if_neg q,h.lst (by omega)];obtain⟨r,hr⟩:∃ r,x.ranked=r+1:=⟨x.ranked - 1,by omega⟩;rw[hr,Nat.add_sub_cancel];show _=rk k x.order r+_
   split <;> rfl
 have hal:(rank1 k x).aside.length=n:=by show (List.set _ _ _).length=n;rw[hX_];exact hb.al
 have hasd:∀ i,i < x.ranked+1->(rank1 k x).aside.getD (x.order.getD i 0) 0=rk k x.order i:=by
  intro i hi;show (x.aside.set (x.order.getD x.ranked 0) (lastN k x)).getD (x.order.getD i 0) 0=_;rw[gB,List.getElem?_set]
  have hb1:x.order.getD x.ranked 0 < x.aside.length:=by rw[hb.al];exact hb.om _ (Zbh (by omega))
  by_cases e:x.ranked=i
  ·subst e;rw[if_pos rfl,if_pos hb1,hlast];rfl
  ·rw[if_neg,<-gB,h.asd i (by omega)];intro e2;apply e;have g1:=Zba (l:=x.order) (i:=x.ranked) (by omega);have g2:=Zba (l:=x.order) (i:=i) (by omega);rw[e2] at g1;obtain⟨p1,p2⟩:=gH.1 g1;obtain⟨p3,p4⟩:=gH.1 g2;exact (List.getElem_inj hnd).1 (p2.trans p4.symm)
 refine⟨hs,h.perm,hkn,λq=>⟨⟨hb.two,hb.ol,hb.cl,hal,hb.om,hb.nd⟩,.inl ⟨h.none,h.perm,?_,?_,λz=>absurd h2 z,q,hasd,λ_=>?_⟩⟩,hal,hasd,hlast⟩
 ·exact h.wf
 ·exact h.srt
 ·show lastN k x=rk k x.order (x.ranked+1 - 1);rw[Nat.add_sub_cancel];exact hlast
end Go.Mr
namespace Go.Mr
open Go.M18
def ch (s:List UInt8) (i:Nat):Nat:=(s.getD (i%s.length) 0).toNat
def ltm (s:List UInt8) (m a b:Nat):Prop:=∃ j,j < m/\(∀ i,i < j->ch s (a+i)=ch s (b+i))/\ch s (a+j) < ch s (b+j)
def eqm (s:List UInt8) (m a b:Nat):Prop:=∀ i,i < m->ch s (a+i)=ch s (b+i)
variable {s:List UInt8}{m a b c:Nat}
theorem tri (s:List UInt8) (a b:Nat):∀ m,ltm s m a b\/eqm s m a b\/ltm s m b a
 |0=>.inr (.inl λi h=>by omega)
 |m+1=>by
  rcases tri s a b m with⟨j,h1,h2,h3⟩|h|⟨j,h1,h2,h3⟩
  ·exact .inl ⟨j,by omega,h2,h3⟩
  ·rcases Nat.lt_trichotomy (ch s (a+m)) (ch s (b+m)) with q|q|q
   ·exact .inl ⟨m,by omega,h,q⟩
   ·refine .inr (.inl λi hi=>?_);rcases hU_ i m with g|g
    ·exact h i g
    ·rw[show i=m by omega];exact q
   ·exact .inr (.inr ⟨m,by omega,λi hi=>(h i hi).symm,q⟩)
  ·exact .inr (.inr ⟨j,by omega,h2,h3⟩)
theorem Ye1 (h:ltm s m a b):¬ eqm s m a b:=λe=>by
 obtain⟨j,h1,_,h3⟩:=h;have:=e j h1;omega
theorem Ycj {r:Nat}:eqm s (r+r) a b↔eqm s r a b/\eqm s r (a+r) (b+r):=by
 constructor
 ·intro h;refine⟨λi hi=>h i (by omega),λi hi=>?_⟩;rw[hG_,hG_];exact h (r+i) (by omega)
 ·rintro⟨h,g⟩ i hi;rcases hU_ i r with q|q
  ·exact h i q
  ·have:=g (i - r) (by omega);rw[hG_,hG_,show r+(i - r)=i by omega] at this;exact this
theorem Yca {r:Nat}:ltm s (r+r) a b↔ltm s r a b\/(eqm s r a b/\ltm s r (a+r) (b+r)):=by
 constructor
 ·rintro⟨j,h1,h2,h3⟩;rcases hU_ j r with q|q
  ·exact .inl ⟨j,q,h2,h3⟩
  ·refine .inr ⟨λi hi=>h2 i (by omega),j - r,by omega,λi hi=>?_,?_⟩
   ·rw[hG_,hG_];exact h2 (r+i) (by omega)
   ·rw[hG_,hG_,show r+(j - r)=j by omega];exact h3
 ·rintro (⟨j,h1,h2,h3⟩|⟨h,j,h1,h2,h3⟩)
  ·exact⟨j,by omega,h2,h3⟩
  ·refine⟨r+j,by omega,λi hi=>?_,by rw[<-hG_,<-hG_];exact h3⟩;rcases hU_ i r with q|q
   ·exact h i q
   ·have:=h2 (i - r) (by omega);rw[hG_,hG_,show r+(i - r)=i by omega] at this;exact this
theorem Ybz (s:List UInt8) (a i:Nat):ch s (a%s.length+i)=ch s (a+i):=by unfold ch;rw[Nat.mod_add_mod]
theorem Ydc:ltm s m (a%s.length) (b%s.length)↔ltm s m a b:=by
 unfold ltm;simp only[Ybz]
theorem Yck:eqm s m (a%s.length) (b%s.length)↔eqm s m a b:=by
 unfold eqm;simp only[Ybz]
theorem Zjl (ha:a < s.length){i:Nat}(hi:i < s.length):(rot s a).getD i 0=s.getD ((a+i)%s.length) 0:=by
 unfold rot;rw[gB,gB];rcases hU_ (a+i) s.length with q|q
 ·rw[gM (by rw[gS];omega),hH_,Nat.mod_eq_of_lt q]
 ·rw[gT (by rw[gS];omega),gS,hI_ (by omega),Nat.mod_eq_sub_mod q,Nat.mod_eq_of_lt (by omega)]
  congr 2
  omega
theorem Zrm:∀ (j:Nat) (x y:List UInt8),j < x.length->j < y.length->(∀ i,i < j->x.getD i 0=y.getD i 0)->(x.getD j 0).toNat < (y.getD j 0).toNat->bl x y=true
 |_,[],_,h,_,_,_=>by simp at h
 |_,_::_,[],_,h,_,_=>by simp at h
 |0,p::x,q::y,_,_,_,h=>by
  rw[Ze3]
  have:p < q:=by rw[UInt8.lt_iff_toNat_lt];exact h
  simp[this]
 |j+1,p::x,q::y,h1,h2,h3,h4=>by
  rw[Ze3];have e:p=q:=h3 0 (Nat.zero_lt_succ _);subst e;have:=Zrm j x y (by simpa using h1) (by simpa using h2) (λi hi=>by have:=h3 (i+1) (by omega);simpa using this) (by simpa using h4);simp[this]
theorem Zvl (ha:a < s.length) (hb:b < s.length) (h:ltm s s.length a b):aheadP s a b=true:=by
 obtain⟨j,h1,h2,h3⟩:=h;unfold aheadP
 have e1:∀ i,i < j->(rot s a).getD i 0=(rot s b).getD i 0:=λi hi=>by
  rw[Zjl ha (by omega),Zjl hb (by omega)];exact UInt8.toNat_inj.1 (h2 i hi)
 have e2:((rot s a).getD j 0).toNat < ((rot s b).getD j 0).toNat:=by
  rw[Zjl ha h1,Zjl hb h1];exact h3
 rw[Zrm j (rot s a) (rot s b) (by rw[Zco s a (by omega)];exact h1) (by rw[Zco s b (by omega)];exact h1) e1 e2];rfl
theorem Yc4 (ha:a < s.length) (hb:b < s.length) (h:eqm s s.length a b):rot s a=rot s b:=by
 apply ext_getElem?;intro i;rcases hU_ i s.length with q|q
 ·have e:=Zjl ha q;have e2:=Zjl hb q
  have e3:(rot s a).getD i 0=(rot s b).getD i 0:=by rw[e,e2];exact UInt8.toNat_inj.1 (h i q)
  rw[gA (by rw[Zco s a (by omega)];exact q),gA (by rw[Zco s b (by omega)];exact q)];rw[gB,gB,gA (by rw[Zco s a (by omega)];exact q),gA (by rw[Zco s b (by omega)];exact q)] at e3;exact congrArg some e3
 ·rw[getElem?_eq_none (by rw[Zco s a (by omega)];exact q),getElem?_eq_none (by rw[Zco s b (by omega)];exact q)]
theorem Zxa (ha:a < s.length) (hb:b < s.length) (h:eqm s s.length a b) (hab:a < b):aheadP s a b=true:=by
 unfold aheadP;rw[Yc4 ha hb h,decide_eq_true rfl,decide_eq_true hab];simp
theorem Ycx (h:ltm s m a b):ltm s s.length a b:=by
 obtain⟨j,h1,h2,h3⟩:=h;rcases hU_ j s.length with q|q
 ·exact⟨j,q,h2,h3⟩
 ·exfalso
  have e:∀ z,ch s (z+j)=ch s (z+j%s.length):=λz=>by unfold ch;rw[Nat.add_mod_mod]
  rcases Nat.eq_zero_or_pos s.length with g|g
  ·unfold ch at h3;have:s=[]:=eq_nil_of_length_eq_zero g;subst this;simp at h3
  ·have h5:=h2 (j%s.length) (Nat.lt_of_lt_of_le (Nat.mod_lt _ g) q);rw[e a,e b] at h3;omega
theorem Zmx {i k:Nat}(h:aheadP s i k=true):aheadP s k i=false:=by
 unfold aheadP at *;rw[Bool.or_eq_true,Bool.and_eq_true,decide_eq_true_iff,decide_eq_true_iff] at h;rw[Bool.or_eq_false_iff,Bool.and_eq_false_iff,decide_eq_false_iff_not,decide_eq_false_iff_not];rcases h with h|⟨h,g⟩
 ·refine⟨Zre h,.inl λe=>?_⟩;rw[e,Zed] at h;cases h
 ·exact⟨by rw[h];exact Zed _,.inr (by omega)⟩
theorem Znk {i j k:Nat}(h:aheadP s i j=true) (g:aheadP s j k=true):aheadP s i k=true:=by
 unfold aheadP at *;rw[Bool.or_eq_true,Bool.and_eq_true,decide_eq_true_iff,decide_eq_true_iff] at *;rcases h with h|⟨h,h2⟩
 ·rcases g with g|⟨g,g2⟩
  ·exact .inl (Zhq _ _ _ h g)
  ·rw[<-g];exact .inl h
 ·rw[h];rcases g with g|⟨g,g2⟩
  ·exact .inl g
  ·exact .inr ⟨g,by omega⟩
theorem Zn4 {i k:Nat}(h:i≠k):aheadP s i k=true\/aheadP s k i=true:=by
 unfold aheadP;simp only[Bool.or_eq_true,Bool.and_eq_true,decide_eq_true_iff];rcases Zhs (rot s i) (rot s k) with q|q|q
 ·exact .inl (.inl q)
 ·rcases hU_ i k with g|g
  ·exact .inl (.inr ⟨q,g⟩)
  ·exact .inr (.inr ⟨q.symm,by omega⟩)
 ·exact .inr (.inl q)
theorem Zka (i:Nat):∀ l:List Nat,i∉l->l.Pairwise (λa b=>aheadP s a b=true)->(insP s i l).Pairwise (λa b=>aheadP s a b=true)
 |[],_,_=>by simp[insP]
 |k::r,hn,h=>by
  rw[pairwise_cons] at h;rw[insP];split
  ·rename_i ha;rw[pairwise_cons,pairwise_cons];refine⟨λx hx=>?_,h.1,h.2⟩;rcases mem_cons.1 hx with rfl|hx
   ·exact ha
   ·exact Znk ha (h.1 x hx)
  ·rename_i ha;rw[pairwise_cons];refine⟨λx hx=>?_,Zka i r (λz=>hn (hK_ _ z)) h.2⟩;rcases mem_cons.1 ((Zfm s i r).mem_iff.1 hx) with rfl|hx
   ·exact (Zn4 λe=>hn (by rw[e];exact hJ_ ..)).resolve_left ha
   ·exact h.1 x hx
theorem Zit (s:List UInt8):∀ n,(sortP s n).Pairwise (λa b=>aheadP s a b=true)
 |0=>.nil
 |n+1=>Zka n _ (λh=>by have:=(Zc9 s n n).1 h;omega) (Zit s n)
theorem Zsf {o:List Nat}(hp:o.Perm (List.range s.length)) (h:o.Pairwise λa b=>aheadP s a b=true):o=sortP s s.length:=
 List.Perm.eq_of_pairwise (λx y _ _ h1 h2=>by rw[Zmx h1] at h2;cases h2) h (Zit s _) (hp.trans (Zcf s _).symm)
def keyS (s:List UInt8) (x:SS):Key:=λat_=>if x.reach=0 then ((s.getD at_ 0).toNat,0) else (x.cls.getD at_ 0,x.cls.getD ((at_+x.reach)%s.length) 0)
def wid (x:SS):Nat:=if x.reach=0 then 1 else x.reach+x.reach
def Cls (s:List UInt8) (x:SS):Prop:=x.reach=0\/∀ a b,a < s.length->b < s.length->(x.cls.getD a 0 < x.cls.getD b 0↔ltm s x.reach a b)/\(x.cls.getD a 0=x.cls.getD b 0↔eqm s x.reach a b)
theorem Zw8 {x:SS}(h:Cls s x) (ha:a < s.length) (hb:b < s.length):(klt (keyS s x a) (keyS s x b)↔ltm s (wid x) a b)/\(keyS s x a=keyS s x b↔eqm s (wid x) a b):=by
 unfold keyS wid
 by_cases q:x.reach=0
 ·rw[if_pos q,if_pos q,if_pos q]
  have e:∀ z,z < s.length->ch s (z+0)=(s.getD z 0).toNat:=λz hz=>by unfold ch;rw[Nat.add_zero,Nat.mod_eq_of_lt hz]
  constructor
  ·constructor
   ·intro g;refine⟨0,by omega,λi hi=>by omega,?_⟩;rw[e a ha,e b hb];rcases g with g|⟨_,g⟩
    ·exact g
    ·exact absurd g (Nat.lt_irrefl 0)
   ·rintro⟨j,h1,_,h3⟩
    obtain rfl:j=0:=by omega
    rw[e a ha,e b hb] at h3;exact .inl h3
  ·constructor
   ·intro g i hi
    obtain rfl:i=0:=by omega
    rw[e a ha,e b hb];exact congrArg Prod.fst g
   ·intro g;have:=g 0 (by omega);rw[e a ha,e b hb] at this;rw[this]
 ·rw[if_neg q,if_neg q,if_neg q];have hc:=h.resolve_left q
  have h0:0 < s.length:=by omega
  have h1:=hc a b ha hb;have h2:=hc _ _ (Nat.mod_lt (a+x.reach) h0) (Nat.mod_lt (b+x.reach) h0);rw[Ydc,Yck] at h2
  constructor
  ·rw[Yca,<-h1.1,<-h1.2,<-h2.1];rfl
  ·rw[Ycj,<-h1.2,<-h2.2,kext]
theorem Zm7 {k:Key}{o:List Nat}:∀ j,rk k o j<=j
 |0=>Nat.le_refl _
 |j+1=>by
  have:=Zm7 (k:=k) (o:=o) j;show rk k o j+(if _ then 1 else 0)<=_
  split <;> omega
theorem Zol {p q r:Nat × Nat}(h:klt p q) (g:klt q r):klt p r:=by unfold klt at *;omega
theorem Zd6 (p:Nat × Nat):¬ klt p p:=by unfold klt;omega
theorem Zm6 {k:Key}{o:List Nat}(hs:o.Pairwise (le k)){i:Nat}:∀ j,i<=j->j < o.length->(rk k o i < rk k o j/\klt (k (o.getD i 0)) (k (o.getD j 0)))\/(rk k o i=rk k o j/\k (o.getD i 0)=k (o.getD j 0))
 |0,h,_=>by rw[show i=0 by omega];exact .inr ⟨rfl,rfl⟩
 |j+1,h,hj=>by
  rcases hU_ i (j+1) with q|q
  ·have ih:=Zm6 hs (i:=i) j (by omega) (by omega)
   have hl:le k (o.getD j 0) (o.getD (j+1) 0):=by
    have:=pairwise_iff_getElem.1 hs j (j+1) (by omega) hj (by omega);rw[gB,gB,gA (by omega),gA hj];exact this
   have e:rk k o (j+1)=rk k o j+if klt (k (o.getD j 0)) (k (o.getD (j+1) 0)) then 1 else 0:=rfl
   by_cases g:klt (k (o.getD j 0)) (k (o.getD (j+1) 0))
   ·rw[if_pos g] at e;refine .inl ?_;rcases ih with ih|ih
    ·exact⟨by omega,Zol ih.2 g⟩
    ·exact⟨by omega,by rw[ih.2];exact g⟩
   ·rw[if_neg g,Nat.add_zero] at e
    have ek:k (o.getD j 0)=k (o.getD (j+1) 0):=by
     rcases hl with hl|hl
     ·exact absurd hl g
     ·exact hl.1
    rw[e,<-ek];exact ih
  ·rw[show i=j+1 by omega];exact .inr ⟨rfl,rfl⟩
structure Inv (s:List UInt8) (x:SS):Prop where
 bs:Bs s.length x
 cls:Cls s x
 ph:PhC (keyS s x) s.length x
theorem Zvk {o:List Nat}{n a:Nat}(hp:o.Perm (List.range n)) (ha:a < n):∃ i,i < n/\o.getD i 0=a:=by
 have:a∈o:=hp.mem_iff.2 (mem_range.2 ha);obtain⟨i,hi,e⟩:=List.getElem_of_mem this;have:=hp.length_eq;rw[hW_] at this;exact⟨i,by omega,by rw[gB,gA hi,e];rfl⟩
theorem Yd2 {x:SS}(h:Inv s x) (h1:¬ 0 < x.merge.hi) (h2:x.stack=[]) (h3:x.ranked+1=s.length) :
  let y:=passS s.length (rank1 (keyS s x) x)
  (y.done=true/\y.order=sortP s s.length)\/(y.done=false/\Inv s y/\x.reach < s.length/\x.reach < y.reach/\y.stack=[⟨0,0,s.length⟩]/\y.merge.hi=0/\y.ranked=0):=by
 obtain⟨hs,hp,hkn,_,hal,hasd,hlast⟩:=Zw4 h.bs h.ph h1 h2;have hol:=h.bs.ol;have hkm:=λa b ha hb=>Zw8 (a:=a) (b:=b) h.cls ha hb
 have hcls:∀ a b,a < s.length->b < s.length->((rank1 (keyS s x) x).aside.getD a 0 < (rank1 (keyS s x) x).aside.getD b 0↔ltm s (wid x) a b)/\((rank1 (keyS s x) x).aside.getD a 0=(rank1 (keyS s x) x).aside.getD b 0↔eqm s (wid x) a b):=by
  intro a b ha hb;obtain⟨i,hi,ei⟩:=Zvk hp ha;obtain⟨j,hj,ej⟩:=Zvk hp hb;have e1:=hasd i (by omega);have e2:=hasd j (by omega);rw[ei] at e1;rw[ej] at e2;rw[e1,e2,<-(hkm a b ha hb).1,<-(hkm a b ha hb).2];rcases Nat.le_total i j with q|q
  ·rcases Zm6 hs j q (by omega) with g|g
   ·rw[ei,ej] at g;exact⟨⟨λ_=>g.2,λ_=>g.1⟩,⟨λz=>by omega,λz=>by rw[z] at g;exact absurd g.2 (Zd6 _)⟩⟩
   ·rw[ei,ej] at g;exact⟨⟨λz=>by omega,λz=>by rw[g.2] at z;exact absurd z (Zd6 _)⟩,⟨λ_=>g.2,λ_=>g.1⟩⟩
  ·rcases Zm6 hs i q (by omega) with g|g
   ·rw[ei,ej] at g;exact⟨⟨λz=>by omega,λz=>absurd (Zol z g.2) (Zd6 _)⟩,⟨λz=>by omega,λz=>by rw[z] at g;exact absurd g.2 (Zd6 _)⟩⟩
   ·rw[ei,ej] at g;exact⟨⟨λz=>by omega,λz=>by rw[g.2] at z;exact absurd z (Zd6 _)⟩,⟨λ_=>g.2.symm,λ_=>g.1.symm⟩⟩
 have hget:∀ i,i < s.length->x.order.getD i 0 < s.length:=λi hi=>h.bs.om _ (Zbh (by omega));have hnd:x.order.Nodup:=hp.symm.nodup nodup_range
 have hstrict:∀ i j,i < j->j < s.length->ltm s (wid x) (x.order.getD i 0) (x.order.getD j 0)\/(eqm s (wid x) (x.order.getD i 0) (x.order.getD j 0)/\x.order.getD i 0 < x.order.getD j 0):=by
  intro i j hij hj;have g1:=Zba (l:=x.order) (i:=i) (by omega);have g2:=Zba (l:=x.order) (i:=j) (by omega);obtain⟨p1,p2⟩:=gH.1 g1;obtain⟨p3,p4⟩:=gH.1 g2;have hl:=pairwise_iff_getElem.1 hs i j (by omega) (by omega) hij;have hne:=pairwise_iff_getElem.1 hnd i j (by omega) (by omega) hij;rw[p2,p4] at hl hne;have hk:=hkm _ _ (hget i (by omega)) (hget j hj);rcases hl with hl|hl
  ·exact .inl (hk.1.1 hl)
  ·exact .inr ⟨hk.2.1 hl.1,by omega⟩
 intro y
 by_cases q:(rank1 (keyS s x) x).last=s.length - 1\/s.length<=(rank1 (keyS s x) x).reach
 ·have ey:y={ rank1 (keyS s x) x with cls:=(rank1 (keyS s x) x).aside,aside:=(rank1 (keyS s x) x).cls,ranked:=0,done:=true }:=by
   show passS _ _=_;unfold passS;rw[if_pos q]
  rw[ey];refine .inl ⟨rfl,?_⟩;show x.order=_;refine Zsf hp ?_;rw[pairwise_iff_getElem];intro i j hi hj hij
  have e1:x.order[i]=x.order.getD i 0:=by rw[gB,gA hi];rfl
  have e2:x.order[j]=x.order.getD j 0:=by rw[gB,gA hj];rfl
  rw[e1,e2];have ga:=hget i (by omega);have gb:=hget j (by omega);rcases hstrict i j hij (by omega) with g|⟨g,g2⟩
  ·exact Zvl ga gb (Ycx g)
  ·rcases q with q|q
   ·exfalso;rw[hlast] at q
    have hr:∀ t,t<=x.ranked->t<=rk (keyS s x) x.order (x.ranked) - (x.ranked - t):=λt ht=>by omega
    have hinc:∀ d t,t+d=x.ranked->rk (keyS s x) x.order t=t:=by
     intro d
     induction d with
     |zero=>intro t ht;rw[show t=x.ranked by omega,q];omega
     |succ d ih=>
      intro t ht;have h5:=ih (t+1) (by omega)
      have h6:rk (keyS s x) x.order (t+1)=rk (keyS s x) x.order t+if klt (keyS s x (x.order.getD t 0)) (keyS s x (x.order.getD (t+1) 0)) then 1 else 0:=rfl
      have h7:=Zm7 (k:=keyS s x) (o:=x.order) t
      split at h6 <;> omega
    have h8:=hinc (x.ranked - i) i (by omega);have h9:=hinc (x.ranked - j) j (by omega);have h10:=(hcls _ _ ga gb).2.2 g;rw[hasd i (by omega),hasd j (by omega)] at h10;omega
   ·refine Zxa ga gb (λt ht=>g t ?_) g2;have q':s.length<=x.reach:=q;unfold wid
    split <;> omega
 ·have ey:y={ rank1 (keyS s x) x with cls:=(rank1 (keyS s x) x).aside,aside:=(rank1 (keyS s x) x).cls,ranked:=0,reach:=max 1 (2*x.reach),stack:=⟨0,0,s.length⟩::x.stack }:=by
   show passS _ _=_;unfold passS;rw[if_neg q];rfl
  have hrl:x.reach < s.length:=by
   rcases hU_ x.reach s.length with g|g
   ·exact g
   ·exact absurd (.inr g) q
  have hw:max 1 (2*x.reach)=wid x:=by unfold wid;split <;> omega
  rw[ey];refine .inr ⟨h.bs.nd,?_,hrl,by show x.reach < max 1 (2*x.reach);omega,by show _::x.stack=_;rw[h2],by show x.merge.hi=0;omega,rfl⟩;have hcl:(rank1 (keyS s x) x).cls.length=s.length:=h.bs.cl;have htwo:=h.bs.two;refine⟨⟨htwo,hol,hal,hcl,h.bs.om,h.bs.nd⟩,.inr λa b ha hb=>?_,?_⟩
  ·show (_↔ltm s (max 1 (2*x.reach)) a b)/\(_↔eqm s (max 1 (2*x.reach)) a b);rw[hw];exact hcls a b ha hb
  ·generalize hk2:keyS s _=k2
   have hk2m:∀ a b,a < s.length->b < s.length->k2 a=k2 b->eqm s (wid x) a b:=by
    intro a b ha hb e;rw[<-hk2] at e;unfold keyS at e;simp only at e;rw[if_neg (by omega),if_neg (by omega)] at e;exact (hcls a b ha hb).2.1 (congrArg Prod.fst e)
   have hsg:seg x.order 0 s.length=x.order:=by
    unfold seg;rw[drop_zero,Nat.sub_zero,gK (by omega)]
   refine .inl ⟨by show x.merge.hi=0;omega,hp,?_,?_,λ_=>rfl,by show 0 < s.length;omega,λi hi=>absurd hi (Nat.not_lt_zero i),λz=>absurd z (Nat.lt_irrefl 0)⟩
   ·show WF k2 s.length (⟨0,0,s.length⟩::x.stack) x.order;rw[h2];refine⟨⟨by show 0 < s.length;omega,Nat.le_refl _⟩,?_,trivial⟩;unfold Cond;rw[if_pos rfl];simp only;rw[hsg,pairwise_iff_getElem];intro i j hi hj hij e
    have e1:x.order[i]=x.order.getD i 0:=by rw[gB,gA hi];rfl
    have e2:x.order[j]=x.order.getD j 0:=by rw[gB,gA hj];rfl
    rw[e1,e2] at e ⊢;have g:=hk2m _ _ (hget i (by omega)) (hget j (by omega)) e;rcases hstrict i j hij (by omega) with z|z
    ·exact absurd g (Ye1 z)
    ·omega
   ·show (run k2 (⟨0,0,s.length⟩::x.stack) x.order).Pairwise (le k2);rw[h2];show (ap k2 ⟨0,0,s.length⟩ x.order).Pairwise (le k2);unfold ap rep;simp only;rw[hsg,take_zero,hO_,drop_of_length_le (by omega),gU];exact Zax _ _
end Go.Mr
namespace Go.Mr
open Go.M18
def cost (p:Pt):Nat:=if p.mid=0 then 4*((p.hi - p.lo)*(p.hi - p.lo)) else (p.mid - p.lo)+(p.hi - p.lo)
def costs:List Pt->Nat
 |[]=>0
 |p::st=>cost p+costs st
def mCost (x:SS):Nat:=if x.merge.hi=0 then 0 else (x.merge.mid - x.merge.lo - x.laid)+(x.merge.hi - toS x)
def passC (n:Nat):Nat:=4*(n*n)+2*n+2
def mu (n:Nat) (x:SS):Nat:=if x.done=true then 0 else 1+((n+1 - x.reach)*passC n+costs x.stack+mCost x+(n - x.ranked))
variable {s:List UInt8}{x:SS}{k:Key}{n:Nat}
theorem mu_eq (h:x.done=false):mu n x=1+((n+1 - x.reach)*passC n+costs x.stack+mCost x+(n - x.ranked)):=by
 unfold mu;rw[if_neg (by rw[h];exact Bool.false_ne_true)]
theorem Zek (h:x.merge.hi=0):mCost x=0:=by unfold mCost;rw[if_pos h]
theorem Zfc (h:¬ x.merge.hi=0):mCost x=(x.merge.mid - x.merge.lo - x.laid)+(x.merge.hi - toS x):=by unfold mCost;rw[if_neg h]
theorem Yct (hb:Bs n x) (h:PhC k n x):mu n (joinS x)=mu n x:=by
 unfold joinS;split
 ·rfl
 ·rename_i p st e;split
  ·rename_i q;rcases h with h|⟨R,h⟩
   ·have hw:=h.wf;rw[e] at hw;obtain⟨⟨w1,w2⟩,hc,_⟩:=hw;unfold Cond at hc;rw[if_neg q.2] at hc;have c1:=hc.1;have c2:=hc.2.1
    have:costs (p::st)=(p.mid - p.lo)+(p.hi - p.lo)+costs st:=by
     show cost p+costs st=_;unfold cost;rw[if_neg q.2]
    rw[mu_eq hb.nd,mu_eq (x:={ x with merge:=p,stack:=st,laid:=0,first:=0,second:=p.mid }) hb.nd,Zek q.1,Zfc (x:={ x with merge:=p,stack:=st,laid:=0,first:=0,second:=p.mid }) (by show ¬ p.hi=0;omega),e,this];show 1+((n+1 - x.reach)*passC n+costs st+(p.mid - p.lo - 0+(p.hi - (p.lo+0+p.mid - p.mid)))+(n - x.ranked))=_;omega
   ·have:=h.m2;omega
  ·rfl
theorem Zt2 {lo hi:Nat}(h:2<=hi - lo):cost ⟨lo,0,(lo+hi)/2⟩+(cost ⟨(lo+hi)/2,0,hi⟩+cost ⟨lo,(lo+hi)/2,hi⟩) < cost ⟨lo,0,hi⟩:=by
 generalize hm:(lo+hi)/2=mid;unfold cost;rw[if_pos rfl,if_pos rfl,if_pos rfl,if_neg (by show ¬ mid=0;omega)];simp only;obtain⟨a,ha⟩:∃ a,a=mid - lo:=⟨_,rfl⟩;obtain⟨b,hb⟩:∃ b,b=hi - mid:=⟨_,rfl⟩
 have e:hi - lo=a+b:=by omega
 rw[e,<-ha,<-hb]
 have h1:1<=a:=by omega
 have h2:1<=b:=by omega
 have h3:a<=a*b:=Nat.le_mul_of_pos_right a h2;have h4:b<=a*b:=Nat.le_mul_of_pos_left b h1
 have h5:(a+b)*(a+b)=a*a+2*(a*b)+b*b:=by
  rw[Nat.add_mul,Nat.mul_add,Nat.mul_add,Nat.mul_comm b a];omega
 rw[h5];omega
theorem Yci {y:SS}(hd:x.done=false) (hyd:y.done=false) (h1:x.reach < n) (h2:x.reach < y.reach) (h3:y.stack=[⟨0,0,n⟩]) (h4:y.merge.hi=0) (h5:y.ranked=0):mu n y < mu n x:=by
 unfold mu;rw[hd,hyd,if_neg (by simp),if_neg (by simp),h3,h5]
 have e1:mCost y=0:=by unfold mCost;rw[if_pos h4]
 have e2:costs [⟨0,0,n⟩]=4*(n*n):=by
  show cost ⟨0,0,n⟩+0=_;unfold cost;rw[if_pos rfl];rfl
 rw[e1,e2]
 have h6:(n+1 - y.reach)*passC n+passC n<=(n+1 - x.reach)*passC n:=by
  have h7:(n+1 - y.reach+1)*passC n<=(n+1 - x.reach)*passC n:=Nat.mul_le_mul_right _ (by omega);rw[Nat.add_mul,Nat.one_mul] at h7;exact h7
 have h8:passC n=4*(n*n)+2*n+2:=rfl;omega
theorem Ycq (hd:x.done=false) (h:x.ranked < n):mu n (rank1 k x) < mu n x:=by
 unfold mu;rw[show (rank1 k x).done=x.done from rfl,hd,if_neg (by simp),if_neg (by simp)];show 1+((n+1 - x.reach)*passC n+costs x.stack+mCost x+(n - (x.ranked+1))) < _;omega
theorem Zvw (h:Inv s x):mu s.length (stepS (keyS s x) s.length x) < mu s.length x/\
  (((stepS (keyS s x) s.length x).done=true/\(stepS (keyS s x) s.length x).order=sortP s s.length)\/Inv s (stepS (keyS s x) s.length x)):=by
 have hj:=Zw1 h.bs h.ph;have hjm:=Yct h.bs h.ph
 have hjk:keyS s (joinS x)=keyS s x/\Cls s (joinS x):=by
  unfold joinS;split
  ·exact⟨rfl,h.cls⟩
  ·split
   ·exact⟨rfl,h.cls⟩
   ·exact⟨rfl,h.cls⟩
 unfold stepS;rw[<-hjm];generalize joinS x=y at *;obtain⟨hb,hp,hm⟩:=hj;obtain⟨hk,hc⟩:=hjk;rw[<-hk] at hp ⊢;have hnd:=hb.nd;unfold restS
 by_cases q1:0 < y.merge.hi/\y.laid < y.merge.mid - y.merge.lo
 ·rw[if_pos q1];obtain⟨b1,b2⟩:=Ydt hb hp q1.1 q1.2;refine⟨?_,.inr ⟨b1,hc,b2⟩⟩;rw[mu_eq hnd,mu_eq (x:=layS y) hnd,Zfc (x:=y) (by omega),Zfc (x:=layS y) (by show ¬ y.merge.hi=0;omega)];show 1+((s.length+1 - y.reach)*passC s.length+costs y.stack+(y.merge.mid - y.merge.lo - (y.laid+1)+(y.merge.hi - toS y))+(s.length - y.ranked)) < _;omega
 ·rw[if_neg q1]
  by_cases q2:0 < y.merge.hi
  ·rw[if_pos q2];have q3:¬ y.laid < y.merge.mid - y.merge.lo:=λz=>q1 ⟨q2,z⟩;obtain⟨b1,b2⟩:=Ye8 hb hp q2 q3
   have hcl:Cls s (putS (keyS s y) y):=by
    unfold putS moveS;split
    ·split <;> exact hc
    ·split <;> exact hc
   have hky:keyS s (putS (keyS s y) y)=keyS s y:=by
    unfold putS moveS;split
    ·split <;> rfl
    ·split <;> rfl
   refine⟨?_,.inr ⟨b1,hcl,by rw[hky];exact b2⟩⟩;rcases hp with hp|⟨R,hp⟩
   ·have:=hp.none;omega
   have hm1:=hp.m1;have hm2:=hp.m2;have hlay:=hp.lay
   obtain⟨v,f,c,e,_,_,_,_,t1,_⟩:=Zwo hb hp (by omega);obtain⟨_,_,_,l4,_⟩:=hp.late (by omega);unfold putS;rw[e];rw[mu_eq hnd,Zfc (x:=y) (by omega)];split
   ·rename_i q;rw[mu_eq (by exact hnd),Zek (by rfl)];show 1+((s.length+1 - y.reach)*passC s.length+costs y.stack+0+(s.length - y.ranked)) < _;omega
   ·rename_i q;rw[mu_eq (by exact hnd),Zfc (by show ¬ y.merge.hi=0;omega)];show 1+((s.length+1 - y.reach)*passC s.length+costs y.stack+(y.merge.mid - y.merge.lo - y.laid+(y.merge.hi - (y.merge.lo+f+c - y.merge.mid)))+(s.length - y.ranked)) < _;omega
  ·rw[if_neg q2]
   by_cases q3:y.stack≠[]
   ·rw[if_pos q3];obtain⟨b1,b2⟩:=Zz3 hb hp q2 q3 (hm (by omega))
    have hcl:Cls s (beginS y):=by
     unfold beginS;split
     ·exact hc
     ·split <;> exact hc
    have hky:keyS s (beginS y)=keyS s y:=by
     unfold beginS;split
     ·rfl
     ·split <;> rfl
    refine⟨?_,.inr ⟨b1,hcl,by rw[hky];exact b2⟩⟩;rcases hp with hp|⟨R,hp⟩
    rotate_left
    ·have:=hp.m2;omega
    unfold beginS;split
    ·rename_i e;exact absurd e q3
    ·rename_i p st e;have hw:=hp.wf;rw[e] at hw;have h0:=hw.1;have hmid:=hm (by omega) p st e;obtain⟨lo,mid,hi⟩:=p;simp only at hmid h0;subst hmid;have ec:costs (⟨lo,0,hi⟩::st)=cost ⟨lo,0,hi⟩+costs st:=rfl;rw[mu_eq hnd,Zek (show y.merge.hi=0 by omega),e,ec];split
     ·rename_i q;rw[mu_eq (by exact hnd),Zek (by show y.merge.hi=0;omega)]
      have h9:1<=cost ⟨lo,0,hi⟩:=by
       unfold cost;rw[if_pos rfl];have:1<=(hi - lo)*(hi - lo):=Nat.mul_pos (by omega) (by omega);simp only;omega
      show 1+((s.length+1 - y.reach)*passC s.length+costs st+0+(s.length - y.ranked)) < _;omega
     ·rename_i q;simp only at q;rw[mu_eq (by exact hnd),Zek (by show y.merge.hi=0;omega)];have h9:=Zt2 (lo:=lo) (hi:=hi) (by omega);show 1+((s.length+1 - y.reach)*passC s.length+(cost ⟨lo,0,(lo+hi)/2⟩+(cost ⟨(lo+hi)/2,0,hi⟩+(cost ⟨lo,(lo+hi)/2,hi⟩+costs st)))+0+(s.length - y.ranked)) < _;omega
   ·rw[if_neg q3];have q4:y.stack=[]:=Classical.byContradiction q3;have hi:Inv s y:=⟨hb,hc,hp⟩;obtain⟨_,_,hkn,hgo,_⟩:=Zw4 hb hp q2 q4;unfold rankS;split
    ·rename_i q;have:=Yd2 hi q2 q4 q;simp only at this;rcases this with⟨p1,p2⟩|⟨p1,p2,p3,p4,p5,p6,p7⟩
     ·refine⟨?_,.inl ⟨p1,p2⟩⟩;unfold mu;rw[p1,hnd,if_pos rfl,if_neg (by simp)];omega
     ·exact⟨Yci hnd p1 p3 p4 p5 p6 p7,.inr p2⟩
    ·rename_i q;obtain⟨b1,b2⟩:=hgo (by omega);exact⟨Ycq hnd hkn,.inr ⟨b1,hc,b2⟩⟩
def start (n:Nat):SS:=⟨List.range n,List.replicate n 0,List.replicate n 0,0,[⟨0,0,n⟩],⟨0,0,0⟩,0,0,0,0,0,false⟩
theorem Zvm (h:2<=s.length):Inv s (start s.length):=by
 have hsg:seg (List.range s.length) 0 s.length=List.range s.length:=by
  unfold seg;rw[drop_zero,Nat.sub_zero,gK (by simp)]
 refine⟨⟨h,by simp[start],by simp[start],by simp[start],λa ha=>mem_range.1 ha,rfl⟩,.inl rfl,.inl ⟨rfl,.refl _,⟨⟨by show 0 < s.length;omega,Nat.le_refl _⟩,?_,trivial⟩,?_,λ_=>rfl,by show 0 < s.length;omega,λi hi=>absurd hi (Nat.not_lt_zero i),λz=>absurd z (Nat.lt_irrefl 0)⟩⟩
 ·unfold Cond;rw[if_pos rfl];show (seg (List.range s.length) 0 s.length).Pairwise _;rw[hsg,pairwise_iff_getElem];intro i j hi hj hij _;rw[List.getElem_range,List.getElem_range];omega
 ·show (ap _ ⟨0,0,s.length⟩ (List.range s.length)).Pairwise _;unfold ap rep;simp only;rw[hsg,take_zero,hO_,drop_of_length_le (by simp),gU];exact Zax _ _
theorem Zz7 (hn:n<=4000):mu n (start n)<=300000000000:=by
 unfold mu;rw[if_neg (by simp[start])];show 1+((n+1 - 0)*passC n+(cost ⟨0,0,n⟩+0)+0+(n - 0))<=_;have h1:n*n<=4000*4000:=Nat.mul_le_mul hn hn
 have h2:passC n<=4*(4000*4000)+2*4000+2:=by unfold passC;omega
 have h3:(n+1 - 0)*passC n<=4001*(4*(4000*4000)+2*4000+2):=Nat.mul_le_mul (by omega) h2
 have h4:cost ⟨0,0,n⟩=4*(n*n):=by unfold cost;rw[if_pos rfl];rfl
 rw[h4];omega
end Go.Mr
namespace Go.Mr
open Go.M18
variable {s:List UInt8}{x:SS}{k:Key}{n:Nat}
theorem Zkv (x:SS):(joinS x).reach=x.reach:=by
 unfold joinS;split
 ·rfl
 ·split <;> rfl
theorem Zt5 (k:Key) (n:Nat) (x:SS):(stepS k n x).reach=x.reach\/((stepS k n x).stack=[⟨0,0,n⟩]/\(stepS k n x).merge.hi=0/\(stepS k n x).ranked=0/\x.reach < n/\(stepS k n x).reach=max 1 (2*x.reach)):=by
 unfold stepS;rw[<-Zkv x];generalize joinS x=y;unfold restS;split
 ·exact .inl rfl
 ·split
  ·refine .inl ?_;unfold putS moveS;split
   ·split <;> rfl
   ·split <;> rfl
  ·rename_i h2;split
   ·refine .inl ?_;unfold beginS;split
    ·rfl
    ·split <;> rfl
   ·rename_i h3;have hs:y.stack=[]:=Classical.byContradiction h3;unfold rankS;split
    ·unfold passS;split
     ·exact .inl rfl
     ·rename_i h4;refine .inr ⟨?_,?_,rfl,?_,rfl⟩
      ·show _::y.stack=_;rw[hs]
      ·show y.merge.hi=0;omega
      ·rcases hU_ y.reach n with g|g
       ·exact g
       ·exact absurd (.inr g) h4
    ·exact .inl rfl
def ldS (n:Nat) (x:SS):Nat:=costs x.stack+mCost x+(n - x.ranked)
theorem Zy4 (h:Inv s x) (hl:ldS s.length x<=4*(s.length*s.length)+s.length) (hr:x.reach<=2*s.length) (hd:(stepS (keyS s x) s.length x).done=false) :
  ldS s.length (stepS (keyS s x) s.length x)<=4*(s.length*s.length)+s.length/\(stepS (keyS s x) s.length x).reach<=2*s.length:=by
 have h1:=(Zvw h).1;have h2:=h.bs.two;rw[mu_eq h.bs.nd,mu_eq hd] at h1;rcases Zt5 (keyS s x) s.length x with e|⟨e1,e2,e3,e4,e5⟩
 ·rw[e] at h1 ⊢;unfold ldS at *;exact⟨by omega,hr⟩
 ·refine⟨?_,by rw[e5];omega⟩;unfold ldS;rw[Zek e2,e1,e3]
  have:costs [⟨0,0,s.length⟩]=4*(s.length*s.length):=by
   show cost ⟨0,0,s.length⟩+0=_;unfold cost;rw[if_pos rfl];rfl
  omega
theorem Zwu:∀ {st:List Pt}{R:List Nat},WF k n st R->∀ p∈st,p.lo < p.hi/\p.hi<=n
 |[],_,_,p,hp=>by cases hp
 |q::st,R,h,p,hp=>by
  rcases mem_cons.1 hp with rfl|hp
  ·exact h.1
  ·exact Zwu h.2.2 p hp
theorem Zo6:∀ {st:List Pt},(∀ p∈st,p.lo < p.hi/\p.hi<=n)->st.length<=costs st
 |[],_=>Nat.le_refl _
 |p::st,h=>by
  have h1:=h p (hJ_ ..);have h2:=Zo6 (st:=st) λq hq=>h q (hK_ _ hq)
  have h3:1<=cost p:=by
   unfold cost;split
   ·have:1<=(p.hi - p.lo)*(p.hi - p.lo):=Nat.mul_pos (by omega) (by omega);omega
   ·omega
  show st.length+1<=cost p+costs st;omega
theorem Zsd (h:PhC k n x):∀ p∈x.stack,p.lo < p.hi/\p.hi<=n:=by
 rcases h with h|⟨R,h⟩
 ·exact Zwu h.wf
 ·exact λp hp=>Zwu h.wf p (hK_ _ hp)
theorem Zus (h:PhC k n x) (hl:ldS n x<=4*(n*n)+n) (hn:n<=4000):x.stack.length<=64004000:=by
 have h1:=Zo6 (Zsd h);have h2:n*n<=4000*4000:=Nat.mul_le_mul hn hn;unfold ldS at hl;omega
theorem Zsv:ldS n (start n)=4*(n*n)+n:=by
 show cost ⟨0,0,n⟩+0+0+(n - 0)=_;unfold cost;rw[if_pos rfl];show 4*((n - 0)*(n - 0))+0+0+(n - 0)=_;rw[Nat.sub_zero];rfl
end Go.Mr
namespace Go.Ev
open Go Go.Vc
variable {P:Program}{w w':World}
theorem Yd0 {b o n:Nat}:(⟨b,o,none⟩:Addr).add n=⟨b,o+n,none⟩:=by
 unfold Addr.add;split
 ·rename_i h;rw[h];rfl
 ·rfl
inductive Xt where
 |idx|cnt|noEsc|mkNo|idxB
def nmX:Xt->String
 | .idx => "internal/bytealg.IndexByteString"
 | .cnt => "internal/bytealg.CountString"
 | .noEsc => "internal/abi.NoEscape"
 | .mkNo => "internal/bytealg.MakeNoZero"
 | .idxB => "internal/bytealg.IndexByte"
def extF (fn:Func) (k:Xt):Bool:=match fn.name==nmX k with
 | true => (match fn.origin == "" with
  |true=>true
  |false=>fn.origin==nmX k)
 |false=>false
def extK (P:Program) (f:FuncId):Option (Func × Xt):=match P.funcs[f]? with
 |some fn=>(match fn.body with
  |some _=>none
  |none=>(match extF fn .idx,extF fn .cnt,extF fn .noEsc,extF fn .mkNo,extF fn .idxB with
   |true,_,_,_,_=>some (fn,.idx)
   |_,true,_,_,_=>some (fn,.cnt)
   |_,_,true,_,_=>some (fn,.noEsc)
   |_,_,_,true,_=>some (fn,.mkNo)
   |_,_,_,_,true=>some (fn,.idxB)
   |_,_,_,_,_=>none))
 |none=>none
theorem Zqa {f:FuncId}{fn:Func}{k:Xt}(h:extK P f=some (fn,k)):P.funcs[f]?=some fn/\fn.body=none/\extF fn k=true:=by
 unfold extK at h;split at h
 ·rename_i fn' hf;split at h
  ·cases h
  ·rename_i hb
   split at h <;> first|(simp only[Option.some.injEq,Prod.mk.injEq] at h;obtain⟨rfl,rfl⟩:=h;exact⟨hf,hb,by assumption⟩)|cases h
 ·cases h
theorem Zg9 {fn : Func} {k : Xt} (h : extF fn k = true) : fn.name = nmX k ∧ (fn.origin = "" ∨ fn.origin = nmX k) := by
 unfold extF at h;split at h
 ·rename_i h1;split at h
  ·rename_i h2;exact⟨by simpa using h1,.inl (by simpa using h2)⟩
  ·exact⟨by simpa using h1,.inr (by simpa using h)⟩
 ·cases h
theorem Zv0 (k:Xt){fn:Func}(h:extF fn k=true):Extern.findNext fn=none:=by
 obtain⟨h1,h2⟩:=Zg9 h;unfold Extern.findNext
 rcases h2 with h2|h2 <;> rw[h1,h2] <;> cases k <;> rfl
theorem Zuu {fn:Func}(h:extF fn .idxB=true):Extern.find fn=some Extern.BytealgIndexByte.indexByte:=by
 unfold Extern.find;rw[(Zg9 h).1];rfl
theorem Zsl {fn:Func}(h:extF fn .noEsc=true):Extern.find fn=some Extern.AbiNoEscape.same:=by
 unfold Extern.find;rw[(Zg9 h).1];rfl
theorem callExt {f:FuncId}{fn:Func}{k:Xt}{args:Array Value}{e:Array Value->Sem Value}{v:Value}(h:extK P f=some (fn,k)) (he:Extern.find fn=some e) (hr:(e args).run P w=.ok v w'):isExt P f=true/\(callFunc f args).run P w=.ok (.value v) w':=by
 obtain⟨h1,h2,h3⟩:=Zqa h;refine⟨by simp only[isExt,h1,h2];rfl,?_⟩
 have hn : (fn.name == "runtime.NumGoroutine") = false := by rw [(Zg9 h3).1]; cases k <;> rfl
 rw[run_callFunc_extern h1 hn (by rw[h2];rfl) (Zv0 k h3) he,hr];rfl
theorem Zg8 {b:Nat}:∀ (l:List Nat) (o:Nat) (acc:ByteArray),(∀ (i:Nat) (n:Nat),l[i]?=some n->w.cell? ⟨b,o+i,none⟩=some (.int .u8 (n:Int)))->
  (Extern.Bytes.loadBytes ⟨b,o,none⟩ l.length acc).run P w=.ok ⟨acc.data++(l.map UInt8.ofNat).toArray⟩ w
 |[],o,acc,h=>by
  show Result.ok acc w=_;simp
 |n::l,o,acc,h=>by
  show (Extern.Bytes.loadBytes ⟨b,o,none⟩ (l.length+1) acc).run P w=_;unfold Extern.Bytes.loadBytes;rw[Sem.run_bind,Zmw (show w.cell? ⟨b,o,none⟩=_ from h 0 n rfl)];simp only[Result.andThen_ok];rw[Yd0]
  have:=Zg8 l (o+1) (acc.push ((n:Int).toNat.toUInt8)) λi m hi=>by
   rw[show o+1+i=o+(i+1) by omega];exact h (i+1) m hi
  rw[this]
  congr 1
  apply Zs0;simp
theorem Ydb {x y c:Value}{s:ByteArray}(h1:(Extern.Bytes.bytesOf x).run P w=.ok s w) (h2:(Extern.Bytes.bytesOf y).run P w=.ok s w):(Extern.BytealgIndexByte.indexByte #[x,c]).run P w=(Extern.BytealgIndexByte.indexByte #[y,c]).run P w:=by
 change ((Extern.Bytes.bytesOf x >>= _):Sem Value).run P w=((Extern.Bytes.bytesOf y >>= _):Sem Value).run P w;rw[Sem.run_bind,Sem.run_bind,h1,h2];rfl
end Go.Ev
namespace Go.Proofs.YtgaiocpkjaaphaaGreatDoor
open Go Go.Vc Go.Proofs.Tryz
attribute [local irreducible] Vc.Nc Vc.Ld Vc.LdA Vc.St Vc.StA Vc.Fo Vc.Iaa Vc.Ias Vc.Ixs Vc.Ixa Vc.Fd Vc.FdA Vc.Bp Vc.Bb Vc.Bn Vc.Up Vc.Ci Vc.Lns Vc.Lnl Vc.Ex Vc.Sst Vc.Ssl Vc.New Vc.Vif Vc.VJoin Vc.VLoop Vc.KE Vc.Dr Vc.Rk Vc.Cl Vc.Cx Vc.Inv Vc.Be Vc.Cv Vc.Cw Vc.Mf Vc.Sl Vc.Lk Vc.Bd Vc.Bs Vc.Ms Vc.Mm Vc.Mu Vc.Me Vc.Es Vc.Rg Vc.Nx Vc.Ta Vc.Ap Vc.Usd Vc.Ust Vc.Cp Vc.Ln Vc.Bc Vc.Bmin Vc.Bmax Vc.Bdel Vc.Bclr Vc.Pk
namespace P20
open Go.M01 Go.Mb Go.Mp Go.M10 Go.Mc Go.Mz Go.Mk Go.Q20 Go.Q21 Go.Q22
abbrev S_ (B:List UInt8):Value:=.string ⟨B.toArray⟩
abbrev pt (b:Nat):Value:=.pointer (some ⟨b,0,none⟩)
abbrev tB:Nat:=5
abbrev tI:Nat:=3
variable {w:World}{L:List HProp}{K:KT}
theorem sz (t:List UInt8):(⟨t.toArray⟩:ByteArray).size=t.length:=by show t.toArray.size=_;simp
theorem dl (t:List UInt8):(⟨t.toArray⟩:ByteArray).data.toList=t:=by simp
theorem q_len {t:List UInt8}{K:Value->Prop}(h:K (nv t.length)):Lns (S_ t) K:=r_lns (by rw[sz];exact h)
theorem q_ix {t:List UInt8}{k:IntKind}{m:Nat}{K:Value->Prop}(h1:m < t.length) (h:K (bv (t.getD m 0))):Ixs (S_ t) (.int k (m:Int)) K:=Zb0 (by rw[sz];exact h1) (by rw[dl];exact h)
theorem q_T {t:List UInt8}{k:IntKind}{m:Nat}{K:Value->Prop}(h1:m<=t.length) (h:K (S_ (t.take m))):Sst (S_ t) none (some (.int k (m:Int))) K:=Yba (by rw[sz];exact h1) (by rw[dl];exact h)
theorem q_D {t:List UInt8}{k:IntKind}{m:Nat}{K:Value->Prop}(h1:m<=t.length) (h:K (S_ (t.drop m))):Sst (S_ t) (some (.int k (m:Int))) none K:=Zxe (by rw[sz];exact h1) (by rw[dl];exact h)
theorem q_1 {t:List UInt8}{k k':IntKind}{m:Nat}{K:Value->Prop}(h1:m < t.length) (h:K (S_ [t.getD m 0])):Sst (S_ t) (some (.int k (m:Int))) (some (.int k' ((m+1:Nat):Int))) K:=
 Ye9 (by rw[sz];exact h1) (by rw[dl];exact h)
theorem q_str (H:Holds w L) (c:UInt8){t e d:TypeId}{z:Value} [hr:Row prog t e z] [hb:Bytes prog t e d] (h:∀ w',Same w w'->Holds w' L->K (S_ [c]) w'):Bs prog t 1 #[(0,bv c)] w λy w2=>Cw prog t d y w2 K:=by
 refine r_bs1 H (by rfl) λb w2 S2 H2=>?_;refine r_cbs (xs:=[c]) (sp:=[]) (oa:=some ⟨b,0,none⟩) ((H2.imp λh hh=>(⟨rfl,rfl,hh⟩:(slb bv e (some ⟨b,0,none⟩) [c] []) h))) 0 rfl rfl ?_;exact h w2 S2 H2.drop
theorem Ybm {l:List Bool}{m:Nat}(h:m < l.length):(txt l).getD m 0=chr (l.getD m false):=Zzn l m h
theorem q_rem {k:IntKind}{s t:Nat}{K:Value->Prop}(ht:t≠0) (h:K (.int k ((s%t:Nat):Int))):Bp .rem (.int k (s:Int)) (.int k (t:Int)) K:=
 r_bp (v:=.int k ((s%t:Nat):Int)) (by simp only[bp];rw[if_pos ⟨trivial,by omega⟩,Int.tmod_eq_emod_of_nonneg (by omega)];rfl) h
theorem Zyp {s t:Nat}{K:Value->Prop}(hs:s < 4294967296) (ht:t≠0) (h:K (uv (s/t))):Bp .quo (uv s) (uv t) K:=
 r_bp (v:=uv (s/t)) (by
  have h1:s/t<=s:=Nat.div_le_self _ _;simp only[bp];rw[if_pos ⟨trivial,by omega⟩,Int.tdiv_eq_ediv_of_nonneg (by omega),wrapU32 (Int.ediv_nonneg (by omega) (by omega)) (by rw[<-Int.natCast_ediv];omega)]
  rfl) h
theorem Zbz {v n:Nat}(hn:n<=64) (hv:v < 4294967296) (k:K (S_ (txt (bitsOf v n))) w):Cl prog 51 #[uv v,nv n] w K:=by
 refine Tz51 ?_;unfold Vz51;refine Zb9 (λx s i w'=>∃ j:Nat,j<=n/\i=nv j/\x=uv (v/2^j)/\s=S_ (txt (bitsOf v j))/\w=w') (λ_ _ i _=>n - (intOf i).toNat) ⟨0,by omega,rfl,by simp,rfl,rfl⟩ ?_;rintro _ _ _ _ _ ⟨j,hj,rfl,rfl,rfl,rfl⟩;have hd:v/2^j < 4294967296:=Nat.lt_of_le_of_lt (Nat.div_le_self _ _) hv
 repeat (refine r_lss ?_)
 refine r_ifD (λh=>?_) λh=>?_
 ·have h2:v/2^j%2=(v.testBit j).toNat:=by have:=Znp v j;rwa [Nat.and_one_is_mod] at this
  have hb:=Bool.toNat_le (v.testBit j);refine q_rem (t:=2) (by decide) (q_rem (t:=2) (by decide) ?_);rw[h2];refine Zld (t:=1) (by omega) ?_;refine q_1 (t:=[48,49]) (by simp;omega) ?_
  have e:[48,49].getD (v.testBit j).toNat 0=chr (v.testBit j):=by cases v.testBit j <;> rfl
  rw[e];refine Zad (by simp[Za9,Za1];omega) ?_;refine Zyp (t:=2) hd (by decide) ?_
  repeat (first|refine r_ke ?_|(refine Za0 (by omega) ?_))
  refine⟨⟨j+1,by omega,rfl,by rw[Nat.div_div_eq_div_mul,Nat.pow_succ],by rw[Zpu];rfl,rfl⟩,?_⟩;simp[nv,intOf];omega
 ·obtain rfl:j=n:=by omega
  exact k
theorem Bits_spec {s:List UInt8}(hs:s.length<=1000000) (k:K (S_ (txt (bitsL s))) w):Cl prog 29 #[S_ s] w K:=by
 refine Tz29 ?_;unfold Vz29;refine Za7 (λo i w'=>∃ j:Nat,j<=s.length/\i=nv j/\o=S_ (txt (bitsL (s.take j)))/\w=w') (λ_ i _=>s.length - (intOf i).toNat) ⟨0,by omega,rfl,rfl,rfl⟩ ?_;rintro _ _ _ _ ⟨j,hj,rfl,rfl,rfl⟩;refine q_len ?_
 repeat (refine r_lss ?_)
 refine r_ifD (λh=>?_) λh=>?_
 ·have hlt:j < s.length:=by omega
  refine q_ix hlt ?_;have hc:=(s.getD j 0).toNat_lt
  repeat (refine Zan (by omega) (by omega) ?_)
  refine Zbz (n:=8) (by decide) (by omega) ?_;refine Zad (by have:=Zgh (s.take j);simp[Za9,Za1,this];omega) ?_
  repeat (first|refine r_ke ?_|(refine Za0 (by omega) ?_))
  refine⟨⟨j+1,by omega,rfl,?_,rfl⟩,?_⟩
  ·have hg:s[j]?=some (s.getD j 0):=by rw[gB,gA hlt];rfl
   rw[Zai hg,Ze5,Zau];simp[bitsL]
  ·simp[nv,intOf];omega
 ·obtain rfl:j=s.length:=by omega
  rw[hF_];exact k
theorem Number_spec {l:List Bool}(hl:l.length<=32) (k:K (uv (valB l)) w):Cl prog 79 #[S_ (txt l)] w K:=by
 refine Tz79 ?_;unfold Vz79;refine Za7 (λx i w'=>∃ j:Nat,j<=l.length/\i=nv j/\x=uv (valB (l.take j))/\w=w') (λ_ i _=>l.length - (intOf i).toNat) ⟨0,by omega,rfl,rfl,rfl⟩ ?_;rintro _ _ _ _ ⟨j,hj,rfl,rfl,rfl⟩;refine q_len ?_;rw[Za9]
 repeat (refine r_lss ?_)
 refine r_ifD (λh=>?_) λh=>?_
 ·have hlt:j < l.length:=by omega
  have hv:=Zae l j;have hp:(2:Nat)^j<=2^31:=Nat.pow_le_pow_right (by omega) (by omega);have hx:=Zd1 hlt;have hx2:=Zae l (j+1);have hp2:(2:Nat)^(j+1)<=2^32:=Nat.pow_le_pow_right (by omega) (by omega);refine Zfk (s:=2) (by omega) ?_;refine q_ix (by rw[Za9];exact hlt) ?_;rw[Ybm hlt]
  have ec:(chr (l.getD j false)).toNat=48+(l.getD j false).toNat:=by cases l.getD j false <;> rfl
  rw[show bv (chr (l.getD j false))=.int .u8 ((48+(l.getD j false).toNat:Nat):Int) by rw[<-ec]];have hb:=Bool.toNat_le (l.getD j false);refine Zwc (t:=48) (by omega) (by omega) ?_;rw[Nat.add_sub_cancel_left];refine Zan (by omega) (by omega) ?_;refine Zld (by omega) ?_;rw[<-hx]
  repeat (first|refine r_ke ?_|(refine Za0 (by omega) ?_))
  refine⟨⟨j+1,by omega,rfl,rfl,rfl⟩,?_⟩;simp[nv,intOf];omega
 ·obtain rfl:j=l.length:=by omega
  rw[hF_];exact k
theorem Zky {s:List UInt8}{b:Nat}(hs:s.length<=1000000) (hb:b < 256) (k:K (.bool (decide (UInt8.ofNat b∈s))) w):Cl prog 104 #[S_ s,nv b] w K:=by
 refine Tz104 ?_;unfold Vz104;refine Za8 (λi w'=>∃ j:Nat,j<=s.length/\i=nv j/\UInt8.ofNat b∉s.take j/\w=w') (λi _=>s.length - (intOf i).toNat) ⟨0,by omega,rfl,by simp,rfl⟩ ?_;rintro _ _ _ ⟨j,hj,rfl,hno,rfl⟩;refine q_len ?_
 repeat (refine r_lss ?_)
 refine r_ifD (λh=>?_) λh=>?_
 ·have hlt:j < s.length:=by omega
  have hg:s[j]?=some (s.getD j 0):=by rw[gB,gA hlt];rfl
  refine q_ix hlt ?_;have hc:=(s.getD j 0).toNat_lt
  repeat (first|refine r_eql ?_|(refine Zcv (by omega) (by omega) ?_))
  refine r_ifE (λh2=>?_) λh2=>?_
  ·have hm:UInt8.ofNat b∈s:=by
    have:s.getD j 0=UInt8.ofNat b:=by
     apply UInt8.toNat_inj.1;rw[UInt8.toNat_ofNat_of_lt' (by simpa using hb)];omega
    rw[<-this];exact List.mem_of_getElem? hg
   rw[decide_eq_true hm] at k;exact k
  ·repeat (first|refine r_ke ?_|(refine Za0 (by omega) ?_))
   refine⟨⟨j+1,by omega,rfl,?_,rfl⟩,?_⟩
   ·rw[Zai hg];intro hm;rcases hT_.1 hm with h3|h3
    ·exact hno h3
    ·rw[mem_singleton] at h3;have:=congrArg UInt8.toNat h3;rw[UInt8.toNat_ofNat_of_lt' (by simpa using hb)] at this;omega
   ·simp[nv,intOf];omega
 ·obtain rfl:j=s.length:=by omega
  rw[hF_] at hno;rw[decide_eq_false hno] at k;exact k
theorem Ydn {j:Nat}(h:j < 256):(Value.int .u8 (j:Int))=bv (UInt8.ofNat j):=by
 show _=Value.int .u8 ((UInt8.ofNat j).toNat:Int);rw[UInt8.toNat_ofNat_of_lt' (by simpa using h)]
theorem Symbols_spec {s:List UInt8}(H:Holds w L) (hs:s.length<=1000000) (k:∀ w',Same w w'->Holds w' L->K (S_ (listed λb=>decide (UInt8.ofNat b∈s))) w'):Cl prog 48 #[S_ s] w K:=by
 refine Tz48 ?_;unfold Vz48;refine Za7 (λo i w'=>∃ j:Nat,j<=256/\i=nv j/\o=S_ (below (λb=>decide (UInt8.ofNat b∈s)) j)/\Same w w'/\Holds w' L) (λ_ i _=>256 - (intOf i).toNat) ⟨0,by omega,rfl,rfl,.refl w,H⟩ ?_;clear H;rintro _ _ _ w1 ⟨j,hj,rfl,rfl,S,H⟩
 repeat (refine r_lss ?_)
 refine r_ifD (λh=>?_) λh=>?_
 ·have hlt:j < 256:=by omega
  have hbl:=Zvj (λb=>decide (UInt8.ofNat b∈s)) j;refine Zky hs hlt ?_;refine r_vif (λh2=>?_) λh2=>?_
  ·repeat (refine Zey (by omega) (by omega) ?_)
   rw[Ydn hlt];refine q_str H (UInt8.ofNat j) λw2 S2 H2=>?_;refine Zad (by simp;omega) ?_
   repeat (first|refine r_ke ?_|(refine Za0 (by omega) ?_))
   refine⟨⟨j+1,by omega,rfl,?_,S.trans S2,H2⟩,?_⟩
   ·rw[Zk8,if_pos h2]
   ·simp[nv,intOf];omega
  ·repeat (first|refine r_ke ?_|(refine Za0 (by omega) ?_))
   refine⟨⟨j+1,by omega,rfl,?_,S,H⟩,?_⟩
   ·rw[Zk8,if_neg (by rw[h2];simp),gU]
   ·simp[nv,intOf];omega
 ·obtain rfl:j=256:=by omega
  exact k _ S H
theorem Is_spec {T:Nat->Bool}(H:Holds w L) (hne:listed T≠[]) (k:∀ w',Same w w'->Holds w' L->K (.bool true) w'):Cl prog 105 #[S_ (listed T)] w K:=by
 refine Tz105 ?_;unfold Vz105;have hl:=Zbf T;have h0:0 < (listed T).length:=gZ.2 hne;refine q_len ?_
 repeat (first|refine r_gtr ?_|((with_reducible refine r_vtD ?h ?_);(case h=>omega)))
 refine Symbols_spec H (by omega) λw2 S2 H2=>?_;rw[Zll];refine Zke ?_;rw[decide_eq_true rfl];exact k _ S2 H2
theorem Zk9 {o:List UInt8}{i:Nat}(H:Holds w L) (ho:o.length<=1000000) (hi:i < o.length) (k:∀ w',Same w w'->Holds w' L->K (S_ (frontB o i)) w'):Cl prog 107 #[S_ o,nv i] w K:=by
 refine Tz107 ?_;unfold Vz107;have S:=Same.refl w
 repeat (first|(refine Za0 (by omega) ?_)|(refine r_dr H ?_;clear H;intro _ S_ H;replace S:=S.trans S_;clear S_))
 refine q_1 hi ?_;refine q_T (by omega) ?_;refine Zad (by simp;omega) ?_
 repeat (refine Za0 (by omega) ?_)
 refine q_D (by omega) ?_;refine Zad (by simp;omega) ?_;exact k _ S H
end P20
namespace P20
open Go.M01 Go.Mb Go.Me Go.M03 Go.M3d P35
variable {w:World}{L:List HProp}{K:KT}
abbrev tPc:Nat:=86
def Fpc (x:UInt8 × Nat):List Value:=[bv x.1,nv x.2]
theorem Yej:∀ y:UInt8 × Nat,∀ u∈Fpc y,sg u=true:=by
 intro y u hu;simp only[Fpc,mem_cons,List.not_mem_nil,or_false] at hu
 rcases hu with rfl|rfl <;> rfl
theorem Zj8:(zeroP prog tPc).cells.toList=[.int .u8 0,iv 0]:=by kernel_rfl
instance rowPc:RowN prog 83 tPc 2:=⟨by kernel_rfl,⟨t86,.agg #[.int .u8 0,iv 0],by kernel_rfl,by kernel_rfl,by decide,by kernel_rfl,by kernel_rfl⟩⟩
theorem row_spec {s:List UInt8}(H:Holds w L) (h0:s≠[]) (hl:s.length<=1000000) (k:∀ n w',RunIs s n->Same w w'->Holds w' L->K (nv n) w'):Cl prog 113 #[S_ s] w K:=by
 refine Tz113 ?_;unfold Vz113;have hpos:=gZ.2 h0;refine Zde (λj x w'=>∃ n,j=255 - n/\x=nv n/\n<=s.length/\n<=255/\s.take n=List.replicate n (s.getD 0 0)/\Same w w'/\Holds w' L) 255 ⟨0,rfl,rfl,by omega,by omega,rfl,.refl _,H⟩ ?_;clear H;rintro _ j _ w1 _ ⟨n,rfl,rfl,hn,h255,ht,S1,H1⟩ hgo;refine Za2 (λt w'=>t=.bool (decide (n < s.length/\n < 255/\s.getD n 0=s.getD 0 0))/\Same w1 w'/\Holds w' L) ?_ ?_
 rotate_left
 ·refine r_dr H1 λw3 S3 H3=>?_;refine q_len (r_lss (r_ifD (λh1=>?_) λh1=>r_ke ⟨by rw[decide_eq_false (by omega)],S3,H3⟩));refine r_lss (r_ifD (λh2=>?_) λh2=>r_ke ⟨by rw[decide_eq_false (by omega)],S3,H3⟩);refine q_ix (by omega) (q_ix (m:=0) (by omega) ?_);refine r_eql (r_ke ⟨?_,S3,H3⟩)
  congr 1
  rw[Bool.eq_iff_iff,beq_iff_eq,decide_eq_true_iff]
  constructor
  ·intro e;exact⟨by omega,by omega,UInt8.toNat_inj.1 (by omega)⟩
  ·rintro⟨_,_,e⟩;rw[e]
 rintro _ _ w2 ⟨rfl,S2,H2⟩;refine r_ifD (λh=>?_) λh=>?_
 ·refine Za0 (by omega) (r_ke (hgo (255 - (n+1)) _ _ (by omega) ⟨n+1,rfl,rfl,by omega,by omega,?_,S1.trans S2,H2⟩));rw[gO,gA h.1,ht,replicate_succ'];have:=h.2.2;rw[gB,gA h.1] at this;simp only[Option.getD_some] at this;rw[this];rfl
 ·refine k n _ ⟨?_,hn,h255,ht,λh4=>?_⟩ (S1.trans S2) H2
  ·rcases Nat.eq_zero_or_pos n with e|e
   ·subst e;exact absurd ⟨hpos,by omega,rfl⟩ h
   ·exact e
  ·by_cases q:n < s.length
   ·right;intro e;refine h ⟨q,by omega,?_⟩;rw[<-e,gB,gB,hH_,Nat.add_zero]
   ·exact .inl (drop_of_length_le (by omega))
theorem Zj7 {s:List UInt8}(H:Holds w L) (hl:s.length<=1000000) (k:∀ v ps w',Pcs s ps->Same w w'->Holds w' (RW Fpc 2 tPc v ps::L)->K v w'):Cl prog 54 #[S_ s] w K:=by
 refine Tz54 ?_;unfold Vz54
 refine Zeq (λj x y w'=>∃ t ps0,j=t.length/\x=S_ t/\t.length+ps0.length<=s.length/\(∀ ps,Pcs t ps->Pcs s (ps0++ps))/\Same w w'/\Holds w' (RW Fpc 2 tPc y ps0::L)) s.length
  ⟨s,[],rfl,rfl,by simp,λps hp=>hp,.refl _,H.nilRW _ _ _⟩ ?_
 clear H;rintro _ j _ y w1 _ ⟨t,ps0,rfl,rfl,hlen,hcons,S1,H1⟩ hgo;refine q_len (r_gtr (r_ifD (λh=>?_) λh=>?_))
 ·have h0:t≠[]:=gZ.1 (by omega);refine row_spec H1 h0 (by omega) λn w2 hn S2 H2=>?_;have hp:=hn.pos;have hle:=hn.le;refine q_ix (m:=0) (by omega) ?_;refine r_bd (v:=.agg #[bv (t.getD 0 0),nv n]) (by kernel_rfl) ?_;refine Zfd H2 0 (t.getD 0 0,n) rfl (by kernel_rfl) (λy=>rfl) Yej (by omega) (by decide) λv' w3 S3 H3=>?_;replace H3:Holds w3 (RW Fpc 2 tPc v' (ps0++[(t.getD 0 0,n)])::L):=H3;refine q_D hle (r_ke (hgo (t.drop n).length _ _ _ (by rw[gS];omega) ⟨t.drop n,ps0++[(t.getD 0 0,n)],rfl,rfl,by rw[gS,gD,gQ];omega,λps hp=>?_,S1.trans (S2.trans S3),H3⟩));rw[gI];exact hcons _ (.cons hn hp)
 ·obtain rfl:t=[]:=eq_nil_of_length_eq_zero (by omega);have:=hcons [] .nil;rw[gU] at this;exact k y ps0 _ this S1 H1
theorem Zjw {x:UInt8 × Nat}(H:Holds w L) (h:1<=x.2/\x.2<=255) (k:∀ w',Same w w'->Holds w' L->K (S_ (pieceB x)) w'):Cl prog 55 #[.agg (Fpc x).toArray] w K:=by
 refine Tz55 ?_;unfold Vz55;obtain⟨a,n⟩:=x;simp only at h;refine r_new H λb w1 S1 H1=>?_;replace H1:Holds w1 (blk b tPc [bv a,nv n]::L):=H1;refine r_fo0 (r_ld 0 H1 rfl rfl ?_);refine Zeq (λj s y w'=>∃ i,j=n - i/\i<=n/\s=S_ (List.replicate (min i 4) a)/\y=nv i/\Same w w'/\Holds w' (blk b tPc [bv a,nv n]::L)) n ⟨0,rfl,hE _,rfl,rfl,S1,H1⟩ ?_;clear H H1 S1;rintro _ j _ _ w2 _ ⟨i,rfl,hi,rfl,rfl,S2,H2⟩ hgo;refine r_lss (r_ifD (λh1=>?_) λh1=>?_)
 ·refine r_lss (r_ifD (λh2=>?_) λh2=>?_)
  ·refine r_fo0 (r_ld 0 H2 rfl rfl ?_);refine q_str H2 a λw3 S3 H3=>?_;refine Zad (by simp;omega) ?_;refine Za0 (by omega) (r_ke (hgo (n - (i+1)) _ _ _ (by omega) ⟨i+1,rfl,by omega,?_,rfl,S2.trans S3,H3⟩));rw[show min (i+1) 4=min i 4+1 by omega,replicate_succ']
  ·refine Za0 (by omega) (r_ke (hgo (n - (i+1)) _ _ _ (by omega) ⟨i+1,rfl,by omega,?_,rfl,S2,H2⟩));rw[show min (i+1) 4=min i 4 by omega]
 ·obtain rfl:i=n:=by omega
  refine r_fo0 (r_ld 0 H2 rfl rfl ?_);refine r_geq (r_ifD (λh4=>?_) λh4=>?_)
  ·refine r_fo0 (r_ld 0 H2 rfl rfl ?_);refine r_sub (by omega) (by omega) ?_;refine Zey (by omega) (by omega) ?_
   have e:((i:Nat):Int) - 4=(((UInt8.ofNat (i - 4)).toNat:Nat):Int):=by
    simp only[UInt8.toNat_ofNat'];rw[Nat.mod_eq_of_lt (by omega)];omega
   rw[e];refine q_str H2 (UInt8.ofNat (i - 4)) λw3 S3 H3=>?_;refine Zad (by simp;omega) ?_;have:=k w3 (S2.trans S3) H3.drop;unfold pieceB at this;simp only at this;rw[if_pos (by omega)] at this;exact this
  ·have:=k w2 S2 H2.drop;unfold pieceB at this;simp only at this;rw[if_neg (by omega),gU] at this;exact this
theorem Zfp:∀ ps:List (UInt8 × Nat),(encB ps).length<=5*ps.length
 |[]=>hE _
 |x::ps=>by
  have h1:=Zfp ps;have h2:=Zei x;unfold encB at h1 ⊢;rw[hM_,gD,length_cons];omega
theorem Encode_spec {s:List UInt8}(H:Holds w L) (hl:s.length<=1000000) (k:∀ ps w',Pcs s ps->Same w w'->Holds w' L->K (S_ (encB ps)) w'):Cl prog 19 #[S_ s] w K:=by
 refine Tz19 ?_;unfold Vz19;refine Zj7 H hl λv ps w1 hp S1 H1=>?_;have hpl:=hp.len;refine r_lnN 0 H1 rfl ?_;refine Zeq (λj o y w'=>∃ i,j=ps.length - i/\i<=ps.length/\o=S_ (encB (ps.take i))/\y=nv i/\Same w w'/\Holds w' (RW Fpc 2 tPc v ps::L)) ps.length ⟨0,rfl,hE _,rfl,rfl,S1,H1⟩ ?_;clear H H1 S1;rintro _ j _ _ w2 _ ⟨i,rfl,hi,rfl,rfl,S2,H2⟩ hgo;refine r_lss (r_ifD (λh1=>?_) λh1=>?_)
 ·have hlt:i < ps.length:=by omega
  have hx:ps[i]?=some ps[i]:=gA hlt
  have he:ps.take (i+1)=ps.take i++[ps[i]]:=by rw[gO,hx];rfl
  have hok:=hp.ok _ (getElem_mem hlt);generalize ps[i]=x at *;refine Zf1 0 H2 rfl hx (λ_=>rfl) ?_;refine r_new H2 λb w3 S3 H3=>?_;rw[Zj8] at H3;refine r_stA 0 H3 (vs:=Fpc x) rfl (Nat.le_refl 2) rfl rfl λw4 S4 H4=>?_;replace H4:Holds w4 (blk b tPc (Fpc x)::RW Fpc 2 tPc v ps::L):=H4;refine r_ldA 0 H4 (Fpc x) rfl rfl rfl ?_;refine Zjw H4 hok λw5 S5 H5=>?_;have h5:=Zfp (ps.take i);have h6:=Zei x;rw[gN] at h5;refine Zad (by omega) ?_;refine Za0 (by omega) (r_ke (hgo (ps.length - (i+1)) _ _ _ (by omega) ⟨i+1,rfl,by omega,?_,rfl,S2.trans (S3.trans (S4.trans S5)),H5.drop⟩));rw[he,Znm]
 ·obtain rfl:i=ps.length:=by omega
  rw[hF_];exact k ps _ hp S2 H2.drop
end P20
namespace Z07
open Go.Mz
variable {w:World}{L:List HProp}{K:KT}{b:Nat}{z:ZS}
abbrev tZ:Nat:=309
def zrC (z:ZS):List Value:=[nv z.n,nv z.most,nv z.told,nv z.zeros,nv z.weight,.bool z.done]
def ZrR (b:Nat) (z:ZS):HProp:=λh=>z.Ok/\blk b tZ (zrC z) h
theorem Zyy (H:Holds w (ZrR b z::L)):z.Ok/\Holds w (blk b tZ (zrC z)::L):=Holds.pure H
theorem Zft (h:z.Ok) (H:Holds w (blk b tZ (zrC z)::L)):Holds w (ZrR b z::L):=Holds.imp H λ_ hh=>⟨h,hh⟩
theorem NewReader_spec {n m:Nat}(H:Holds w L) (h1:1<=n) (h2:n<=256) (h3:m<=900000) (k:∀ b w',Same w w'->Holds w' (ZrR b (z0 n m)::L)->K (.tuple #[pt b,iv 0]) w'):Cl prog 242 #[nv n,nv m] w K:=by
 refine Tz242 ?_;unfold Vz242;refine Za2 (λx w'=>w=w'/\x=.bool false) ?_ ?_
 ·rintro _ _ _ ⟨rfl,rfl⟩;refine r_vf ?_;refine r_bd (v:=.agg #[nv n,nv m,nv 0,nv 0,nv 1,.bool false]) (by kernel_rfl) ?_;refine r_new H λb w2 S2 H2=>?_;exact k b _ S2 (Zft (z0_ok h1 h2 h3) H2)
 ·refine Tz91 ?_;unfold Vz91
  repeat (first|refine r_leq ?_|refine r_geq ?_|refine r_not ?_|((with_reducible refine r_vtD ?h ?_);(case h=>omega)))
  rw[decide_eq_true (by omega),Bool.not_true]
  repeat (first|refine r_ke ?_|refine r_lss ?_|refine r_gtr ?_|(with_reducible refine r_vf ?_)|((with_reducible refine r_vfD ?h ?_);(case h=>omega)))
  exact⟨rfl,by rw[decide_eq_false (by omega)]⟩
theorem Zkb (H:Holds w (blk b tZ (zrC z)::L)) (hz:z.Ok) (k:∀ w',Same w w'->Holds w' (blk b tZ (zrC z)::L)->K (nv (z.told+z.zeros)) w'):Cl prog 267 #[pt b] w K:=by
 refine Tz267 ?_;unfold Vz267;have S:=Same.refl w;obtain⟨h1,h2,h3,h4,h5,h6⟩:=hz
 repeat (first|refine r_nc ?_|refine r_fo0 ?_|(with_reducible first|refine Zab ?_|refine r_vf ?_)|(refine Zac (by omega) ?_)|(refine r_dr H ?_;clear H;intro _ S_ H;replace S:=S.trans S_;clear S_)|refine r_ld 0 H rfl rfl ?_)
 exact k _ S H
theorem Zy2 {c:Nat}(H:Holds w (blk b tZ (zrC z)::L)) (hz:z.Ok) (hc:c<=1) (hd:z.done=false)
  (kb:zput z c=none->∀ w',Same w w'->Holds w' L->K (iv 2) w')
  (k:∀ z' d p,zput z c=some (z',d,p)->∀ w',Same w w'->Holds w' (blk b tZ (zrC z')::L)->d=0->p=-1->K (iv 0) w'):Cl prog 266 #[pt b,nv c] w K:=by
 refine Tz266 ?_;unfold Vz266;have S:=Same.refl w;have hzz:=hz;obtain⟨h1,h2,h3,h4,h5,h6⟩:=hz
 have hc2:2^c<=2:=by
  have:c=0\/c=1:=by omega
  rcases this with rfl|rfl <;> decide
 have hp:z.weight*2^c<=z.weight*2:=Nat.mul_le_mul_left _ hc2
 repeat (first|refine Ydq (by omega) (by omega) ?_|refine r_nc ?_|refine r_fo0 ?_|(refine r_dr H ?_;clear H;intro _ S_ H;replace S:=S.trans S_;clear S_)|refine r_ld 0 H rfl rfl ?_)
 have ez:zput z c=if z.most < z.told+z.zeros+z.weight*2^c then none else some (⟨z.n,z.most,z.told,z.zeros+z.weight*2^c,z.weight*2,false⟩,0,-1):=by
  unfold zput;rw[if_pos hc]
 rw[ez] at kb k;generalize z.weight*2^c=a at *;rename_i w1;have H0:=H;refine Zkb H hzz λw2 S2 H2=>?_;replace S:=S.trans S2;clear H;have H:=H2;clear H2;refine r_rk (r_ld 0 H rfl rfl rfl) ?_
 repeat (first|refine r_gtr ?_|(refine r_sub (by omega) (by omega) ?_))
 refine r_ifD (λh=>?_) λh=>?_
 ·rw[if_pos (by omega)] at kb;exact kb rfl _ S H.drop
 ·rw[if_neg (by omega)] at k
  repeat (first|refine r_nc ?_|refine r_fo0 ?_|(refine Zac (by omega) ?_)|refine r_ld 0 H rfl rfl ?_)
  refine r_st 0 H rfl (by simp[zrC]) rfl λw3 S3 H3=>?_;replace H3:Holds w3 (blk b tZ [nv z.n,nv z.most,nv z.told,nv (z.zeros+a),nv z.weight,.bool z.done]::L):=H3;replace S:=S.trans S3;clear H;have H:=H3;clear H3
  repeat (first|refine Zbc ((z.weight*2:Nat):Int) (by omega) (by omega) (by omega) ?_|refine r_nc ?_|refine r_fo0 ?_|refine r_ld 0 H rfl rfl ?_)
  refine r_st 0 H rfl (by simp) rfl λw3 S3 H3=>?_;rw[hd] at H3;replace H3:Holds w3 (blk b tZ [nv z.n,nv z.most,nv z.told,nv (z.zeros+a),nv (z.weight*2),.bool false]::L):=H3;exact k _ _ _ rfl _ (S.trans S3) H3 rfl rfl
theorem Put_spec {c:Nat}(H:Holds w (ZrR b z::L)) (hc:c<=z.n+1) (hd:z.done=false)
  (kb:zput z c=none->∀ e w',e≠0->Same w w'->Holds w' L->K (.tuple #[iv 0,iv 0,iv e]) w')
  (k:∀ z' d p,zput z c=some (z',d,p)->∀ w',Same w w'->Holds w' (ZrR b z'::L)->K (.tuple #[nv d,iv p,iv 0]) w'):Cl prog 248 #[pt b,nv c] w K:=by
 refine Tz248 ?_;unfold Vz248;obtain⟨hz,H⟩:=Zyy H;have hzz:=hz;obtain⟨h1,h2,h3,h4,h5,h6⟩:=hz;have S:=Same.refl w;have hok:=λz' d p (h:zput z c=some (z',d,p))=>Zyc hzz h;refine Za2 (λx w'=>w=w'/\x=.bool false) ?_ ?_
 rotate_left
 ·repeat (first|refine r_nc ?_|refine r_fo0 ?_|refine r_ke ?_|(with_reducible first|refine Zab ?_|refine r_vf ?_)|refine r_ld 0 H rfl rfl ?_)
  exact⟨rfl,by rw[hd]⟩
 rintro _ _ _ ⟨rfl,rfl⟩
 repeat (with_reducible refine r_vf ?_)
 refine Za2 (λx w'=>w=w'/\x=.bool false) ?_ ?_
 rotate_left
 ·repeat (first|refine r_nc ?_|refine r_fo0 ?_|refine r_ke ?_|refine r_lss ?_|refine r_gtr ?_|(refine Za0 (by omega) ?_)|refine r_ld 0 H rfl rfl ?_|((with_reducible refine r_vfD ?h ?_);(case h=>omega)))
  exact⟨rfl,by rw[decide_eq_false (by omega)]⟩
 rintro _ _ _ ⟨rfl,rfl⟩
 repeat (first|refine r_leq ?_|(with_reducible refine r_vf ?_))
 refine r_ifD (λh=>?_) λh=>?_
 ·refine Zy2 H hzz (by omega) hd (λhn w2 S2 H2=>?_) λz' d p hs w2 S2 H2 hd0 hp=>?_
  ·repeat (first|refine r_neq ?_|((with_reducible refine r_vtN ?h ?_);(case h=>omega)))
   exact kb hn 2 _ (by decide) S2 H2
  ·repeat (first|refine r_neq ?_|((with_reducible refine r_vfN ?h ?_);(case h=>omega)))
   have:=k z' d p hs _ S2 (Zft (hok _ _ _ hs) H2);rw[hd0,hp] at this;exact this
 ·have hc1:¬ c<=1:=by omega
  have ez:zput z c=if c=z.n+1 then some (⟨z.n,z.most,z.told+z.zeros,0,1,true⟩,z.zeros,-1) else if z.told+z.zeros=z.most then none
    else some (⟨z.n,z.most,z.told+1+z.zeros,0,1,false⟩,z.zeros,(c:Int) - 1):=by
   unfold zput;rw[if_neg hc1]
  rw[ez] at kb k hok
  repeat (refine Zaa (by omega) (by omega) ?_)
  refine Za2 (λx w'=>∃ t dn,t<=z.told+1/\Same w w'/\Holds w' (blk b tZ [nv z.n,nv z.most,nv t,nv z.zeros,nv z.weight,.bool dn]::L)/\
   ((c=z.n+1/\t=z.told/\dn=true/\x=iv (-1))\/(c≠z.n+1/\z.told+z.zeros≠z.most/\t=z.told+1/\dn=false/\x=iv ((c:Int) - 1)))) ?_ ?_
  ·rintro _ x w2 ⟨t,dn,ht,S,H,hx⟩
   repeat (first|refine r_nc ?_|refine r_fo0 ?_|(refine Zac (by omega) ?_)|refine r_ld 0 H rfl rfl ?_)
   refine r_st 0 H rfl (by simp) rfl λw3 S3 H3=>?_;replace H3:Holds w3 (blk b tZ [nv z.n,nv z.most,nv (t+z.zeros),nv z.zeros,nv z.weight,.bool dn]::L):=H3;replace S:=S.trans S3;clear H;have H:=H3;clear H3
   repeat (first|refine r_nc ?_|refine r_fo0 ?_)
   refine r_st 0 H rfl (by simp) rfl λw3 S3 H3=>?_;replace H3:Holds w3 (blk b tZ [nv z.n,nv z.most,nv (t+z.zeros),nv 0,nv z.weight,.bool dn]::L):=H3;replace S:=S.trans S3;clear H;have H:=H3;clear H3
   repeat (first|refine r_nc ?_|refine r_fo0 ?_)
   refine r_st 0 H rfl (by simp) rfl λw3 S3 H3=>?_;replace H3:Holds w3 (blk b tZ [nv z.n,nv z.most,nv (t+z.zeros),nv 0,nv 1,.bool dn]::L):=H3;replace S:=S.trans S3;clear H;have H:=H3;clear H3;rcases hx with⟨hc,rfl,rfl,rfl⟩|⟨hc,hm,rfl,rfl,rfl⟩
   ·rw[if_pos hc] at k hok;exact k _ _ _ rfl _ S (Zft (hok _ _ _ rfl) H)
   ·rw[if_neg hc,if_neg hm] at k hok;exact k _ _ _ rfl _ S (Zft (hok _ _ _ rfl) H)
  ·repeat (first|refine r_nc ?_|refine r_fo0 ?_|refine r_eql ?_|(refine Za0 (by omega) ?_)|refine r_ld 0 H rfl rfl ?_)
   refine r_ifE (λh=>?_) λh=>?_
   ·repeat (first|refine r_nc ?_|refine r_fo0 ?_)
    refine r_st 0 H rfl (by simp[zrC]) rfl λw3 S3 H3=>?_;replace H3:Holds w3 (blk b tZ [nv z.n,nv z.most,nv z.told,nv z.zeros,nv z.weight,.bool true]::L):=H3
    repeat (refine r_ke ?_)
    exact⟨z.told,true,by omega,S.trans S3,H3,.inl ⟨by omega,rfl,rfl,rfl⟩⟩
   ·have hcn:c≠z.n+1:=by omega
    rw[if_neg hcn] at kb
    repeat (refine r_dr H ?_;clear H;intro _ S_ H;replace S:=S.trans S_;clear S_)
    have H0:=H;refine Zkb H hzz λw2 S2 H2=>?_;replace S:=S.trans S2;clear H;have H:=H2;clear H2
    repeat (first|refine r_rk (r_ld 0 H0 rfl rfl rfl) ?_|refine r_nc ?_|refine r_fo0 ?_|refine r_eql ?_|refine r_ld 0 H rfl rfl ?_)
    refine r_ifE (λhm=>?_) λhm=>?_
    ·rw[if_pos (by omega)] at kb;exact kb rfl 2 _ (by decide) S H.drop
    ·repeat (first|refine r_nc ?_|refine r_fo0 ?_|(refine Za0 (by omega) ?_)|refine r_ld 0 H rfl rfl ?_)
     refine r_st 0 H rfl (by simp[zrC]) rfl λw3 S3 H3=>?_;rw[zrC,hd] at H3;replace H3:Holds w3 (blk b tZ [nv z.n,nv z.most,nv (z.told+1),nv z.zeros,nv z.weight,.bool false]::L):=H3
     repeat (refine r_ke ?_)
     exact⟨z.told+1,false,by omega,S.trans S3,H3,.inr ⟨hcn,by omega,rfl,rfl,by rw[show ((c - 1:Nat):Int)=(c:Int) - 1 by omega]⟩⟩
end Z07
namespace F06
open Go.Mz
variable {w:World}{L:List HProp}{K:KT}{b:Nat}{o:List UInt8}
abbrev tL:Nat:=206
def MtR (b:Nat) (o:List UInt8):HProp:=λh=>o.length<=256/\∃ ov,Sat [blk b tL [ov],SM tB ov o] h
theorem Zmf (H:Holds w (MtR b o::L)):o.length<=256/\∃ ov,Holds w (blk b tL [ov]::SM tB ov o::L):=by
 obtain⟨h,H⟩:=Holds.pure H;obtain⟨ov,H⟩:=Holds.ex H;exact⟨h,ov,Holds.unpack H⟩
theorem Znn {ov:Value}(h:o.length<=256) (H:Holds w (blk b tL [ov]::SM tB ov o::L)):Holds w (MtR b o::L):=Holds.imp (Holds.pack (A:=[_,_]) H) λ_ hh=>⟨h,ov,hh⟩
theorem Is_spec {T:Nat->Bool}(H:Holds w L) (hne:listed T≠[]) (k:∀ w',Same w w'->Holds w' L->K (.bool true) w'):Cl prog 98 #[.string ⟨(listed T).toArray⟩] w K:=by
 refine Tz98 ?_;unfold Vz98
 have hs:(⟨(listed T).toArray⟩:ByteArray).size=(listed T).length:=by show (listed T).toArray.size=_;simp
 have hl:=Zbf T
 repeat (refine r_lns ?_)
 rw[hs];refine Za8 (λx w'=>∃ i:Nat,i<=(listed T).length/\x=nv i/\Same w w'/\Holds w' L) (λx _=>(listed T).length - (intOf x).toNat) ⟨0,by omega,rfl,.refl w,H⟩ ?_;clear H;rintro _ _ w1 ⟨i,hi,rfl,S,H⟩
 repeat (refine r_lss ?_)
 refine r_ifD (λh=>?_) λh=>?_
 ·refine Za2 (λx w'=>x=.bool false/\Same w w'/\Holds w' L) ?_ ?_
  ·clear H S;rintro _ _ w2 ⟨rfl,S,H⟩
   repeat (first|refine r_ke ?_|(with_reducible refine r_vf ?_)|(refine Za0 (by omega) ?_))
   refine⟨⟨i+1,by omega,rfl,S,H⟩,?_⟩;simp[nv,intOf];omega
  ·repeat (first|refine r_gtr ?_|(refine r_dr H ?_;clear H;intro _ S_ H;replace S:=S.trans S_;clear S_))
   refine r_ifD (λh0=>?_) λh0=>?_
   ·repeat (first|refine r_ke ?_|refine r_leq ?_|(refine Zaa (by omega) (by omega) ?_)|(refine Zb0 (by omega) ?_))
    have:=Zqg T (i - 1) (by omega);rw[show i - 1+1=i by omega] at this;refine⟨?_,S,H⟩
    congr 1
    rw[decide_eq_false_iff_not];simp only[List.toList_toArray];omega
   ·repeat (refine r_ke ?_)
    exact⟨rfl,S,H⟩
 ·repeat (refine Zkp ?_)
  have:=k _ S H;rw[decide_eq_true (by rw[hs];exact λh=>hne (eq_nil_of_length_eq_zero h))];exact this
theorem New_spec {T:Nat->Bool}(H:Holds w L) (hne:listed T≠[]) (k:∀ b w',Same w w'->Holds w' (MtR b (listed T)::L)->K (.tuple #[pt b,iv 0]) w'):Cl prog 89 #[.string ⟨(listed T).toArray⟩] w K:=by
 refine Tz89 ?_;unfold Vz89;refine Is_spec H hne λw1 S1 H1=>?_
 repeat (first|(with_reducible first|refine Zak ?_|refine r_vf ?_))
 refine r_csb (e:=tB) H1 λv w2 S2 H2=>?_;obtain⟨b2,sp,rfl,H3⟩:=Zgo H2 0 rfl;refine r_bd (v:=.agg #[.slice (some ⟨b2,0,none⟩) (listed T).length ((listed T).length+sp.length)]) (by kernel_rfl) ?_;refine r_new H2 λb w3 S3 H4=>?_;exact k b _ ((S1.trans S2).trans S3) (Znn (Zbf T) H4)
theorem touch_spec {i:Nat}(H:Holds w (MtR b o::L)) (hi:i < o.length) (k:∀ w',Same w w'->Holds w' (MtR b (frontB o i)::L)->K (bv (o.getD i 0)) w'):Cl prog 140 #[pt b,nv i] w K:=by
 refine Tz140 ?_;unfold Vz140;obtain⟨hl,ov,H⟩:=Zmf H;have S:=Same.refl w
 repeat (first|refine r_nc ?_|refine r_fo0 ?_|refine r_ld 0 H rfl rfl ?_)
 refine Ye3 1 H rfl (x:=o.getD i 0) (by rw[gB,gA hi];rfl) ?_;obtain⟨b2,sp,rfl,H⟩:=Zgo H 1 rfl;rw[gW,gJ] at H
 repeat (first|refine r_nc ?_|refine r_fo0 ?_|(refine Za0 (by omega) ?_)|(refine r_dr H ?_;clear H;intro _ S_ H;replace S:=S.trans S_;clear S_)|refine r_ld 0 H rfl rfl ?_)
 refine Zy3 (l:=1) (h:=i+1) (by omega) (by omega) ?_
 repeat (first|refine r_nc ?_|refine r_fo0 ?_|refine r_ld 0 H rfl rfl ?_)
 refine Zqh (by omega) ?_;refine r_cpM (z:=.int .u8 0) H 1 (xs:=o) (sp:=sp) rfl hi λv w2 S2 H2=>?_;replace S:=S.trans S2;clear H;have H:=H2;clear H2;rw[gW,gJ] at H;have H2:=Zrk H 1 rfl;rw[gW,gJ] at H2
 have hl2:(o.take 1++(o.take i++o.drop (i+1))).length=o.length:=by simp;omega
 rw[hl2] at H2;clear H;have H:=H2;clear H2
 repeat (first|refine r_nc ?_|refine r_fo0 ?_|refine r_ld 0 H rfl rfl ?_)
 refine Yed 1 H (j:=0) (o.getD i 0) rfl (by omega) λw3 S3 H3=>?_
 have e:(o.take 1++(o.take i++o.drop (i+1))).set 0 (o.getD i 0)=frontB o i:=by
  unfold frontB
  cases o with
  |nil=>simp at hi
  |cons x o=>rfl
 rw[gW,gJ,e] at H3;exact k _ (S.trans S3) (Znn (by rw[Zgm hi];exact hl) H3)
theorem At_spec {i:Nat}(H:Holds w (MtR b o::L)) (hi:i < o.length) (k:∀ w',Same w w'->Holds w' (MtR b (frontB o i)::L)->K (.tuple #[bv (o.getD i 0),iv 0]) w'):Cl prog 212 #[pt b,nv i] w K:=by
 refine Tz212 ?_;unfold Vz212;have H0:=H;obtain⟨hl,ov,H0⟩:=Zmf H0
 repeat (first|(with_reducible first|refine Zab ?_|refine r_vf ?_))
 refine Za2 (λx w'=>w=w'/\x=.bool false) ?_ ?_
 ·rintro _ _ _ ⟨rfl,rfl⟩;refine r_vf ?_;refine touch_spec H hi λw2 S2 H2=>?_;exact k _ S2 H2
 ·repeat (first|refine r_ld 0 H0 rfl rfl ?_|refine r_nc ?_|refine r_fo0 ?_|refine r_lss ?_|((with_reducible refine r_vfD ?h ?_);(case h=>omega)))
  refine r_lnM 1 H0 rfl ?_
  repeat (first|refine r_ke ?_|refine r_geq ?_)
  exact⟨rfl,by rw[decide_eq_false (by omega)]⟩
end F06
namespace U05
open Go.M01 Go.Mb Go.Mp Go.Mz Rb
variable {w:World}{L:List HProp}{K:KT}{b r:Nat}{B:List UInt8}{d at_ n:Nat}
abbrev tT:Nat:=139
theorem Ya5 {j:Nat}(h:j < 256):(Value.int .u8 (j:Int))=bv (UInt8.ofNat j):=by
 unfold bv;rw[UInt8.toNat_ofNat_of_lt' (by simpa using h)]
theorem sg_bv (c:UInt8):sg (bv c)=true:=rfl
theorem Zct {p:Nat->Bool}{j:Nat}:(List.range (j+1)).filter p=(List.range j).filter p++if p j then [j] else []:=by
 rw[range_succ,filter_append,filter_cons,filter_nil]
theorem Zyv {q:List Bool}{n i:Nat}(hq:q.length=n) (hi:i < n):(valB q).testBit (n - 1 - i)=q.getD i false:=by
 have h1:bitsOf (valB q) n=q:=M10.valB_inj (n:=n) (Za1 _ _) hq (M10.valB_bitsOf _ _ (by rw[<-hq];exact Zb1 q));have h2:=Mb.bitsOf_get (valB q) n i hi;rw[h1] at h2;rw[gB,h2];rfl
theorem Zl0 {q:List Bool}(H:Holds w L) (hq:q.length=16) (k:∀ v w',Same w w'->Holds w' (SL nv tI v (marksL q)::L)->K v w'):Cl prog 257 #[uv (valB q)] w K:=by
 refine Tz257 ?_;unfold Vz257
 have hv:valB q < 65536:=by have:=Zb1 q;rw[hq] at this;exact this
 refine Za7 (λo x w'=>∃ i:Nat,i<=16/\x=nv i/\Same w w'/\Holds w' (SL nv tI o ((List.range i).filter λi=>q.getD i false)::L)) (λ_ x _=>16 - (intOf x).toNat) ⟨0,by omega,rfl,.refl w,H.nilSL nv tI⟩ ?_;clear H;rintro _ o _ w1 ⟨i,hi,rfl,S,H⟩
 repeat (refine r_lss ?_)
 refine r_ifD (λh=>?_) λh=>?_
 ·have hlt:i < 16:=by omega
  have hfl:((List.range i).filter λi=>q.getD i false).length<=16:=Nat.le_trans (List.length_filter_le _ _) (by simp;omega)
  repeat (refine r_sub (by omega) (by omega) ?_)
  rw[show (15:Int) - (i:Int)=((15 - i:Nat):Int) by omega];refine Zex (show 15 - i<=32 by omega) ?_;have hd:valB q/2^(15 - i)<=valB q:=Nat.div_le_self _ _;refine Zl5 (t:=1) (by omega) (by omega) ?_;have hb:=Zyv hq hlt;rw[show 16 - 1 - i=15 - i by omega] at hb;rw[Znp,hb]
  cases hc:q.getD i false with
  |true=>
   refine r_eql (r_vtE rfl ?_);refine Zam H 0 rfl i sg_nv (by omega) λv' w2 S2 H2=>?_;rw[gJ] at H2
   repeat (first|refine r_ke ?_|(refine Za0 (by omega) ?_))
   refine⟨⟨i+1,by omega,rfl,S.trans S2,?_⟩,?_⟩
   ·rw[Zct,hc];exact H2
   ·simp[nv,intOf];omega
  |false=>
   refine r_eql (r_vfE (by decide) ?_)
   repeat (first|refine r_ke ?_|(refine Za0 (by omega) ?_))
   refine⟨⟨i+1,by omega,rfl,S,?_⟩,?_⟩
   ·rw[Zct,hc];simp only[Bool.false_eq_true,if_false,gU];exact H
   ·simp[nv,intOf];omega
 ·obtain rfl:i=16:=by omega
  exact k _ _ S H
theorem Zim {T:Nat->Bool}(H:Holds w L) (k:∀ w',Same w w'->Holds w' L->K (S_ (listed T)) w'):Cl prog 88 #[.agg ((boolsT T).map Value.bool).toArray] w K:=by
 refine Tz88 ?_;unfold Vz88;refine r_new H λb1 w1 S1 H1=>?_
 have hlen:((boolsT T).map Value.bool).length=256:=by rw[hS_,Zbv]
 have hcells:(Value.agg ((boolsT T).map Value.bool).toArray).cells.toList=(boolsT T).map Value.bool:=by simp[Value.cells]
 rw[hcells] at H1;refine r_ldA 0 H1 ((boolsT T).map Value.bool) rfl (by rw[drop_zero,gK (by omega)]) hlen ?_;refine Za7 (λo x w'=>∃ i:Nat,i<=256/\x=nv i/\Same w w'/\Holds w' (SL bv tB o (((List.range i).filter T).map UInt8.ofNat)::L)) (λ_ x _=>256 - (intOf x).toNat) ⟨0,by omega,rfl,S1,(H1.drop).nilSL bv tB⟩ ?_;clear H H1 S1;rintro _ o _ w1 ⟨i,hi,rfl,S,H⟩
 repeat (refine r_lss ?_)
 refine r_ifD (λh=>?_) λh=>?_
 ·have hlt:i < 256:=by omega
  have hfl:(((List.range i).filter T).map UInt8.ofNat).length<=256:=by
   rw[hS_];exact Nat.le_trans (List.length_filter_le _ _) (by simp;omega)
  refine Zoh (.bool (T i)) (by omega) (by omega) (by rw[gC,hV_,Zth T hlt];rfl) ?_
  cases hc:T i with
  |true=>
   refine r_vt ?_
   repeat (refine Zey (by omega) (by omega) ?_)
   rw[Ya5 hlt];refine Zam H 0 rfl (UInt8.ofNat i) sg_bv (by omega) λv' w2 S2 H2=>?_;rw[gJ] at H2
   repeat (first|refine r_ke ?_|(refine Za0 (by omega) ?_))
   refine⟨⟨i+1,by omega,rfl,S.trans S2,?_⟩,?_⟩
   ·rw[Zct,hc,if_pos rfl,map_append];exact H2
   ·simp[nv,intOf];omega
  |false=>
   refine r_vf ?_
   repeat (first|refine r_ke ?_|(refine Za0 (by omega) ?_))
   refine⟨⟨i+1,by omega,rfl,S,?_⟩,?_⟩
   ·rw[Zct,hc];simp only[Bool.false_eq_true,if_false,gU];exact H
   ·simp[nv,intOf];omega
 ·obtain rfl:i=256:=by omega
  obtain⟨oa,sp,rfl,H2⟩:=H.open 0 rfl;refine r_cbs H2 0 rfl rfl ?_;exact k _ S H.drop
theorem Zwd (H:Holds w (RdR r B d at_::L))
  (ks:uread (rest B at_)=.short->∀ q w',Same w w'->Holds w' (RdR r B d q::L)->K (.tuple #[S_ [],iv 3]) w')
  (kb:uread (rest B at_)=.bad 25->∀ q w',Same w w'->Holds w' (RdR r B d q::L)->K (.tuple #[S_ [],iv 25]) w')
  (k:∀ T n,uread (rest B at_)=.ok T n->listed T≠[]->∀ w',Same w w'->Holds w' (RdR r B d (at_+n)::L)->K (.tuple #[S_ (listed T),iv 0]) w'):Cl prog 240 #[pt r] w K:=by
 refine Tz240 ?_;unfold Vz240;refine Get_spec (n:=16) H (by omega) (λhs w2 S2 H2=>?_) λhs w2 S2 H2=>?_
 ·repeat (first|refine r_neq ?_|(with_reducible first|refine Za4 ?_|refine Za3 ?_)|((with_reducible refine r_vtN ?h ?_);(case h=>omega)))
  exact ks (by unfold uread;rw[if_pos hs]) _ _ S2 H2
 clear H
 have S:=S2;have H:=H2;clear S2 H2
 repeat (first|refine r_neq ?_|(with_reducible first|refine Za4 ?_|refine Za3 ?_)|((with_reducible refine r_vfN ?h ?_);(case h=>omega)))
 have hz:(zeroP prog tT).cells.toList=(boolsT λ_=>false).map Value.bool:=by rw[Zh4];kernel_rfl
 refine r_new H λbt w3 S3 H3=>?_;rw[hz] at H3;replace S:=S.trans S3;clear H;have H:=H3;clear H3 S3
 have hq:((rest B at_).take 16).length=16:=by rw[gN];omega
 refine Zl0 H hq λmv w3 S3 H3=>?_;replace S:=S.trans S3;clear H;have H:=H3;clear H3 S3;refine r_lnS 0 H rfl ?_;have hml:=Zk3 ((rest B at_).take 16);have hm16:=λi (h:i∈marksL ((rest B at_).take 16))=>Zno h
 have e0:uread (rest B at_)=if (rest B at_).length < 16+16*(marksL ((rest B at_).take 16)).length then .short
   else if listed (usedT (marksL ((rest B at_).take 16)) ((rest B at_).drop 16))=[] then .bad 25
   else .ok (usedT (marksL ((rest B at_).take 16)) ((rest B at_).drop 16)) (16+16*(marksL ((rest B at_).take 16)).length):=by
  unfold uread;rw[if_neg (by omega)]
 generalize marksL ((rest B at_).take 16)=ms at *
 refine Za8 (λx w'=>∃ j:Nat,j<=ms.length/\x=nv j/\16+16*j<=(rest B at_).length/\Same w w'/\Holds w' (SL nv tI mv ms::blk bt tT ([]++((boolsT (usedT (ms.take j) ((rest B at_).drop 16))).map Value.bool++[]))::RdR r B d (at_+16+16*j)::L))
  (λx _=>ms.length - (intOf x).toNat) ⟨0,by omega,rfl,by omega,S,?_⟩ ?_
 ·rw[gU,hO_];exact H
 clear H S;rintro _ _ w4 ⟨j,hj,rfl,hlen,S,H⟩
 repeat (refine r_lss ?_)
 refine r_ifD (λh=>?_) λh=>?_
 ·have hlt:j < ms.length:=by omega
  have hgj:ms[j]?=some ms[j]:=gA hlt;have hi16:=hm16 _ (getElem_mem hlt);refine Za6 0 H rfl hgj ?_;generalize hmi:ms[j]=i at *;have hrl:=Zbm B at_;have hrl2:=Zbm B (at_+16+16*j);refine Get_spec (n:=16) (Holds.front H 2 rfl) (by omega) (λhs w5 S5 H5=>?_) λhs w5 S5 H5=>?_
  ·repeat (first|refine r_neq ?_|(with_reducible first|refine Za4 ?_|refine Za3 ?_)|((with_reducible refine r_vtN ?h ?_);(case h=>omega)))
   refine ks ?_ _ _ (S.trans S5) (Holds.front H5 0 rfl |>.dropAt 1 |>.dropAt 1);rw[e0,if_pos (by omega)]
  ·replace S:=S.trans S5;clear H;have H:=H5;clear H5 S5
   repeat (first|refine r_neq ?_|(with_reducible first|refine Za4 ?_|refine Za3 ?_)|((with_reducible refine r_vfN ?h ?_);(case h=>omega)))
   have hq2:((rest B (at_+16+16*j)).take 16).length=16:=by rw[gN];omega
   refine Zl0 H hq2 λmv2 w5 S5 H5=>?_;replace S:=S.trans S5;clear H;have H:=H5;clear H5 S5;refine r_lnS 0 H rfl ?_;have hml2:=Zk3 ((rest B (at_+16+16*j)).take 16)
   have hmm:∀ b,((rest B at_).drop 16 |>.drop (16*j)).getD (b%16) false=decide (b%16∈marksL ((rest B (at_+16+16*j)).take 16)):=λb=>by
    have hb:b%16 < 16:=Nat.mod_lt _ (by decide);rw[Zc3,Zc3,Bool.eq_iff_iff,decide_eq_true_iff,Zst,gB,gB,hI_ hb];exact⟨λh=>⟨hb,h⟩,λh=>h.2⟩
   generalize hm2:marksL ((rest B (at_+16+16*j)).take 16)=ks2 at *;have hk16:∀ x∈ks2,x < 16:=λx hx=>Zno (by rw[hm2];exact hx)
   refine Za8 (λx w'=>∃ m:Nat,m<=ks2.length/\x=nv m/\Same w w'/\Holds w' (SL nv tI mv2 ks2::RdR r B d (at_+16+16*j+16)::SL nv tI mv ms ::
    blk bt tT ([]++((boolsT λb=>usedT (ms.take j) ((rest B at_).drop 16) b||(decide (b/16=i)&&decide (b%16∈ks2.take m))).map Value.bool++[]))::L)) (λx _=>ks2.length - (intOf x).toNat) ⟨0,by omega,rfl,S,?_⟩ ?_
   ·have:(λb=>usedT (ms.take j) ((rest B at_).drop 16) b||(decide (b/16=i)&&decide (b%16∈ks2.take 0)))=usedT (ms.take j) ((rest B at_).drop 16):=by
     funext b;simp
    rw[this];exact H
   clear H S;rintro _ _ w6 ⟨m,hm,rfl,S,H⟩
   repeat (refine r_lss ?_)
   refine r_ifD (λh=>?_) λh=>?_
   ·have hlt2:m < ks2.length:=by omega
    have hgm:ks2[m]?=some ks2[m]:=gA hlt2;have hk:=hk16 _ (getElem_mem hlt2);refine Za6 0 H rfl hgm ?_;generalize hmk:ks2[m]=kk at *
    repeat (first|refine Zbc ((16*i:Nat):Int) (by omega) (by omega) (by omega) ?_|(refine Zac (by omega) ?_)|(refine Zal (by omega) ?_))
    refine r_st 3 H rfl (by simp[Zbv];omega) rfl λw7 S7 H7=>?_;have e:=Zj4 (f:=Value.bool) (xs:=boolsT λb=>usedT (ms.take j) ((rest B at_).drop 16) b||(decide (b/16=i)&&decide (b%16∈ks2.take m))) (post:=[]) (j:=16*i+kk) [] true (by rw[Zbv];omega);rw[List.length_nil,Zjs] at e;rw[gW,gW,gW,gJ,e] at H7
    have ef:(λb=>(usedT (ms.take j) ((rest B at_).drop 16) b||(decide (b/16=i)&&decide (b%16∈ks2.take m)))||decide (b=16*i+kk))=λb=>usedT (ms.take j) ((rest B at_).drop 16) b||(decide (b/16=i)&&decide (b%16∈ks2.take (m+1))):=by
     funext b
     rw[Bool.or_assoc];refine congrArg (λz=>usedT (ms.take j) ((rest B at_).drop 16) b||z) ?_;rw[Bool.eq_iff_iff];simp only[Bool.or_eq_true,Bool.and_eq_true,decide_eq_true_iff];rw[Zai hgm,hT_,mem_singleton]
     constructor
     ·rintro (⟨h1,h2⟩|h)
      ·exact⟨h1,.inl h2⟩
      ·exact⟨by omega,.inr (by omega)⟩
     ·rintro⟨h1,h2|h2⟩
      ·exact .inl ⟨h1,h2⟩
      ·exact .inr (by omega)
    rw[ef] at H7
    repeat (first|refine r_ke ?_|(refine Za0 (by omega) ?_))
    refine⟨⟨m+1,by omega,rfl,S.trans S7,H7⟩,?_⟩;simp[nv,intOf];omega
   ·obtain rfl:m=ks2.length:=by omega
    repeat (first|refine r_ke ?_|(refine Za0 (by omega) ?_))
    refine⟨⟨j+1,by omega,rfl,by omega,S,?_⟩,?_⟩
    ·have ef:usedT (ms.take (j+1)) ((rest B at_).drop 16)=λb=>usedT (ms.take j) ((rest B at_).drop 16) b||(decide (b/16=i)&&decide (b%16∈ks2.take ks2.length)):=by
      funext b
      rw[Zai hgj,Zgq,gN,Nat.min_eq_left hj,hmm,hF_]
     rw[ef,show at_+16+16*(j+1)=at_+16+16*j+16 by omega];exact (H.drop.front 2 rfl).front 2 rfl
    ·simp[nv,intOf];omega
 ·obtain rfl:j=ms.length:=by omega
  rw[if_neg (by omega)] at e0;rw[hF_] at H;generalize usedT ms ((rest B at_).drop 16)=T at *
  have hlenT:((boolsT T).map Value.bool).length=256:=by rw[hS_,Zbv]
  rw[gU,hO_] at H;refine r_ldA 1 H ((boolsT T).map Value.bool) rfl (by rw[drop_zero,gK (by omega)]) hlenT ?_;refine Zim H λw5 S5 H5=>?_;have H6:Holds w5 (RdR r B d (at_+16+16*ms.length)::L):=H5.drop.drop;rw[hG_] at H6;replace S:=S.trans S5
  have hsz:(⟨(listed T).toArray⟩:ByteArray).size=(listed T).length:=by show (listed T).toArray.size=_;simp
  repeat (refine Zez ?_)
  by_cases hT:listed T=[]
  ·rw[if_pos hT] at e0;rw[decide_eq_true (by rw[hsz,hT];rfl)];exact r_vt (kb e0 _ _ S H6)
  ·rw[if_neg hT] at e0;rw[decide_eq_false (by rw[hsz];exact λh=>hT (eq_nil_of_length_eq_zero h))];exact r_vf (k _ _ e0 hT _ S H6)
theorem Read_spec (H:Holds w (RdR r B d at_::L))
  (ks:uread (rest B at_)=.short->∀ w',Same w w'->Holds w' (RdR r B d at_::L)->K (.tuple #[S_ [],iv 3]) w')
  (kb:uread (rest B at_)=.bad 25->∀ w',Same w w'->Holds w' (RdR r B d at_::L)->K (.tuple #[S_ [],iv 25]) w')
  (k:∀ T n,uread (rest B at_)=.ok T n->listed T≠[]->∀ w',Same w w'->Holds w' (RdR r B d (at_+n)::L)->K (.tuple #[S_ (listed T),iv 0]) w'):Cl prog 210 #[pt r] w K:=by
 refine Tz210 ?_;unfold Vz210;have hf:=(Zag H).1;refine At_spec H ?_;refine Zwd H (λhs q w2 S2 H2=>?_) (λhs q w2 S2 H2=>?_) λT n hs hT w2 S2 H2=>?_
 ·repeat (first|refine r_neq ?_|(with_reducible first|refine Za4 ?_|refine Za3 ?_)|((with_reducible refine r_vtN ?h ?_);(case h=>omega)))
  refine Zdt H2 hf.1 hf.2.1 λw3 S3 H3=>?_;exact ks hs _ (S2.trans S3) H3
 ·repeat (first|refine r_neq ?_|(with_reducible first|refine Za4 ?_|refine Za3 ?_)|((with_reducible refine r_vtN ?h ?_);(case h=>omega)))
  refine Zdt H2 hf.1 hf.2.1 λw3 S3 H3=>?_;exact kb hs _ (S2.trans S3) H3
 ·repeat (first|refine r_neq ?_|(with_reducible first|refine Za4 ?_|refine Za3 ?_)|((with_reducible refine r_vfN ?h ?_);(case h=>omega)))
  exact k T n hs hT _ S2 H2
end U05
namespace B20
open Go.M01 Go.Mb Go.Mp Go.M10 Go.Mc Go.Mz Go.Mk Rb
variable {w:World}{L:List HProp}{K:KT}{b rb cb zb mb r:Nat}{B:List UInt8}{d at_ n k:Nat}{s:BS}{x:RS}{lv:Value}
abbrev tBk:Nat:=176
abbrev tRw:Nat:=269
def bkC (rv lv:Value) (s:BS):List Value:=[rv,nv s.room,.bool s.head,uv s.sum,nv s.frm,lv,.bool s.done,iv 0]
def rwC (cb zb mb:Nat) (x:RS):List Value:=[pt cb,pt zb,pt mb,nv x.due,nv x.place]
def rawN (b:Nat) (s:BS) (lv:Value):List HProp:=[blk b tBk (bkC (.pointer none) lv s),SL bv tB lv s.last]
def rawS (b:Nat) (s:BS) (x:RS) (rb cb zb mb:Nat) (lv:Value):List HProp:=
 [blk b tBk (bkC (pt rb) lv s),SL bv tB lv s.last,blk rb tRw (rwC cb zb mb x),C14.CdR cb x.code,Z07.ZrR zb x.zeros,F06.MtR mb x.list]
def RawR (b:Nat) (s:BS):HProp:=match s.row with
 |none=>λh=>∃ lv,Sat (rawN b s lv) h
 |some x=>λh=>∃ rb cb zb mb lv,Sat (rawS b s x rb cb zb mb lv) h
def BkR (b:Nat) (s:BS):HProp:=λh=>s.Ok/\RawR b s h
theorem Zc0 (H:Holds w (BkR b s::L)):s.Ok/\Holds w (RawR b s::L):=Holds.pure H
theorem Zay (h:s.Ok) (H:Holds w (RawR b s::L)):Holds w (BkR b s::L):=Holds.imp H λ_ hh=>⟨h,hh⟩
theorem Raw_openN (hr:s.row=none) (H:Holds w (RawR b s::L)):∃ lv,Holds w (rawN b s lv++L):=by
 unfold RawR at H;rw[hr] at H;obtain⟨lv,H⟩:=Holds.ex H;exact⟨lv,Holds.unpack H⟩
theorem Raw_closeN (hr:s.row=none) (H:Holds w (rawN b s lv++L)):Holds w (RawR b s::L):=by
 unfold RawR;rw[hr];exact Holds.imp (Holds.pack H) λ_ hh=>⟨lv,hh⟩
theorem Raw_openS (hr:s.row=some x) (H:Holds w (RawR b s::L)):∃ rb cb zb mb lv,Holds w (rawS b s x rb cb zb mb lv++L):=by
 unfold RawR at H;rw[hr] at H;obtain⟨rb,H⟩:=Holds.ex H;obtain⟨cb,H⟩:=Holds.ex H;obtain⟨zb,H⟩:=Holds.ex H;obtain⟨mb,H⟩:=Holds.ex H;obtain⟨lv,H⟩:=Holds.ex H;exact⟨rb,cb,zb,mb,lv,Holds.unpack H⟩
theorem Raw_closeS (hr:s.row=some x) (H:Holds w (rawS b s x rb cb zb mb lv++L)):Holds w (RawR b s::L):=by
 unfold RawR;rw[hr];exact Holds.imp (Holds.pack H) λ_ hh=>⟨rb,cb,zb,mb,lv,hh⟩
def AfterB (y:Res BS) (b:Nat) (s:BS) (r:Nat) (B:List UInt8) (d at_:Nat) (L:List HProp) (e:Int) (w:World):Prop:=
 match y with
 |.short=>e=3/\Holds w (BkR b s::RdR r B d at_::L)
 |.bad c=>e=(c:Int)/\∃ q v1 v2 v3 v4 v5 v6,Holds w (blk b tBk [v1,v2,v3,v4,v5,v6,.bool false,iv 0]::RdR r B d q::L)
 |.ok s' n=>e=0/\Holds w (BkR b s'::RdR r B d (at_+n)::L)
theorem szT (T:Nat->Bool):(⟨(listed T).toArray⟩:ByteArray).size=(listed T).length:=by show (listed T).toArray.size=_;simp
theorem Zu6 {T:Nat->Bool}{room:Nat}(H:Holds w L) (hT:listed T≠[]) (hr:room<=900000)
  (k:∀ rb cb zb mb w',Same w w'->Holds w' (blk rb tRw (rwC cb zb mb (rowOf T room))::C14.CdR cb (rowOf T room).code::Z07.ZrR zb (rowOf T room).zeros::F06.MtR mb (rowOf T room).list::L)->K (pt rb) w'):Cl prog 211 #[S_ (listed T),nv room] w K:=by
 refine Tz211 ?_;unfold Vz211;have hl:=Zbf T;have hl0:0 < (listed T).length:=gZ.2 hT;refine r_lns ?_;rw[szT];refine Zac (b:=2) (by omega) ?_;refine C14.NewReader_spec H (by omega) (by omega) λcb w1 S1 H1=>?_;refine Za4 (Za3 (r_lns ?_));rw[szT];refine Z07.NewReader_spec H1 hl0 hl hr λzb w2 S2 H2=>?_;refine Za4 (Za3 ?_);refine F06.New_spec H2 hT λmb w3 S3 H3=>?_;refine Za4 (Za3 ?_);refine r_bd (v:=.agg #[pt cb,pt zb,pt mb,nv 0,nv 0]) (by kernel_rfl) ?_;refine r_new H3 λrb w4 S4 H4=>?_;replace H4:Holds w4 (blk rb tRw [pt cb,pt zb,pt mb,nv 0,nv 0]::F06.MtR mb (listed T)::Z07.ZrR zb (z0 (listed T).length room)::C14.CdR cb (c0 ((listed T).length+2))::L):=H4;exact k rb cb zb mb _ (((S1.trans S2).trans S3).trans S4) (by have h_:=Holds.ord 4 [0,3,2,1] H4 rfl;exact h_)
theorem Zko (H:Holds w L) (i:Nat) (hi:L[i]?=some (blk rb tRw (rwC cb zb mb x))) (k:K (.bool x.waits) w):Cl prog 163 #[pt rb] w K:=by
 refine Tz163 ?_;unfold Vz163;refine Zc4 (r_vt ?_);refine r_nc (r_fo0 ?_);refine r_ld i H hi rfl ?_;refine r_gtr (r_ifD (λh=>?_) λh=>?_)
 ·have e:x.waits=true:=by unfold RS.waits;simp;left;omega
  rw[e] at k;exact k
 ·refine r_nc (r_fo0 ?_);refine r_ld i H hi rfl ?_;refine r_gtr ?_
  have e:x.waits=decide ((0:Int) < (x.place:Int)):=by
   unfold RS.waits;rw[decide_eq_false (by omega),Bool.false_or,Bool.eq_iff_iff,decide_eq_true_iff,decide_eq_true_iff];omega
  rw[e] at k;exact k
theorem Zwr {c:CS}{sy:Nat}(H:Holds w (blk rb tRw (rwC cb zb mb x)::Z07.ZrR zb x.zeros::L)) (hs:sy<=x.zeros.n+1) (hd:x.zeros.done=false)
  (kb:zput x.zeros sy=none->∀ w',Same w w'->Holds w' L->K (iv 25) w')
  (k:∀ z d p,zput x.zeros sy=some (z,d,p)->∀ w',Same w w'->Holds w' (blk rb tRw (rwC cb zb mb ⟨c,z,x.list,d,p.toNat⟩)::Z07.ZrR zb z::L)->K (iv 0) w'):Cl prog 214 #[pt rb,nv sy] w K:=by
 refine Tz214 ?_;unfold Vz214;refine r_nc (r_fo0 (r_ld 0 H rfl rfl ?_));refine Z07.Put_spec H.swap hs hd (λhn e w2 he S2 H2=>?_) λz d p hz w2 S2 H2=>?_
 ·refine Zha (Zh2 (Zh0 ?_));refine r_neq (r_vtN he ?_);exact kb hn _ S2 H2.drop
 ·refine Zha (Zh2 (Zh0 ?_));refine r_neq (r_vfN rfl ?_);have S:=S2;have H:=H2.swap;clear H2 S2
  repeat (first|refine r_nc ?_|refine r_fo0 ?_)
  refine r_st 0 H rfl (by simp[rwC]) rfl λw3 S3 H3=>?_;replace H3:Holds w3 (blk rb tRw [pt cb,pt zb,pt mb,nv d,nv x.place]::Z07.ZrR zb z::L):=H3;refine r_max ?_;rw[show max p 0=((p.toNat:Nat):Int) by omega]
  repeat (first|refine r_nc ?_|refine r_fo0 ?_)
  refine r_st 0 H3 rfl (by simp) rfl λw4 S4 H4=>?_;exact k z d p hz _ ((S.trans S3).trans S4) H4
theorem next_spec (H:Holds w (blk rb tRw (rwC cb zb mb x)::F06.MtR mb x.list::L)) (hat:x.at_ < x.list.length) (hdue:x.due<=900000)
  (k:∀ w',Same w w'->Holds w' (blk rb tRw (rwC cb zb mb x.next)::F06.MtR mb x.next.list::L)->K (bv x.byte) w'):Cl prog 164 #[pt rb] w K:=by
 refine Tz164 ?_;unfold Vz164;have S:=Same.refl w;refine Za2 (λy w'=>y=nv x.at_/\Same w w'/\Holds w' (blk rb tRw (rwC cb zb mb x.next)::F06.MtR mb x.list::L)) ?_ ?_
 ·clear H S;rintro _ _ w1 ⟨rfl,S,H⟩;refine r_nc (r_fo0 (r_ld 0 H rfl rfl ?_));refine F06.At_spec H.swap hat λw2 S2 H2=>?_;refine Za4 (Za3 ?_);exact k _ (S.trans S2) H2.swap
 ·refine r_nc (r_fo0 (r_ld 0 H rfl rfl ?_));refine r_gtr (r_ifD (λh=>?_) λh=>?_)
  ·refine r_nc (r_fo0 (r_ld 0 H rfl rfl ?_))
   repeat (first|refine r_nc ?_|refine r_fo0 ?_|(refine Zaa (by omega) (by omega) ?_))
   refine r_st 0 H rfl (by simp[rwC]) rfl λw3 S3 H3=>?_
   repeat (refine r_ke ?_)
   have h0:0 < x.due:=by omega
   refine⟨by unfold RS.at_;rw[if_pos h0];rfl,S.trans S3,?_⟩;rw[rwC,RS.next,if_pos h0];exact H3
  ·refine r_nc (r_fo0 (r_ld 0 H rfl rfl ?_));refine r_nc (r_fo0 ?_);refine r_st 0 H rfl (by simp[rwC]) rfl λw3 S3 H3=>?_
   repeat (refine r_ke ?_)
   have h0:¬ 0 < x.due:=by omega
   refine⟨by unfold RS.at_;rw[if_neg h0],S.trans S3,?_⟩;rw[rwC,RS.next,if_neg h0,show x.due - 1=x.due by omega];exact H3
theorem NewReader_spec {room:Nat}(H:Holds w L) (h1:5<=room) (h2:room<=900000) (k:∀ b w',Same w w'->Holds w' (BkR b (b0 room)::L)->K (.tuple #[pt b,iv 0]) w'):Cl prog 57 #[nv room] w K:=by
 refine Tz57 ?_;unfold Vz57;refine Za2 (λx w'=>w=w'/\x=.bool false) ?_ ?_
 ·rintro _ _ _ ⟨rfl,rfl⟩;refine r_vf ?_;refine r_bd (v:=.agg #[.pointer none,nv room,.bool false,uv 0,nv 0,.slice none 0 0,.bool false,iv 0]) (by kernel_rfl) ?_;refine r_new H λb w2 S2 H2=>?_;refine k b _ S2 (Zay (b0_ok h2) (Raw_closeN (lv:=.slice none 0 0) rfl ?_));exact (H2.nilSL bv tB).swap
 ·repeat (first|refine r_ke ?_|refine r_lss ?_|refine r_gtr ?_|((with_reducible refine r_vfD ?h ?_);(case h=>omega)))
  exact⟨rfl,by rw[decide_eq_false (by omega)]⟩
theorem end_spec (H:Holds w (RawR b s::RdR r B d (at_+n)::L)) (hp:Pre s) (s0:BS) (post:∀ e w',Same w w'->AfterB (bend s n) b s0 r B d at_ L e w'->K (iv e) w'):Cl prog 166 #[pt b] w K:=by
 refine Tz166 ?_;unfold Vz166;have S:=Same.refl w;have hok:=λs' k' (h:bend s n=.ok s' k')=>(Zgi hp h).1
 cases hr:s.row with
 |none=>
  have e0:bend s n=.ok s n:=by unfold bend;rw[hr]
  rw[e0] at post hok;obtain⟨lv,H⟩:=Raw_openN hr H;refine Za2 (λy w'=>w=w'/\y=.bool true) ?_ ?_
  ·rintro _ _ _ ⟨rfl,rfl⟩;refine r_vt ?_;exact post 0 _ S ⟨rfl,Zay (hok _ _ rfl) (Raw_closeN hr H)⟩
  ·unfold rawN at H
   repeat (first|refine r_nc ?_|refine r_fo0 ?_|refine r_ke ?_|(with_reducible first|refine Zjv ?_|refine r_vt ?_)|refine r_ld 0 H rfl rfl ?_)
   exact⟨rfl,rfl⟩
 |some x=>
  obtain⟨rb,cb,zb,mb,lv,H⟩:=Raw_openS hr H
  have e0:bend s n=if x.code.done=false\/x.waits=true then .ok s n else if s.last.length<=s.frm then .bad 23 else .ok ⟨s.room,s.head,s.sum,s.frm,s.row,s.last,true⟩ n:=by
   unfold bend;rw[hr]
  rw[e0] at post hok;unfold rawS at H;have hf:=hp.frm;refine Za2 (λy w'=>w=w'/\y=.bool (!x.code.done||x.waits)) ?_ ?_
  ·rintro _ _ _ ⟨rfl,rfl⟩
   by_cases hc:x.code.done=false\/x.waits=true
   ·rw[if_pos hc] at post hok
    have:(!x.code.done||x.waits)=true:=by
     rcases hc with h|h
     ·rw[h];rfl
     ·rw[h];simp
    rw[this];refine r_vt ?_;exact post 0 _ S ⟨rfl,Zay (hok _ _ rfl) (Raw_closeS hr H)⟩
   ·rw[if_neg hc] at post hok
    have:(!x.code.done||x.waits)=false:=by
     rw[Bool.or_eq_false_iff]
     constructor
     ·cases h:x.code.done with
      |false=>exact absurd (.inl h) hc
      |true=>rfl
     ·cases h:x.waits with
      |false=>rfl
      |true=>exact absurd (.inr h) hc
    rw[this];refine r_vf ?_
    repeat (first|refine r_nc ?_|refine r_fo0 ?_|(refine r_dr H ?_;clear H;intro _ S_ H;replace S:=S.trans S_;clear S_)|refine r_ld 0 H rfl rfl ?_)
    refine r_lnS 1 H rfl ?_
    repeat (refine r_geq ?_)
    refine r_ifD (λh=>?_) λh=>?_
    ·rw[if_pos (by omega)] at post;have H9:=(by have h_:=Holds.ord 7 [0,6] H rfl;exact h_);rw[bkC,hp.done] at H9;exact post 23 _ S ⟨rfl,at_+n,_,_,_,_,_,_,H9⟩
    ·rw[if_neg (by omega)] at post hok
     repeat (first|refine r_nc ?_|refine r_fo0 ?_)
     refine r_st 0 H rfl (by simp[bkC]) rfl λw3 S3 H3=>?_;exact post 0 _ (S.trans S3) ⟨rfl,Zay (hok _ _ rfl) (Raw_closeS (s:=⟨s.room,s.head,s.sum,s.frm,s.row,s.last,true⟩) hr H3)⟩
  ·repeat (first|refine r_nc ?_|refine r_fo0 ?_|(with_reducible first|refine Zab ?_|refine r_vf ?_)|refine r_ld 0 H rfl rfl ?_|refine r_ld 2 H rfl rfl ?_)
   have H2:Holds w (C14.CdR cb x.code::blk b tBk (bkC (pt rb) lv s)::SL bv tB lv s.last::blk rb tRw (rwC cb zb mb x)::Z07.ZrR zb x.zeros::F06.MtR mb x.list::RdR r B d (at_+n)::L):=(by have h_:=Holds.ord 7 [3,0,1,2,4,5,6] H rfl;exact h_);refine C14.Done_spec H2 ?_
   cases hcd:x.code.done with
   |false=>
    refine Zbo (r_vt ?_)
    repeat (refine r_ke ?_)
    exact⟨rfl,rfl⟩
   |true=>
    refine Zak (r_vf ?_)
    repeat (first|refine r_nc ?_|refine r_fo0 ?_|refine r_ld 0 H rfl rfl ?_)
    refine Zko H 2 rfl ?_
    repeat (refine r_ke ?_)
    exact⟨rfl,by simp⟩
def Mid (y:Res BS) (b:Nat) (s:BS) (r:Nat) (B:List UInt8) (d at_:Nat) (L:List HProp) (v:Value) (w:World):Prop:=
 (∃ e:Int,v=iv e/\e≠0/\AfterB y b s r B d at_ L e w)\/(v=iv 0/\∃ s' n,y=bend s' n/\Pre s'/\Holds w (RawR b s'::RdR r B d (at_+n)::L))
theorem begin_spec (H:Holds w (BkR b s::RdR r B d at_::L)) (hh:s.head=false) (post:∀ v w',Same w w'->Mid (bstep s (rest B at_)) b s r B d at_ L v w'->K v w') :
  Cl prog 161 #[pt b,pt r] w K:=by
 refine Tz161 ?_;unfold Vz161;obtain⟨hs,H⟩:=Zc0 H;have hrow:=(Zfo (s:=0) (f:=0) hs hh (by omega) (by omega)).1;obtain⟨lv,H⟩:=Raw_openN hrow H
 have e0:bstep s (rest B at_)=bhead s (rest B at_):=by unfold bstep;rw[if_pos hh]
 rw[e0] at post;have hrl:=Zbm B at_;have H1:Holds w (RdR r B d at_::blk b tBk (bkC (.pointer none) lv s)::SL bv tB lv s.last::L):=(by have h_:=Holds.ord 3 [2,0,1] H rfl;exact h_);clear H;refine Zg3 H1 λw2 S2 H2=>?_;have S:=S2;have H:=H2;clear H1 H2 S2;refine r_lss (r_ifD (λh=>?_) λh=>?_)
 ·refine post _ _ S (.inl ⟨3,rfl,by decide,?_⟩);unfold bhead;rw[if_pos (by omega)];exact⟨rfl,Zay hs (Raw_closeN hrow (by have h_:=Holds.ord 3 [1,2,0] H rfl;exact h_))⟩
 ·have h57:¬ (rest B at_).length < 57:=by omega
  have h32:=Zbm B (at_+32);have h33:=Zbm B (at_+32+1);refine Get_spec (n:=32) H (by omega) (λhx=>absurd hx (by omega)) λ_ w3 S3 H3=>?_;refine Za4 (Za3 ?_);refine Ze7 H3 (λhx=>?_) λc hc w4 S4 H4=>?_
  ·have:=(List.getElem?_eq_none_iff.1 hx);omega
  refine Za4 (Za3 ?_);refine Get_spec (n:=24) H4 (by omega) (λhx=>absurd hx (by omega)) λ_ w5 S5 H5=>?_;refine Za4 (Za3 ?_);replace S:=((S.trans S3).trans S4).trans S5;clear H H3 H4;have H:=H5;clear H5;have hv1:=Zae (rest B at_) 32;have hv2:=Zae (rest B (at_+32+1)) 24;have e1:(rest B at_).drop 33=rest B (at_+32+1):=Zc3 B at_ 33
  have e2:valB (((rest B at_).drop 32).take 1)=c.toNat:=by
   rw[Zc3,Zai (n:=0) hc,take_zero,hO_,Zgb]
  have eh:bhead s (rest B at_)=if c.toNat=1 then .bad 25 else bend ⟨s.room,true,valB ((rest B at_).take 32),valB ((rest B (at_+32+1)).take 24),s.row,s.last,s.done⟩ 57:=by
   unfold bhead;rw[if_neg h57,e1,e2]
  rw[eh] at post;have hpre:=(Zfo (s:=valB ((rest B at_).take 32)) (f:=valB ((rest B (at_+32+1)).take 24)) hs hh (by omega) (by omega)).2;generalize valB ((rest B at_).take 32)=sm at *;generalize valB ((rest B (at_+32+1)).take 24)=fm at *;refine r_nc (r_fo0 ?_);refine r_st 1 H rfl (by simp[bkC]) rfl λw3 S3 H3=>?_;replace H3:Holds w3 (RdR r B d (at_+32+1+24)::blk b tBk [.pointer none,nv s.room,.bool true,uv s.sum,nv s.frm,lv,.bool s.done,iv 0]::SL bv tB lv s.last::L):=H3;refine r_nc (r_fo0 ?_);refine r_st 1 H3 rfl (by simp) rfl λw4 S4 H4=>?_;replace H4:Holds w4 (RdR r B d (at_+32+1+24)::blk b tBk [.pointer none,nv s.room,.bool true,uv sm,nv s.frm,lv,.bool s.done,iv 0]::SL bv tB lv s.last::L):=H4;refine Zcv (by omega) (by omega) ?_;refine r_nc (r_fo0 ?_);refine r_st 1 H4 rfl (by simp) rfl λw5 S5 H5=>?_;replace H5:Holds w5 (RdR r B d (at_+32+1+24)::blk b tBk [.pointer none,nv s.room,.bool true,uv sm,nv fm,lv,.bool s.done,iv 0]::SL bv tB lv s.last::L):=H5;replace S:=((S.trans S3).trans S4).trans S5;refine r_eql (r_ifE (λh=>?_) λh=>?_)
  ·rw[if_pos (by omega)] at post;rw[(hs.none_ hrow).2] at H5;exact post _ _ S (.inl ⟨25,rfl,by decide,rfl,_,_,_,_,_,_,_,(by have h_:=Holds.ord 3 [1,0] H5 rfl;exact h_)⟩)
  ·rw[if_neg (by omega)] at post;exact post _ _ S (.inr ⟨rfl,_,_,rfl,hpre,Raw_closeN hrow (by have h_:=Holds.ord 3 [1,2,0] H5 rfl;exact h_)⟩)
theorem Zob (H:Holds w (BkR b s::RdR r B d at_::L)) (hh:s.head=true) (hrow:s.row=none) (post:∀ v w',Same w w'->Mid (bstep s (rest B at_)) b s r B d at_ L v w'->K v w') :
  Cl prog 162 #[pt b,pt r] w K:=by
 refine Tz162 ?_;unfold Vz162;obtain⟨hs,H⟩:=Zc0 H;obtain⟨lv,H⟩:=Raw_openN hrow H
 have e0:bstep s (rest B at_)=buse s (uread (rest B at_)):=by unfold bstep;rw[if_neg (by rw[hh];decide),hrow]
 rw[e0] at post;have H1:Holds w (RdR r B d at_::blk b tBk (bkC (.pointer none) lv s)::SL bv tB lv s.last::L):=(by have h_:=Holds.ord 3 [2,0,1] H rfl;exact h_);clear H;have hroom:=hs.room;refine U05.Read_spec H1 (λhx w2 S2 H2=>?_) (λhx w2 S2 H2=>?_) λT n hx hT w2 S2 H2=>?_
 ·rw[hx] at post;refine Za4 (Za3 (r_eql (r_vfE (by decide) ?_)));exact post _ _ S2 (.inl ⟨3,rfl,by decide,rfl,Zay hs (Raw_closeN hrow (by have h_:=Holds.ord 3 [1,2,0] H2 rfl;exact h_))⟩)
 ·rw[hx] at post;refine Za4 (Za3 (r_eql (r_vfE (by decide) ?_)));rw[bkC,(hs.none_ hrow).2] at H2;exact post _ _ S2 (.inl ⟨25,rfl,by decide,rfl,_,_,_,_,_,_,_,(by have h_:=Holds.ord 3 [1,0] H2 rfl;exact h_)⟩)
 ·rw[hx] at post;refine Za4 (Za3 (r_eql (r_vtE rfl ?_)));refine r_nc (r_fo0 (r_ld 1 H2 rfl rfl ?_));refine Zu6 H2 hT hroom λrb cb zb mb w3 S3 H3=>?_;refine r_nc (r_fo0 ?_);refine r_st 5 H3 rfl (by simp[bkC]) rfl λw4 S4 H4=>?_;replace H4:Holds w4 (blk rb tRw (rwC cb zb mb (rowOf T s.room))::C14.CdR cb (rowOf T s.room).code::Z07.ZrR zb (rowOf T s.room).zeros::F06.MtR mb (rowOf T s.room).list::RdR r B d (at_+n)::blk b tBk (bkC (pt rb) lv s)::SL bv tB lv s.last::L):=H4;refine post _ _ ((S2.trans S3).trans S4) (.inr ⟨rfl,_,_,rfl,Zye hs hh hrow hT,Raw_closeS (rb:=rb) (cb:=cb) (zb:=zb) (mb:=mb) (lv:=lv) rfl ?_⟩);exact (by have h_:=Holds.ord 7 [5,6,0,1,2,3,4] H4 rfl;exact h_)
theorem symbol_spec (H:Holds w (BkR b s::RdR r B d at_::L)) (hd:s.done=false) (hh:s.head=true) (hrow:s.row=some x) (hw:x.waits=false) (post:∀ v w',Same w w'->Mid (bstep s (rest B at_)) b s r B d at_ L v w'->K v w') :
  Cl prog 165 #[pt b,pt r] w K:=by
 refine Tz165 ?_;unfold Vz165;obtain⟨hs,H⟩:=Zc0 H;obtain⟨rb,cb,zb,mb,lv,H⟩:=Raw_openS hrow H
 have e0:bstep s (rest B at_)=bsym s x (cstep x.code (rest B at_)):=by unfold bstep;rw[if_neg (by rw[hh];decide),hrow];simp only;rw[if_neg (by rw[hw];decide)]
 rw[e0] at post;have hcd:=Zzu hs hd hrow hw;obtain⟨g1,g2,g3,g4,g5⟩:=hs.some_ x hrow;unfold rawS at H;refine r_nc (r_fo0 (r_ld 0 H rfl rfl ?_));refine r_nc (r_fo0 (r_ld 2 H rfl rfl ?_));have H1:Holds w (C14.CdR cb x.code::RdR r B d at_::blk b tBk (bkC (pt rb) lv s)::SL bv tB lv s.last::blk rb tRw (rwC cb zb mb x)::Z07.ZrR zb x.zeros::F06.MtR mb x.list::L):=(by have h_:=Holds.ord 7 [3,6,0,1,2,4,5] H rfl;exact h_);refine C14.Step_spec H1 hcd λv w2 S2 hA=>?_;clear H1 H
 cases hx:cstep x.code (rest B at_) with
 |short=>
  rw[hx] at hA post;obtain⟨rfl,H⟩:=hA;refine Za4 (Za3 ?_);refine Za2 (λy w'=>w2=w'/\y=.bool true) ?_ ?_
  ·rintro _ _ _ ⟨rfl,rfl⟩;refine r_vt ?_;exact post _ _ S2 (.inl ⟨3,rfl,by decide,rfl,Zay hs (Raw_closeS (rb:=rb) (cb:=cb) (zb:=zb) (mb:=mb) (lv:=lv) hrow (by have h_:=Holds.ord 7 [2,3,4,0,5,6,1] H rfl;exact h_))⟩)
  ·refine r_neq (r_vtN (by decide) ?_)
   repeat (refine r_ke ?_)
   exact⟨rfl,rfl⟩
 |bad c=>
  have hcb:=Zjd hx
  have hc0:(c:Int)≠0:=by omega
  rw[hx] at hA post;obtain⟨rfl,q,H⟩:=hA;refine Za4 (Za3 ?_);refine Za2 (λy w'=>w2=w'/\y=.bool true) ?_ ?_
  ·rintro _ _ _ ⟨rfl,rfl⟩;refine r_vt ?_;rw[bkC,hd] at H;exact post _ _ S2 (.inl ⟨c,rfl,hc0,rfl,q,_,_,_,_,_,_,(by have h_:=Holds.ord 6 [1,0] H rfl;exact h_)⟩)
  ·refine r_neq (r_vtN hc0 ?_)
   repeat (refine r_ke ?_)
   exact⟨rfl,rfl⟩
 |ok y k=>
  obtain⟨c,o⟩:=y;rw[hx] at hA post;obtain⟨rfl,H⟩:=hA;refine Za4 (Za3 ?_)
  cases o with
  |none=>
   refine Za2 (λy w'=>w2=w'/\y=.bool true) ?_ ?_
   ·rintro _ _ _ ⟨rfl,rfl⟩;refine r_vt ?_;refine post _ _ S2 (.inr ⟨rfl,_,_,rfl,Zxr hs hd hrow hx,Raw_closeS (rb:=rb) (cb:=cb) (zb:=zb) (mb:=mb) (lv:=lv) rfl ?_⟩);exact (by have h_:=Holds.ord 7 [2,3,4,0,5,6,1] H rfl;exact h_)
   ·refine r_neq (r_vfN rfl ?_);refine r_lss (r_ke ?_);exact⟨rfl,rfl⟩
  |some sy=>
   have hsy:=(Zdr hx g2.code).2.2 sy rfl;have hsz:=g2.size;refine Za2 (λy w'=>w2=w'/\y=.bool false) ?_ ?_
   ·rintro _ _ _ ⟨rfl,rfl⟩;refine r_vf ?_;refine r_nc (r_fo0 (r_ld 2 H rfl rfl ?_));have H1:Holds w2 (blk rb tRw (rwC cb zb mb x)::Z07.ZrR zb x.zeros::C14.CdR cb c::RdR r B d (at_+k)::blk b tBk (bkC (pt rb) lv s)::SL bv tB lv s.last::F06.MtR mb x.list::L):=(by have h_:=Holds.ord 7 [4,5,0,1,2,3,6] H rfl;exact h_);refine Zwr (c:=c) H1 (by omega) (by rw[g2.zd];exact hcd) (λhn w3 S3 H3=>?_) λz dd p hz w3 S3 H3=>?_
    ·have e1:bsym s x (.ok (c,some sy) k)=.bad 25:=by show btold s x c sy k=_;unfold btold;rw[hn]
     rw[e1] at post;rw[bkC,hd] at H3;exact post _ _ (S2.trans S3) (.inl ⟨25,rfl,by decide,rfl,_,_,_,_,_,_,_,(by have h_:=Holds.ord 5 [2,1] H3 rfl;exact h_)⟩)
    ·refine post _ _ (S2.trans S3) (.inr ⟨rfl,⟨s.room,s.head,s.sum,s.frm,some ⟨c,z,x.list,dd,p.toNat⟩,s.last,s.done⟩,k,?_,Zri hs hd hrow hw hx hz,Raw_closeS (rb:=rb) (cb:=cb) (zb:=zb) (mb:=mb) (lv:=lv) rfl ?_⟩)
     ·show btold s x c sy k=_;unfold btold;rw[hz]
     ·exact (by have h_:=Holds.ord 7 [4,5,0,2,1,6,3] H3 rfl;exact h_)
   ·refine r_neq (r_vfN rfl ?_);refine r_lss (r_ke ?_);exact⟨rfl,by rw[decide_eq_false (by omega)]⟩
theorem step_spec (H:Holds w (BkR b s::RdR r B d at_::L)) (hd:s.done=false) (post:∀ e w',Same w w'->AfterB (bstep s (rest B at_)) b s r B d at_ L e w'->K (iv e) w') :
  Cl prog 115 #[pt b,pt r] w K:=by
 refine Tz115 ?_;unfold Vz115;refine Za2 (λv w'=>Same w w'/\Mid (bstep s (rest B at_)) b s r B d at_ L v w') ?_ ?_
 ·rintro _ v w1 ⟨S,⟨e,rfl,he,hA⟩|⟨rfl,s',n,hy,hp,H'⟩⟩
  ·refine r_neq (r_vtN he ?_);exact post e _ S hA
  ·refine r_neq (r_vfN rfl ?_);rw[hy] at post;exact end_spec H' hp s λe w' S' hA=>post e w' (S.trans S') hA
 clear post;have S:=Same.refl w;have hs:=(Zc0 H).1;have hraw:=(Zc0 H).2
 cases hh:s.head with
 |false=>
  have hrow:=(Zfo (s:=0) (f:=0) hs hh (by omega) (by omega)).1;obtain⟨lv,H0⟩:=Raw_openN hrow hraw;refine r_nc (r_fo0 (r_ld 0 H0 rfl rfl ?_));rw[hh];refine Zbo (r_vt ?_);refine begin_spec H hh λv w' S' hA=>?_
  repeat (refine r_ke ?_)
  exact⟨S',hA⟩
 |true=>
  cases hrow:s.row with
  |none=>
   obtain⟨lv,H0⟩:=Raw_openN hrow hraw;refine r_nc (r_fo0 (r_ld 0 H0 rfl rfl ?_));rw[hh];refine Zak (r_vf ?_);refine r_nc (r_fo0 (r_ld 0 H0 rfl rfl ?_));refine Zjv (r_vt ?_);refine Zob H hh hrow λv w' S' hA=>?_
   repeat (refine r_ke ?_)
   exact⟨S',hA⟩
  |some x=>
   obtain⟨rb,cb,zb,mb,lv,H0⟩:=Raw_openS hrow hraw;refine r_nc (r_fo0 (r_ld 0 H0 rfl rfl ?_));rw[hh];refine Zak (r_vf ?_);refine r_nc (r_fo0 (r_ld 0 H0 rfl rfl ?_));refine Zab (r_vf ?_);refine r_nc (r_fo0 (r_ld 0 H0 rfl rfl ?_));refine Zko H0 2 rfl ?_
   cases hw:x.waits with
   |false=>
    refine r_vf ?_;refine symbol_spec H hd hh hrow hw λv w' S' hA=>?_
    repeat (refine r_ke ?_)
    exact⟨S',hA⟩
   |true=>
    refine r_vt ?_;obtain⟨g1,g2,g3,g4,g5⟩:=hs.some_ x hrow;have hzs:=g2.zeros.sum;have hzm:=g2.zeros.most
    have hat:x.at_ < x.list.length:=by
     have:=g2.list;have:=g2.place;unfold RS.at_
     split <;> omega
    have hpre:=Zs2 hs hd hrow hw
    have eb:bstep s (rest B at_)=bnext s x:=by unfold bstep;rw[if_neg (by rw[hh];decide),hrow];simp only;rw[if_pos hw]
    clear H hraw;have H:=H0;clear H0;unfold rawS at H
    repeat (first|refine r_nc ?_|refine r_fo0 ?_|(refine r_dr H ?_;clear H;intro _ S_ H;replace S:=S.trans S_;clear S_)|refine r_ld 0 H rfl rfl ?_)
    have H1:Holds _ (blk rb tRw (rwC cb zb mb x)::F06.MtR mb x.list::blk b tBk (bkC (pt rb) lv s)::SL bv tB lv s.last::C14.CdR cb x.code::Z07.ZrR zb x.zeros::RdR r B d at_::L):=(by have h_:=Holds.ord 7 [2,5,0,1,3,4,6] H rfl;exact h_);refine next_spec H1 hat (by omega) λw3 S3 H3=>?_;refine r_rk (r_ld 2 H3 rfl rfl rfl) ?_;refine Zow H3 3 (f:=bv) (xs:=s.last) rfl x.byte (λ_=>rfl) (by omega) (λw' H'=>r_ld 2 H' rfl rfl rfl) λlv' w4 S4 H4=>?_;replace H4:Holds w4 (blk rb tRw (rwC cb zb mb x.next)::F06.MtR mb x.next.list::blk b tBk (bkC (pt rb) lv s)::SL bv tB lv' (s.last++[x.byte])::C14.CdR cb x.code::Z07.ZrR zb x.zeros::RdR r B d at_::L):=H4;refine r_nc (r_fo0 ?_);refine r_st 2 H4 rfl (by simp[bkC]) (SL_sg H4 3 rfl) λw5 S5 H5=>?_;replace H5:Holds w5 (blk rb tRw (rwC cb zb mb x.next)::F06.MtR mb x.next.list::blk b tBk (bkC (pt rb) lv' s)::SL bv tB lv' (s.last++[x.byte])::C14.CdR cb x.code::Z07.ZrR zb x.zeros::RdR r B d at_::L):=H5
    repeat (refine r_ke ?_)
    refine⟨((S.trans S3).trans S4).trans S5,.inr ⟨rfl,⟨s.room,s.head,s.sum,s.frm,some x.next,s.last++[x.byte],s.done⟩,0,by rw[eb];rfl,hpre,Raw_closeS (rb:=rb) (cb:=cb) (zb:=zb) (mb:=mb) (lv:=lv') rfl ?_⟩⟩;exact (by have h_:=Holds.ord 7 [2,3,0,4,5,1,6] H5 rfl;exact h_)
def BadB (b e:Nat):HProp:=λh=>∃ v1 v2 v3 v4 v5 v6,blk b tBk [v1,v2,v3,v4,v5,v6,.bool false,nv e] h
def AfterBS (y:Res BS) (b:Nat) (s:BS) (r:Nat) (B:List UInt8) (d at_:Nat) (L:List HProp) (e:Int) (w:World):Prop:=
 match y with
 |.short=>e=3/\Holds w (BkR b s::RdR r B d at_::L)
 |.bad c=>e=(c:Int)/\∃ q,Holds w (BadB b c::RdR r B d q::L)
 |.ok s' n=>e=0/\Holds w (BkR b s'::RdR r B d (at_+n)::L)
theorem Zij (H:Holds w (BkR b s::L)):∃ rv lv L',Holds w (blk b tBk (bkC rv lv s)::L')/\∀ w' v,Holds w' (blk b tBk ((bkC rv lv s).set 7 v)::L')->v=iv 0->Holds w' (BkR b s::L):=by
 obtain⟨hs,H⟩:=Zc0 H
 cases hrow:s.row with
 |none=>
  obtain⟨lv,H⟩:=Raw_openN hrow H;exact⟨_,lv,_,H,λw' v H' hv=>by subst hv;exact Zay hs (Raw_closeN hrow H')⟩
 |some x=>
  obtain⟨rb,cb,zb,mb,lv,H⟩:=Raw_openS hrow H;exact⟨_,lv,_,H,λw' v H' hv=>by subst hv;exact Zay hs (Raw_closeS hrow H')⟩
theorem Step_spec (H:Holds w (BkR b s::RdR r B d at_::L)) (hd:s.done=false) (post:∀ e w',Same w w'->AfterBS (bstep s (rest B at_)) b s r B d at_ L e w'->K (iv e) w') :
  Cl prog 59 #[pt b,pt r] w K:=by
 refine Tz59 ?_;unfold Vz59;obtain⟨rv,lv,L',H0,hback⟩:=Zij H;refine Za2 (λy w'=>w=w'/\y=.bool false) ?_ ?_
 ·rintro _ _ _ ⟨rfl,rfl⟩;refine r_vf ?_;refine r_nc (r_fo0 (r_ld 0 H0 rfl rfl ?_));refine r_neq (r_vfN rfl ?_);refine step_spec H hd λe w2 S2 hA=>?_
  cases hx:bstep s (rest B at_) with
  |short=>
   rw[hx] at hA post;obtain⟨rfl,H'⟩:=hA;refine r_neq (r_vfN rfl ?_);exact post _ _ S2 ⟨rfl,H'⟩
  |bad c=>
   have hcb:=Zfv hx;rw[hx] at hA post;obtain⟨rfl,q,v1,v2,v3,v4,v5,v6,H'⟩:=hA;refine r_neq (r_vtN (by omega) ?_);refine r_nc (r_fo0 ?_);refine r_st 0 H' rfl (by simp) rfl λw5 S5 H5=>?_;exact post _ _ (S2.trans S5) ⟨rfl,q,Holds.imp H5 λ_ hh=>⟨v1,v2,v3,v4,v5,v6,hh⟩⟩
  |ok s' k=>
   rw[hx] at hA post;obtain⟨rfl,H'⟩:=hA;refine r_neq (r_vtN (by decide) ?_);obtain⟨rv,lv,L',H1,hback⟩:=Zij H';refine r_nc (r_fo0 ?_);refine r_st 0 H1 rfl (by simp[bkC]) rfl λw5 S5 H5=>?_;exact post _ _ (S2.trans S5) ⟨rfl,hback _ _ H5 rfl⟩
 ·repeat (first|refine r_ld 0 H0 rfl rfl ?_|refine r_nc ?_|refine r_fo0 ?_|refine r_ke ?_|(with_reducible first|refine Zab ?_|refine r_vf ?_))
  exact⟨rfl,by rw[hd]⟩
theorem Done_spec (H:Holds w (BkR b s::L)) (k:K (.bool s.done) w):Cl prog 58 #[pt b] w K:=by
 refine Tz58 ?_;unfold Vz58;obtain⟨rv,lv,L',H0,_⟩:=Zij H
 repeat (first|refine r_ld 0 H0 rfl rfl ?_|refine r_nc ?_|refine r_fo0 ?_|(with_reducible first|refine Zc4 ?_|refine r_vt ?_))
 exact k
end B20
namespace B20
open Go.M01 Go.Mb Go.Mp Go.M10 Go.Mc Go.Mz Go.Mk Go.Q20 Go.Q23 Rb
variable {w:World}{L:List HProp}{K:KT}{b rb cb zb mb r:Nat}{B:List UInt8}{d at_ n k:Nat}{s:BS}{x:RS}{lv:Value}
abbrev tGt:Nat:=34
abbrev gotV (t:List UInt8) (o u:Nat):List Value:=[S_ t,nv o,uv u]
theorem Zm0:(zeroP prog tGt).cells.toList=gotV [] 0 0:=by kernel_rfl
theorem r_cvb {t e d:TypeId} [hr:Bytes prog t e d] (H:Holds w L) (i:Nat){oa:Option Addr}{xs:List UInt8}{sp:List Value}{l c:Nat}{K:Value->Prop}
  (hi:L[i]?=some (slb bv e oa xs sp)) (hl:l=xs.length) (h:K (.string ⟨xs.toArray⟩)):Cv prog t d (.slice oa l c) w K:=by
 have h0:Cw prog t d (.slice oa l c) w (λv w'=>v=.string ⟨xs.toArray⟩/\w'=w):=r_cbs H i hi hl ⟨rfl,rfl⟩;unfold Cw at h0;obtain⟨v,w',hr,rfl,rfl⟩:=h0;unfold Cv;exact⟨_,hr,h⟩
theorem Zkz (H:Holds w (BkR b s::L)):∃ rv oa c L' sp,Holds w (blk b tBk (bkC rv (.slice oa s.last.length c) s)::slb bv tB oa s.last sp::L')/\(∀ w',Holds w' (blk b tBk (bkC rv (.slice oa s.last.length c) s)::slb bv tB oa s.last sp::L')->Holds w' (BkR b s::L)):=by
 obtain⟨hs,H⟩:=Zc0 H
 have back:∀ {oa:Option Addr} {sp:List Value} {w':World} {rv lv:Value} {L':List HProp},lv=.slice oa s.last.length (s.last.length+sp.length)->Holds w' (blk b tBk (bkC rv lv s)::slb bv tB oa s.last sp::L')->Holds w' (blk b tBk (bkC rv lv s)::SL bv tB lv s.last::L'):=by
  intro oa sp w' rv lv L' he H';subst he;exact H'.close 1 rfl
 cases hrow:s.row with
 |none=>
  obtain⟨lv,H⟩:=Raw_openN hrow H;obtain⟨oa,sp,rfl,H1⟩:=H.open 1 rfl;exact⟨_,oa,_,L,sp,H1,λw' H'=>Zay hs (Raw_closeN hrow (back rfl H'))⟩
 |some x=>
  obtain⟨rb,cb,zb,mb,lv,H⟩:=Raw_openS hrow H;obtain⟨oa,sp,rfl,H1⟩:=H.open 1 rfl;exact⟨_,oa,_,_,sp,H1,λw' H'=>Zay hs (Raw_closeS hrow (back rfl H'))⟩
theorem Zqj (H:Holds w (BkR b s::L)) (hd:s.done=true) (k:∀ w',Same w w'->Holds w' (BkR b s::L)->K (.agg (gotV s.last s.frm s.sum).toArray) w'):Cl prog 61 #[pt b] w K:=by
 refine Tz61 ?_;unfold Vz61;refine r_new H λgb w1 S1 H1=>?_;rw[Zm0] at H1;refine Done_spec H1.swap ?_;rw[hd];refine Zak (r_vf ?_);refine r_dr H1 λw2 S2 H2=>?_;obtain⟨rv,oa,c,L',sp,H3,hback⟩:=Zkz H2.swap;refine r_nc (r_fo0 (r_ld 0 H3 rfl rfl ?_));refine r_cvb H3 1 rfl rfl ?_;refine r_nc (r_fo0 (r_ld 0 H3 rfl rfl ?_));refine r_nc (r_fo0 (r_ld 0 H3 rfl rfl ?_));refine r_bd (v:=.agg (gotV s.last s.frm s.sum).toArray) (by kernel_rfl) ?_;refine r_stA 0 H2 (vs:=gotV s.last s.frm s.sum) rfl (Nat.le_refl 3) rfl rfl λw4 S4 H4=>?_;replace H4:Holds w4 (blk gb tGt (gotV s.last s.frm s.sum)::BkR b s::L):=H4;refine r_ldA 0 H4 (gotV s.last s.frm s.sum) rfl rfl rfl ?_;exact k _ ((S1.trans S2).trans S4) H4.drop
def cellN (w:World) (b i:Nat):Nat:=match w.cell? ⟨b,i,none⟩ with
 |some (.int _ n)=>n.toNat
 |some (.slice _ l _)=>l
 |_=>0
theorem at_of (H:Holds w (RdR r B d at_::L)):cellN w r 2=at_:=by
 obtain⟨_,H⟩:=Zag H;unfold cellN;rw[H.cell 0 rfl 2];rfl
theorem Zq0 (H:Holds w (BkR b s::L)):cellN w b 5=s.last.length:=by
 obtain⟨rv,oa,c,L',sp,H,_⟩:=Zkz H;unfold cellN;rw[H.cell 0 rfl 5];rfl
end B20
namespace P20
open Go.M01 Go.Mb Go.Me Go.M03 Go.M3d
variable {w:World}{L:List HProp}{K:KT}
def RepC:Prop:=∀ {w:World}{L:List HProp}{K:KT}{c:UInt8}{n:Nat},Holds w L->n<=255->(∀ w',Same w w'->Holds w' L->K (S_ (List.replicate n c)) w')->Cl prog 277 #[S_ [c],nv n] w K
theorem Zt4 (hR:RepC){x:UInt8 × Nat}(H:Holds w L) (h:1<=x.2/\x.2<=255) (k:∀ w',Same w w'->Holds w' L->K (S_ (pieceB x)) w'):Cl prog 268 #[.agg (Fpc x).toArray] w K:=by
 refine Tz268 ?_;unfold Vz268;obtain⟨a,n⟩:=x;simp only at h;refine r_new H λb w1 S1 H1=>?_;replace H1:Holds w1 (blk b tPc [bv a,nv n]::L):=H1;refine r_fo0 (r_ld 0 H1 rfl rfl ?_);refine q_str H1 a λw2 S2 H2=>?_;refine r_fo0 (r_ld 0 H2 rfl rfl ?_);refine r_lss (r_ifD (λh4=>?_) λh4=>?_)
 ·refine r_fo0 (r_ld 0 H2 rfl rfl ?_);refine hR H2 (by omega) λw3 S3 H3=>?_;have:=k w3 (S1.trans (S2.trans S3)) H3.drop;unfold pieceB at this;simp only at this;rw[if_neg (by omega),gU,show min n 4=n by omega] at this;exact this
 ·have e:((n:Nat):Int) - 4=(((UInt8.ofNat (n - 4)).toNat:Nat):Int):=by
   simp only[UInt8.toNat_ofNat'];rw[Nat.mod_eq_of_lt (by omega)];omega
  have fin:∀ w',Same w w'->Holds w' L->K (S_ (List.replicate 4 a++[UInt8.ofNat (n - 4)])) w':=λw' S' H'=>by
   have:=k w' S' H';unfold pieceB at this;simp only at this;rw[if_pos (by omega),show min n 4=4 by omega] at this;exact this
  refine r_dr H2 λw5 S5 H5=>?_;refine r_fo0 (r_ld 0 H5 rfl rfl ?_);refine r_sub (by omega) (by omega) ?_;refine Zey (by omega) (by omega) ?_;rw[e];refine⟨?_,?_⟩
  ·refine hR (n:=4) H5 (by decide) λw6 S6 H6=>?_;refine r_rk (r_ld 0 H6 rfl rfl rfl) ?_;refine r_bs1 H6 rfl λb3 w7 S7 H7=>?_;refine B20.r_cvb (sp:=[]) (xs:=[UInt8.ofNat (n - 4)]) (oa:=some ⟨b3,0,none⟩) ((H7.imp λh hh=>(⟨rfl,rfl,hh⟩:(slb bv tB (some ⟨b3,0,none⟩) [UInt8.ofNat (n - 4)] []) h))) 0 rfl rfl ?_;refine Zad (by simp) ?_;exact fin w7 (S1.trans (S2.trans (S5.trans (S6.trans S7)))) H7.drop.drop
  ·refine r_bs1 H5 rfl λb3 w7 S7 H7=>?_;have H8:Holds w7 (slb bv tB (some ⟨b3,0,none⟩) [UInt8.ofNat (n - 4)] []::blk b tPc [bv a,nv n]::L):=H7.imp λh hh=>(⟨rfl,rfl,hh⟩:(slb bv tB (some ⟨b3,0,none⟩) [UInt8.ofNat (n - 4)] []) h);refine B20.r_cvb (sp:=[]) (xs:=[UInt8.ofNat (n - 4)]) H8 0 rfl rfl ?_;refine hR (n:=4) H8 (by decide) λw9 S9 H9=>?_;refine r_rk (B20.r_cvb (sp:=[]) (xs:=[UInt8.ofNat (n - 4)]) H9 0 rfl rfl rfl) ?_;refine r_rk (r_ld 1 H9 rfl rfl rfl) ?_;refine Zad (by simp) ?_;exact fin w9 (S1.trans (S2.trans (S5.trans (S7.trans S9)))) H9.drop.drop
theorem Zj1 (hR:RepC){x:UInt8 × Nat}(H:Holds w L) (h:1<=x.2/\x.2<=255) (k:∀ w',Same w w'->Holds w' L->K (.tuple #[S_ (pieceB x),iv 0]) w'):Cl prog 249 #[.agg (Fpc x).toArray] w K:=by
 refine Tz249 ?_;unfold Vz249;refine r_new H λb w1 S1 H1=>?_;replace H1:Holds w1 (blk b tPc (Fpc x)::L):=H1;refine Za2 (λt w'=>w1=w'/\t=.bool false) ?_ ?_
 rotate_left
 ·refine r_fo0 (r_ld 0 H1 rfl rfl ?_);refine r_lss (r_vfD (by omega) ?_);refine r_fo0 (r_ld 0 H1 rfl rfl ?_);refine r_gtr (r_ke ⟨rfl,?_⟩);rw[decide_eq_false (by omega)]
 rintro _ _ _ ⟨rfl,rfl⟩;refine r_vf ?_;refine r_ldA 0 H1 (Fpc x) rfl rfl rfl ?_;refine Zt4 hR H1 h λw2 S2 H2=>?_;exact k _ (S1.trans S2) H2.drop
theorem Zor {c:UInt8}(H:Holds w L) (k:∀ w',Same w w'->Holds w' L->K (.tuple #[S_ [],iv 1]) w'):Cl prog 249 #[.agg (Fpc (c,0)).toArray] w K:=by
 refine Tz249 ?_;unfold Vz249;refine r_new H λb w1 S1 H1=>?_;replace H1:Holds w1 (blk b tPc (Fpc (c,0))::L):=H1;refine Za2 (λt w'=>w1=w'/\t=.bool true) ?_ ?_
 rotate_left
 ·refine r_fo0 (r_ld 0 H1 rfl rfl ?_);refine r_lss (r_vtD (by show ((0:Nat):Int) < 1;decide) (r_ke ⟨rfl,rfl⟩))
 rintro _ _ _ ⟨rfl,rfl⟩;exact r_vt (k _ S1 H1.drop)
end P20
namespace P20
open Go.M01 Go.Mb Go.Me Go.M03 Go.M3d
variable {w:World}{L:List HProp}{K:KT}{b:Nat}{c:UInt8}{n:Nat}
abbrev tPk:Nat:=276
theorem Zjo (H:Holds w L) (k:∀ b w',Same w w'->Holds w' (blk b tPk (Fpc (0,0))::L)->K (pt b) w'):Cl prog 177 #[] w K:=by
 refine Tz177 ?_;unfold Vz177;refine r_bd (v:=.agg (Fpc (0,0)).toArray) (by kernel_rfl) ?_;refine r_new H λb w1 S1 H1=>?_;exact k b _ S1 H1
theorem Zkd {x:UInt8 × Nat}(H:Holds w (blk b tPk (Fpc x)::L)) (k:∀ w',Same w w'->Holds w' (blk b tPk (Fpc x)::L)->K (.agg (Fpc x).toArray) w'):Cl prog 178 #[pt b] w K:=by
 refine Tz178 ?_;unfold Vz178;refine r_new H λt w1 S1 H1=>?_;rw[Zj8] at H1;refine Zab (r_vf (r_nc (r_fo0 ?_)));refine r_ldA 1 H1 (Fpc x) rfl rfl rfl ?_;refine r_stA 0 H1 (vs:=Fpc x) rfl (Nat.le_refl 2) rfl rfl λw2 S2 H2=>?_;replace H2:Holds w2 (blk t tPc (Fpc x)::blk b tPk (Fpc x)::L):=H2;refine r_ldA 0 H2 (Fpc x) rfl rfl rfl ?_;exact k _ (S1.trans S2) H2.drop
theorem Zh9 (hR:RepC){x:UInt8 × Nat}(H:Holds w (blk b tPk (Fpc x)::L)) (h:1<=x.2/\x.2<=255) (k:∀ w',Same w w'->Holds w' (blk b tPk (Fpc (0,0))::L)->K (S_ (pieceB x)) w'):Cl prog 219 #[pt b] w K:=by
 refine Tz219 ?_;unfold Vz219;refine r_nc (r_fo0 ?_);refine r_ldA 0 H (Fpc x) rfl rfl rfl ?_;refine Zj1 hR H h λw1 S1 H1=>?_;refine Za4 (Za3 ?_);refine r_bd (v:=.agg (Fpc (0,0)).toArray) (by kernel_rfl) ?_;refine r_nc (r_fo0 ?_);refine r_stA 0 H1 (vs:=Fpc (0,0)) rfl (Nat.le_refl 2) rfl rfl λw2 S2 H2=>?_;exact k _ (S1.trans S2) H2
theorem Zmo (H:Holds w (blk b tPk (Fpc (c,0))::L)) (k:∀ w',Same w w'->Holds w' (blk b tPk (Fpc (0,0))::L)->K (S_ []) w'):Cl prog 219 #[pt b] w K:=by
 refine Tz219 ?_;unfold Vz219;refine r_nc (r_fo0 ?_);refine r_ldA 0 H (Fpc (c,0)) rfl rfl rfl ?_;refine Zor H λw1 S1 H1=>?_;refine Za4 (Za3 ?_);refine r_bd (v:=.agg (Fpc (0,0)).toArray) (by kernel_rfl) ?_;refine r_nc (r_fo0 ?_);refine r_stA 0 H1 (vs:=Fpc (0,0)) rfl (Nat.le_refl 2) rfl rfl λw2 S2 H2=>?_;exact k _ (S1.trans S2) H2
theorem Ztj (hR:RepC){x:UInt8 × Nat}(H:Holds w (blk b tPk (Fpc x)::L)) (h:x.2<=255) (k:∀ w',Same w w'->Holds w' (blk b tPk (Fpc (0,0))::L)->K (S_ (if x.2=0 then [] else pieceB x)) w'):Cl prog 181 #[pt b] w K:=by
 refine Tz181 ?_;unfold Vz181;refine Zab (r_vf ?_);obtain⟨c,n⟩:=x;simp only at h k
 by_cases h0:n=0
 ·subst h0;rw[if_pos rfl] at k;exact Zmo H k
 ·rw[if_neg h0] at k;exact Zh9 hR H ⟨by show 1<=n;omega,h⟩ k
theorem Zx0 (hR:RepC){x:UInt8 × Nat}{d:UInt8}(H:Holds w (blk b tPk (Fpc x)::L)) (h:x.2<=200)
  (k:∀ w',Same w w'->Holds w' (blk b tPk (Fpc (if 0 < x.2/\x.1≠d then (d,1) else (d,x.2+1)))::L)->K (S_ (if 0 < x.2/\x.1≠d then pieceB x else [])) w'):Cl prog 179 #[pt b,bv d] w K:=by
 refine Tz179 ?_;unfold Vz179;refine Zab (r_vf ?_);refine Za2 (λt w'=>∃ y:UInt8 × Nat,y.2<=200/\t=S_ (if 0 < x.2/\x.1≠d then pieceB x else [])/\(d,y.2+1)=(if 0 < x.2/\x.1≠d then (d,1) else (d,x.2+1))/\Same w w'/\Holds w' (blk b tPk (Fpc y)::L)) ?_ ?_
 rotate_left
 ·refine Za2 (λt w'=>w=w'/\t=.bool (decide (0 < x.2/\x.1≠d))) ?_ ?_
  rotate_left
  ·refine r_nc (r_fo0 (r_fo0 (r_ld 0 H rfl rfl ?_)));refine r_gtr (r_ifD (λh1=>?_) λh1=>r_ke ⟨rfl,by rw[decide_eq_false (by omega)]⟩);refine r_nc (r_fo0 (r_fo0 (r_ld 0 H rfl rfl ?_)));refine r_neq (r_ke ⟨rfl,congrArg Value.bool ?_⟩);rw[Bool.eq_iff_iff,decide_eq_true_iff];simp only[bne_iff_ne,ne_eq]
   constructor
   ·intro e;exact⟨by omega,λe2=>e (by rw[e2])⟩
   ·rintro⟨_,e⟩ e2;exact e (UInt8.toNat_inj.1 (by omega))
  rintro _ _ _ ⟨rfl,rfl⟩;refine r_ifD (λh1=>?_) λh1=>?_
  ·refine Zh9 hR H ⟨h1.1,by omega⟩ λw1 S1 H1=>?_;exact r_ke ⟨(0,0),by decide,by rw[if_pos h1],by rw[if_pos h1],S1,H1⟩
  ·exact r_ke ⟨x,h,by rw[if_neg h1],by rw[if_neg h1],.refl _,H⟩
 rintro _ _ w1 ⟨y,hy,rfl,hz,S1,H1⟩;rw[<-hz] at k;refine r_nc (r_fo0 (r_fo0 ?_));refine r_st 0 H1 rfl (by simp[Fpc]) rfl λw2 S2 H2=>?_;replace H2:Holds w2 (blk b tPk (Fpc (d,y.2))::L):=H2;refine r_nc (r_fo0 (r_fo0 (r_ld 0 H2 rfl rfl ?_)));refine Za0 (by omega) ?_;refine r_nc (r_fo0 (r_fo0 ?_));refine r_st 0 H2 rfl (by simp[Fpc]) rfl λw3 S3 H3=>?_;replace H3:Holds w3 (blk b tPk (Fpc (d,y.2+1))::L):=H3;refine r_nc (r_fo0 (r_fo0 (r_ld 0 H3 rfl rfl ?_)));refine r_eql (r_ifE (λh1=>?_) λh1=>?_)
 ·omega
 ·exact k _ (S1.trans (S2.trans S3)) H3
end P20
namespace R3b
open Go.M02 Go.M03 Go.M3d
abbrev S_ (B:List UInt8):Value:=.string ⟨B.toArray⟩
abbrev pt (b:Nat):Value:=.pointer (some ⟨b,0,none⟩)
abbrev tB:Nat:=5
variable {w:World}{L:List HProp}{K:KT}{b r:Nat}{s:Nat}{t:List UInt8}
abbrev tS:Nat:=233
def smC (s:Nat):List Value:=[]++(tabL.map uv++[uv s])
def SumR (b s:Nat):HProp:=λh=>s < 4294967296/\blk b tS (smC s) h
theorem Zgd (H:Holds w (SumR b s::L)):s < 4294967296/\Holds w (blk b tS (smC s)::L):=Holds.pure H
theorem Zgn (h:s < 4294967296) (H:Holds w (blk b tS (smC s)::L)):Holds w (SumR b s::L):=Holds.imp H λ_ hh=>⟨h,hh⟩
theorem sm256:(smC s)[256]?=some (uv s):=by
 have:=Yai (f:=uv) (xs:=tabL) (post:=[uv s]) (j:=0) [] Zdk;exact this
theorem smget {i:Nat}(h:i < 256):(smC s)[0+i]?=some (uv (crcTab i)):=Zm2 (f:=uv) [] (Zs9 i h)
theorem smset (v:Nat):(smC s).set 256 (uv v)=smC v:=by
 have:=Zzy (f:=uv) (xs:=tabL) (post:=[uv s]) (j:=0) [] (uv v) Zdk;exact this
theorem smlen:(smC s).length=257:=by
 unfold smC;rw[hO_,gD,hS_,Zdk];rfl
theorem New_spec (H:Holds w L) (k:∀ b w',Same w w'->Holds w' (SumR b 4294967295::L)->K (pt b) w'):Cl prog 122 #[] w K:=by
 refine Tz122 ?_;unfold Vz122;refine W02.Zta H λw1 S1 H1=>?_;refine r_bd (v:=.agg (smC 4294967295).toArray) (by kernel_rfl) ?_;refine r_new H1 λb w2 S2 H2=>?_;exact k b _ (S1.trans S2) (Zgn (by decide) H2)
theorem step_spec {c:UInt8}(H:Holds w (blk b tS (smC s)::L)) (hs:s < 4294967296) (k:K (uv (crcB s c)) w):Cl prog 217 #[pt b,uv s,bv c] w K:=by
 refine Tz217 ?_;unfold Vz217;have hc:=c.toNat_lt;refine Zcu (n:=8) (by omega) ?_;refine Zex (n:=24) (by decide) ?_;have h24:s/2^24=s/16777216:=rfl;rw[h24];have hh:s/16777216 ^^^ c.toNat < 256:=Nat.xor_lt_two_pow (n:=8) (by omega) (by omega)
 repeat (refine Zey (by omega) (by omega) ?_)
 refine Ycy (by omega) (by omega) ?_;refine r_nc (Zal (by omega) ?_);refine r_ld 0 H rfl (smget hh) ?_;have ht:crcTab (s/16777216 ^^^ c.toNat) < 4294967296:=crcN_lt _ (by omega) 8;refine Zcw (by omega) ht ?_;rw[Zzx hs];exact k
theorem Put_spec {c:UInt8}(H:Holds w (SumR b s::L)) (k:∀ w',Same w w'->Holds w' (SumR b (crcB s c)::L)->K (.tuple #[]) w'):Cl prog 170 #[pt b,bv c] w K:=by
 refine Tz170 ?_;unfold Vz170;obtain⟨hs,H⟩:=Zgd H;have S:=Same.refl w
 repeat (first|((with_reducible apply r_ld 0 H);(exact rfl);(with_reducible exact (sm256)))|refine r_nc ?_|refine r_fo0 ?_|(with_reducible first|refine Zc4 ?_|refine r_vt ?_)|(refine r_dr H ?_;clear H;intro _ S_ H;replace S:=S.trans S_;clear S_))
 refine step_spec H hs ?_
 repeat (first|refine r_nc ?_|refine r_fo0 ?_)
 refine r_st 0 H rfl (by rw[smlen];omega) rfl λw2 S2 H2=>?_;rw[gJ,smset] at H2;exact k _ (S.trans S2) (Zgn (Zvb hs c) H2)
theorem Znz {t:List UInt8}{i:Nat}(h:i < t.length):t.take (i+1)=t.take i++[t.getD i 0]:=by
 rw[gO,gA h,gB,gA h];rfl
theorem Of_spec (H:Holds w L) (ht:t.length<=1000000000) (k:∀ w',Same w w'->Holds w' L->K (uv (crcOf t)) w'):Cl prog 64 #[S_ t] w K:=by
 refine Tz64 ?_;unfold Vz64;refine New_spec H λb w1 S1 H1=>?_;refine r_cl (K:=λ_ w'=>Same w w'/\Holds w' (SumR b (crcF 4294967295 t)::L)) ?_ ?_
 ·refine Tz123 ?_;unfold Vz123
  have hs:(⟨t.toArray⟩:ByteArray).size=t.length:=by show t.toArray.size=_;simp
  repeat (refine r_lns ?_)
  rw[hs];refine Za8 (λx w'=>∃ i:Nat,i<=t.length/\x=nv i/\Same w w'/\Holds w' (SumR b (crcF 4294967295 (t.take i))::L)) (λx _=>t.length - (intOf x).toNat) ⟨0,by omega,rfl,S1,H1⟩ ?_;clear H H1 S1;rintro _ _ w2 ⟨i,hi,rfl,S,H⟩
  repeat (refine r_lss ?_)
  refine r_ifD (λh=>?_) λh=>?_
  ·have hlt:i < t.length:=by omega
   repeat (refine Zb0 (by omega) ?_)
   refine Put_spec (c:=t.getD i 0) H λw3 S3 H3=>?_
   repeat (first|refine r_ke ?_|(refine Za0 (by omega) ?_))
   refine⟨⟨i+1,by omega,rfl,S.trans S3,?_⟩,?_⟩
   ·rw[Znz hlt,Zi2];exact H3
   ·simp[nv,intOf];omega
  ·obtain rfl:i=t.length:=by omega
   rw[hF_] at H;exact⟨S,H⟩
 rintro _ w2 ⟨S,H⟩;refine Tz124 ?_;unfold Vz124;obtain⟨hs,H⟩:=Zgd H
 repeat (first|((with_reducible apply r_ld 0 H);(exact rfl);(with_reducible exact (sm256)))|refine r_nc ?_|refine r_fo0 ?_|(with_reducible first|refine Zab ?_|refine r_vf ?_))
 refine Zru hs ?_;exact k _ S H.drop
theorem take_spec {v:Value}{c:UInt8}{n:Nat}(H:Holds w (blk b 54 [v]::SL bv tB v t::L)) (hn:n<=255) (ht:t.length<=1000000000)
  (k:∀ v' w',Same w w'->Holds w' (blk b 54 [v']::SL bv tB v' (t++List.replicate n c)::L)->K (.tuple #[]) w'):Cl prog 121 #[bv c,nv n,pt b] w K:=by
 refine Tz121 ?_;unfold Vz121;refine Za8 (λx w'=>∃ i v',i<=n/\x=nv i/\Same w w'/\Holds w' (blk b 54 [v']::SL bv tB v' (t++List.replicate i c)::L)) (λx _=>n - (intOf x).toNat) ⟨0,v,by omega,rfl,.refl w,by rw[List.replicate_zero,gU];exact H⟩ ?_;clear H;rintro _ _ w1 ⟨i,v',hi,rfl,S,H⟩
 repeat (refine r_lss ?_)
 refine r_ifD (λh=>?_) λh=>?_
 ·repeat (refine r_ld 0 H rfl rfl ?_)
  refine Zam H 1 rfl c (λ_=>rfl) (by rw[gD,gP];omega) λv2 w2 S2 H2=>?_;rw[gW,gJ,gI] at H2;refine r_st 0 H2 rfl (by simp) (SL_sg H2 1 rfl) λw3 S3 H3=>?_;replace H3:Holds w3 (blk b 54 [v2]::SL bv tB v2 (t++(List.replicate i c++[c]))::L):=H3
  repeat (first|refine r_ke ?_|(refine Za0 (by omega) ?_))
  refine⟨⟨i+1,v2,by omega,rfl,(S.trans S2).trans S3,?_⟩,?_⟩
  ·rw[replicate_succ'];exact H3
  ·simp[nv,intOf];omega
 ·obtain rfl:i=n:=by omega
  exact k _ _ S H
theorem Zpi {s:List UInt8}(H:Holds w L) (hs:s.length<=1000000)
  (kb:rle s=none->∀ e w',e≠0->Same w w'->Holds w' L->K (.tuple #[S_ [],iv e]) w')
  (k:∀ t,rle s=some t->∀ w',Same w w'->Holds w' L->K (.tuple #[S_ t,iv 0]) w'):Cl prog 63 #[S_ s] w K:=by
 refine Tz63 ?_;unfold Vz63
 have hz:(zeroP prog 54).cells.toList=[.slice none 0 0]:=by kernel_rfl
 refine r_new H λb w1 S1 H1=>?_;rw[hz] at H1;refine r_mf (.func (.func 121) #[] #[pt b]) (by kernel_rfl) ?_;refine r_cl (K:=λx w'=>Same w w'/\((rle s=none/\(x=iv 24\/x=iv 25)/\Holds w' L)\/∃ t v,rle s=some t/\x=iv 0/\Holds w' (blk b 54 [v]::SL bv tB v t::L))) ?_ ?_
 ·refine Tz120 ?_;unfold Vz120
  have hsz:∀ _:Unit,(⟨s.toArray⟩:ByteArray).size=s.length:=λ_=>by show s.toArray.size=_;simp
  repeat (refine r_lns ?_)
  rw[hsz ()]
  have call:∀ {c:UInt8} {n:Nat} {w:World} {K:KT} {v:Value} {t:List UInt8} (H:Holds w (blk b 54 [v]::SL bv tB v t::L)) (hn:n<=255) (ht:t.length<=1000000000)
    (k:∀ v' w',Same w w'->Holds w' (blk b 54 [v']::SL bv tB v' (t++List.replicate n c)::L)->K (.tuple #[]) w'),
    Inv prog (do let d <-Deferred.ofValue (.func (.func 121) #[] #[pt b]) #[bv c,nv n];invoke d.target d.args) w K:=λH hn ht k=>
   r_inv (f:=121) (args:=#[bv _,nv _,pt b]) (by kernel_rfl) (take_spec H hn ht k)
  refine Za7 (λrn x w'=>∃ (i run:Nat) (p:UInt8) (out:List UInt8) (v:Value),i<=s.length/\run<=4/\x=nv i/\rn=nv run/\(0 < run->0 < i/\p=s.getD (i - 1) 0)/\out.length<=255*i/\rleA out run p (s.drop i)=rle s/\Same w w'/\Holds w' (blk b 54 [v]::SL bv tB v out::L))
   (λ_ x _=>s.length - (intOf x).toNat) ⟨0,0,0,[],.slice none 0 0,by omega,by omega,rfl,rfl,λh=>absurd h (Nat.lt_irrefl 0),by simp,rfl,S1,(H1.nilSL bv tB).swap⟩ ?_
  clear H H1 S1;rintro _ _ _ w2 ⟨i,run,p,out,v,hi,hr,rfl,rfl,hp,hout,hrle,S,H⟩
  repeat (refine r_lss ?_)
  refine r_ifD (λh=>?_) λh=>?_
  ·have hlt:i < s.length:=by omega
   have hd:s.drop i=s.getD i 0::s.drop (i+1):=by
    rw[gB,gA hlt];exact (List.getElem_cons_drop hlt).symm
   have hsi:(⟨s.toArray⟩:ByteArray).data.toList.getD i 0=s.getD i 0:=by simp
   have hsi1:(⟨s.toArray⟩:ByteArray).data.toList.getD (i - 1) 0=s.getD (i - 1) 0:=by simp
   rw[hd] at hrle;unfold rleA at hrle;refine Za2 (λx w'=>∃ (run':Nat),run'<=4/\0 < run'/\x=nv run'/\rleA (out++[s.getD i 0]) run' (s.getD i 0) (s.drop (i+1))=rle s/\Same w w'/\Holds w' (blk b 54 [v]::SL bv tB v out::L)) ?_ ?_
   ·clear H S hrle;rintro _ _ w3 ⟨run',hr',hr0,rfl,hrle,S,H⟩;refine Zb0 (by rw[hsz ()];exact hlt) ?_;rw[hsi];refine call (c:=s.getD i 0) (n:=1) H (by omega) (by omega) λv2 w4 S4 H4=>?_
    repeat (first|refine r_ke ?_|(refine Za0 (by omega) ?_))
    refine⟨⟨i+1,run',s.getD i 0,out++[s.getD i 0],v2,by omega,hr',rfl,rfl,λ_=>⟨by omega,by rw[Nat.add_sub_cancel]⟩,by rw[gD,gQ];omega,hrle,S.trans S4,H4⟩,?_⟩;simp[nv,intOf];omega
   ·refine r_eql (r_ifE (λh4=>?_) λh4=>?_)
    ·have h4':run=4:=by omega
     rw[if_pos h4'] at hrle;have hp2:=hp (by omega);refine Zb0 (by rw[hsz ()];exact hlt) ?_;rw[hsi]
     repeat (refine r_gtr ?_)
     refine r_ifD (λhb=>?_) λhb=>?_
     ·rw[if_pos (by omega)] at hrle;exact⟨S,.inl ⟨hrle.symm,.inr rfl,H.drop.drop⟩⟩
     ·rw[if_neg (by omega)] at hrle
      repeat (first|(refine Zaa (by omega) (by omega) ?_)|(refine r_dr H ?_;clear H;intro _ S_ H;replace S:=S.trans S_;clear S_))
      refine Zb0 (by rw[hsz ()];omega) ?_;rw[hsi1];refine Zb0 (by rw[hsz ()];exact hlt) ?_;rw[hsi]
      repeat (refine Zcv (by omega) (by omega) ?_)
      refine call (c:=s.getD (i - 1) 0) (n:=(s.getD i 0).toNat) H (by omega) (by omega) λv2 w4 S4 H4=>?_;rw[hp2.2] at hrle
      repeat (first|refine r_ke ?_|(refine Za0 (by omega) ?_))
      refine⟨⟨i+1,0,s.getD i 0,_,v2,by omega,by omega,rfl,rfl,λh=>absurd h (Nat.lt_irrefl 0),by rw[gD,gP];omega,hrle,S.trans S4,H4⟩,?_⟩;simp[nv,intOf];omega
    ·have h4':run≠4:=by omega
     rw[if_neg h4'] at hrle;refine Za2 (λx w'=>x=.bool (decide (0 < run/\s.getD i 0=p))/\Same w w'/\Holds w' (blk b 54 [v]::SL bv tB v out::L)) ?_ ?_
     ·clear H S;rintro _ _ w3 ⟨rfl,S,H⟩;refine r_ifD (λhc=>?_) λhc=>?_
      ·rw[if_pos hc] at hrle
       repeat (first|refine r_ke ?_|(refine Za0 (by omega) ?_))
       exact⟨run+1,by omega,by omega,rfl,hrle,S,H⟩
      ·rw[if_neg hc] at hrle
       repeat (refine r_ke ?_)
       exact⟨1,by omega,by omega,rfl,hrle,S,H⟩
     ·repeat (first|refine r_gtr ?_|(refine r_dr H ?_;clear H;intro _ S_ H;replace S:=S.trans S_;clear S_))
      refine r_ifD (λh0=>?_) λh0=>?_
      ·have hp2:=hp (by omega);refine Zb0 (by rw[hsz ()];exact hlt) ?_;rw[hsi]
       repeat (refine Zaa (by omega) (by omega) ?_)
       refine Zb0 (by rw[hsz ()];omega) ?_;rw[hsi1,<-hp2.2]
       repeat (first|refine r_ke ?_|refine r_eql ?_)
       refine⟨?_,S,H⟩;refine congrArg Value.bool ?_;rw[Bool.eq_iff_iff,beq_iff_eq,decide_eq_true_iff]
       constructor
       ·intro h;exact⟨by omega,UInt8.toNat_inj.1 (by omega)⟩
       ·rintro⟨_,h⟩;rw[h]
      ·repeat (refine r_ke ?_)
       refine⟨?_,S,H⟩;rw[decide_eq_false (by omega)]
  ·obtain rfl:i=s.length:=by omega
   rw[List.drop_length] at hrle;unfold rleA at hrle;refine r_eql (r_ifE (λh4=>?_) λh4=>?_)
   ·rw[if_pos (by omega)] at hrle;exact⟨S,.inl ⟨hrle.symm,.inl rfl,H.drop.drop⟩⟩
   ·rw[if_neg (by omega)] at hrle;exact⟨S,.inr ⟨out,v,hrle.symm,rfl,H⟩⟩
 rintro _ w2 ⟨S,⟨hn,hx,H⟩|⟨t,v,ht,rfl,H⟩⟩
 ·rcases hx with rfl|rfl
  ·repeat (first|refine r_neq ?_|((with_reducible refine r_vtN ?h ?_);(case h=>omega)))
   exact kb hn 24 _ (by decide) S H
  ·repeat (first|refine r_neq ?_|((with_reducible refine r_vtN ?h ?_);(case h=>omega)))
   exact kb hn 25 _ (by decide) S H
 ·repeat (first|refine r_neq ?_|refine r_ld 0 H rfl rfl ?_|((with_reducible refine r_vfN ?h ?_);(case h=>omega)))
  obtain⟨oa,sp,rfl,H3⟩:=H.open 1 rfl;refine r_cbs H3 1 rfl rfl ?_;exact k _ ht _ S H.drop.drop
end R3b
namespace P20
open Go.M01 Go.Mb Go.Me Go.M02 Go.M03 Go.M3d
variable {w:World}{L:List HProp}{K:KT}{p sm pk room size:Nat}{body tx:List UInt8}{bd:Value}{x:UInt8 × Nat}
abbrev tSp:Nat:=241
abbrev spC (bd:Value) (sm size room pk:Nat):List Value:=[bd,pt sm,nv size,nv room,pt pk]
abbrev SpL (p:Nat) (bd:Value) (sm pk room:Nat) (body tx:List UInt8) (x:UInt8 × Nat) (L:List HProp):List HProp:=
 blk p tSp (spC bd sm tx.length room pk)::SL bv tB bd body::R3b.SumR sm (crcF 4294967295 tx)::blk pk tPk (Fpc x)::L
theorem Zq5 (hR:RepC){y:UInt8 × Nat}(H:Holds w (SpL p bd sm pk room body tx x L)) (hy:1<=y.2/\y.2<=255) (hb:body.length<=1000000) (ht:tx.length<=1000000)
  (k:∀ bd' w',Same w w'->Holds w' (SpL p bd' sm pk room (body++pieceB y) (tx++List.replicate y.2 y.1) x L)->K (.tuple #[]) w'):Cl prog 220 #[pt p,.agg (Fpc y).toArray] w K:=by
 refine Tz220 ?_;unfold Vz220;have h5:=Zei y;refine r_new H λq w1 S1 H1=>?_;replace H1:Holds w1 (blk q tPc (Fpc y)::SpL p bd sm pk room body tx x L):=H1;refine r_ldA 0 H1 (Fpc y) rfl rfl rfl ?_;refine Zj1 hR H1 hy λw2 S2 H2=>?_;refine Za4 (Za3 ?_);refine r_nc (r_fo0 (r_ld 1 H2 rfl rfl ?_));refine Zwg (e:=tB) (by kernel_rfl) H2 2 rfl (by omega) λbd' w3 S3 H3=>?_;replace H3:Holds w3 (blk q tPc (Fpc y)::blk p tSp (spC bd sm tx.length room pk)::SL bv tB bd' (body++pieceB y)::R3b.SumR sm (crcF 4294967295 tx)::blk pk tPk (Fpc x)::L):=H3;refine r_nc (r_fo0 ?_)
 obtain⟨oa,l,c,rfl⟩:∃ oa l c,bd'=.slice oa l c:=by
  obtain⟨oa,sp,rfl,_⟩:=H3.open 2 rfl;exact⟨oa,_,_,rfl⟩
 refine r_st 1 H3 rfl (by simp) rfl λw4 S4 H4=>?_;replace H4:Holds w4 (blk q tPc (Fpc y)::blk p tSp (spC (.slice oa l c) sm tx.length room pk)::SL bv tB (.slice oa l c) (body++pieceB y)::R3b.SumR sm (crcF 4294967295 tx)::blk pk tPk (Fpc x)::L):=H4;refine r_dr H4 λw5 S5 H5=>?_;refine r_nc (r_fo0 (r_ld 1 H5 rfl rfl ?_));refine r_fo0 (r_ld 0 H5 rfl rfl ?_);refine Zac (a:=tx.length) (b:=y.2) (by omega) ?_;refine r_nc (r_fo0 ?_);refine r_st 1 H5 rfl (by simp) rfl λw6 S6 H6=>?_;replace H6:Holds w6 (blk q tPc (Fpc y)::blk p tSp (spC (.slice oa l c) sm (tx.length+y.2) room pk)::SL bv tB (.slice oa l c) (body++pieceB y)::R3b.SumR sm (crcF 4294967295 tx)::blk pk tPk (Fpc x)::L):=H6;refine r_fo0 (r_ld 0 H6 rfl rfl ?_)
 refine Zde (λj v w'=>∃ i,j=y.2 - i/\i<=y.2/\v=nv i/\Same w w'/\Holds w' (blk q tPc (Fpc y)::blk p tSp (spC (.slice oa l c) sm (tx.length+y.2) room pk)::SL bv tB (.slice oa l c) (body++pieceB y)::R3b.SumR sm (crcF 4294967295 (tx++List.replicate i y.1))::blk pk tPk (Fpc x)::L)) y.2
  ⟨0,rfl,hE _,rfl,S1.trans (S2.trans (S3.trans (S4.trans (S5.trans S6)))),by rw[List.replicate_zero,gU];exact H6⟩ ?_
 clear H H1 H2 H3 H4 H5 H6 S1 S2 S3 S4 S5 S6;rintro _ j _ w7 _ ⟨i,rfl,hi,rfl,S7,H7⟩ hgo;refine r_lss (r_ifD (λh=>?_) λh=>?_)
 ·refine r_dr H7 λw8 S8 H8=>?_;refine r_nc (r_fo0 (r_ld 1 H8 rfl rfl ?_));refine r_fo0 (r_ld 0 H8 rfl rfl ?_)
  have H9:Holds w8 (R3b.SumR sm (crcF 4294967295 (tx++List.replicate i y.1))::blk q tPc (Fpc y)::blk p tSp (spC (.slice oa l c) sm (tx.length+y.2) room pk)::SL bv tB (.slice oa l c) (body++pieceB y)::blk pk tPk (Fpc x)::L):=by
   have h_:=Holds.ord 5 [3,0,1,2,4] H8 rfl;exact h_
  refine R3b.Put_spec H9 λw9 S9 Ha=>?_
  have Hb:Holds w9 (blk q tPc (Fpc y)::blk p tSp (spC (.slice oa l c) sm (tx.length+y.2) room pk)::SL bv tB (.slice oa l c) (body++pieceB y)::R3b.SumR sm (crcB (crcF 4294967295 (tx++List.replicate i y.1)) y.1)::blk pk tPk (Fpc x)::L):=by
   have h_:=Holds.ord 5 [1,2,3,0,4] Ha rfl;exact h_
  refine Za0 (by omega) (r_ke (hgo (y.2 - (i+1)) _ _ (by omega) ⟨i+1,rfl,by omega,rfl,S7.trans (S8.trans S9),?_⟩));rw[replicate_succ',<-gI,Zi2];exact Hb
 ·obtain rfl:i=y.2:=by omega
  refine k (.slice oa l c) _ S7 ?_
  have e:(tx++List.replicate y.2 y.1).length=tx.length+y.2:=by rw[gD,gP]
  show Holds w7 (blk p tSp (spC (.slice oa l c) sm (tx++List.replicate y.2 y.1).length room pk)::_);rw[e];exact H7.drop
theorem Zh8 (H:Holds w (R3b.SumR sm (crcF 4294967295 tx)::L)) (k:K (uv (crcOf tx)) w):Cl prog 124 #[pt sm] w K:=by
 refine Tz124 ?_;unfold Vz124;obtain⟨hs,H⟩:=R3b.Zgd H;refine Zab (r_vf (r_nc (r_fo0 (r_ld 0 H rfl R3b.sm256 ?_))));exact Zru hs k
theorem Zmz (H:Holds w (R3b.SumR sm (crcF 4294967295 tx)::L)) (k:∀ w',Same w w'->Holds w' (R3b.SumR sm (crcF 4294967295 [])::L)->K (.tuple #[]) w'):Cl prog 221 #[pt sm] w K:=by
 refine Tz221 ?_;unfold Vz221;obtain⟨hs,H⟩:=R3b.Zgd H;refine Zc4 ?_;refine r_vt (r_nc (r_fo0 ?_));refine r_st 0 H rfl (by rw[R3b.smlen];decide) rfl λw1 S1 H1=>?_
 have H2:Holds w1 (blk sm R3b.tS (R3b.smC 4294967295)::L):=by
  have h_:=H1;rw[gJ] at h_;have e:=R3b.smset (s:=crcF 4294967295 tx) 4294967295;rw[<-e];exact h_
 exact k _ S1 (R3b.Zgn (by decide) H2)
end P20
namespace F08
variable {w:World}{L:List HProp}{K:KT}
def cnt (l:List Nat) (size:Nat):List Nat:=(List.range size).map λx=>l.count x
theorem Zav (l:List Nat) (size:Nat):(cnt l size).length=size:=by unfold cnt;simp
theorem Zf3 {l:List Nat}{size x:Nat}(h:x < size):(cnt l size)[x]?=some (l.count x):=by
 unfold cnt;rw[hV_,List.getElem?_range h];rfl
theorem Zyx {l:List Nat}{size x:Nat}(h:x < size):(cnt l size).set x (l.count x+1)=cnt (l++[x]) size:=by
 apply ext_getElem?;intro i;rw[List.getElem?_set]
 by_cases e:x=i
 ·subst e;rw[if_pos rfl,if_pos (by rw[Zav];exact h),Zf3 h,List.count_append];simp
 ·rw[if_neg e];rcases hU_ i size with q|q
  ·rw[Zf3 q,Zf3 q,List.count_append,List.count_singleton]
   have:(x==i)=false:=by simpa using e
   rw[this];rfl
  ·rw[getElem?_eq_none (by rw[Zav];exact q),getElem?_eq_none (by rw[Zav];exact q)]
theorem Zvi (size:Nat):cnt [] size=List.replicate size 0:=by
 unfold cnt;apply ext_getElem?;intro i;rw[hV_,List.getElem?_replicate];split
 ·rename_i h;rw[List.getElem?_range h];rfl
 ·rename_i h;rw[getElem?_eq_none (by simp;omega)];rfl
theorem Zii {v:Value}{l:List Nat}{i n:Nat}(H:Holds w L) (hi:L[i]?=some (SL nv tI v l)) (h3:3<=n) (hn:n<=258) (hl:l.length<=1000000000) (hb:∀ x∈l,x < n)
  (k:∀ v' w',Same w w'->Holds w' (SL nv tI v' (cnt l n)::L)->K (.tuple #[v',iv 0]) w'):Cl prog 186 #[v,nv n] w K:=by
 refine Tz186 ?_;unfold Vz186;refine Za2 (λt w'=>w=w'/\t=.bool false) ?_ ?_
 rotate_left
 ·refine r_lss (r_vfD (by omega) ?_);refine r_gtr (r_ke ⟨rfl,by rw[decide_eq_false (by omega)]⟩)
 rintro _ _ _ ⟨rfl,rfl⟩;refine r_vf ?_;refine r_ms (f:=nv) (x:=0) H rfl (by omega) (by omega) λob w2 S2 H2=>?_;rw[gC] at H2 ⊢;have H3:=H2.close 0 rfl;simp only[gJ,gP,List.length_nil,Nat.add_zero] at H3;generalize hv:Value.slice (some ⟨ob,0,none⟩) n n=ov at H3 ⊢;refine r_lnS i H hi ?_;refine Za8 (λq w'=>∃ (t:Nat),q=nv t/\t<=l.length/\Same w w'/\Holds w' (SL nv tI ov (cnt (l.take t) n)::L)) (λq _=>l.length - (intOf q).toNat) ⟨0,rfl,hE _,S2,by rw[take_zero,Zvi];exact H3⟩ ?_;clear H H2 H3 S2;rintro _ _ w3 ⟨t,rfl,ht,S3,H3⟩;refine r_lss (r_ifD (λh=>?_) λh=>?_)
 ·have hlt:t < l.length:=by omega
  have hx:=hb _ (getElem_mem hlt)
  have e:l.take (t+1)=l.take t++[l[t]]:=by rw[gO,gA hlt];rfl
  have hc:(l.take t).count l[t]<=t:=Nat.le_trans List.count_le_length (by rw[gN];omega);refine Za6 (i+1) H3 (by rw[gF];exact hi) (gA hlt) ?_;generalize l[t]=x at *;refine Za2 (λz w'=>w3=w'/\z=.bool false) ?_ ?_
  rotate_left
  ·refine r_lss (r_vfD (by omega) ?_);exact r_geq (r_ke ⟨rfl,by rw[decide_eq_false (by omega)]⟩)
  rintro _ _ _ ⟨rfl,rfl⟩;refine r_vf ?_;refine Za6 0 H3 rfl (Zf3 hx) ?_;refine Za0 (by omega) ?_;refine Zat 0 H3 ((l.take t).count x+1) rfl (by rw[Zav];exact hx) rfl λw4 S4 H4=>?_;replace H4:Holds w4 (SL nv tI ov ((cnt (l.take t) n).set x ((l.take t).count x+1))::L):=H4;rw[Zyx hx,<-e] at H4;refine Za0 (by omega) (r_ke ⟨⟨t+1,rfl,by omega,S3.trans S4,H4⟩,?_⟩);simp only[nv,intOf,gC];omega
 ·rw[gK (by omega)] at H3;exact k ov w3 S3 H3
theorem Zk2 {v:Value}{l:List Nat}{i x:Nat}(H:Holds w L) (hi:L[i]?=some (SL nv tI v l)) (hl:l.length<=1000000000) (k:K (nv (l.count x)) w):Cl prog 204 #[v,nv x] w K:=by
 refine Tz204 ?_;unfold Vz204;refine r_lnS i H hi ?_;refine Za7 (λp q w'=>∃ t:Nat,p=nv ((l.take t).count x)/\q=nv t/\t<=l.length/\w=w') (λ_ q _=>l.length - (intOf q).toNat) ⟨0,rfl,rfl,hE _,rfl⟩ ?_;rintro _ _ _ _ ⟨t,rfl,rfl,ht,rfl⟩;refine r_lss (r_ifD (λh=>?_) λh=>?_)
 ·have hlt:t < l.length:=by omega
  have e:l.take (t+1)=l.take t++[l[t]]:=by rw[gO,gA hlt];rfl
  have hc:(l.take t).count x<=t:=Nat.le_trans List.count_le_length (by rw[gN];omega);refine Za6 i H hi (gA hlt) ?_;generalize l[t]=y at *
  have e2:(l.take (t+1)).count x=(l.take t).count x+if y=x then 1 else 0:=by
   rw[e,List.count_append,List.count_singleton];simp
  refine r_eql (r_ifE (λq=>?_) λq=>?_)
  ·rw[if_pos (by omega)] at e2;refine Za0 (by omega) (Za0 (by omega) (r_ke ⟨⟨t+1,by rw[e2],rfl,by omega,rfl⟩,?_⟩));simp only[nv,intOf,gC];omega
  ·rw[if_neg (by omega)] at e2;refine Za0 (by omega) (r_ke ⟨⟨t+1,by rw[e2];rfl,rfl,by omega,rfl⟩,?_⟩);simp only[nv,intOf,gC];omega
 ·rw[gK (by omega)];exact k
theorem Zh5 {v:Value}{l:List Nat}{i n:Nat}(H:Holds w L) (hi:L[i]?=some (SL nv tI v l)) (hn:n<=1000000) (hl:l.length<=1000000000)
  (k:∀ v' w',Same w w'->Holds w' (SL nv tI v' (cnt l n)::L)->K v' w'):Cl prog 156 #[v,nv n] w K:=by
 refine Tz156 ?_;unfold Vz156;refine Za7 (λp q w'=>∃ t:Nat,q=nv t/\t<=n/\Same w w'/\Holds w' (SL nv tI p (cnt l t)::L)) (λ_ q _=>n - (intOf q).toNat) ⟨0,rfl,hE _,.refl _,H.nilSL nv tI⟩ ?_;clear H;rintro _ p _ w3 ⟨t,rfl,ht,S3,H3⟩;refine r_lss (r_ifD (λh=>?_) λh=>?_)
 ·refine Zk2 H3 (i:=i+1) (by rw[gF];exact hi) hl ?_;refine Zam (f:=nv) H3 0 (xs:=cnt l t) rfl (l.count t) (λ_=>rfl) (by rw[Zav];omega) λv' w4 S4 H4=>?_
  have e:cnt l t++[l.count t]=cnt l (t+1):=by unfold cnt;rw[range_succ,map_append];rfl
  rw[e] at H4;refine Za0 (by omega) (r_ke ⟨⟨t+1,rfl,by omega,S3.trans S4,H4⟩,?_⟩);simp only[nv,intOf,gC];omega
 ·obtain rfl:t=n:=by omega
  exact k p w3 S3 H3
end F08
end Go.Proofs.YtgaiocpkjaaphaaGreatDoor
namespace Go.Proofs.YtgaiocpkjaaphaaGreatDoor
open Go Go.Vc Go.Proofs.Tryz
namespace P20
theorem x105:Builder.Extra prog Tryz.lays105_ren:={
 sizeBuilder:=by kernel_rfl
 liesBuilder:=by kernel_rfl
 t5:=Tryz.lays105.t5
 a5:=Tryz.lays105.a5
 z5:=Tryz.lays105.z5
 v5:=Tryz.lays105.v5
 infoByte:=by kernel_rfl
 cellsByte:=by kernel_rfl
 sizeByte:=by kernel_rfl
 neB5:=by decide }
theorem rep1 (c:UInt8):∀ n,Lib.repeatL [c] n=List.replicate n c
 |0=>rfl
 |n+1=>by
  show[c]++Lib.repeatL [c] n=_;rw[rep1 c n];rfl
theorem Yb9:RepC:=by
 intro w L K c n H hn k;have h:=Any.strings_Repeat Tryz.lays105 x105 ⟨#[c]⟩ n w (by omega) (by show 1*n<=_;omega);rw[show Tryz.lays105_ren.f 105=277 from by kernel_rfl] at h;refine⟨Tryz.call277 _ _,h.mono λe w' ⟨he,hb⟩=>⟨_,he,?_⟩⟩;have e:Lib.repeatL (ByteArray.mk #[c]).data.toList n=List.replicate n c:=rep1 c n;rw[e]
 exact k w' ⟨hb.os,hb.tape,hb.output,hb.size⟩ (Sat.mono H λc o hc=>by
  show w'.heap[c]?=some o;have hc':w.heap[c]?=some o:=hc
  rw[hb.block c (Array.getElem?_eq_some_iff.1 hc').1,hc'])
end P20
end Go.Proofs.YtgaiocpkjaaphaaGreatDoor
