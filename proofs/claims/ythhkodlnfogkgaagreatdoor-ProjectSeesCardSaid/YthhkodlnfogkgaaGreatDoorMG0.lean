/- Several texts in one: M31, M3x, Sl, Sq, Sr, St, Rf, Sh, Su, Ex, E1, E2, E3, F1, F0, E4, E5, S4r. -/
import Derived.WalkKit
import Derived.Test.YthhkodlnfogkgaaGreatDoorVc
import Derived.Deep.DeepAppendRoom
import Derived.Laws.RangeString
import Derived.Lib.OthersKept
import Derived.RangeFuncLeaves
import Derived.RangeFuncCalls
import Derived.TacticsIn
import Derived.Shelf.Lays
import Derived.Shelf.Unicode.DecodeAny
import Derived.Ground.NamesProg
import Derived.Test.YthhkodlnfogkgaaGreatDoorProg
import Derived.Deep.Upon
import Derived.Laws.CopyRow
import Derived.Laws.IdiomCopy
import Derived.Laws.IdiomStrings
import Derived.Lib.UnsafeStr
import Derived.Lib.Bytealg
import Derived.Lib.MakeNoZero
import Derived.ChangeKeysEq
import Derived.MapKept
import Derived.Deep.AppendSrc
set_option linter.unusedVariables false
set_option linter.unusedSimpArgs false
/- Chapter 31, plain: runes by the document's rule, against the model's decoding. No program in sight. -/
open Go.RowKit (intOf)
open List (all_eq_true extract_eq_take_drop foldl_cons set_set toList_toArray)
namespace Go.M31
def byt (l:List UInt8) (i:Nat):Nat:=(l.getD i 0).toNat
def goesOn (l:List UInt8) (i:Nat):Bool:=decide (i < l.length)&&decide (128<=byt l i)&&decide (byt l i < 192)
def wideN (l:List UInt8) (bytes:Nat):Nat->Nat->Int->Option Int
 |0,_,n=>some n
 |f+1,i,n=>if i < bytes then (if goesOn l i then wideN l bytes f (i+1) (64*n+(byt l i:Int) - 128) else none) else some n
def startW (c:Int) (bytes:Nat):Int:=if bytes=2 then c - 192 else if bytes=3 then c - 224 else if bytes=4 then c - 240 else c
def least (bytes:Nat):Int:=if bytes=3 then 2048 else if bytes=4 then 65536 else 128
def wideR (n:Int) (bytes:Nat):Int × Nat:=if n < least bytes\/1114111 < n\/(55296<=n/\n<=57343) then (0,0) else (n,bytes)
def wide (l:List UInt8) (bytes:Nat):Int × Nat:=
 match wideN l bytes 4 1 (startW (byt l 0) bytes) with
 |none=>(0,0)
 |some n=>wideR n bytes
def firstW (l:List UInt8):Int × Nat:=
 if 192<=byt l 0/\byt l 0 < 224 then wide l 2 else if 224<=byt l 0/\byt l 0 < 240 then wide l 3 else if 240<=byt l 0/\byt l 0 < 248 then wide l 4 else (0,0)
def first (l:List UInt8):Int × Nat:=
 if byt l 0 < 128 then (byt l 0,1) else if (firstW l).2=0 then (-1,1) else firstW l
theorem wideN2 (l:List UInt8) (n:Int):wideN l 2 4 1 n=if goesOn l 1 then some (64*n+(byt l 1:Int) - 128) else none:=by
 simp[wideN]
theorem wideN3 (l:List UInt8) (n:Int):wideN l 3 4 1 n=if goesOn l 1 then (if goesOn l 2 then some (64*(64*n+(byt l 1:Int) - 128)+(byt l 2:Int) - 128) else none) else none:=by
 simp[wideN]
theorem wideN4 (l:List UInt8) (n:Int):wideN l 4 4 1 n=if goesOn l 1 then (if goesOn l 2 then (if goesOn l 3 then some (64*(64*(64*n+(byt l 1:Int) - 128)+(byt l 2:Int) - 128)+(byt l 3:Int) - 128) else none) else none) else none:=by
 simp[wideN]
theorem Za6 (l:List UInt8) (i:Nat):goesOn l i=true↔i < l.length/\128<=byt l i/\byt l i < 192:=by
 simp[goesOn,and_assoc]
theorem Zfx {n:Int}{b:Nat}(h:(wideR n b).2≠0):¬ (n < least b\/1114111 < n\/(55296<=n/\n<=57343))/\wideR n b=(n,b):=by
 unfold wideR at h ⊢
 by_cases hv:n < least b\/1114111 < n\/(55296<=n/\n<=57343)
 ·rw[if_pos hv] at h;exact absurd rfl h
 ·exact⟨hv,if_neg hv⟩
theorem Zb2 (l:List UInt8) (h:(wide l 2).2≠0):goesOn l 1=true/\∃ n:Int,n=64*((byt l 0:Int) - 192)+(byt l 1:Int) - 128/\128<=n/\wide l 2=(n,2):=by
 unfold wide at h ⊢;rw[wideN2] at h ⊢
 cases g1:goesOn l 1 with
 |false=>simp[g1] at h
 |true=>
  simp only[g1,if_true] at h ⊢;obtain⟨h1,h2⟩:=Zfx h;have h3:least 2=128:=rfl;exact⟨trivial,_,rfl,by unfold startW at h1;simp only[if_true] at h1;omega,h2⟩
theorem Zb3 (l:List UInt8) (h:(wide l 3).2≠0):goesOn l 1=true/\goesOn l 2=true/\∃ n:Int,n=64*(64*((byt l 0:Int) - 224)+(byt l 1:Int) - 128)+(byt l 2:Int) - 128/\2048<=n/\n<=1114111/\¬ (55296<=n/\n<=57343)/\wide l 3=(n,3):=by
 unfold wide at h ⊢;rw[wideN3] at h ⊢
 cases g1:goesOn l 1 with
 |false=>simp[g1] at h
 |true=>
  cases g2:goesOn l 2 with
  |false=>simp[g1,g2] at h
  |true=>
   simp only[g1,g2,if_true] at h ⊢;obtain⟨h1,h2⟩:=Zfx h;have h3:least 3=2048:=rfl;have h4:startW (byt l 0) 3=(byt l 0:Int) - 224:=rfl;rw[h4] at h1 h2 ⊢;exact⟨trivial,trivial,_,rfl,by omega,by omega,by omega,h2⟩
theorem Zb0 (l:List UInt8) (h:(wide l 4).2≠0):goesOn l 1=true/\goesOn l 2=true/\goesOn l 3=true/\∃ n:Int,n=64*(64*(64*((byt l 0:Int) - 240)+(byt l 1:Int) - 128)+(byt l 2:Int) - 128)+(byt l 3:Int) - 128/\65536<=n/\n<=1114111/\¬ (55296<=n/\n<=57343)/\wide l 4=(n,4):=by
 unfold wide at h ⊢;rw[wideN4] at h ⊢
 cases g1:goesOn l 1 with
 |false=>simp[g1] at h
 |true=>
  cases g2:goesOn l 2 with
  |false=>simp[g1,g2] at h
  |true=>
   cases g3:goesOn l 3 with
   |false=>simp[g1,g2,g3] at h
   |true=>
    simp only[g1,g2,g3,if_true] at h ⊢;obtain⟨h1,h2⟩:=Zfx h;have h3:least 4=65536:=rfl;have h4:startW (byt l 0) 4=(byt l 0:Int) - 240:=rfl;rw[h4] at h1 h2 ⊢;exact⟨trivial,trivial,trivial,_,rfl,by omega,by omega,by omega,h2⟩
theorem first_spec (l:List UInt8):(byt l 0 < 128/\first l=((byt l 0:Int),1))\/first l=(-1,1) \/
  (192<=byt l 0/\byt l 0 < 224/\(wide l 2).2≠0/\first l=wide l 2)\/(224<=byt l 0/\byt l 0 < 240/\(wide l 3).2≠0/\first l=wide l 3)\/(240<=byt l 0/\byt l 0 < 248/\(wide l 4).2≠0/\first l=wide l 4):=by
 unfold first
 by_cases h1:byt l 0 < 128
 ·exact .inl ⟨h1,if_pos h1⟩
 ·rw[if_neg h1]
  by_cases hz:(firstW l).2=0
  ·exact .inr (.inl (if_pos hz))
  ·rw[if_neg hz];unfold firstW at hz ⊢
   by_cases h2:192<=byt l 0/\byt l 0 < 224
   ·rw[if_pos h2] at hz ⊢;exact .inr (.inr (.inl ⟨h2.1,h2.2,hz,rfl⟩))
   ·rw[if_neg h2] at hz ⊢
    by_cases h3:224<=byt l 0/\byt l 0 < 240
    ·rw[if_pos h3] at hz ⊢;exact .inr (.inr (.inr (.inl ⟨h3.1,h3.2,hz,rfl⟩)))
    ·rw[if_neg h3] at hz ⊢
     by_cases h4:240<=byt l 0/\byt l 0 < 248
     ·rw[if_pos h4] at hz ⊢;exact .inr (.inr (.inr (.inr ⟨h4.1,h4.2,hz,rfl⟩)))
     ·rw[if_neg h4] at hz;exact absurd rfl hz
theorem Zcc (l:List UInt8):1<=(first l).2/\(first l).2<=4:=by
 rcases first_spec l with⟨_,h⟩|h|⟨_,_,hz,h⟩|⟨_,_,hz,h⟩|⟨_,_,hz,h⟩
 ·rw[h];simp
 ·rw[h];simp
 ·obtain⟨_,n,_,_,e⟩:=Zb2 l hz;rw[h,e];simp
 ·obtain⟨_,_,n,_,_,_,_,e⟩:=Zb3 l hz;rw[h,e];simp
 ·obtain⟨_,_,_,n,_,_,_,_,e⟩:=Zb0 l hz;rw[h,e];simp
theorem Zjv (l:List UInt8) (h0:0 < l.length):(first l).2<=l.length:=by
 rcases first_spec l with⟨_,h⟩|h|⟨_,_,hz,h⟩|⟨_,_,hz,h⟩|⟨_,_,hz,h⟩
 ·rw[h];simp only;omega
 ·rw[h];simp only;omega
 ·obtain⟨g1,n,_,_,e⟩:=Zb2 l hz;rw[h,e];have:=(Za6 l 1).1 g1;simp only;omega
 ·obtain⟨_,g1,n,_,_,_,_,e⟩:=Zb3 l hz;rw[h,e];have:=(Za6 l 2).1 g1;simp only;omega
 ·obtain⟨_,_,g1,n,_,_,_,_,e⟩:=Zb0 l hz;rw[h,e];have:=(Za6 l 3).1 g1;simp only;omega
theorem Zi9 (s:ByteArray) (p k:Nat):(s.get! (p+k)).toNat=byt (s.data.toList.drop p) k:=by
 unfold byt;rw[gB,hH_]
 cases s with
 |mk d=>
  show (d[p+k]!).toNat=_;rw[getElem!_def];simp;rfl
theorem Zby (s:ByteArray) (p:Nat) (n:Nat) (k:Nat) (h:first (s.data.toList.drop p)=((n:Int),k)):Utf8.decode s p=(n,k):=by
 have hg:=Zi9 s p
 have hsz:s.size=s.data.toList.length:=by simp
 have hc:∀ j,(decide (p+j < s.size)&&(byt (s.data.toList.drop p) j/64==2))=goesOn (s.data.toList.drop p) j:=by
  intro j;rw[Bool.eq_iff_iff,Za6,Bool.and_eq_true,decide_eq_true_iff,beq_iff_eq,gS,hsz];omega
 unfold Utf8.decode;simp only[hg,hc];generalize hl:s.data.toList.drop p=l at h;have h2:=Za6 l 1;have h3:=Za6 l 2;have h4:=Za6 l 3;have b0:byt l 0 < 256:=UInt8.toNat_lt _;rcases first_spec l with⟨hlt,e⟩|e|⟨r1,r2,hz,e⟩|⟨r1,r2,hz,e⟩|⟨r1,r2,hz,e⟩
 ·rw[e] at h;simp only[Prod.mk.injEq] at h;obtain⟨h5,h6⟩:=h;rw[if_pos hlt,show byt l 0=n by omega,h6]
 ·rw[e] at h;simp only[Prod.mk.injEq] at h;omega
 ·obtain⟨g1,m,hm,hm1,e2⟩:=Zb2 l hz;rw[e,e2] at h;simp only[Prod.mk.injEq] at h;obtain⟨h5,rfl⟩:=h;have g1':=h2.1 g1
  have e3:byt l 0%32*64+byt l 1%64=n:=by omega
  rw[if_neg (by omega),if_pos (by rw[g1];simp;omega),e3,if_pos (by omega)]
 ·obtain⟨g1,g2,m,hm,hm1,hm2,hm3,e2⟩:=Zb3 l hz;rw[e,e2] at h;simp only[Prod.mk.injEq] at h;obtain⟨h5,rfl⟩:=h;have g1':=h2.1 g1;have g2':=h3.1 g2
  have e3:byt l 0%16*4096+byt l 1%64*64+byt l 2%64=n:=by omega
  rw[if_neg (by omega),if_neg (by simp;omega),if_pos (by rw[g1,g2];simp;omega),e3,if_pos (by
   unfold Utf8.valid;simp
   omega)]
 ·obtain⟨g1,g2,g3,m,hm,hm1,hm2,hm3,e2⟩:=Zb0 l hz;rw[e,e2] at h;simp only[Prod.mk.injEq] at h;obtain⟨h5,rfl⟩:=h;have g1':=h2.1 g1;have g2':=h3.1 g2;have g3':=h4.1 g3
  have e3:byt l 0%8*262144+byt l 1%64*4096+byt l 2%64*64+byt l 3%64=n:=by omega
  rw[if_neg (by omega),if_neg (by simp;omega),if_neg (by simp;omega),if_pos (by rw[g1,g2,g3];simp;omega),e3,if_pos (by
   unfold Utf8.valid;simp
   omega)]
theorem repl (l:List UInt8) (k:Nat) (h:first l=(65533,k)):k=3/\byt l 0=239/\byt l 1=191/\byt l 2=189/\3<=l.length:=by
 have h2:=Za6 l 1;have h3:=Za6 l 2;have h4:=Za6 l 3;rcases first_spec l with⟨hlt,e⟩|e|⟨r1,r2,hz,e⟩|⟨r1,r2,hz,e⟩|⟨r1,r2,hz,e⟩
 ·rw[e] at h;simp only[Prod.mk.injEq] at h;omega
 ·rw[e] at h;simp only[Prod.mk.injEq] at h;omega
 ·obtain⟨g1,m,hm,hm1,e2⟩:=Zb2 l hz;rw[e,e2] at h;simp only[Prod.mk.injEq] at h;have g1':=h2.1 g1;omega
 ·obtain⟨g1,g2,m,hm,hm1,hm2,hm3,e2⟩:=Zb3 l hz;rw[e,e2] at h;simp only[Prod.mk.injEq] at h;have g1':=h2.1 g1;have g2':=h3.1 g2;omega
 ·obtain⟨g1,g2,g3,m,hm,hm1,hm2,hm3,e2⟩:=Zb0 l hz;rw[e,e2] at h;simp only[Prod.mk.injEq] at h;omega
def mayR (n:Int):Prop:=n > 32/\(n < 127\/n > 160)/\n≠58/\n≠35
instance (n:Int):Decidable (mayR n):=by unfold mayR;infer_instance
def runes (l:List UInt8):List (Int × Nat):=
 if h:l=[] then [] else first l::runes (l.drop (first l).2)
termination_by l.length
decreasing_by
 have:=Zcc l
 have:0 < l.length:=by cases l with|nil=>exact absurd rfl h|cons _ _=>simp
 rw[gS];omega
theorem Zdz:runes []=[]:=by rw[runes];simp
theorem Zd5 {l:List UInt8}(h:0 < l.length):runes l=first l::runes (l.drop (first l).2):=by
 rw[runes,dif_neg (by intro e;subst e;simp at h)]
theorem Zgt (l:List UInt8):(runes l).length<=l.length:=by
 induction hn:l.length using Nat.strongRecOn generalizing l with
 |_ n ih=>
  subst hn;rcases Nat.eq_zero_or_pos l.length with h|h
  ·have:l=[]:=List.eq_nil_of_length_eq_zero h;subst this;simp[Zdz]
  ·rw[Zd5 h];have h1:=Zcc l;have h2:=ih (l.drop (first l).2).length (by rw[gS];omega) _ rfl;rw[gS] at h2;simp only[List.length_cons];omega
def word (l:List UInt8):Prop:=(∀ r∈runes l,mayR r.1)/\0 < (runes l).length/\(runes l).length<=32
end Go.M31
/- Chapter 31, plain: a bad byte by the document's rule is one by the model's decoding. No program in sight. -/
namespace Go.M31
theorem Zou {l:List UInt8}(h:(wide l 2).2=0) (g:goesOn l 1=true):64*((byt l 0:Int) - 192)+(byt l 1:Int) - 128 < 128\/1114111 < 64*((byt l 0:Int) - 192)+(byt l 1:Int) - 128\/(55296<=64*((byt l 0:Int) - 192)+(byt l 1:Int) - 128/\64*((byt l 0:Int) - 192)+(byt l 1:Int) - 128<=57343):=by
 unfold wide at h;rw[wideN2,g,if_pos rfl] at h;simp only[startW,if_pos] at h;unfold wideR at h;split at h
 ·rename_i h1;simpa [least] using h1
 ·cases h
theorem Zow {l:List UInt8}(h:(wide l 3).2=0) (g:goesOn l 1=true) (g2:goesOn l 2=true):∃ n:Int,n=64*(64*((byt l 0:Int) - 224)+(byt l 1:Int) - 128)+(byt l 2:Int) - 128/\(n < 2048\/1114111 < n\/(55296<=n/\n<=57343)):=by
 unfold wide at h;rw[wideN3,g,g2,if_pos rfl,if_pos rfl] at h;simp only[startW,if_pos,show ¬ (3:Nat)=2 by omega,if_false] at h;unfold wideR at h;split at h
 ·rename_i h1;exact⟨_,rfl,by simpa [least] using h1⟩
 ·cases h
theorem Zns {l:List UInt8}(h:(wide l 4).2=0) (g:goesOn l 1=true) (g2:goesOn l 2=true) (g3:goesOn l 3=true):∃ n:Int,n=64*(64*(64*((byt l 0:Int) - 240)+(byt l 1:Int) - 128)+(byt l 2:Int) - 128)+(byt l 3:Int) - 128/\(n < 65536\/1114111 < n\/(55296<=n/\n<=57343)):=by
 unfold wide at h;rw[wideN4,g,g2,g3,if_pos rfl,if_pos rfl,if_pos rfl] at h;simp only[startW,if_pos,show ¬ (4:Nat)=2 by omega,show ¬ (4:Nat)=3 by omega,if_false] at h;unfold wideR at h;split at h
 ·rename_i h1;exact⟨_,rfl,by simpa [least] using h1⟩
 ·cases h
theorem Zkq {l:List UInt8}(h:first l=(-1,1)):128<=byt l 0/\(firstW l).2=0:=by
 have hb:¬ byt l 0 < 128:=λhb=>by
  unfold first at h;rw[if_pos hb] at h;simp only[Prod.mk.injEq] at h;omega
 refine⟨by omega,?_⟩
 cases Nat.decEq (firstW l).2 0 with
 |isTrue e=>exact e
 |isFalse e=>
  unfold first at h;rw[if_neg hb,if_neg e] at h;exfalso;unfold firstW at h e;split at h
  ·rename_i hr;rw[if_pos hr] at e;obtain⟨_,n,_,hn,e2⟩:=Zb2 l e;rw[e2] at h;simp only[Prod.mk.injEq] at h;omega
  ·rename_i hr1;rw[if_neg hr1] at e;split at h
   ·rename_i hr;rw[if_pos hr] at e;obtain⟨_,_,n,_,hn,_,_,e2⟩:=Zb3 l e;rw[e2] at h;simp only[Prod.mk.injEq] at h;omega
   ·rename_i hr2;rw[if_neg hr2] at e;split at h
    ·rename_i hr;rw[if_pos hr] at e;obtain⟨_,_,_,n,_,hn,_,_,e2⟩:=Zb0 l e;rw[e2] at h;simp only[Prod.mk.injEq] at h;omega
    ·simp only[Prod.mk.injEq] at h;omega
theorem Zck (s:ByteArray) (p:Nat) (h:first (s.data.toList.drop p)=(-1,1)):Utf8.decode s p=(65533,1):=by
 have hg:=Zi9 s p
 have hsz:s.size=s.data.toList.length:=by simp
 have hc:∀ j,(decide (p+j < s.size)&&(byt (s.data.toList.drop p) j/64==2))=goesOn (s.data.toList.drop p) j:=by
  intro j;rw[Bool.eq_iff_iff,Za6,Bool.and_eq_true,decide_eq_true_iff,beq_iff_eq,gS,hsz];omega
 unfold Utf8.decode;simp only[hg,hc];generalize hl:s.data.toList.drop p=l at h;have h2:=Za6 l 1;have h3:=Za6 l 2;have h4:=Za6 l 3;have b0:byt l 0 < 256:=UInt8.toNat_lt _;obtain⟨hb,hz⟩:=Zkq h;unfold firstW at hz;rw[if_neg (by omega)]
 by_cases c2:(byt l 0/32==6&&goesOn l 1)=true
 ·rw[if_pos c2];simp only[Bool.and_eq_true,beq_iff_eq] at c2;rw[if_pos (by omega)] at hz;have:=Zou hz c2.2;have g1:=h2.1 c2.2;rw[if_neg (by omega)];rfl
 rw[if_neg c2]
 by_cases c3:(byt l 0/16==14&&goesOn l 1&&goesOn l 2)=true
 ·rw[if_pos c3];simp only[Bool.and_eq_true,beq_iff_eq] at c3;rw[if_neg (by omega),if_pos (by omega)] at hz;obtain⟨n,hn,hv⟩:=Zow hz c3.1.2 c3.2;have g1:=h2.1 c3.1.2;have g2:=h3.1 c3.2;rw[if_neg (by unfold Utf8.valid;simp;omega)];rfl
 rw[if_neg c3]
 by_cases c4:(byt l 0/8==30&&goesOn l 1&&goesOn l 2&&goesOn l 3)=true
 ·rw[if_pos c4];simp only[Bool.and_eq_true,beq_iff_eq] at c4;rw[if_neg (by omega),if_neg (by omega),if_pos (by omega)] at hz;obtain⟨n,hn,hv⟩:=Zns hz c4.1.1.2 c4.1.2 c4.2;have g1:=h2.1 c4.1.1.2;have g2:=h3.1 c4.1.2;have g3:=h4.1 c4.2;rw[if_neg (by unfold Utf8.valid;simp;omega)];rfl
 rw[if_neg c4];rfl
end Go.M31
/- Memory in separate pieces: what a world holds, block by block; and the rules by which a formula's nodes are met. No program in sight. -/
namespace Go.Vc

abbrev Hp:=Nat->Option Obj
abbrev HProp:=Hp->Prop
def Hp.sub (h g:Hp):Prop:=∀ b o,h b=some o->g b=some o
def Hp.minus (h g:Hp):Hp:=λb=>if (g b).isSome=true then none else h b
def Sat:List HProp->Hp->Prop
 |[],_=>True
 |P::L,h=>∃ g,P g/\g.sub h/\Sat L (h.minus g)
def hp (w:World):Hp:=λb=>w.heap[b]?
def Holds (w:World) (L:List HProp):Prop:=Sat L (hp w)
def blkO (b:Nat) (o:Obj):HProp:=λh=>h b=some o
def blk (b:Nat) (t:TypeId) (cs:List Value):HProp:=blkO b (.cells cs.toArray t)
def pur (p:Prop):HProp:=λ_=>p
structure Same (w w':World):Prop where
 os:w'.os=w.os
 tape:w'.tape=w.tape
 output:w'.output=w.output
 size:w.heap.size<=w'.heap.size
theorem Same.refl (w:World):Same w w:=⟨rfl,rfl,rfl,Nat.le_refl _⟩
theorem Same.trans {a b c:World}(h:Same a b) (k:Same b c):Same a c:=⟨k.os.trans h.os,k.tape.trans h.tape,k.output.trans h.output,Nat.le_trans h.size k.size⟩

theorem Sat.mono:∀ {L:List HProp}{h g:Hp},Sat L h->h.sub g->Sat L g
 |[],_,_,_,_=>trivial
 |P::L,h,g,⟨k,hp,hs,hL⟩,hg=>⟨k,hp,λb o hb=>hg b o (hs b o hb),hL.mono λb o hb=>by
  unfold Hp.minus at hb ⊢;split
  ·rename_i h1;rw[if_pos h1] at hb;cases hb
  ·rename_i h1;rw[if_neg h1] at hb;exact hg b o hb⟩
theorem Sat.swap {P Q:HProp}{L:List HProp}{h:Hp}(H:Sat (P::Q::L) h):Sat (Q::P::L) h:=by
 obtain⟨g,hg,hgs,k,hk,hks,hL⟩:=H
 have kn:∀ b o,k b=some o->g b=none/\h b=some o:=λb o hb=>by
  have:=hks b o hb;unfold Hp.minus at this;split at this
  ·cases this
  ·rename_i h1;simp at h1;exact⟨h1,this⟩
 refine⟨k,hk,λb o hb=>(kn b o hb).2,g,hg,λb o hb=>?_,hL.mono λb o hb=>?_⟩
 ·unfold Hp.minus;rw[if_neg ?_]
  ·exact hgs b o hb
  ·intro h1;obtain⟨x,hx⟩:=Option.isSome_iff_exists.1 h1;rw[(kn b x hx).1] at hb;cases hb
 ·unfold Hp.minus at hb ⊢;split at hb
  ·cases hb
  ·rename_i h1;split at hb
   ·cases hb
   ·rename_i h2;rw[if_neg h2,if_neg h1];exact hb
theorem Sat.pull:∀ {L:List HProp}{h:Hp}(i:Nat){P:HProp},Sat L h->L[i]?=some P->Sat (P::L.eraseIdx i) h
 |Q::L,h,0,P,H,hi=>by simp at hi;subst hi;exact H
 |Q::L,h,i+1,P,⟨g,hg,hs,hL⟩,hi=>Sat.swap ⟨g,hg,hs,hL.pull i (by simpa using hi)⟩
theorem Sat.push:∀ {L:List HProp}{h:Hp}(i:Nat){P Q:HProp},L[i]?=some Q->Sat (P::L.eraseIdx i) h->Sat (L.set i P) h
 |R::L,h,0,P,Q,_,H=>H
 |R::L,h,i+1,P,Q,hi,H=>by
  obtain⟨g,hg,hs,hL⟩:=Sat.swap H;exact⟨g,hg,hs,Sat.push i (by simpa using hi) hL⟩
theorem Holds.front {w:World}{L:List HProp}(H:Holds w L) (i:Nat){P:HProp}(hi:L[i]?=some P):Holds w (P::L.eraseIdx i):=Sat.pull i H hi
theorem Holds.swap {w:World}{P Q:HProp}{L:List HProp}(H:Holds w (P::Q::L)):Holds w (Q::P::L):=Sat.swap H
theorem Holds.drop {w:World}{P:HProp}{L:List HProp}(H:Holds w (P::L)):Holds w L:=by
 obtain⟨g,_,_,hL⟩:=H
 exact hL.mono λb o hb=>by
  unfold Hp.minus at hb;split at hb
  ·cases hb
  ·exact hb
theorem Holds.dropAt {w:World}{L:List HProp}(H:Holds w L) (i:Nat):Holds w (L.eraseIdx i):=by
 cases h:L[i]? with
 |none=>rw[List.eraseIdx_of_length_le (by simpa using h)];exact H
 |some P=>exact (H.front i h).drop
theorem Sat.imp {P Q:HProp}{L:List HProp}{h:Hp}(H:Sat (P::L) h) (hpq:∀ h,P h->Q h):Sat (Q::L) h:=by
 obtain⟨g,hg,hs,hL⟩:=H;exact⟨g,hpq _ hg,hs,hL⟩
theorem Holds.imp {P Q:HProp}{L:List HProp}{w:World}(H:Holds w (P::L)) (hpq:∀ h,P h->Q h):Holds w (Q::L):=Sat.imp H hpq
theorem Holds.ex {α:Type}{P:α->HProp}{L:List HProp}{w:World}(H:Holds w ((λh=>∃ x,P x h)::L)):∃ x,Holds w (P x::L):=by
 obtain⟨g,⟨x,hx⟩,hs,hL⟩:=H;exact⟨x,g,hx,hs,hL⟩
theorem Holds.pure {p:Prop}{P:HProp}{L:List HProp}{w:World}(H:Holds w ((λh=>p/\P h)::L)):p/\Holds w (P::L):=by
 obtain⟨g,⟨hp,hg⟩,hs,hL⟩:=H;exact⟨hp,g,hg,hs,hL⟩
theorem Sat.unpack:∀ {A L:List HProp}{h:Hp},Sat (Sat A::L) h->Sat (A++L) h
 |[],L,h,⟨g,_,_,hL⟩=>hL.mono λb o hb=>by
  unfold Hp.minus at hb;split at hb
  ·cases hb
  ·exact hb
 |P::A,L,h,⟨g,⟨k,hk,hks,hA⟩,hgs,hL⟩=>by
  refine⟨k,hk,λb o hb=>hgs b o (hks b o hb),Sat.unpack ⟨g.minus k,hA,λb o hb=>?_,hL.mono λb o hb=>?_⟩⟩
  ·unfold Hp.minus at hb ⊢;split at hb
   ·cases hb
   ·rename_i h1;rw[if_neg h1];exact hgs b o hb
  ·unfold Hp.minus at hb ⊢;split at hb
   ·cases hb
   ·rename_i h1
    have h1':g b=none:=by simpa using h1
    have h2:k b=none:=by
     cases hk:k b with
     |none=>rfl
     |some x=>rw[hks b x hk] at h1';cases h1'
    simp[h1',h2,hb]
theorem Sat.pack:∀ {A L:List HProp}{h:Hp},Sat (A++L) h->Sat (Sat A::L) h
 |[],L,h,H=>by
  refine⟨λ_=>none,trivial,?_,?_⟩
  ·intro b o hb;cases hb
  ·have e:h.minus (λ_=>none)=h:=by funext b;simp[Hp.minus]
   rw[e];exact H
 |P::A,L,h,⟨k,hk,hks,H⟩=>by
  obtain⟨g,hg,hgs,hL⟩:=Sat.pack H
  have gk:∀ b o,g b=some o->k b=none/\h b=some o:=λb o hb=>by
   have:=hgs b o hb;unfold Hp.minus at this;split at this
   ·cases this
   ·rename_i h1;simp at h1;exact⟨h1,this⟩
  refine⟨λb=>(k b).or (g b),⟨k,hk,λb o hb=>by simp[hb],hg.mono λb o hb=>?_⟩,λb o hb=>?_,hL.mono λb o hb=>?_⟩
  ·unfold Hp.minus;simp[(gk b o hb).1,hb]
  ·cases hkb:k b with
   |none=>simp[hkb] at hb;exact (gk b o hb).2
   |some x=>simp[hkb] at hb;subst hb;exact hks b x hkb
  ·unfold Hp.minus at hb ⊢;split at hb
   ·cases hb
   ·rename_i h1;split at hb
    ·cases hb
    ·rename_i h2;simp at h1 h2;simp[h1,h2,hb]
theorem Holds.pack {A L:List HProp}{w:World}(H:Holds w (A++L)):Holds w (Sat A::L):=Sat.pack H
theorem Holds.unpack {A L:List HProp}{w:World}(H:Holds w (Sat A::L)):Holds w (A++L):=Sat.unpack H

theorem Holds.obj {w:World}{L:List HProp}(H:Holds w L) (i:Nat){b:Nat}{o:Obj}(hi:L[i]?=some (blkO b o)):w.heap[b]?=some o:=by
 obtain⟨g,hg,hs,_⟩:=H.front i hi;exact hs b o hg
theorem Holds.upd {w w':World}{L:List HProp}(H:Holds w L) (i:Nat){b:Nat}{o o':Obj}(hi:L[i]?=some (blkO b o)) (hb:w'.heap[b]?=some o') (ho:∀ c,c≠b->w'.heap[c]?=w.heap[c]?) :
  Holds w' (L.set i (blkO b o')):=by
 obtain⟨g,hg,hs,hL⟩:=H.front i hi;refine Sat.push i hi ⟨λc=>if c=b then some o' else none,by simp[blkO],λc o hc=>?_,hL.mono λc o hc=>?_⟩
 ·by_cases e:c=b
  ·subst e;simp at hc;subst hc;exact hb
  ·simp[e] at hc
 ·unfold Hp.minus at hc ⊢
  by_cases e:c=b
  ·subst e;rw[if_pos (by rw[show g c=some _ from hg];rfl)] at hc;cases hc
  ·simp only[e,if_false,Option.isSome_none,Bool.false_eq_true];split at hc
   ·cases hc
   ·show w'.heap[c]?=_;rw[ho c e];exact hc
theorem Holds.new {w w':World}{L:List HProp}(H:Holds w L){b:Nat}{o:Obj}(hn:w.heap[b]?=none) (hb:w'.heap[b]?=some o) (ho:∀ c,c≠b->w'.heap[c]?=w.heap[c]?) :
  Holds w' (blkO b o::L):=by
 refine⟨λc=>if c=b then some o else none,by simp[blkO],λc x hc=>?_,Sat.mono H λc x hc=>?_⟩
 ·by_cases e:c=b
  ·subst e;simp at hc;subst hc;exact hb
  ·simp[e] at hc
 ·unfold Hp.minus
  by_cases e:c=b
  ·subst e;rw[show hp w c=none from hn] at hc;cases hc
  ·simp only[e,if_false,Option.isSome_none,Bool.false_eq_true];show w'.heap[c]?=_;rw[ho c e];exact hc
theorem Holds.same {w w':World}{L:List HProp}(H:Holds w L) (h:w'.heap=w.heap):Holds w' L:=by
 unfold Holds hp at *;rw[h];exact H
theorem Holds.cell {w:World}{L:List HProp}(H:Holds w L) (i:Nat){b:Nat}{t:TypeId}{cs:List Value}(hi:L[i]?=some (blk b t cs)) (o:Nat):w.cell? ⟨b,o,none⟩=cs[o]?:=by
 have:=H.obj i hi;simp[World.cell?,this]
theorem Holds.frozen {w:World}{L:List HProp}(H:Holds w L) (i:Nat){b:Nat}{t:TypeId}{cs:List Value}(hi:L[i]?=some (blk b t cs)) (o:Nat):w.frozen? ⟨b,o,none⟩=false:=by
 have:=H.obj i hi;simp[World.frozen?,this]
theorem Holds.set {w:World}{L:List HProp}(H:Holds w L) (i:Nat){b:Nat}{t:TypeId}{cs:List Value}(hi:L[i]?=some (blk b t cs)) (o:Nat) (v:Value) :
  Holds (w.setCell ⟨b,o,none⟩ v) (L.set i (blk b t (cs.set o v))):=by
 have h:=H.obj i hi;refine H.upd i hi ?_ λc hc=>?_
 ·simp[World.setCell,Array.getElem?_modify,h]
 ·simp only[World.setCell,Array.getElem?_modify];rw[if_neg (by simpa using λh=>hc h.symm)]
theorem Same.setCell (w:World) (a:Addr) (v:Value):Same w (w.setCell a v):=⟨rfl,rfl,rfl,by simp[World.setCell]⟩
theorem Same.drew (w:World):Same w w.drew:=⟨rfl,rfl,rfl,Nat.le_refl _⟩
theorem Same.alloc (w:World) (o:Obj):Same w (w.alloc o):=⟨rfl,rfl,rfl,by simp⟩
theorem Holds.alloc {w:World}{L:List HProp}(H:Holds w L) (o:Obj):Holds (w.alloc o) (blkO w.heap.size o::L):=by
 refine H.new (by simp) ?_ λc hc=>?_
 ·show (w.heap.push o)[w.heap.size]?=_;simp
 ·show (w.heap.push o)[c]?=_;rw[Array.getElem?_push,if_neg (by omega)]

def whole (w:World):HProp:=λh=>∀ b o,w.heap[b]?=some o->h b=some o
theorem holds_whole (w:World):Holds w [whole w]:=⟨hp w,λb o h=>h,λb o h=>h,trivial⟩
theorem Zhe {w w':World}(S:Same w w'){L:List HProp}(H:Holds w' (whole w::L)):RowKit.Below w.heap.size w w':=by
 refine⟨S.os,S.tape,S.output,S.size,λk hk=>?_⟩;obtain⟨g,hg,hs,_⟩:=H;have h1:w.heap[k]?=some w.heap[k]:=Array.getElem?_eq_getElem hk;rw[h1];exact hs k _ (hg k _ h1)
theorem calls_of_law {P:Program}{f:FuncId}{args:Array Value}{w:World}(h:∀ K:Value->World->Prop,(∀ w',Same w w'->Holds w' [whole w]->K (.bool true) w')->Cl P f args w K) :
  Calls P f args w λe w'=>e=.returned (.bool true)/\RowKit.Below w.heap.size w w':=
 (h (λv w'=>v=.bool true/\RowKit.Below w.heap.size w w') λw' S H=>⟨rfl,Zhe S H⟩).2.mono λe w' ⟨v,he,hv,hb⟩=>⟨by rw[he,hv],hb⟩

section
variable {P:Program}{w:World}{L:List HProp}
theorem r_nc {a:Addr}{A:Prop}(h:A):Nc (.pointer (some a)) A:=⟨⟨a,rfl⟩,h⟩
theorem r_fo {off b o:Nat}{K:Value->Prop}(h:K (.pointer (some ⟨b,o+off,none⟩))):Fo off (.pointer (some ⟨b,o,none⟩)) K:=by
 refine⟨_,rfl,?_⟩;unfold Addr.add;split
 ·rename_i h0;subst h0;exact h
 ·exact h
theorem r_fo0 {off b:Nat}{K:Value->Prop}(h:K (.pointer (some ⟨b,off,none⟩))):Fo off (.pointer (some ⟨b,0,none⟩)) K:=r_fo (by rw[Nat.zero_add];exact h)
theorem r_ld (i:Nat) (H:Holds w L){b o:Nat}{t:TypeId}{cs:List Value}{v:Value}{K:Value->Prop}(hi:L[i]?=some (blk b t cs)) (hc:cs[o]?=some v) (h:K v) :
  Ld (.pointer (some ⟨b,o,none⟩)) w K:=⟨_,v,rfl,(H.cell i hi o).trans hc,h⟩
theorem r_st (i:Nat) (H:Holds w L){b o:Nat}{t:TypeId}{cs:List Value}{v:Value}{K:World->Prop}(hi:L[i]?=some (blk b t cs)) (ho:o < cs.length) (hs:sg v=true)
  (h:∀ w',Same w w'->Holds w' (L.set i (blk b t (cs.set o v)))->K w'):St (.pointer (some ⟨b,o,none⟩)) v w K:=
 ⟨_,cs[o],rfl,(H.cell i hi o).trans (by simp[ho]),H.frozen i hi o,hs,h _ (.setCell _ _ _) (H.set i hi o v)⟩
theorem r_new {z:Value}{t:TypeId}(H:Holds w L){K:KT}(h:∀ b w',Same w w'->Holds w' (blk b t z.cells.toList::L)->K (.pointer (some ⟨b,0,none⟩)) w'):New z t w K:=
 h _ _ (.alloc _ _) (H.alloc _)
theorem r_dr (H:Holds w L){K:World->Prop}(h:∀ w',Same w w'->Holds w' L->K w'):Dr w K:=h _ (.drew _) (H.same rfl)
theorem r_vif {b:Bool}{A B:Prop}(h1:b=true->A) (h2:b=false->B):Vif (.bool b) A B:=by
 cases b
 ·exact h2 rfl
 ·exact h1 rfl
theorem Zfa {rest:(Nat->Value)->Cur 0}{br:Cur 0->Prop}(J:World->Prop) (hJ:∀ jb w,J w->rest jb w) (h:br J):VJoin 0 rest br:=⟨J,λjb w hw=>hJ jb w hw,h⟩
theorem Za4 {rest:(Nat->Value)->Cur 1}{br:Cur 1->Prop}(J:KT) (hJ:∀ jb x w,J x w->rest jb x w) (h:br J):VJoin 1 rest br:=⟨J,λjb x w hw=>hJ jb x w hw,h⟩
theorem Zkt {rest:(Nat->Value)->Cur 2}{br:Cur 2->Prop}(J:Value->Value->World->Prop) (hJ:∀ jb x y w,J x y w->rest jb x y w) (h:br J):VJoin 2 rest br:=⟨J,λjb x y w hw=>hJ jb x y w hw,h⟩
theorem r_ke {a:List Value}{X:Prop}(h:X):KE a a X:=⟨rfl,h⟩
theorem Znu {w:World}{body:(Nat->Value)->Cur 0->Cur 0}(I:World->Prop) (μ:World->Nat) (h0:I w)
  (h:∀ jb w,I w->body jb (λw'=>I w'/\μ w' < μ w) w):VLoop 0 [] w body:=
 ⟨λ_ w=>I w,λ_ w=>μ w,h0,λjb us u hl hI=>match us,hl with|[],_=>h jb u hI⟩
theorem Zad {w:World}{a:Value}{body:(Nat->Value)->Cur 1->Cur 1}(I:KT) (μ:Value->World->Nat) (h0:I a w)
  (h:∀ jb x w,I x w->body jb (λx' w'=>I x' w'/\μ x' w' < μ x w) x w):VLoop 1 [a] w body:=
 ⟨λl w=>match l with|[x]=>I x w|_=>False,λl w=>match l with|[x]=>μ x w|_=>0,h0,λjb us u hl hI=>match us,hl with|[x],_=>h jb x u hI⟩
theorem Zau {w:World}{a b:Value}{body:(Nat->Value)->Cur 2->Cur 2}(I:Value->Value->World->Prop) (μ:Value->Value->World->Nat) (h0:I a b w)
  (h:∀ jb x y w,I x y w->body jb (λx' y' w'=>I x' y' w'/\μ x' y' w' < μ x y w) x y w):VLoop 2 [a,b] w body:=
 ⟨λl w=>match l with|[x,y]=>I x y w|_=>False,λl w=>match l with|[x,y]=>μ x y w|_=>0,h0,λjb us u hl hI=>match us,hl with|[x,y],_=>h jb x y u hI⟩
theorem Zo8 {w:World}{a b c:Value}{body:(Nat->Value)->Cur 3->Cur 3}(I:Value->Value->Value->World->Prop) (μ:Value->Value->Value->World->Nat) (h0:I a b c w)
  (h:∀ jb x y z w,I x y z w->body jb (λx' y' z' w'=>I x' y' z' w'/\μ x' y' z' w' < μ x y z w) x y z w):VLoop 3 [a,b,c] w body:=
 ⟨λl w=>match l with|[x,y,z]=>I x y z w|_=>False,λl w=>match l with|[x,y,z]=>μ x y z w|_=>0,h0,λjb us u hl hI=>match us,hl with|[x,y,z],_=>h jb x y z u hI⟩
theorem wrap64 {n:Int}(h1:-9223372036854775808<=n) (h2:n<=9223372036854775807):IntKind.i64.wrap n=n:=IntWalk.i64_in n ⟨h1,h2⟩
theorem r_add {a b:Int}{K:Value->Prop}(h1:-9223372036854775808<=a+b) (h2:a+b<=9223372036854775807) (h:K (.int .i64 (a+b))):Bp .add (.int .i64 a) (.int .i64 b) K:=
 ⟨.int .i64 (a+b),by simp only[bp,if_true];rw[wrap64 h1 h2],h⟩
theorem r_sub {a b:Int}{K:Value->Prop}(h1:-9223372036854775808<=a - b) (h2:a - b<=9223372036854775807) (h:K (.int .i64 (a - b))):Bp .sub (.int .i64 a) (.int .i64 b) K:=
 ⟨.int .i64 (a - b),by simp only[bp,if_true];rw[wrap64 h1 h2],h⟩
theorem r_mul {a b:Int}{K:Value->Prop}(h1:-9223372036854775808<=a*b) (h2:a*b<=9223372036854775807) (h:K (.int .i64 (a*b))):Bp .mul (.int .i64 a) (.int .i64 b) K:=
 ⟨.int .i64 (a*b),by simp only[bp,if_true];rw[wrap64 h1 h2],h⟩
theorem r_eql {k:IntKind}{a b:Int}{K:Value->Prop}(h:K (.bool (a==b))):Bp .eql (.int k a) (.int k b) K:=⟨.bool (a==b),by simp only[bp,if_true],h⟩
theorem r_neq {k:IntKind}{a b:Int}{K:Value->Prop}(h:K (.bool (a != b))):Bp .neq (.int k a) (.int k b) K:=⟨.bool (a != b),by simp only[bp,if_true],h⟩
theorem r_lss {k:IntKind}{a b:Int}{K:Value->Prop}(h:K (.bool (decide (a < b)))):Bp .lss (.int k a) (.int k b) K:=⟨.bool (decide (a < b)),by simp only[bp,if_true],h⟩
theorem r_leq {k:IntKind}{a b:Int}{K:Value->Prop}(h:K (.bool (decide (a<=b)))):Bp .leq (.int k a) (.int k b) K:=⟨.bool (decide (a<=b)),by simp only[bp,if_true],h⟩
theorem r_gtr {k:IntKind}{a b:Int}{K:Value->Prop}(h:K (.bool (decide (b < a)))):Bp .gtr (.int k a) (.int k b) K:=⟨.bool (decide (b < a)),by simp only[bp,if_true,gt_iff_lt,ge_iff_le],h⟩
theorem r_geq {k:IntKind}{a b:Int}{K:Value->Prop}(h:K (.bool (decide (b<=a)))):Bp .geq (.int k a) (.int k b) K:=⟨.bool (decide (b<=a)),by simp only[bp,if_true,gt_iff_lt,ge_iff_le],h⟩
theorem Zco {a b:ByteArray}(h:a.data.toList=b.data.toList):a=b:=by
 obtain⟨⟨a⟩⟩:=a;obtain⟨⟨b⟩⟩:=b;simp at h;rw[h]
theorem Ze3 (a b:ByteArray):(a.toList==b.toList)=decide (a=b):=by
 rw[Bool.eq_iff_iff,beq_iff_eq,decide_eq_true_iff,ByteArray.toList_eq,ByteArray.toList_eq];exact⟨Zco,λh=>by rw[h]⟩
theorem Znc (a:ByteArray):a=⟨#[]⟩↔a.size=0:=by
 constructor
 ·rintro rfl;rfl
 ·intro h;apply Zco
  have:a.data.toList.length=0:=by simpa using h
  rw[List.eq_nil_of_length_eq_zero this]
theorem Zh8 {a:ByteArray}{K:Value->Prop}(h:K (.bool (decide (a.size=0)))):Bp .eql (.string a) (.string ⟨#[]⟩) K:=
 ⟨_,rfl,by rw[Ze3,show decide (a=⟨#[]⟩)=decide (a.size=0) from by rw[Bool.eq_iff_iff,decide_eq_true_iff,decide_eq_true_iff,Znc]];exact h⟩
theorem Zpz {a:ByteArray}{K:Value->Prop}(h:K (.bool (decide (¬ a.size=0)))):Bp .neq (.string a) (.string ⟨#[]⟩) K:=
 ⟨_,rfl,by rw[Ze3,show (!decide (a=⟨#[]⟩))=decide (¬ a.size=0) from by rw[Bool.eq_iff_iff,Bool.not_eq_true',decide_eq_false_iff_not,decide_eq_true_iff,Znc]];exact h⟩
theorem r_seq {a b:ByteArray}{K:Value->Prop}(h:K (.bool (decide (a=b)))):Bp .eql (.string a) (.string b) K:=⟨_,rfl,by rw[Ze3];exact h⟩
theorem r_cat {a b:ByteArray}{K:Value->Prop}(hs:a.size+b.size<=9223372036854775807) (h:K (.string (a++b))):Bp .add (.string a) (.string b) K:=by
 refine⟨.string (a++b),?_,h⟩;simp only[bp];rw[if_neg (by show ¬ _ > (9223372036854775807:Int);omega)]
theorem r_not {b:Bool}{K:Value->Prop}(h:K (.bool !b)):Up .not (.bool b) K:=⟨_,rfl,h⟩
theorem r_bnS {e:TypeId}{neg:Bool}{a:Addr}{K:Value->Prop}(h:K (.bool neg)):Bn P e neg (.pointer (some a)) (.pointer none) K:=
 .inl ⟨false,rfl,by cases neg <;> exact h⟩
theorem r_vt {A B:Prop}(h:A):Vif (.bool true) A B:=h
theorem r_vf {A B:Prop}(h:B):Vif (.bool false) A B:=h
theorem r_vtd {c:Bool}{A B:Prop}(hc:c=true) (h:A):Vif (.bool c) A B:=by subst hc;exact h
theorem r_vfd {c:Bool}{A B:Prop}(hc:c=false) (h:B):Vif (.bool c) A B:=by subst hc;exact h
theorem r_vtD {p:Prop} [Decidable p] {A B:Prop}(hc:p) (h:A):Vif (.bool (decide p)) A B:=r_vtd (decide_eq_true hc) h
theorem r_vfD {p:Prop} [Decidable p] {A B:Prop}(hc:¬ p) (h:B):Vif (.bool (decide p)) A B:=r_vfd (decide_eq_false hc) h
theorem r_vtE {a b:Int}{A B:Prop}(hc:a=b) (h:A):Vif (.bool (a==b)) A B:=r_vtd (beq_iff_eq.2 hc) h
theorem r_vfE {a b:Int}{A B:Prop}(hc:¬ a=b) (h:B):Vif (.bool (a==b)) A B:=r_vfd (beq_eq_false_iff_ne.2 hc) h
theorem r_vtN {a b:Int}{A B:Prop}(hc:¬ a=b) (h:A):Vif (.bool (a != b)) A B:=r_vtd (bne_iff_ne.2 hc) h
theorem r_vfN {a b:Int}{A B:Prop}(hc:a=b) (h:B):Vif (.bool (a != b)) A B:=r_vfd (by subst hc;simp) h
theorem r_ifD {p:Prop} [Decidable p] {A B:Prop}(h1:p->A) (h2:¬ p->B):Vif (.bool (decide p)) A B:=r_vif (λh=>h1 (of_decide_eq_true h)) λh=>h2 (of_decide_eq_false h)
theorem r_ifE {a b:Int}{A B:Prop}(h1:a=b->A) (h2:¬ a=b->B):Vif (.bool (a==b)) A B:=r_vif (λh=>h1 (beq_iff_eq.1 h)) λh=>h2 (beq_eq_false_iff_ne.1 h)
theorem r_ifN {a b:Int}{A B:Prop}(h1:¬ a=b->A) (h2:a=b->B):Vif (.bool (a != b)) A B:=r_vif (λh=>h1 (bne_iff_ne.1 h)) λh=>h2 (by simpa using h)
theorem r_lns {s:ByteArray}{K:Value->Prop}(h:K (.int .i64 (s.size:Int))):Lns (.string s) K:=⟨s,rfl,h⟩
theorem r_lnl {a:Option Addr}{l c:Nat}{K:Value->Prop}(h:K (.int .i64 (l:Int))):Lnl (.slice a l c) K:=⟨a,l,c,rfl,h⟩
theorem r_ixs {s:ByteArray}{k:IntKind}{n:Int}{K:Value->Prop}(h0:0<=n) (h1:n < (s.size:Int)) (h:K (.int .u8 ((s.data.toList.getD n.toNat 0).toNat:Int))):Ixs (.string s) (.int k n) K:=
 ⟨s,k,n,rfl,rfl,h0,h1,h⟩
theorem r_ex {vs:Array Value}{i:Nat}{v:Value}{K:Value->Prop}(hv:vs[i]?=some v) (h:K v):Ex (.tuple vs) i K:=⟨vs,v,rfl,hv,h⟩
theorem Zko {a:Addr}{e:TypeId}{K:Value->Prop}(h:K (.bool false)):Bn P e false (.pointer (some a)) (.pointer none) K:=r_bnS h
theorem Zn8 {K:Value->Prop}(h:K (.bool false)):Up .not (.bool true) K:=r_not h
theorem Znl {K:Value->Prop}(h:K (.bool true)):Up .not (.bool false) K:=r_not h
theorem Zal {a b:Value}{K:Value->Prop}(h:K a):Ex (.tuple #[a,b]) 0 K:=r_ex rfl h
theorem Zak {a b:Value}{K:Value->Prop}(h:K b):Ex (.tuple #[a,b]) 1 K:=r_ex rfl h
theorem Zda {a b c:Value}{K:Value->Prop}(h:K a):Ex (.tuple #[a,b,c]) 0 K:=r_ex rfl h
theorem Ze2 {a b c:Value}{K:Value->Prop}(h:K b):Ex (.tuple #[a,b,c]) 1 K:=r_ex rfl h
theorem Ze0 {a b c:Value}{K:Value->Prop}(h:K c):Ex (.tuple #[a,b,c]) 2 K:=r_ex rfl h
theorem r_ci {k k':IntKind}{n:Int}{K:Value->Prop}(h:K (.int k (k.wrap n))):Ci k (.int k' n) K:=⟨k',n,rfl,h⟩
theorem Zbb {k':IntKind}{n:Int}{K:Value->Prop}(h1:-9223372036854775808<=n) (h2:n<=9223372036854775807) (h:K (.int .i64 n)):Ci .i64 (.int k' n) K:=
 ⟨k',n,rfl,by rw[wrap64 h1 h2];exact h⟩
theorem r_sst {s:ByteArray}{lo hi:Option Value}{l h:Nat}{K:Value->Prop}(hl:bnd lo 0 l) (hh:bnd hi s.size h) (h1:l<=h) (h2:h<=s.size) (hk:K (.string (s.extract l h))):Sst (.string s) lo hi K:=
 ⟨s,l,h,rfl,hl,hh,h1,h2,hk⟩
theorem r_ldA (i:Nat) (H:Holds w L){n b o:Nat}{t:TypeId}{cs:List Value}{K:Value->Prop}(sub:List Value) (hi:L[i]?=some (blk b t cs)) (hs:(cs.drop o).take n=sub) (hn:sub.length=n)
  (h:K (.agg sub.toArray)):LdA n (.pointer (some ⟨b,o,none⟩)) w K:=by
 refine⟨_,sub.toArray,rfl,by simpa using hn,λj v hv=>?_,h⟩
 have e1:(⟨b,o,none⟩:Addr).add j=⟨b,o+j,none⟩:=by
  unfold Addr.add;split
  ·rename_i h;rw[h];rfl
  ·rfl
 rw[e1,H.cell i hi]
 have hv':sub[j]?=some v:=by simpa using hv
 have hj:j < n:=by rw[<-hn];exact (gH.1 hv').1
 rw[<-hv',<-hs,hI_ hj,hH_]
theorem Zpo {s:ByteArray}{k:IntKind}{m:Nat}{K:Value->Prop}(h1:m < s.size) (h:K (.int .u8 ((s.data.toList.getD m 0).toNat:Int))):Ixs (.string s) (.int k (m:Int)) K:=
 r_ixs (by omega) (by omega) (by rw[gC];exact h)
theorem Za2 {a:Nat}{K:Value->Prop}(h2:a < 9223372036854775807) (h:K (.int .i64 ((a+1:Nat):Int))):Bp .add (.int .i64 (a:Int)) (.int .i64 1) K:=r_add (by omega) (by omega) h
theorem Zbr {a:Nat}{K:Value->Prop}(h2:1<=a) (h3:a < 9223372036854775807) (h:K (.int .i64 ((a - 1:Nat):Int))):Bp .sub (.int .i64 (a:Int)) (.int .i64 1) K:=
 r_sub (by omega) (by omega) (by rw[show (a:Int) - 1=((a - 1:Nat):Int) by omega];exact h)
theorem Zae {a b:Nat}{K:Value->Prop}(h2:a+b < 9223372036854775807) (h:K (.int .i64 ((a+b:Nat):Int))):Bp .add (.int .i64 (a:Int)) (.int .i64 (b:Int)) K:=r_add (by omega) (by omega) h
theorem r_bd {t:TypeId}{ps:Array (Nat × Value)}{v:Value}{K:Value->Prop}(h:(Instr.build t ps).run P w=.ok v w) (k:K v):Bd P t ps w K:=⟨v,h,k⟩
theorem r_be {op:BinOp}{t:TypeId}{X Y:Operand}{x y v:Value}{K:Value->Prop}(h:(do eqGuard op t X Y x y;binOp op t x y).run P w=.ok v w) (k:K v):Be P op t X Y x y w K:=⟨v,h,k⟩
theorem r_min {ats:Array TypeId}{t:TypeId}{k:IntKind}{a b:Int}{K:Value->Prop}(h:K (.int k (min a b))):Bmin P ats t #[.int k a,.int k b] w K:=by
 refine⟨.int k (if b < a then b else a),by simp[Builtin.min_,Builtin.min2,Sem.run_pure,List.foldlM],?_⟩
 have:(if b < a then b else a)=min a b:=by split <;> omega
 rw[this];exact h
theorem r_rk {N:Node}{v:Value}{A:Prop}(h:N w λu=>u=v) (hA:A):Rk N v w A:=⟨h,hA⟩
theorem r_cl {f:FuncId}{args:Array Value}{K K':KT}(h:Cl P f args w K) (hk:∀ v w',K v w'->K' v w'):Cl P f args w K':=
 ⟨h.1,h.2.mono λe w' ⟨v,he,hv⟩=>⟨v,he,hk v w' hv⟩⟩
end
end Go.Vc
/- Slices of one-cell elements in the separation layer: index, append, make, to a string. -/
namespace Go.Vc

abbrev iv (n:Int):Value:=.int .i64 n
abbrev nv (n:Nat):Value:=.int .i64 (n:Int)
abbrev bv (c:UInt8):Value:=.int .u8 (c.toNat:Int)
abbrev uv (n:Nat):Value:=.int .u32 (n:Int)
abbrev stv (s:ByteArray):Value:=.string s

theorem Sat.at:∀ {L:List HProp}{h:Hp}(i:Nat){P Q:HProp},Sat L h->L[i]?=some P->(∀ g,P g->Q g)->Sat (L.set i Q) h:=by
 intro L h i P Q H hi hpq;exact Sat.push i hi ((H.pull i hi).imp hpq)
theorem Holds.at {w:World}{L:List HProp}(H:Holds w L) (i:Nat){P Q:HProp}(hi:L[i]?=some P) (hpq:∀ g,P g->Q g):Holds w (L.set i Q):=Sat.at i H hi hpq
section
variable {α:Type}
def slb (f:α->Value) (e:TypeId) (oa:Option Addr) (xs:List α) (sp:List Value):HProp:=
 match oa with
 |none=>pur (xs=[]/\sp=[])
 |some a=>λh=>a.off=0/\a.spot=none/\blk a.block e (xs.map f++sp) h
def SL (f:α->Value) (e:TypeId) (v:Value) (xs:List α):HProp:=λh=>∃ oa sp,v=.slice oa xs.length (xs.length+sp.length)/\slb f e oa xs sp h

theorem Holds.open {w:World}{L:List HProp}(H:Holds w L) (i:Nat){f:α->Value}{e:TypeId}{v:Value}{xs:List α}(hi:L[i]?=some (SL f e v xs)) :
  ∃ oa sp,v=.slice oa xs.length (xs.length+sp.length)/\Holds w (L.set i (slb f e oa xs sp)):=by
 obtain⟨g,⟨oa,sp,hv,hg⟩,hs,hL⟩:=H.front i hi;exact⟨oa,sp,hv,Sat.push i hi ⟨g,hg,hs,hL⟩⟩
theorem Holds.close {w:World}{L:List HProp}(H:Holds w L) (i:Nat){f:α->Value}{e:TypeId}{oa:Option Addr}{xs:List α}{sp:List Value}(hi:L[i]?=some (slb f e oa xs sp)) :
  Holds w (L.set i (SL f e (.slice oa xs.length (xs.length+sp.length)) xs)):=H.at i hi λg hg=>⟨oa,sp,rfl,hg⟩
theorem Zps (f:α->Value) (e:TypeId) (h:Hp):SL f e (.slice none 0 0) [] h:=⟨none,[],rfl,rfl,rfl⟩
theorem Holds.nilSL {w:World}{L:List HProp}(H:Holds w L) (f:α->Value) (e:TypeId):Holds w (SL f e (.slice none 0 0) []::L):=
 ⟨λ_=>none,Zps f e _,(λb o h=>by cases h),by
  have h0:(hp w).minus (λ_=>none)=hp w:=by funext b;simp[Hp.minus]
  rw[h0];exact H⟩
theorem Holds.slb {w:World}{L:List HProp}(H:Holds w L) (i:Nat){f:α->Value}{e:TypeId}{b:Nat}{xs:List α}{sp:List Value}(hi:L[i]?=some (slb f e (some ⟨b,0,none⟩) xs sp)) :
  Holds w (L.set i (blk b e (xs.map f++sp))):=H.at i hi λg hg=>hg.2.2
theorem Holds.slb' {w:World}{L:List HProp}(H:Holds w L) (i:Nat){f:α->Value}{e:TypeId}{b:Nat}{xs:List α}{sp:List Value}(hi:L[i]?=some (blk b e (xs.map f++sp))) :
  Holds w (L.set i (Vc.slb f e (some ⟨b,0,none⟩) xs sp)):=H.at i hi λg hg=>⟨rfl,rfl,hg⟩
theorem Za7 {L:List HProp}{i:Nat}{P Q:HProp}(hi:L[i]?=some P):(L.set i Q)[i]?=some Q:=by
 have:i < L.length:=(gH.1 hi).1;simp[this]
end

theorem Znj {size:Nat}{a:Option Addr}{n c i:Nat}{k:IntKind}{K:Value->Prop}(h1:i<=c) (h:K (.slice a i c)):Ssl size (.slice a n c) none (some (.int k (i:Int))) K:=by
 refine⟨a,n,c,0,i,rfl,rfl,⟨k,rfl⟩,Nat.zero_le _,h1,?_⟩
 have e:(if c=0 then a else a.map (·.add (0*size)))=a:=by
  split
  ·rfl
  ·cases a with
   |none=>rfl
   |some x=>simp[Addr.add]
 rw[e,Nat.sub_zero,Nat.sub_zero];exact h
theorem Zpn {xs ys:List UInt8}{K:Value->Prop}(hs:xs.length+ys.length<=9223372036854775807) (h:K (.string ⟨(xs++ys).toArray⟩)):Bp .add (.string ⟨xs.toArray⟩) (.string ⟨ys.toArray⟩) K:=
 r_cat (by simpa [ByteArray.size] using by omega) (by
  have e:(⟨xs.toArray⟩:ByteArray)++⟨ys.toArray⟩=⟨(xs++ys).toArray⟩:=by
   apply ByteArray.ext;rw[ByteArray.data_append];simp
  rw[e];exact h)
def setL (cs:List Value) (o:Nat):List Value->List Value
 |[]=>cs
 |v::r=>setL (cs.set o v) (o+1) r
theorem Zj1:∀ (vs cs:List Value) (o:Nat),(setL cs o vs).length=cs.length
 |[],_,_=>rfl
 |v::r,cs,o=>by rw[setL,Zj1 r,List.length_set]
theorem Same.setCells:∀ (vs:List Value) (w:World) (a:Addr) (i:Nat),Same w (setCells w a vs i)
 |[],w,_,_=>.refl w
 |v::r,w,a,i=>(Same.setCell w _ v).trans (Same.setCells r _ a (i+1))
theorem Holds.setCells (i:Nat){b o:Nat}{t:TypeId}:∀ (vs:List Value){w:World}{L:List HProp}{cs:List Value}(k:Nat) (_:Holds w L) (_:L[i]?=some (blk b t cs)),
  Holds (Vc.setCells w ⟨b,o,none⟩ vs k) (L.set i (blk b t (setL cs (o+k) vs)))
 |[],w,L,cs,k,H,hi=>by
  rw[setL]
  have:L.set i (blk b t cs)=L:=by
   apply List.ext_getElem?;intro j;rw[List.getElem?_set];split
   ·rename_i e;subst e;rw[hi];split
    ·rfl
    ·rename_i h;rw[List.getElem?_eq_none (by omega)] at hi;cases hi
   ·rfl
  rw[this];exact H
 |v::r,w,L,cs,k,H,hi=>by
  rw[Vc.setCells,setL]
  have e1:(⟨b,o,none⟩:Addr).add k=⟨b,o+k,none⟩:=by
   unfold Addr.add;split
   ·rename_i h;rw[h];rfl
   ·rfl
  rw[e1];have H2:=H.set i hi (o+k) v;have:=Holds.setCells (o:=o) i r (k+1) H2 (Za7 hi);rw[set_set] at this;exact this
theorem r_stA (i:Nat){w:World}{L:List HProp}(H:Holds w L){n b o:Nat}{t:TypeId}{cs vs:List Value}{K:World->Prop}(hi:L[i]?=some (blk b t cs)) (ho:o+n<=cs.length) (hn:vs.length=n) (hs:vs.all sg=true)
  (h:∀ w',Same w w'->Holds w' (L.set i (blk b t (setL cs o vs)))->K w'):StA n (.pointer (some ⟨b,o,none⟩)) (.agg vs.toArray) w K:=by
 refine⟨_,vs.toArray,rfl,rfl,by simpa using hn,λj hj=>?_,by simpa using hs,?_⟩
 ·have e1:(⟨b,o,none⟩:Addr).add j=⟨b,o+j,none⟩:=by
   unfold Addr.add;split
   ·rename_i h;rw[h];rfl
   ·rfl
  rw[e1];refine⟨?_,H.frozen i hi (o+j)⟩;rw[H.cell i hi (o+j),gA (by omega)];rfl
 ·exact h _ (.setCells _ _ _ _) (Holds.setCells i vs 0 H hi)
theorem Zm9 {s:ByteArray}{m:Nat}:s.extract m s.size=⟨(s.data.toList.drop m).toArray⟩:=by
 apply ByteArray.ext;apply Array.ext';rw[ByteArray.data_extract,Array.toList_extract,extract_eq_take_drop];rw[gK (by simp)]
theorem Zmk {s:ByteArray}{m:Nat}:s.extract 0 m=⟨(s.data.toList.take m).toArray⟩:=by
 apply ByteArray.ext;apply Array.ext';rw[ByteArray.data_extract,Array.toList_extract,extract_eq_take_drop,Nat.sub_zero,List.drop_zero]
theorem Znk {s:ByteArray}{k:IntKind}{m:Nat}{K:Value->Prop}(h1:m<=s.size) (h:K (.string ⟨(s.data.toList.drop m).toArray⟩)):Sst (.string s) (some (.int k (m:Int))) none K:=
 r_sst ⟨k,rfl⟩ rfl h1 (Nat.le_refl _) (by rw[Zm9];exact h)
theorem Zq0 {s:ByteArray}{k:IntKind}{m:Nat}{K:Value->Prop}(h1:m<=s.size) (h:K (.string ⟨(s.data.toList.take m).toArray⟩)):Sst (.string s) none (some (.int k (m:Int))) K:=
 r_sst rfl ⟨k,rfl⟩ (Nat.zero_le _) h1 (by rw[Zmk];exact h)
theorem Zke {size:Nat}{p:Addr}{l c:Nat}{k:IntKind}{n:Nat}{K:Value->Prop}(h:n < l) (hk:K (.pointer (some (p.add (n*size))))):Ias size (.slice (some p) l c) (.int k (n:Int)) K:=
 ⟨p,l,c,k,n,rfl,rfl,by omega,by omega,by rw[gC];exact hk⟩
theorem Zmz {n:Nat}{p:Addr}{w:World}{cs:Array Value}{K:Value->Prop}(hn:cs.size=n) (hc:∀ (j:Nat) v,cs[j]?=some v->w.cell? (p.add j)=some v) (hk:K (.agg cs)):LdA n (.pointer (some p)) w K:=
 ⟨p,cs,rfl,hn,hc,hk⟩
class Row (P:Program) (t:TypeId) (e:outParam TypeId) (z:outParam Value):Prop where
 und:P.underlying t=some (.slice e)
 inf:∃ i,P.info? e=some i/\i.size=1/\i.bytes<=32/\i.zero=some z
 one:z.cells=#[z]

section
variable {α:Type}{P:Program}{w:World}{L:List HProp}
theorem Zlc {v:Value}(h:sg v=true):v.oneCell'=true:=by
 cases v <;> first|rfl|simp[sg] at h
theorem Zjl (l:List UInt8):∀ (s:ByteArray),(l.map λc=>(c.toNat:Int)).foldl (λr n=>r.push (UInt8.ofNat n.toNat)) s=⟨(s.data.toList++l).toArray⟩:=by
 induction l with
 |nil=>intro s;simp
 |cons c l ih=>
  intro s;rw[hR_,foldl_cons,ih];simp[ByteArray.push]
class Bytes (P:Program) (t e d:TypeId):Prop where
 und:P.underlying t=some (.slice e)
 el:P.underlying e=some (.int .u8)
 str:P.underlying d=some .string
theorem r_cbs {t e d:TypeId} [hr:Bytes P t e d] (H:Holds w L) (i:Nat){oa:Option Addr}{xs:List UInt8}{sp:List Value}{l c:Nat}{K:KT}
  (hi:L[i]?=some (slb bv e oa xs sp)) (hl:l=xs.length) (h:K (.string ⟨xs.toArray⟩) w):Cw P t d (.slice oa l c) w K:=by
 subst hl
 cases oa with
 |none=>
  obtain⟨g,⟨h2,h3⟩,_⟩:=H.front i hi;subst h2;refine⟨.string ⟨[].toArray⟩,w,?_,h⟩;rw[run_convert_bytes_string (P:=P) w t d e none _ c hr.und hr.el hr.str];rfl
 |some a=>
  obtain⟨g,⟨h2,h3,_⟩,_⟩:=H.front i hi;obtain⟨b,o,s⟩:=a;simp only at h2 h3;subst h2;subst h3;have Hb:=H.slb i hi;refine⟨_,w,?_,h⟩;rw[run_convert_bytes_string (P:=P) w t d e _ _ c hr.und hr.el hr.str]
  have hload:(loadCells (⟨b,0,none⟩:Addr) xs.length).run P w=.ok ((xs.map λc=>(c.toNat:Int)).map (Value.int .u8)).toArray w:=by
   have hcells:((xs.map λc=>(c.toNat:Int)).map (Value.int .u8))=xs.map bv:=by rw[List.map_map];rfl
   rw[hcells]
   have:=Zax (P:=P) (w:=w) (a:=⟨b,0,none⟩) (cs:=(xs.map bv).toArray) (λj v hv=>by
    have e1:(⟨b,0,none⟩:Addr).add j=⟨b,j,none⟩:=by
     unfold Addr.add;split
     ·rename_i h;rw[h]
     ·simp
    rw[e1,Hb.cell i (Za7 hi) j]
    have hv':(xs.map bv)[j]?=some v:=by simpa using hv
    rw[gM (gH.1 hv').1]
    exact hv')
   simpa using this
  rw[run_bytesToString (P:=P) w _ xs.length c _ hload,Zjl];simp
end
end Go.Vc
/- More rules of the separation layer: ranges over strings, slices of many-cell elements, what lies below. -/
namespace Go.Vc
variable {P:Program}{w:World}{L:List HProp}
def itPos (w:World) (b:Nat):Nat:=match w.heap[b]? with
 |some (.stringIter _ p)=>p
 |_=>0
theorem Zdj (H:Holds w L) (i:Nat){b p:Nat}{s:ByteArray}(hi:L[i]?=some (blkO b (.stringIter s p))):itPos w b=p:=by
 unfold itPos;rw[H.obj i hi]
theorem r_rg {t:TypeId}{s:ByteArray}{K:KT}(ht:P.underlying t=some .string) (H:Holds w L)
  (h:∀ b w',Same w w'->Holds w' (blkO b (.stringIter s 0)::L)->K (.pointer (some ⟨b,0,none⟩)) w'):Rg P t (.string s) w K:=
 ⟨_,_,run_range_string w t s ht,h _ _ (.alloc _ _) (H.alloc _)⟩
theorem r_nxT (H:Holds w L) (i:Nat){t:TypeId}{s:ByteArray}{b p:Nat}{K:KT}(hi:L[i]?=some (blkO b (.stringIter s p))) (hp:p < s.size)
  (h:∀ w',Same w w'->Holds w' (L.set i (blkO b (.stringIter s (p+(Utf8.decode s p).2))))->K (.tuple #[.bool true,.int .i64 p,.int .i32 (Utf8.decode s p).1]) w') :
  Nx P (.pointer (some ⟨b,0,none⟩)) true t w K:=by
 have ho:=H.obj i hi;refine⟨_,_,Lib.run_next_any_at w b s p t ho hp,h _ ⟨rfl,rfl,rfl,by simp[World.iterAt]⟩ (H.upd i hi ?_ ?_)⟩
 ·have:b < w.heap.size:=by
   rcases hU_ b w.heap.size with h1|h1
   ·exact h1
   ·rw[Array.getElem?_eq_none h1] at ho;cases ho
  simp[World.iterAt,Array.getElem?_setIfInBounds,this]
 ·intro c hc;simp only[World.iterAt,Array.getElem?_setIfInBounds];rw[if_neg (by omega)]
theorem r_nxE (H:Holds w L) (i:Nat){t:TypeId}{s:ByteArray}{b p:Nat}{K:KT}(hi:L[i]?=some (blkO b (.stringIter s p))) (hp:¬ p < s.size)
  (h:K (.tuple #[.bool false]) w):Nx P (.pointer (some ⟨b,0,none⟩)) true t w K:=
 ⟨_,_,Lib.run_next_end_at w b s p t (H.obj i hi) hp,h⟩
theorem Zn3 {a:Value}{K:Value->Prop}(h:K a):Ex (.tuple #[a]) 0 K:=r_ex rfl h
theorem r_bsK {t e:TypeId}{n:Nat}{ps:Array (Nat × Value)}{K:KT}(cells:List Value) (H:Holds w L)
  (h:(Instr.buildSlice t n ps).run P w=.ok (.slice (some ⟨w.heap.size,0,none⟩) n n) (w.alloc (.cells cells.toArray e)))
  (k:∀ b w',Same w w'->Holds w' (blk b e cells::L)->K (.slice (some ⟨b,0,none⟩) n n) w'):Bs P t n ps w K:=
 ⟨_,_,h,k _ _ (.alloc _ _) (H.alloc _)⟩
theorem Zq3 {size b l c:Nat}{k:IntKind}{n:Nat}{K:Value->Prop}(h:n < l) (hk:K (.pointer (some ⟨b,n*size,none⟩))):Ias size (.slice (some ⟨b,0,none⟩) l c) (.int k (n:Int)) K:=by
 refine Zke h ?_
 have e1:(⟨b,0,none⟩:Addr).add (n*size)=⟨b,n*size,none⟩:=by
  unfold Addr.add;split
  ·rename_i h;rw[h]
  ·simp
 rw[e1];exact hk
theorem r_inv {m:Sem Next}{f:FuncId}{args:Array Value}{K:KT}(h:m.run P w=.ok (.enter f args) w) (k:Cl P f args w K):Inv P m w K:=⟨f,args,h,k.2⟩
theorem Zo7 {k':IntKind}{n:Int}{K:Value->Prop}(h1:0<=n) (h2:n < 18446744073709551616) (h:K (.int .u64 n)):Ci .u64 (.int k' n) K:=by
 have:Ci .u64 (.int k' n) K:=r_ci (by rw[show IntKind.u64.wrap n=n from by show n%18446744073709551616=n;omega];exact h);exact this
theorem wrapU8 {z:Int}(h1:0<=z) (h2:z < 256):IntKind.u8.wrap z=z:=by show z%256=z;omega
theorem Zpy {s n:Nat}{k k':IntKind}{K:Value->Prop}(hn:n<=k.bits) (h:K (.int k ((s/2^n:Nat):Int))):Bp .shr (.int k (s:Int)) (.int k' (n:Int)) K:=by
 refine⟨_,?_,h⟩;simp only[bp]
 rw[if_neg (by omega),gC,Nat.min_eq_left hn,Int.fdiv_eq_ediv_of_nonneg _ (by
  have:(0:Int)<=((2^n:Nat):Int):=Int.natCast_nonneg _
  simpa using this)]
 simp
def filled {α:Type}(xs:List α) (z:α) (n i:Nat):List α:=xs.take i++List.replicate (n - i) z
theorem Zp7 {s t:Nat}{K:Value->Prop}(hs:s < 256) (ht:t < 256) (h:K (.int .u8 ((s ||| t:Nat):Int))):Bp .or (.int .u8 (s:Int)) (.int .u8 (t:Int)) K:=by
 refine⟨_,?_,h⟩;have hb:IntKind.u8.bits=8:=rfl;have hx:s ||| t < 2^8:=Nat.or_lt_two_pow (by simpa using hs) (by simpa using ht);simp only[bp,if_true];rw[hb,BitVec.toNat_or,BitVec.toNat_ofInt,BitVec.toNat_ofInt]
 have e1:((s:Int)%((2^8:Nat):Int)).toNat=s:=by omega
 have e2:((t:Int)%((2^8:Nat):Int)).toNat=t:=by omega
 rw[e1,e2,wrapU8 (by omega) (by omega)]
theorem Ziq {a b:Int}(c:Int){K:Value->Prop}(hc:a*b=c) (h1:-9223372036854775808<=c) (h2:c<=9223372036854775807) (h:K (.int .i64 c)):Bp .mul (.int .i64 a) (.int .i64 b) K:=by
 subst hc;exact r_mul h1 h2 h
end Go.Vc
/- Rows of elements of many cells: append, and reading. No program in sight. -/
namespace Go.Vc
class RowN (P:Program) (t:TypeId) (e:outParam TypeId) (k:outParam Nat):Prop where
 und:P.underlying t=some (.slice e)
 inf:∃ i z,P.info? e=some i/\i.size=k/\i.bytes<=256/\i.zero=some z/\z.cells.size=k
variable {α:Type}{P:Program}{w:World}{L:List HProp}
def flatL (F:α->List Value):List α->List Value
 |[]=>[]
 |x::r=>F x++flatL F r
theorem Zgi (F:α->List Value) (a b:List α):flatL F (a++b)=flatL F a++flatL F b:=by
 induction a with
 |nil=>rfl
 |cons x r ih=>simp[flatL,ih]
theorem Zbz {F:α->List Value}{k:Nat}(hF:∀ x,(F x).length=k) (xs:List α):(flatL F xs).length=xs.length*k:=by
 induction xs with
 |nil=>simp[flatL]
 |cons x r ih=>simp[flatL,ih,hF,Nat.add_mul];omega
theorem Zdw {F:α->List Value}{k:Nat}(hF:∀ x,(F x).length=k):∀ (xs:List α) (i:Nat) (x:α),xs[i]?=some x->((flatL F xs).drop (i*k)).take k=F x
 |y::r,0,x,h=>by
  simp at h;subst h;have:=hF y;simp[flatL,List.take_append,this]
 |y::r,i+1,x,h=>by
  have h1:=Zdw hF r i x (by simpa using h);have:=hF y;rw[flatL,List.drop_append,this,List.drop_of_length_le (by rw[this,Nat.add_mul];omega),hO_,show (i+1)*k - k=i*k by rw[Nat.add_mul];omega];exact h1
def rwb (F:α->List Value) (k:Nat) (e:TypeId) (oa:Option Addr) (xs:List α) (m:Nat) (sp:List Value):HProp:=
 match oa with
 |none=>pur (xs=[]/\m=0)
 |some a=>λh=>a.off=0/\a.spot=none/\sp.length=m*k/\blk a.block e (flatL F xs++sp) h
def RW (F:α->List Value) (k:Nat) (e:TypeId) (v:Value) (xs:List α):HProp:=λh=>∃ oa m sp,v=.slice oa xs.length (xs.length+m)/\rwb F k e oa xs m sp h
theorem Holds.openRW (H:Holds w L) (i:Nat){F:α->List Value}{k:Nat}{e:TypeId}{v:Value}{xs:List α}(hi:L[i]?=some (RW F k e v xs)) :
  ∃ oa m sp,v=.slice oa xs.length (xs.length+m)/\Holds w (L.set i (rwb F k e oa xs m sp)):=by
 obtain⟨g,⟨oa,m,sp,hv,hg⟩,hs,hL⟩:=H.front i hi;exact⟨oa,m,sp,hv,Sat.push i hi ⟨g,hg,hs,hL⟩⟩
theorem Holds.nilRW (H:Holds w L) (F:α->List Value) (k:Nat) (e:TypeId):Holds w (RW F k e (.slice none 0 0) []::L):=
 ⟨λ_=>none,⟨none,0,[],rfl,rfl,rfl⟩,(λb o h=>by cases h),by
  have h0:(hp w).minus (λ_=>none)=hp w:=by funext b;simp[Hp.minus]
  rw[h0];exact H⟩
theorem Holds.rwb (H:Holds w L) (i:Nat){F:α->List Value}{k:Nat}{e:TypeId}{oa:Option Addr}{xs:List α}{m:Nat}{sp:List Value}(hi:L[i]?=some (rwb F k e oa xs m sp)) (hx:0 < xs.length\/0 < m) :
  ∃ b,oa=some ⟨b,0,none⟩/\sp.length=m*k/\Holds w (L.set i (blk b e (flatL F xs++sp))):=by
 cases oa with
 |none=>
  obtain⟨g,⟨h1,h2⟩,_⟩:=H.front i hi;subst h1;subst h2;simp at hx
 |some a=>
  obtain⟨g,⟨h1,h2,h3,h4⟩,hs,hL⟩:=H.front i hi;obtain⟨b,o,s⟩:=a;simp only at h1 h2;subst h1;subst h2;exact⟨b,rfl,h3,Sat.push i hi ⟨g,h4,hs,hL⟩⟩
theorem Zbj (z:Array Value) (n:Nat):(Builtin.zeroCells z n).toList.length=n*z.size:=by simp[Builtin.zeroCells]
theorem r_apN {t e:TypeId}{k:Nat} [hr:RowN P t e k] (H:Holds w L) (i j:Nat){F:α->List Value}{v:Value}{xs ys:List α}{m' c' b2:Nat}{cs:List Value}{ty:TypeId}{K:KT}
  (hi:L[i]?=some (RW F k e v xs)) (hj:L[j]?=some (blk b2 e cs)) (hij:j≠i) (hcs:cs.take (ys.length*k)=flatL F ys) (hm:m'=ys.length) (hF:∀ y,(F y).length=k) (hs:∀ y,∀ u∈F y,sg u=true)
  (hn:xs.length+ys.length<=68719476736) (hne:0 < ys.length) (hk:0 < k)
  (h:∀ v' w',Same w w'->Holds w' (L.set i (RW F k e v' (xs++ys)))->K v' w') :
  Ap P #[t,t] ty #[v,.slice (some ⟨b2,0,none⟩) m' c'] w K:=by
 obtain⟨oa,m,sp,rfl,H⟩:=H.openRW i hi;have hi1:(L.set i (Vc.rwb F k e oa xs m sp))[i]?=some (Vc.rwb F k e oa xs m sp):=Za7 hi
 have hj1:(L.set i (Vc.rwb F k e oa xs m sp))[j]?=some (blk b2 e cs):=by rw[List.getElem?_set_ne (λe=>hij e.symm)];exact hj
 subst hm;obtain⟨inf,z,hinf,hsz,hby,hzz,hzk⟩:=hr.inf;have hlen:=Zbz (k:=k) hF
 have hsg:∀ u∈flatL F ys,u.oneCell'=true:=by
  intro u hu;clear hcs hne hn h
  induction ys with
  |nil=>simp[flatL] at hu
  |cons y r ih=>
   rw[flatL,hT_] at hu;rcases hu with hu|hu
   ·exact Zlc (hs y u hu)
   ·exact ih hu
 have hnews:∀ q u,(flatL F ys)[q]?=some u->w.cell? ((⟨b2,0,none⟩:Addr).add q)=some u:=by
  intro q u hu
  have e1:(⟨b2,0,none⟩:Addr).add q=⟨b2,q,none⟩:=by
   unfold Addr.add;split
   ·rename_i h;rw[h]
   ·simp
  rw[e1,H.cell j hj1 q]
  have hq:q < ys.length*k:=by have:=(gH.1 hu).1;rw[hlen] at this;exact this
  rw[<-hu,<-hcs,hI_ hq]
 have hmul:(xs.length+ys.length)*inf.bytes<=140737488355328:=
  Nat.le_trans (Nat.mul_le_mul_left _ hby) (by omega)
 have fin:∀ (b' cap:Nat) (w':World) (sp':List Value) (L':List HProp),xs.length+ys.length<=cap->sp'.length=(cap - (xs.length+ys.length))*k->Same w w'->
   Holds w' (blk b' e (flatL F (xs++ys)++sp')::L.eraseIdx i)->K (.slice (some ⟨b',0,none⟩) (xs.length+ys.length) cap) w':=by
  intro b' cap w' sp' L' hc hsp S' H'
  have H4:=Holds.imp H' (Q:=RW F k e (.slice (some ⟨b',0,none⟩) (xs.length+ys.length) cap) (xs++ys)) λg hg=>⟨some ⟨b',0,none⟩,cap - (xs.length+ys.length),sp',by
   rw[gD];congr 1;omega,rfl,rfl,hsp,hg⟩
  exact h _ _ S' (Sat.push i hi H4)
 cases oa with
 |none=>
  obtain⟨g,⟨h2,h3⟩,_⟩:=H.front i hi1;subst h2;subst h3;simp only[List.length_nil,Nat.zero_add,hO_] at hn hmul fin ⊢;have hrun:=run_append_nil (P:=P) w t ty e inf z hr.und hinf hzz ⟨b2,0,none⟩ ys.length c' (flatL F ys) (by rw[hlen,hsz]) hnews (by omega) (by omega) (by omega);refine⟨_,_,hrun,?_⟩;have hcap:=grownCap_ge w ys.length 0 e;generalize grownCap w ys.length 0 e=cap at hcap ⊢;have H2:=(H.same (w':=w.drew) rfl).alloc (.cells ((flatL F ys).toArray++Builtin.zeroCells z.cells (cap - ys.length)) e);have H5:=H2.dropAt (i+1);rw[List.eraseIdx_cons_succ,List.eraseIdx_set_eq] at H5;refine fin _ cap _ (Builtin.zeroCells z.cells (cap - ys.length)).toList L (by omega) (by rw[Zbj,hzk]) ((Same.drew w).trans (.alloc _ _)) ?_
  have hc:((flatL F ys).toArray++Builtin.zeroCells z.cells (cap - ys.length))=(flatL F ys++(Builtin.zeroCells z.cells (cap - ys.length)).toList).toArray:=by simp
  rw[hc] at H5 ⊢;exact H5
 |some a=>
  have h4:=H.rwb i hi1;obtain⟨g,⟨h2,h3,hspl,_⟩,_⟩:=H.front i hi1;obtain⟨b,o,s⟩:=a;simp only at h2 h3;subst h2;subst h3
  have Hb:Holds w (L.set i (blk b e (flatL F xs++sp))):=by
   have:=H.at i hi1 (Q:=blk b e (flatL F xs++sp)) λg hg=>hg.2.2.2;rw[set_set] at this;exact this
  have hgi:(L.set i (blk b e (flatL F xs++sp)))[i]?=some (blk b e (flatL F xs++sp)):=Za7 hi
  have hold:∀ q u,(flatL F xs)[q]?=some u->w.cell? ((⟨b,0,none⟩:Addr).add q)=some u:=by
   intro q u hu
   have e1:(⟨b,0,none⟩:Addr).add q=⟨b,q,none⟩:=by
    unfold Addr.add;split
    ·rename_i h;rw[h]
    ·simp
   rw[e1,Hb.cell i hgi q,gM (gH.1 hu).1];exact hu
  rcases hU_ m ys.length with hg|hg
  ·have hrun:=run_append_grow (P:=P) w t ty e inf z hr.und hinf hzz ⟨b,0,none⟩ xs.length (xs.length+m) (flatL F xs) (by rw[hlen,hsz]) hold
    ⟨b2,0,none⟩ ys.length c' (flatL F ys) (by rw[hlen,hsz]) hnews (by omega) (by omega) (growslice_fits (by omega) hmul)
   refine⟨_,_,hrun,?_⟩;have hcap:=grownCap_ge w (xs.length+ys.length) (xs.length+m) e;generalize grownCap w (xs.length+ys.length) (xs.length+m) e=cap at hcap ⊢;have H2:=(Hb.same (w':=w.drew) rfl).alloc (.cells ((flatL F xs).toArray++(flatL F ys).toArray++Builtin.zeroCells z.cells (cap - (xs.length+ys.length))) e);have H5:=H2.dropAt (i+1);rw[List.eraseIdx_cons_succ,List.eraseIdx_set_eq] at H5;refine fin _ cap _ (Builtin.zeroCells z.cells (cap - (xs.length+ys.length))).toList L (by omega) (by rw[Zbj,hzk]) ((Same.drew w).trans (.alloc _ _)) ?_
   have hc:((flatL F xs).toArray++(flatL F ys).toArray++Builtin.zeroCells z.cells (cap - (xs.length+ys.length)))=(flatL F (xs++ys)++(Builtin.zeroCells z.cells (cap - (xs.length+ys.length))).toList).toArray:=by
    rw[Zgi];simp
   rw[hc] at H5 ⊢;exact H5
  ·have hobj:=Hb.obj i hgi;have hroom:(xs.length+ys.length)*k<=(xs.length+m)*k:=Nat.mul_le_mul_right _ (by omega)
   have hrun:=run_append_room (P:=P) w t ty e inf hr.und hinf b xs.length (xs.length+m) (flatL F xs++sp).toArray hobj
    ⟨b2,0,none⟩ ys.length c' (flatL F ys) (by rw[hlen,hsz]) hnews hsg (by omega) (by
     rw[hsz,List.size_toArray,gD,hspl];have e1:=hlen xs;have e2:=hlen ys;rw[Nat.add_mul,Nat.add_mul] at hroom
     omega)
   refine⟨_,_,hrun,?_⟩
   have hcells:(((flatL F xs++sp).toArray.toList.take (xs.length*inf.size)++flatL F ys++(flatL F xs++sp).toArray.toList.drop (xs.length*inf.size+(flatL F ys).length)).toArray)=(flatL F (xs++ys)++sp.drop (ys.length*k)).toArray:=by
    rw[hsz,Zgi];simp[List.take_append,List.drop_append,hlen]
   rw[hcells]
   have H3:Holds (w.setRow b (flatL F (xs++ys)++sp.drop (ys.length*k)).toArray) (L.set i (blk b e (flatL F (xs++ys)++sp.drop (ys.length*k)))):=by
    have:=Hb.upd (w':=w.setRow b (flatL F (xs++ys)++sp.drop (ys.length*k)).toArray) i hgi (o':=.cells (flatL F (xs++ys)++sp.drop (ys.length*k)).toArray e) (setRow_heap w b _ _ e _ hobj) λc hc=>setRow_other w b c _ hc;rw[set_set] at this;exact this
   have H6:=H3.front i (Za7 hi);rw[List.eraseIdx_set_eq] at H6;refine fin b (xs.length+m) _ (sp.drop (ys.length*k)) L (by omega) ?_ ⟨rfl,rfl,rfl,by simp⟩ H6;rw[gS,hspl,show xs.length+m - (xs.length+ys.length)=m - ys.length by omega,Nat.sub_mul]
theorem Zbv {t e:TypeId}{k:Nat} [hr:RowN P t e k] (H:Holds w L) (i:Nat){F:α->List Value}{v:Value}{xs:List α}{ps:Array (Nat × Value)}{ty:TypeId}{K:KT}(x:α)
  (hi:L[i]?=some (RW F k e v xs)) (hb:(Instr.buildSlice t 1 ps).run P w=.ok (.slice (some ⟨w.heap.size,0,none⟩) 1 1) (w.alloc (.cells (F x).toArray e)))
  (hF:∀ y,(F y).length=k) (hs:∀ y,∀ u∈F y,sg u=true)
  (hn:xs.length+1<=68719476736) (hk:0 < k)
  (h:∀ v' w',Same w w'->Holds w' (L.set i (RW F k e v' (xs++[x])))->K v' w'):Bs P t 1 ps w λy w2=>Ap P #[t,t] ty #[v,y] w2 K:=by
 refine r_bsK (F x) H hb λb3 w3 S3 H3=>?_;refine r_apN (F:=F) (ys:=[x]) H3 (i+1) 0 (by rw[gF];exact hi) rfl (by omega) (by simp[flatL,gK,hF]) rfl hF hs (by simpa using hn) (by simp) hk λv' w4 S4 H4=>?_;rw[List.set_cons_succ] at H4;exact h _ _ (S3.trans S4) H4.drop
theorem r_bpK {op:BinOp}{x y:Value}{K:Value->Prop}(v:Value) (h:bp op x y=some v) (k:K v):Bp op x y K:=⟨v,h,k⟩
theorem Zev {l:List String}(h:l≠[]):∃ m,Instr.least l=some m:=by
 cases l with
 |nil=>exact absurd rfl h
 |cons s r=>exact⟨_,rfl⟩
theorem Zgv {want:Array (String × TypeId)}{got:Array Method}(h:(want.toList.filter λx=>!got.any λm=>m.name==x.1&&m.sig==x.2)≠[]):∃ m,Instr.missingMethod want got=some m:=by
 have h2:((want.toList.filter λx=>!got.any λm=>m.name==x.1&&m.sig==x.2).map (·.1))≠[]:=by simpa using h
 unfold Instr.missingMethod;simp only;generalize ((want.toList.filter λx=>!got.any λm=>m.name==x.1&&m.sig==x.2).map (·.1))=l at *;rw[List.partition_eq_filter_filter];simp only
 by_cases h3:l.filter (λa=>decide (¬ (a.contains '.')=true))=[]
 ·have h5:l.filter (λa=>a.contains '.')≠[]:=by
   intro h4;apply h2;refine List.eq_nil_iff_forall_not_mem.2 λx hx=>?_
   by_cases hc:(x.contains '.')=true
   ·have:x∈l.filter (λa=>a.contains '.'):=List.mem_filter.2 ⟨hx,hc⟩;rw[h4] at this;cases this
   ·have:x∈l.filter (λa=>decide (¬ (a.contains '.')=true)):=List.mem_filter.2 ⟨hx,by simpa using hc⟩;rw[h3] at this;cases this
  obtain ⟨m, hm⟩ := Zev (l := (l.filter (fun a => a.contains '.')).map fun id => (id.splitOn ".").getLastD id) (by simpa using h5)
  cases hx:Instr.least (l.filter (not ∘ λa=>a.contains '.')) with
  |some y=>exact⟨y,by simp⟩
  |none=>exact⟨m,by simpa using hm⟩
 ·have h6:l.filter (not ∘ λa=>a.contains '.')≠[]:=by
   intro h4;apply h3;rw[<-h4]
   congr 1
   funext a
   simp
  obtain⟨m,hm⟩:=Zev h6;exact⟨m,by rw[hm];rfl⟩
theorem Zq7 {P:Program}{t at_ xt:TypeId}{v z:Value}{want:Array (String × TypeId)}{i:TypeInfo}{K:Value->Prop}(hu:P.underlying at_=some (.interface want)) (hi:P.info? t=some i)
  (hm:(want.toList.filter λx=>!i.methods.any λm=>m.name==x.1&&m.sig==x.2)≠[]) (hz:∀ w,(zeroValue at_).run P w=.ok z w) (k:K (.tuple #[z,.bool false])):Ta P (.iface t v) xt at_ true w K:=by
 obtain⟨m,hm⟩:=Zgv hm;refine⟨_,?_,k⟩;simp[Instr.typeAssert,run_underlying hu,typeInfo,hi,hm,hz]
end Go.Vc
/- Ranges over functions, and functions that hand out values to them: formulas as in Vc with three nodes more (InvR, RgF, Tk). -/
namespace Go.Vc
abbrev RF (rd:Option Nat):Fence:={ Fence.wide with round:=rd }
section
variable {P:Program}{n:Nat}
theorem Zix {rd:Option Nat}{m:Nat}{f:FuncId}{args:Array Value}{w:World}{R:Ending->World->Prop}(h:Calls P f args w R):CallsIn (RF rd) m P f args w R:=by
 cases rd with
 |none=>exact callsIn_wide.2 h
 |some l=>exact CallsIn.inRound l (callsIn_wide.2 h)
theorem EffOp.wpR {rd:Option Nat}{o:Oper}{a:Act}{w:World}{K:KT}{next:Act->World->Prop}{Q:Exit->Act->World->Prop}(h:EffOp P o a w K)
  (hk:∀ v w',K v w'->next (a.put o.dst v) w'):o.wpIn (RF rd) 0 P a w next Q:=by
 have hd:∀ c,o.op≠.defer c:=by
  intro c hc;unfold EffOp at h
  have e:execOp a.eval o=(do pure (Next.defer (<-resolve a.eval c o.type))):=by
   unfold execOp;rw[hc]
  rw[e,Sem.run_bind] at h
  cases hr:(resolve a.eval c o.type).run P w with
  |ok d w'=>rw[hr] at h;exact h
  |halt k w'=>rw[hr] at h;exact h
 unfold Oper.wpIn;refine⟨λ_ _=>trivial,?_⟩;rw[Oper.semAt_eq _ _ _ hd];unfold EffOp at h;split at h
 ·rename_i he;rw[he];exact hk _ _ h
 ·rename_i he;rw[he];exact hk _ _ h
 ·rename_i he;rw[he,Oper.uponIn_enter];refine⟨λhh=>by simp[RF,Fence.wide] at hh,(Zix h).mono ?_⟩;rintro e w' ⟨v,rfl,h⟩;exact hk _ _ h
 ·exact h.elim
def InvR (P:Program) (m:Sem Next) (w:World) (K:KT):Prop:=
 Inv P m w K\/∃ l fn tmps assign body,m.run P w=.ok (.round l fn tmps assign body) w/\RoundIn Fence.wide 0 P l fn tmps assign body w λe w'=>∃ v,e=.returned v/\K v w'
def vcOpR (P:Program) (rd:Option Nat) (ev:Operand->Value) (o:Oper) (w:World) (K:KT):Prop:=
 match rd with
 |some _=>vcOp P false ev o w K
 |none=>(match o.op with
  |.call c=>(match c.callee with
   |.value (.tmp t)=>InvR P (do let d <-Deferred.ofValue (ev (.tmp t)) (amap ev c.args);invoke d.target d.args) w K
   |_=>vcOp P false ev o w K)
  |_=>vcOp P false ev o w K)
theorem Zm0 {rd:Option Nat}{ev:Operand->Value}{o:Oper}{a:Act}{w:World}{K:KT}{next:Act->World->Prop}{Q:Exit->Act->World->Prop}
  (h:vcOpR P rd ev o w K) (he:a.eval=ev) (hk:∀ v w',K v w'->next (a.put o.dst v) w'):o.wpIn (RF rd) 0 P a w next Q:=by
 cases rd with
 |some l=>
  simp only[vcOpR] at h;exact (Zbe h he).wpR hk
 |none=>
  simp only[vcOpR] at h;split at h
  ·rename_i c ho;split at h
   ·rename_i t hc;rcases h with h|⟨l,fn,tmps,assign,body,h1,h2⟩
    ·refine (Zbe (st:=false) (ev:=ev) (K:=K) ?_ he).wpR hk;obtain⟨dst,op,type,pos,after,guard⟩:=o;obtain⟨callee,args,ats⟩:=c;simp only at ho hc;subst ho hc;exact h
    ·subst he;unfold Oper.wpIn;refine⟨λ_ _=>trivial,?_⟩;rw[Oper.semAt_none]
     have e:(execOp a.eval o).run P w=.ok (.round l fn tmps assign body) w:=by
      obtain⟨dst,op,type,pos,after,guard⟩:=o;obtain⟨callee,args,ats⟩:=c;simp only at ho hc;subst ho hc;rw[<-h1,Zaf];rfl
     rw[e];refine⟨λhh=>by simp[RF,Fence.wide] at hh,h2.mono ?_⟩;rintro e w' ⟨v,rfl,h⟩;exact hk _ _ h
   ·exact (Zbe h he).wpR hk
  ·exact (Zbe h he).wpR hk
abbrev mkD (M:List Nat):List Deferred:=M.map λD=>{ target:=.collected D,args:=#[] }
structure FitsM (M:List Nat) (n:Nat) (ρ:Env) (a:Act):Prop where
 fit:Fits n ρ { a with defers:=[] }
 marks:a.defers=mkD M
theorem FitsM.eval {M:List Nat}{ρ:Env}{a:Act}(h:FitsM M n ρ a):a.eval=ρ.ev:=by
 have:=h.fit.eval;rw[<-this]
 funext x
 cases x <;> rfl
theorem Zgx {M:List Nat}{ρ:Env}{a:Act}(h:FitsM M n ρ a){dst:Option Nat}{v:Value}{K:Env->Prop}(hk:ρ.put n dst v K):∃ ρ',FitsM M n ρ' (a.put dst v)/\K ρ':=by
 obtain⟨ρ',h1,h2⟩:=Za9 h.fit hk;refine⟨ρ',⟨?_,?_⟩,h2⟩
 ·cases dst <;> exact h1
 ·rw[<-h.marks]
  cases dst <;> rfl
theorem FitsM.set_same {M:List Nat}{ρ:Env}{a:Act}(h:FitsM M n ρ a){d:Nat}{v:Value}(hv:ρ.get d=v):FitsM M n (ρ.set d v) a:=⟨h.fit.set_same hv,h.marks⟩
theorem Zhk {M:List Nat}{ops:List Oper}{i:Nat}{dst:Option Nat}{K:Env->World->Prop}{ρ:Env}{w:World}{a:Act}{X:Prop}
  (h:parting ops i dst K ρ w) (hf:FitsM M n ρ a) (hk:∀ ρ',FitsM M n ρ' a->K ρ' w->X):X:=
 Za3 h hf.fit λρ' h1 h2=>hk ρ' ⟨h1,hf.marks⟩ h2
def vcGR (P:Program) (rd:Option Nat) (n:Nat) (ops:List Oper) (i:Nat) (o:Oper) (ρ:Env) (w:World) (K:Env->World->Prop):Prop:=
 match o.guard with
 |none=>vcOpR P rd ρ.ev o w λv w'=>ρ.put n o.dst v λρ'=>parting ops i o.dst K ρ' w'
 |some (j,want)=>match (nth ops j).bind (·.dst) with
  |none=>False
  |some d=>match ρ.get d,want with
   |.bool true,true|.bool false,false=>vcOpR P rd ρ.ev o w λv w'=>ρ.put n o.dst v λρ'=>parting ops i o.dst K ρ' w'
   |.bool true,false|.bool false,true|.tuple _,_=>ρ.put n o.dst undef λρ'=>K ρ' w
   |_,_=>False
def vcOpsR (P:Program) (rd:Option Nat) (n:Nat) (ops:List Oper):List Oper->Nat->Env->World->(Env->World->Prop)->Prop
 |[],_,ρ,w,K=>K ρ w
 |o::r,i,ρ,w,K=>vcGR P rd n ops i o ρ w λρ' w'=>vcOpsR P rd n ops r (i+1) ρ' w' K
theorem Zjc {rd:Option Nat}{M:List Nat}{ops:List Oper}{i:Nat}{o:Oper}{ρ:Env}{w:World}{K:Env->World->Prop}{a:Act}{next:Act->World->Prop}{Q:Exit->Act->World->Prop}
  (h:vcGR P rd n ops i o ρ w K) (hf:FitsM M n ρ a) (hk:∀ ρ' a' w',FitsM M n ρ' a'->K ρ' w'->next a' w') :
  if Region.wanted o (yielded ops.toArray a.tmps) then o.wpIn (RF rd) 0 P a w next Q else next (a.put o.dst undef) w:=by
 have go:(vcOpR P rd ρ.ev o w λv w'=>ρ.put n o.dst v λρ'=>parting ops i o.dst K ρ' w')->o.wpIn (RF rd) 0 P a w next Q:=λh=>
  Zm0 h hf.eval λv w' hv=>by
   obtain⟨ρ',hf',hs⟩:=Zgx hf hv;exact Zhk hs hf' λρ'' hf'' hK=>hk _ _ _ hf'' hK
 have skip:(ρ.put n o.dst undef λρ'=>K ρ' w)->next (a.put o.dst undef) w:=λh=>by
  obtain⟨ρ',hf',hs⟩:=Zgx hf h;exact hk _ _ _ hf' hs
 unfold vcGR at h;split at h
 ·rename_i hg;rw[if_pos (by simp[Region.wanted,hg])];exact go h
 ·rename_i j want hg;split at h
  ·exact h.elim
  ·rename_i d hd;have hy:yielded ops.toArray a.tmps j=_:=Zb4 (a:={ a with defers:=[] }) hf.fit hd
   have hw:Region.wanted o (yielded ops.toArray a.tmps)=(yielded ops.toArray a.tmps j==some want):=by
    simp only[Region.wanted,hg]
   rw[hw,hy];split at h
   all_goals first
    |exact h.elim
    |(rename_i e;rw[e];rw[if_pos (by decide)];exact go h)
    |(rename_i e;rw[e];rw[if_neg (by decide)];exact skip h)
    |(rename_i e;rw[e];rw[if_neg (by simp)];exact skip h)
theorem Zdc {rd:Option Nat}{M:List Nat}{ops:List Oper}{Q:Exit->Act->World->Prop}{K:Env->World->Prop}:∀ (l:List Oper) (i:Nat) (ρ:Env) (w:World) (a:Act),
  vcOpsR P rd n ops l i ρ w K->FitsM M n ρ a->(∀ ρ' a' w',FitsM M n ρ' a'->K ρ' w'->Q .normal a' w')->wpListIn (RF rd) 0 P ops.toArray Q l a w
 |[],_,ρ,w,a,h,hf,hk=>hk _ _ _ hf h
 |o::r,i,ρ,w,a,h,hf,hk=>by
  have:=Zjc (Q:=Q) h hf (next:=λa' w'=>wpListIn (RF rd) 0 P ops.toArray Q r a' w') λρ' a' w' hf' h'=>Zdc r (i+1) ρ' w' a' h' hf' hk;simp only[wpListIn];split
  ·rename_i hw;rw[if_pos hw] at this;exact this
  ·rename_i hw;rw[if_neg hw] at this;exact⟨λ_ _=>trivial,this⟩
def YdTo (P:Program) (l:Nat) (x:Value) (W:World) (R:Bool->World->Prop):Prop:=
 ∃ fn tmps assign body,(Instr.yield l #[x]).run P W=.ok (.round l fn tmps assign body) W/\RoundIn Fence.wide 0 P l fn tmps assign body W λe W'=>∃ b,e=.returned (.bool b)/\R b W'
abbrev RoundF:=Value->World->(World->(World->Prop)->Prop)->(Exit->World->Prop)->Prop
abbrev yv (l:Nat):Value:=.func (.yield l) #[] #[]
def Bg (l:Nat) (rc:Loop) (W:World) (K:World->Prop):Prop:=W.heap[l]?=some (.loop rc)/\K (W.putObj l (.loop { rc with state:=.busy }))
def Ed (l:Nat) (rc:Loop) (R:Bool->World->Prop) (e:Exit) (W:World):Prop:=
 W.heap[l]?=some (.loop { rc with state:=.busy })/\(match e with
  |.normal=>R true (W.putObj l (.loop rc))
  |.ret=>R false (W.putObj l (.loop { rc with state:=.done,pending:=some .ret }))
  |.exit id=>R false (W.putObj l (.loop { rc with state:=.done,pending:=some (.exit id) }))
  |_=>False)
def Ah (l:Nat) (rc:Loop) (an ar:World->Prop) (ax:Nat->World->Prop) (W:World):Prop:=
 (W.heap[l]?=some (.loop rc)/\an (W.putObj l (.loop { rc with state:=.exhausted }))) \/
 (W.heap[l]?=some (.loop { rc with state:=.done,pending:=some .ret })/\ar (W.putObj l (.loop { rc with state:=.exhausted,pending:=some .ret }))) \/
 ∃ id,W.heap[l]?=some (.loop { rc with state:=.done,pending:=some (.exit id) })/\ax id (W.putObj l (.loop { rc with state:=.exhausted,pending:=some (.exit id) }))
def RgF (P:Program) (g:Value) (w:World) (round:Nat->RoundF) (an ar:Nat->World->Prop) (ax:Nat->Nat->World->Prop):Prop:=
 ∀ rc:Loop,rc.state=.ready->rc.pending=none->
  (∀ x W R,W.heap[w.heap.size+1]?=some (.loop rc)->round (w.heap.size+1) x W (Bg (w.heap.size+1) rc) (Ed (w.heap.size+1) rc R)->YdTo P (w.heap.size+1) x W R)->
  ∃ f args,(do let d <-Deferred.ofValue g #[yv (w.heap.size+1)];invoke d.target d.args:Sem Next).run P ((w.alloc (.deferred (some []))).alloc (.loop rc))=.ok (.enter f args) ((w.alloc (.deferred (some []))).alloc (.loop rc))/\
   Calls P f args ((w.alloc (.deferred (some []))).alloc (.loop rc)) λe w3=>(∃ v,e=.returned v)/\Ah (w.heap.size+1) rc (an w.heap.size) (ar w.heap.size) (λid=>ax id w.heap.size) w3
def vcR (P:Program) (n:Nat):Option Nat->Code->H->Env->List Nat->World->(Exit->Env->List Nat->World->Prop)->Prop
 |_,.skip,_,ρ,M,w,Q=>Q .normal ρ M w
 |_,.label _,_,ρ,M,w,Q=>Q .normal ρ M w
 |rd,.region _ ops draw,h,ρ,M,w,Q=>(match draw,rd,M with
  |false,_,_=>vcOpsR P rd n ops.toList ops.toList 0 ρ w λρ' w'=>Q .normal ρ' M w'
  |true,none,[]=>vcReg P n ops true (rh h) ρ w λρ' w'=>Q .normal ρ' [] w'
  |_,_,_=>False)
 |rd,.seq x y,.s h1 h2,ρ,M,w,Q=>vcR P n rd x h1 ρ M w λe ρ' M' w'=>(match e with
  |.normal=>vcR P n rd y h2 ρ' M' w' Q
  |e=>Q e ρ' M' w')
 |rd,.seq x y,.j S K h1 h2,ρ,M,w,Q=>
  VJoin (len S) (λjb=>cur (len S) λvs w'=>vcR P n rd y h2 ⟨appL (zipV S vs) (keepV ρ K),jb⟩ M w' Q)
   λJ=>vcR P n rd x h1 ρ M w λe ρ' M' w'=>(match e with
    |.normal=>M'=M/\KE (getV ρ' K) (getV ρ K) (J.app (len S) (getV ρ' S) w')
    |e=>Q e ρ' M' w')
 |rd,.cond c x y,.i h1 h2,ρ,M,w,Q=>Vif (ρ.ev c) (vcR P n rd x h1 ρ M w Q) (vcR P n rd y h2 ρ M w Q)
 |rd,.block id c,.b h,ρ,M,w,Q=>vcR P n rd c h ρ M w λe ρ' M' w'=>(match e with
  |.exit k=>(match Nat.beq k id with
   |true=>Q .normal ρ' M' w'
   |false=>Q (.exit k) ρ' M' w')
  |e=>Q e ρ' M' w')
 |rd,.loop c,.l S K h,ρ,M,w,Q=>
  VLoop (len S) (getV ρ S) w λjb cont=>cur (len S) λvs w'=>
   vcR P n rd c h ⟨appL (zipV S vs) (keepV ρ K),jb⟩ M w' λe ρ' M' w''=>(match e with
    |.normal=>M'=M/\KE (getV ρ' K) (getV ρ K) (cont.app (len S) (getV ρ' S) w'')
    |e=>Q e ρ' M' w'')
 |_,.exit id,_,ρ,M,w,Q=>Q (.exit id) ρ M w
 |_,.ret,_,ρ,M,w,Q=>Q .ret ρ M w
 |none,.rangeFunc g ps assign body,.s h1 h2,ρ,M,w,Q=>(match ps.toList with
  |[t]=>RgF P (ρ.ev g) w (λl x W bg ed=>ρ.put n (some t) x λρ0=>vcR P n (some l) assign h1 ρ0 [] W λe ρ' M' W'=>(match e with
    |.normal=>bg W' λW2=>vcR P n (some l) body h2 ρ' M' W2 λe2 _ _ W3=>ed e2 W3
    |_=>False)) (λD w'=>Q .normal ρ (D::M) w') (λD w'=>Q .ret ρ (D::M) w') λid D w'=>Q (.exit id) ρ (D::M) w'
  |_=>False)
 |_,_,_,_,_,_,_=>False
theorem Zgu {M:List Nat}{ρ ρ0:Env}{a:Act}(h:FitsM M n ρ a){S K:List Nat}(hK:getV ρ K=getV ρ0 K) :
  FitsM M n ⟨appL (zipV S (getV ρ S)) (keepV ρ0 K),ρ.get⟩ a:=⟨h.fit.cut hK,h.marks⟩
def OkM (n:Nat) (Q:Exit->Env->List Nat->World->Prop) (Q':Exit->Act->World->Prop):Prop:=∀ e ρ M a w,FitsM M n ρ a->Q e ρ M w->Q' e a w
theorem Zf2 {M:List Nat}{ρ:Env}{a:Act}(hf:FitsM M n ρ a) (S:List Nat):(S.map λt=>a.tmps.getD t undef)=getV ρ S:=Zdu (a:={ a with defers:=[] }) hf.fit S
theorem Zlh {rc:Loop}(h1:rc.state=.ready) (h2:rc.pending=none):({ rc with state:=.ready,pending:=none }:Loop)=rc:=by
 cases rc;simp only at h1 h2;subst h1 h2;rfl
theorem yd_of {l:Nat}{rc:Loop}{x:Value}{W:World}{R:Bool->World->Prop}{t:Nat}(hr:rc.state=.ready) (hp:rc.pending=none) (hps:rc.params.toList=[t]) (h:W.heap[l]?=some (.loop rc))
  (hb:rc.assign.wpIn (RF (some l)) 0 P (Exit.then (λa1 w1=>Bg l rc w1 λw2=>rc.body.wpIn (RF (some l)) 0 P (λe _ w3=>Ed l rc R e w3) a1 w2) (λ_ _ _=>False)) { tmps:=rc.tmps.setIfInBounds t x,defers:=[] } W) :
  YdTo P l x W R:=by
 have hpa:rc.params=#[t]:=by
  cases hq:rc.params with
  |mk q=>rw[hq] at hps;simp only at hps;rw[hps]
 refine⟨_,_,_,_,run_yield h (by rw[hpa];rfl),?_⟩
 have ht:((rc.params.zip #[x]).foldl (λtmps (t,a)=>tmps.setIfInBounds t a) rc.tmps)=rc.tmps.setIfInBounds t x:=by
  rw[hpa];simp
 rw[ht];refine roundIn_of_wpIn (F:=Fence.wide) trivial ?_;refine Code.wpIn_mono ?_ hb;intro e a1 w1 he
 cases e with
 |normal=>
  obtain⟨h1,h2⟩:=he;refine⟨_,run_beginRound h1 hr,Code.wpIn_mono ?_ h2⟩;intro e2 a2 w3 hE;obtain⟨h3,h4⟩:=hE
  cases e2 with
  |normal=>
   refine⟨_,_,run_endRound none h3,true,rfl,?_⟩;have:=Zlh hr hp;simp only[Option.isNone_none,if_true];rw[this];exact h4
  |ret=>exact⟨_,_,run_endRound (some .ret) h3,false,rfl,h4⟩
  |exit id=>exact⟨_,_,run_endRound (some (.exit id)) h3,false,rfl,h4⟩
  |_=>exact False.elim h4
 |_=>exact False.elim he
theorem Zlj (hm:P.follows .mixedOrders=true):∀ (c:Code) (rd:Option Nat) (h:H) (ρ:Env) (M:List Nat) (w:World) (a:Act) (Q:Exit->Env->List Nat->World->Prop) (Q':Exit->Act->World->Prop),
  vcR P n rd c h ρ M w Q->FitsM M n ρ a->OkM n Q Q'->c.wpIn (RF rd) 0 P Q' a w:=by
 intro c
 induction c with
 |skip=>intro rd h ρ M w a Q Q' hh hf hk;cases rd <;> exact wpIn_skip (hk _ _ _ _ _ hf (by simpa only[vcR] using hh))
 |label l=>intro rd h ρ M w a Q Q' hh hf hk;cases rd <;> exact wpIn_label (hk _ _ _ _ _ hf (by simpa only[vcR] using hh))
 |region id ops draw=>
  intro rd h ρ M w a Q Q' hh hf hk;simp only[vcR] at hh;split at hh
  ·obtain⟨l⟩:=ops;exact wpIn_region_list (Zdc l 0 ρ w a hh hf λρ' a' w' h1 h2=>hk _ _ _ _ _ h1 h2)
  ·have hd:a.defers=[]:=hf.marks
   have hf':Fits n ρ a:=by
    have:=hf.fit;rw[<-hd] at this;exact this
   refine wpIn_wide.2 (Zci hm hh hf' λρ' a' w' h1 h2=>hk _ _ [] _ _ ⟨?_,h1.defers⟩ h2);have hd':_=([]:List Deferred):=h1.defers;rw[<-hd'];exact h1
  ·exact hh.elim
 |seq x y ihx ihy=>
  intro rd h ρ M w a Q Q' hh hf hk
  cases h <;> simp only[vcR] at hh <;> try exact hh.elim
  case s h1 h2=>
   refine wpIn_seq (ihx rd h1 ρ M w a _ _ hh hf ?_);intro e ρ' M' a' w' hf' h'
   cases e <;> simp only at h' <;> simp only[Exit.then]
   ·exact ihy rd h2 ρ' M' w' a' Q Q' h' hf' hk
   all_goals exact hk _ _ _ _ _ hf' h'
  case j S K h1 h2=>
   obtain⟨J,hJ,hh⟩:=hh;refine wpIn_seq (ihx rd h1 ρ M w a _ _ hh hf ?_);intro e ρ' M' a' w' hf' h'
   cases e <;> simp only at h' <;> simp only[Exit.then]
   ·obtain⟨rfl,hK,h'⟩:=h';have h2':=Cur.imp_app _ (hJ ρ'.get) _ _ h';rw[Zcf _ _ _ (Zbd _ _)] at h2';exact ihy rd h2 _ _ w' a' Q Q' h2' (Zgu hf' hK) hk
   all_goals exact hk _ _ _ _ _ hf' h'
 |cond c x y ihx ihy=>
  intro rd h ρ M w a Q Q' hh hf hk
  cases h <;> simp only[vcR] at hh <;> try exact hh.elim
  case i h1 h2=>
   rcases hh.or with⟨hc,hh⟩|⟨hc,hh⟩
   ·exact wpIn_cond_true (by rw[hf.eval];exact hc) (ihx rd h1 ρ M w a Q Q' hh hf hk)
   ·exact wpIn_cond_false (by rw[hf.eval];exact hc) (ihy rd h2 ρ M w a Q Q' hh hf hk)
 |block id c ih=>
  intro rd h ρ M w a Q Q' hh hf hk
  cases h <;> simp only[vcR] at hh <;> try exact hh.elim
  case b h=>
   refine wpIn_block (ih rd h ρ M w a _ _ hh hf ?_);intro e ρ' M' a' w' hf' h'
   cases e <;> simp only at h' <;> simp only[Exit.inBlock]
   case exit k=>
    cases hb:Nat.beq k id with
    |true=>
     rw[hb] at h';rw[if_pos (Nat.eq_of_beq_eq_true hb)];exact hk _ _ _ _ _ hf' h'
    |false=>
     rw[hb] at h';rw[if_neg (Nat.ne_of_beq_eq_false hb)];exact hk _ _ _ _ _ hf' h'
   all_goals exact hk _ _ _ _ _ hf' h'
 |loop c ih=>
  intro rd h ρ M w a Q Q' hh hf hk
  cases h <;> simp only[vcR] at hh <;> try exact hh.elim
  case l S K h=>
   obtain⟨I,μ,h0,hround⟩:=hh;refine wpIn_loop (λa w=>∃ ρ1,FitsM M n ρ1 a/\getV ρ1 K=getV ρ K/\I (getV ρ1 S) w) (λa w=>μ (S.map λt=>a.tmps.getD t undef) w) ⟨ρ,hf,rfl,h0⟩ ?_;rintro a1 w1 ⟨ρ1,hf1,hK1,hI1⟩;have hr:=hround ρ1.get (getV ρ1 S) w1 (Zbd _ _) hI1;rw[Zcf _ _ _ (Zbd _ _)] at hr;refine ih rd h _ M w1 a1 _ _ hr (Zgu hf1 hK1) ?_;intro e ρ' M' a' w' hf' h'
   cases e <;> simp only at h' <;> simp only[Exit.then]
   ·obtain⟨rfl,hK,h'⟩:=h';rw[Zcf _ _ _ (Zbd _ _)] at h';refine⟨⟨ρ',hf',hK,h'.1⟩,?_⟩;rw[Zf2 hf',Zf2 hf1];exact h'.2
   all_goals exact hk _ _ _ _ _ hf' h'
 |exit id=>intro rd h ρ M w a Q Q' hh hf hk;cases rd <;> exact wpIn_exit (hk _ _ _ _ _ hf (by simpa only[vcR] using hh))
 |ret=>intro rd h ρ M w a Q Q' hh hf hk;cases rd <;> exact wpIn_ret (hk _ _ _ _ _ hf (by simpa only[vcR] using hh))
 |rangeFunc g ps assign body iha ihb=>
  intro rd h ρ M w a Q Q' hh hf hk
  cases rd with
  |some l=>cases h <;> simp only[vcR] at hh
  |none=>
   cases h <;> simp only[vcR] at hh <;> try exact hh.elim
   case s h1 h2=>
    split at hh
    ·rename_i t hps;refine wpIn_rangeFunc λfn _=>?_
     obtain⟨f,args,hinv,hcall⟩:=hh { state:=.ready,pending:=none,fn,tmps:=a.tmps,params:=ps,assign,body,defers:=w.heap.size } rfl rfl (by
      intro x W R hW hround;refine yd_of rfl rfl hps hW ?_;obtain⟨ρ0,hf0,hround⟩:=Za9 (a:={ a with defers:=[] }) hf.fit hround;refine iha (some (w.heap.size+1)) h1 ρ0 [] W _ _ _ hround ⟨hf0,rfl⟩ ?_;intro e ρ' M' a' w' hf' h'
      cases e <;> simp only at h' <;> simp only[Exit.then]
      ·obtain⟨hb1,hb2⟩:=h'
       exact⟨hb1,ihb (some (w.heap.size+1)) h2 ρ' M' _ a' _ _ hb2 hf' λe2 ρ2 M2 a2 w2 hf2 h2'=>h2'⟩)
     rw[Sem.run_bind] at hinv
     cases hr:(Deferred.ofValue (ρ.ev g) #[yv (w.heap.size+1)]).run P ((w.alloc (.deferred (some []))).alloc (.loop { state:=.ready,pending:=none,fn,tmps:=a.tmps,params:=ps,assign,body,defers:=w.heap.size })) with
     |halt k w'=>rw[hr] at hinv;simp[Result.andThen] at hinv
     |ok d w'=>
      rw[hr] at hinv;refine⟨_,_,_,d,w',f,args,_,run_enterLoop_outer fn a.tmps ps assign body,?_,λ_ _=>trivial,hinv,λhh=>by simp[RF,Fence.wide] at hh,?_⟩
      ·have e:resolve a.eval (rangeCall g (w.heap.size+1)) 0=Deferred.ofValue (a.eval g) #[yv (w.heap.size+1)]:=by
        unfold resolve;simp;rfl
       rw[<-hr,<-hf.eval,e]
      ·refine (Zix hcall).mono ?_;rintro e w3 ⟨⟨v,rfl⟩,hA⟩;have hf2:FitsM (w.heap.size::M) n ρ { a with defers:=[{ target:=.collected w.heap.size,args:=#[] }]++a.defers }:=⟨hf.fit,by rw[hf.marks];rfl⟩;rcases hA with⟨h3,h4⟩|⟨h3,h4⟩|⟨id,h3,h4⟩
       ·exact⟨_,_,run_endLoop h3 (by simp),hk _ _ _ _ _ hf2 h4⟩
       ·exact⟨_,_,run_endLoop h3 (by simp),wpIn_ret (hk _ _ _ _ _ hf2 h4)⟩
       ·exact⟨_,_,run_endLoop h3 (by simp),wpIn_exit (hk _ _ _ _ _ hf2 h4)⟩
    ·exact hh.elim
 |scope=>intro rd h ρ M w a Q Q' hh hf hk;cases rd <;> cases h <;> simp only[vcR] at hh
 |goto=>intro rd h ρ M w a Q Q' hh hf hk;cases rd <;> cases h <;> simp only[vcR] at hh
 |refuse=>intro rd h ρ M w a Q Q' hh hf hk;cases rd <;> cases h <;> simp only[vcR] at hh
def TkM (w:World) (K:World->Prop):List Nat->Prop
 |[]=>K w
 |D::M=>w.heap[D]?=some (.deferred (some []))/\TkM (w.putObj D (.deferred none)) K M
def finR (P:Program) (rs:List ResultVar) (R:KT):Exit->Env->List Nat->World->Prop
 |.normal,ρ,M,w|.ret,ρ,M,w=>TkM w (λw'=>ResK P ρ w' R rs []) M
 |_,_,_,_=>False
def vcFnR (P:Program) (n:Nat) (rs:List ResultVar) (c:Code) (h:H) (args:List Value) (w:World) (R:KT):Prop:=
 vcR P n none c h ⟨args0 args 0,λ_=>undef⟩ [] w (finR P rs R)
theorem Zeb {ρ:Env}{fn:Func}{rs:List ResultVar}{R:KT}(hr:fn.results=rs.toArray){a:Act}(hf:Fits n ρ { a with defers:=[] }):∀ (M:List Nat) (w:World),TkM w (λw'=>ResK P ρ w' R rs []) M->
  LeavesInM (RF none) 0 P fn a.tmps (λe w'=>∃ v,e=.returned v/\R v w') (mkD M) .returning w
 |[],w,h=>by
  obtain⟨vs,h1,h2⟩:=Zcj hf rs [] h;refine⟨_,?_,_,rfl,Zf8 vs (by simpa using h2)⟩;unfold results;rw[Sem.run_bind,hr]
  have:(rs.toArray.mapM fun|.tmp t=>pure (a.tmps.getD t undef)|.cell x t=>do loadVar t (<-asAddr (a.tmps.getD x undef)):Sem (Array Value))=(do pure (<-rs.mapM (rv a.tmps)).toArray):=by
   rw[List.mapM_toArray];rfl
  erw [this]
  simp[h1,Result.andThen]
 |D::M,w,h=>by
  obtain⟨h1,h2⟩:=h;exact⟨by simp,.inl ⟨D,_,rfl,run_takeDeferred h1,Zeb hr hf M _ h2⟩⟩
theorem Zgz {f:FuncId}{fn:Func}{c:Code}{args:List Value}{w:World}{h:H}{R:KT}{rs:List ResultVar}
  (hm : P.follows .mixedOrders = true) (hf : P.funcs[f]? = some fn) (hb : fn.body = some c) (hn : (fn.name == "runtime.NumGoroutine") = false)
  (hs:fn.ntmps=n) (hr:fn.results=rs.toArray) (ha:Nat.ble args.length n=true)
  (hh:vcFnR P n rs c h args w R):Cl P f args.toArray w R:=by
 refine ⟨by simp [callFunc, hf, (by simpa using hn : ¬ fn.name = "runtime.NumGoroutine"), hb], (callsIn_wide (n := 0)).1 (callsIn_of_wp_marks hf hb trivial ?_)⟩; have ha := Nat.le_of_ble_eq_true ha; refine Zlj hm c none h _ [] w _ _ _ hh ⟨⟨rfl, by simp [hs]; omega, fun t => ?_⟩, rfl⟩ ?_
 ·unfold Env.get;simp only[Zbg,Nat.zero_le,if_true,Nat.sub_zero]
  by_cases hlt:t < args.length
  ·simp[Array.getElem?_append,hlt]
  ·have h1:args[t]?=none:=by simp;omega
   rw[h1];simp only[Array.getD_eq_getD_getElem?,Array.getElem?_append,List.size_toArray,if_neg hlt,Array.getElem?_replicate]
   split <;> rfl
 ·intro e ρ M a w hf' h'
  cases e <;> simp only[finR] at h' <;> try exact h'.elim
  ·show LeavesInM _ _ _ _ _ _ _ _ _;rw[hf'.marks];exact Zeb hr hf'.fit M w h'
  ·show LeavesInM _ _ _ _ _ _ _ _ _;rw[hf'.marks];exact Zeb hr hf'.fit M w h'
end
end Go.Vc
/-
 DERIVED: THE SHELF's CONTRACTS AT THIS DUMP,IN PLAIN WORDS (tools/lay-plain.mjs out of 'YthhkodlnfogkgaaGreatDoorShx.lean',which tools/lay-shelf.mjs wrote): THE SAME DECLARATIONS UNDER THE SAME NAMES: 'import','namespace','open','def','theorem' AND NOTHING ELSE: no command of the shelf's: FOR A HAND-IN. Each laying: the table of numbers ('.._ren') and one theorem,a field a fact of the dump's own or the kernel's comparison;each contract: ONE APPLICATION.
-/
namespace Go.Proofs
open Go.Shelf
def Tryz.lays197_ren:Go.Shelf.Ren:=⟨fun|197=>205|260=>220|n=>n,fun|9=>9|21=>21|3=>3|4=>4|5=>5|105=>311|119=>335|0=>0|46=>227|139=>338|138=>337|n=>n,fun|3=>0|4=>1|n=>n⟩
theorem Tryz.lays197:Go.Proofs.Lays.n197 Tryz.prog Tryz.lays197_ren:={
 mixed:=by kernel_rfl
 f197:=Tryz.func205.trans (congrArg some (by kernel_rfl))
 f260:=Tryz.func220.trans (congrArg some (by kernel_rfl))
 t0:=Tryz.underlying0
 a0:=Tryz.isAgg0
 z0:=Tryz.sizeOf0
 v0:=Tryz.zeroValue0
 t3:=Tryz.underlying3
 a3:=Tryz.isAgg3
 z3:=Tryz.sizeOf3
 v3:=Tryz.zeroValue3
 t4:=Tryz.underlying4
 a4:=Tryz.isAgg4
 z4:=Tryz.sizeOf4
 v4:=Tryz.zeroValue4
 t5:=Tryz.underlying5
 a5:=Tryz.isAgg5
 z5:=Tryz.sizeOf5
 v5:=Tryz.zeroValue5
 t9:=Tryz.underlying9
 a9:=Tryz.isAgg9
 z9:=Tryz.sizeOf9
 v9:=Tryz.zeroValue9
 t21:=Tryz.underlying21
 a21:=Tryz.isAgg21
 z21:=Tryz.sizeOf21
 v21:=Tryz.zeroValue21
 t46:=Tryz.underlying227
 a46:=Tryz.isAgg227
 z46:=Tryz.sizeOf227
 v46:=Tryz.zeroValue227
 t105:=Tryz.underlying311
 a105:=Tryz.isAgg311
 z105:=Tryz.sizeOf311
 v105:=Tryz.zeroValue311
 t119:=Tryz.underlying335
 a119:=Tryz.isAgg335
 z119:=Tryz.sizeOf335
 t138:=Tryz.underlying337
 a138:=Tryz.isAgg337
 z138:=Tryz.sizeOf337
 v138:=Tryz.zeroValue337
 t139:=Tryz.underlying338
 a139:=Tryz.isAgg338
 z139:=Tryz.sizeOf338
 v139:=Tryz.zeroValue338
 g3:=by kernel_rfl
 g4:=by kernel_rfl }
end Go.Proofs
/- More rules for nodes: unsigned numbers. No program in sight. -/
namespace Go.Vc
variable {P:Program}{w:World}{L:List HProp}
theorem Zq8 {s t:Nat}{K:Value->Prop}(hs:s < 256) (ht:t < 256) (h:K (.int .u8 ((s &&& t:Nat):Int))):Bp .and (.int .u8 (s:Int)) (.int .u8 (t:Int)) K:=by
 refine⟨_,?_,h⟩;have hb:IntKind.u8.bits=8:=rfl;have hx:s &&& t<=s:=Nat.and_le_left;simp only[bp,if_true];rw[hb,BitVec.toNat_and,BitVec.toNat_ofInt,BitVec.toNat_ofInt]
 have e1:((s:Int)%((2^8:Nat):Int)).toNat=s:=by omega
 have e2:((t:Int)%((2^8:Nat):Int)).toNat=t:=by omega
 rw[e1,e2,wrapU8 (by omega) (by omega)]
theorem Zay {P:HProp}{L L':List HProp}{h:Hp}(hL:∀ h,Sat L h->Sat L' h) (H:Sat (P::L) h):Sat (P::L') h:=by
 obtain⟨g,hg,hs,hr⟩:=H;exact⟨g,hg,hs,hL _ hr⟩
def live:List (Option HProp)->List HProp
 |[]=>[]
 |none::M=>live M
 |some P::M=>P::live M
def dead:List (Option HProp)->Nat->List (Option HProp)
 |[],_=>[]
 |_::M,0=>none::M
 |x::M,i+1=>x::dead M i
def sel:List Nat->List (Option HProp)->Option (List HProp)
 |[],_=>some []
 |i::is,M=>match M[i]? with
  |some (some P)=>(match sel is (dead M i) with
   |some R=>some (P::R)
   |none=>none)
  |_=>none
theorem Zdv:∀ (M:List (Option HProp)) (i:Nat){P:HProp}{L:List HProp}{h:Hp},M[i]?=some (some P)->Sat (live M++L) h->Sat (P::(live (dead M i)++L)) h
 |[],i,P,L,h,hi,H=>by simp at hi
 |none::M,0,P,L,h,hi,H=>by simp at hi
 |some Q::M,0,P,L,h,hi,H=>by
  simp at hi;subst hi;exact H
 |none::M,i+1,P,L,h,hi,H=>Zdv M i (by simpa using hi) H
 |some Q::M,i+1,P,L,h,hi,H=>Sat.swap (Zay (λh' H'=>Zdv M i (by simpa using hi) H') H)
theorem Ze5:∀ (M:List (Option HProp)){L:List HProp}{h:Hp},Sat (live M++L) h->Sat L h
 |[],_,_,H=>H
 |none::M,_,_,H=>Ze5 M H
 |some Q::M,L,h,H=>Ze5 M (by
  obtain⟨g,_,_,hL⟩:=H
  exact hL.mono λb o hb=>by
   unfold Hp.minus at hb;split at hb
   ·cases hb
   ·exact hb)
theorem Zla:∀ (is:List Nat){M:List (Option HProp)}{R L:List HProp}{h:Hp},sel is M=some R->Sat (live M++L) h->Sat (R++L) h
 |[],M,R,L,h,hR,H=>by
  cases hR;exact Ze5 M H
 |i::is,M,R,L,h,hR,H=>by
  unfold sel at hR;split at hR
  ·rename_i P hP;split at hR
   ·rename_i R' hR';cases hR;exact Zay (λh' H'=>Zla is hR' H') (Zdv M i hP H)
   ·cases hR
  ·cases hR
theorem Zgd:∀ (F:List HProp),live (F.map some)=F
 |[]=>rfl
 |P::F=>by rw[hR_,live,Zgd F]
theorem Holds.ord (n:Nat) (is:List Nat) (H:Holds w L){R:List HProp}(hR:sel is ((L.take n).map some)=some R):Holds w (R++L.drop n):=by
 refine Zla is hR ?_;rw[Zgd,hN_];exact H
theorem r_mf {fn:Fn}{f c:Array Value}{K:Value->Prop}(v:Value) (h:(Instr.makeFunc fn f c).run P w=.ok v w) (k:K v):Mf P fn f c w K:=⟨v,h,k⟩
theorem Zod {s t:Nat}{K:Value->Prop}(hs:s < 256) (ht:t < 256) (h:K (.int .u8 ((s ^^^ t:Nat):Int))):Bp .xor (.int .u8 (s:Int)) (.int .u8 (t:Int)) K:=by
 refine⟨_,?_,h⟩;have hb:IntKind.u8.bits=8:=rfl;have hx:s ^^^ t < 2^8:=Nat.xor_lt_two_pow (by simpa using hs) (by simpa using ht);simp only[bp,if_true];rw[hb,BitVec.toNat_xor,BitVec.toNat_ofInt,BitVec.toNat_ofInt]
 have e1:((s:Int)%((2^8:Nat):Int)).toNat=s:=by omega
 have e2:((t:Int)%((2^8:Nat):Int)).toNat=t:=by omega
 rw[e1,e2,wrapU8 (by omega) (by omega)]
theorem Zph {a n:Nat}{k':IntKind}{K:Value->Prop}(hn:n<=64) (h1:a*2^n < 9223372036854775808) (h:K (.int .i64 ((a*2^n:Nat):Int))):Bp .shl (.int .i64 (a:Int)) (.int k' (n:Int)) K:=by
 refine⟨_,?_,h⟩;have hb:IntKind.i64.bits=64:=rfl;simp only[bp];rw[if_neg (by omega),gC,hb,Nat.min_eq_left hn]
 have e:(a:Int)*2^n=((a*2^n:Nat):Int):=by simp
 rw[e,wrap64 (by omega) (by omega)]
end Go.Vc
/- Functions without a body: which one it is, and what it answers. No program in sight. -/
namespace Go.Ev
open Go Go.Vc
variable {P:Program}{w w':World}
theorem add_off {b o n:Nat}:(⟨b,o,none⟩:Addr).add n=⟨b,o+n,none⟩:=by
 unfold Addr.add;split
 ·rename_i h;rw[h];rfl
 ·rfl
inductive Xt where
 |idx|cnt|noEsc|mkNo|idxB
def nmX:Xt->String
 | .idx => "internal/bytealg.IndexByteString"
 | .cnt => "internal/bytealg.CountString"
 | .noEsc => "internal/abi.NoEscape"
 | .mkNo => "internal/bytealg.MakeNoZero"
 | .idxB => "internal/bytealg.IndexByte"
def extF (fn:Func) (k:Xt):Bool:=match fn.name==nmX k with
 | true => (match fn.origin == "" with
  |true=>true
  |false=>fn.origin==nmX k)
 |false=>false
def extK (P:Program) (f:FuncId):Option (Func × Xt):=match P.funcs[f]? with
 |some fn=>(match fn.body with
  |some _=>none
  |none=>(match extF fn .idx,extF fn .cnt,extF fn .noEsc,extF fn .mkNo,extF fn .idxB with
   |true,_,_,_,_=>some (fn,.idx)
   |_,true,_,_,_=>some (fn,.cnt)
   |_,_,true,_,_=>some (fn,.noEsc)
   |_,_,_,true,_=>some (fn,.mkNo)
   |_,_,_,_,true=>some (fn,.idxB)
   |_,_,_,_,_=>none))
 |none=>none
theorem Zcg {f:FuncId}{fn:Func}{k:Xt}(h:extK P f=some (fn,k)):P.funcs[f]?=some fn/\fn.body=none/\extF fn k=true:=by
 unfold extK at h;split at h
 ·rename_i fn' hf;split at h
  ·cases h
  ·rename_i hb
   split at h <;> first|(simp only[Option.some.injEq,Prod.mk.injEq] at h;obtain⟨rfl,rfl⟩:=h;exact⟨hf,hb,by assumption⟩)|cases h
 ·cases h
theorem Zb7 {fn : Func} {k : Xt} (h : extF fn k = true) : fn.name = nmX k ∧ (fn.origin = "" ∨ fn.origin = nmX k) := by
 unfold extF at h;split at h
 ·rename_i h1;split at h
  ·rename_i h2;exact⟨by simpa using h1,.inl (by simpa using h2)⟩
  ·exact⟨by simpa using h1,.inr (by simpa using h)⟩
 ·cases h
theorem Zlr (k:Xt){fn:Func}(h:extF fn k=true):Extern.findNext fn=none:=by
 obtain⟨h1,h2⟩:=Zb7 h;unfold Extern.findNext
 rcases h2 with h2|h2 <;> rw[h1,h2] <;> cases k <;> rfl
theorem Zmd {fn:Func}(h:extF fn .idx=true):Extern.find fn=some Extern.BytealgIndexByte.indexByte:=by
 unfold Extern.find;rw[(Zb7 h).1];rfl
theorem Zgb {fn:Func}(h:extF fn .idxB=true):Extern.find fn=some Extern.BytealgIndexByte.indexByte:=by
 unfold Extern.find;rw[(Zb7 h).1];rfl
theorem Zlz {fn:Func}(h:extF fn .cnt=true):Extern.find fn=some Extern.BytealgCount.count:=by
 unfold Extern.find;rw[(Zb7 h).1];rfl
theorem Zj6 {fn:Func}(h:extF fn .noEsc=true):Extern.find fn=some Extern.AbiNoEscape.same:=by
 unfold Extern.find;rw[(Zb7 h).1];rfl
theorem Zk1 {fn:Func}(h:extF fn .mkNo=true):Extern.find fn=some (Extern.BytealgMakeNoZero.makeNoZero fn.params fn.resultTypes):=by
 unfold Extern.find;rw[(Zb7 h).1];rfl
theorem callExt {f:FuncId}{fn:Func}{k:Xt}{args:Array Value}{e:Array Value->Sem Value}{v:Value}(h:extK P f=some (fn,k)) (he:Extern.find fn=some e) (hr:(e args).run P w=.ok v w'):isExt P f=true/\(callFunc f args).run P w=.ok (.value v) w':=by
 obtain⟨h1,h2,h3⟩:=Zcg h;refine⟨by simp only[isExt,h1,h2];rfl,?_⟩
 have hn : (fn.name == "runtime.NumGoroutine") = false := by rw [(Zb7 h3).1]; cases k <;> rfl
 rw[run_callFunc_extern h1 hn (by rw[h2];rfl) (Zlr k h3) he,hr];rfl
theorem run_loadBytes {b:Nat}:∀ (l:List Nat) (o:Nat) (acc:ByteArray),(∀ (i:Nat) (n:Nat),l[i]?=some n->w.cell? ⟨b,o+i,none⟩=some (.int .u8 (n:Int)))->
  (Extern.Bytes.loadBytes ⟨b,o,none⟩ l.length acc).run P w=.ok ⟨acc.data++(l.map UInt8.ofNat).toArray⟩ w
 |[],o,acc,h=>by
  show Result.ok acc w=_;simp
 |n::l,o,acc,h=>by
  show (Extern.Bytes.loadBytes ⟨b,o,none⟩ (l.length+1) acc).run P w=_;unfold Extern.Bytes.loadBytes;rw[Sem.run_bind,Zh4 (show w.cell? ⟨b,o,none⟩=_ from h 0 n rfl)];simp only[Result.andThen_ok];rw[add_off]
  have:=run_loadBytes l (o+1) (acc.push ((n:Int).toNat.toUInt8)) λi m hi=>by
   rw[show o+1+i=o+(i+1) by omega];exact h (i+1) m hi
  rw[this]
  congr 1
  apply Zco;simp
theorem Zoi {x y c:Value}{s:ByteArray}(h1:(Extern.Bytes.bytesOf x).run P w=.ok s w) (h2:(Extern.Bytes.bytesOf y).run P w=.ok s w):(Extern.BytealgIndexByte.indexByte #[x,c]).run P w=(Extern.BytealgIndexByte.indexByte #[y,c]).run P w:=by
 change ((Extern.Bytes.bytesOf x >>= _):Sem Value).run P w=((Extern.Bytes.bytesOf y >>= _):Sem Value).run P w;rw[Sem.run_bind,Sem.run_bind,h1,h2];rfl
end Go.Ev
/- A verified evaluator for closed calls, first part: its values, its memory, and what they stand for. No program in sight. -/
namespace Go.Ev
open Go Go.Vc
inductive X where
 |b (v:Bool)
 |i (k:IntKind) (n:Int)
 |s (l:List Nat)
 |p (a:Option (Nat × Nat))
 |l (a:Option (Nat × Nat)) (n c:Nat)
 |ni
 |nf
 |fc (t:TypeId) (x:X)
 |g (xs:List X)
 |t (xs:List X)
 |f (fn:Fn) (a c:List X)
 |m (a:Option Nat)
 |e0 (b o q:Nat)
abbrev Sg:=Nat->Option (Nat × Nat × Nat)
def str (l:List Nat):ByteArray:=⟨(l.map UInt8.ofNat).toArray⟩
mutual
def vl (σ:Sg):X->Option Value
 |.b v=>some (.bool v)
 |.i k n=>some (.int k n)
 |.s l=>some (.string (str l))
 |.p none=>some (.pointer none)
 |.p (some a)=>match σ a.1 with
  |some r=>some (.pointer (some ⟨r.1,r.2.1+a.2,none⟩))
  |none=>none
 |.l none n c=>some (.slice none n c)
 |.l (some a) n c=>match σ a.1 with
  |some r=>some (.slice (some ⟨r.1,r.2.1+a.2,none⟩) n (c+r.2.2))
  |none=>none
 |.ni=>some .nilIface
 |.nf=>some .nilFunc
 |.fc t x=>match vl σ x with
  |some v=>some (.iface t v)
  |none=>none
 |.g xs=>match vls σ xs with
  |some vs=>some (.agg vs.toArray)
  |none=>none
 |.t xs=>match vls σ xs with
  |some vs=>some (.tuple vs.toArray)
  |none=>none
 |.f fn a c=>match vls σ a,vls σ c with
  |some us,some vs=>some (.func fn us.toArray vs.toArray)
  |_,_=>none
 |.m none=>some (.map none)
 |.m (some b)=>match σ b with
  |some r=>some (.map (some r.1))
  |none=>none
 |.e0 b o q=>match σ b with
  |some r=>some (.slice (some ⟨r.1,r.2.1+(if r.2.2=0 then o else q),none⟩) 0 r.2.2)
  |none=>none
def vls (σ:Sg):List X->Option (List Value)
 |[]=>some []
 |x::r=>match vl σ x,vls σ r with
  |some v,some vs=>some (v::vs)
  |_,_=>none
end
def Ext (σ σ':Sg):Prop:=∀ n r,σ n=some r->σ' n=some r
theorem Ext.refl (σ:Sg):Ext σ σ:=λ_ _ h=>h
theorem Ext.trans {a b c:Sg}(h:Ext a b) (k:Ext b c):Ext a c:=λn r e=>k n r (h n r e)
mutual
theorem Zdb {σ σ':Sg}(h:Ext σ σ'):∀ (x:X) (v:Value),vl σ x=some v->vl σ' x=some v
 |.b _,_,e=>e
 |.i _ _,_,e=>e
 |.s _,_,e=>e
 |.p none,_,e=>e
 |.p (some a),v,e=>by
  simp only[vl] at e ⊢
  cases hs:σ a.1 with
  |none=>rw[hs] at e;cases e
  |some r=>rw[hs] at e;rw[h _ _ hs];exact e
 |.l none _ _,_,e=>e
 |.l (some a) n c,v,e=>by
  simp only[vl] at e ⊢
  cases hs:σ a.1 with
  |none=>rw[hs] at e;cases e
  |some r=>rw[hs] at e;rw[h _ _ hs];exact e
 |.ni,_,e=>e
 |.nf,_,e=>e
 |.fc t x,v,e=>by
  simp only[vl] at e ⊢
  cases hs:vl σ x with
  |none=>rw[hs] at e;cases e
  |some u=>rw[hs] at e;rw[Zdb h x u hs];exact e
 |.g xs,v,e=>by
  simp only[vl] at e ⊢
  cases hs:vls σ xs with
  |none=>rw[hs] at e;cases e
  |some u=>rw[hs] at e;rw[Zbp h xs u hs];exact e
 |.t xs,v,e=>by
  simp only[vl] at e ⊢
  cases hs:vls σ xs with
  |none=>rw[hs] at e;cases e
  |some u=>rw[hs] at e;rw[Zbp h xs u hs];exact e
 |.f fn a c,v,e=>by
  simp only[vl] at e ⊢
  cases hs:vls σ a with
  |none=>rw[hs] at e;cases e
  |some u=>
   cases hc:vls σ c with
   |none=>rw[hs,hc] at e;cases e
   |some u'=>rw[hs,hc] at e;rw[Zbp h a u hs,Zbp h c u' hc];exact e
 |.m none,_,e=>e
 |.m (some b),v,e=>by
  simp only[vl] at e ⊢
  cases hs:σ b with
  |none=>rw[hs] at e;cases e
  |some r=>rw[hs] at e;rw[h _ _ hs];exact e
 |.e0 b o q,v,e=>by
  simp only[vl] at e ⊢
  cases hs:σ b with
  |none=>rw[hs] at e;cases e
  |some r=>rw[hs] at e;rw[h _ _ hs];exact e
theorem Zbp {σ σ':Sg}(h:Ext σ σ'):∀ (xs:List X) (vs:List Value),vls σ xs=some vs->vls σ' xs=some vs
 |[],_,e=>e
 |x::r,vs,e=>by
  simp only[vls] at e ⊢
  cases hx:vl σ x with
  |none=>rw[hx] at e;cases e
  |some u=>
   cases hr:vls σ r with
   |none=>rw[hx,hr] at e;cases e
   |some us=>rw[hx,hr] at e;rw[Zdb h x u hx,Zbp h r us hr];exact e
end
theorem Za1 {σ:Sg}{x:X}{r:List X}{vs:List Value}(h:vls σ (x::r)=some vs):∃ v us,vl σ x=some v/\vls σ r=some us/\vs=v::us:=by
 simp only[vls] at h
 cases hx:vl σ x with
 |none=>rw[hx] at h;cases h
 |some u=>
  cases hr:vls σ r with
  |none=>rw[hx,hr] at h;cases h
  |some us=>rw[hx,hr] at h;exact⟨u,us,rfl,rfl,(Option.some.inj h).symm⟩
theorem Zas {σ:Sg}{x:X}{r:List X}{v:Value}{us:List Value}(h1:vl σ x=some v) (h2:vls σ r=some us):vls σ (x::r)=some (v::us):=by
 simp only[vls,h1,h2]
theorem Zac {σ:Sg}:∀ {xs:List X}{vs:List Value},vls σ xs=some vs->xs.length=vs.length
 |[],vs,h=>by simp only[vls,Option.some.injEq] at h;subst h;rfl
 |x::r,vs,h=>by
  obtain⟨v,us,_,h2,rfl⟩:=Za1 h;simp[Zac h2]
theorem Zcz {σ:Sg}:∀ {xs ys:List X}{us vs:List Value},vls σ xs=some us->vls σ ys=some vs->vls σ (xs++ys)=some (us++vs)
 |[],ys,us,vs,h,k=>by simp only[vls,Option.some.injEq] at h;subst h;exact k
 |x::r,ys,us,vs,h,k=>by
  obtain⟨v,us',h1,h2,rfl⟩:=Za1 h;exact Zas h1 (Zcz h2 k)
theorem Zc9 {σ:Sg}:∀ {xs:List X}{vs:List Value}{i:Nat}{x:X},vls σ xs=some vs->xs[i]?=some x->∃ v,vs[i]?=some v/\vl σ x=some v
 |y::r,vs,0,x,h,e=>by
  obtain⟨v,us,h1,h2,rfl⟩:=Za1 h;simp at e;subst e;exact⟨v,rfl,h1⟩
 |y::r,vs,i+1,x,h,e=>by
  obtain⟨v,us,h1,h2,rfl⟩:=Za1 h;obtain⟨u,e1,e2⟩:=Zc9 h2 (by simpa using e);exact⟨u,by simpa using e1,e2⟩
theorem Zl5 {σ:Sg}:∀ {xs:List X}{vs:List Value}(i:Nat){x:X}{v:Value},vls σ xs=some vs->vl σ x=some v->vls σ (xs.set i x)=some (vs.set i v)
 |[],vs,i,x,v,h,k=>by simp only[vls,Option.some.injEq] at h;subst h;rfl
 |y::r,vs,0,x,v,h,k=>by
  obtain⟨u,us,h1,h2,rfl⟩:=Za1 h;exact Zas k h2
 |y::r,vs,i+1,x,v,h,k=>by
  obtain⟨u,us,h1,h2,rfl⟩:=Za1 h;exact Zas h1 (Zl5 i h2 k)
theorem Zam {σ:Sg}:∀ {xs:List X}{vs:List Value}(n:Nat),vls σ xs=some vs->vls σ (xs.drop n)=some (vs.drop n)
 |xs,vs,0,h=>by simpa using h
 |[],vs,n+1,h=>by simp only[vls,Option.some.injEq] at h;subst h;rfl
 |y::r,vs,n+1,h=>by
  obtain⟨u,us,h1,h2,rfl⟩:=Za1 h;simpa using Zam n h2
theorem Zah {σ:Sg}:∀ {xs:List X}{vs:List Value}(n:Nat),vls σ xs=some vs->vls σ (xs.take n)=some (vs.take n)
 |xs,vs,0,h=>by simp[vls]
 |[],vs,n+1,h=>by simp only[vls,Option.some.injEq] at h;subst h;rfl
 |y::r,vs,n+1,h=>by
  obtain⟨u,us,h1,h2,rfl⟩:=Za1 h;simpa using Zas h1 (Zah n h2)
noncomputable section
inductive T (α:Type) where
 |e
 |lf (k:Nat) (v:α)
 |nd (a b:T α)
def T.get {α:Type}(t:T α):Nat->Nat->Option α:=
 @T.rec α (λ_=>Nat->Nat->Option α) (λ_ _=>none) (λk v _ q=>@Bool.rec (λ_=>Option α) none (some v) (Nat.beq k q))
  (λ_ _ ga gb i q=>@Nat.rec (λ_=>Option α) (ga (Nat.div i 2) q) (λ_ _=>gb (Nat.div i 2) q) (Nat.mod i 2)) t
def T.set {α:Type}(d:Nat):T α->Nat->Nat->α->T α:=
 @Nat.rec (λ_=>T α->Nat->Nat->α->T α) (λ_ _ k v=>.lf k v)
  (λ_ ih t i k v=>@T.rec α (λ_=>T α) (@Nat.rec (λ_=>T α) (.nd (ih .e (Nat.div i 2) k v) .e) (λ_ _=>.nd .e (ih .e (Nat.div i 2) k v)) (Nat.mod i 2))
   (λ_ _=>@Nat.rec (λ_=>T α) (.nd (ih .e (Nat.div i 2) k v) .e) (λ_ _=>.nd .e (ih .e (Nat.div i 2) k v)) (Nat.mod i 2))
   (λa b _ _=>@Nat.rec (λ_=>T α) (.nd (ih a (Nat.div i 2) k v) b) (λ_ _=>.nd a (ih b (Nat.div i 2) k v)) (Nat.mod i 2)) t) d
theorem T.get_e {α:Type}(i q:Nat):(T.e:T α).get i q=none:=rfl
theorem T.get_lf {α:Type}(k:Nat) (v:α) (i q:Nat):(T.lf k v).get i q=match Nat.beq k q with|true=>some v|false=>none:=by
 show @Bool.rec (λ_=>Option α) none (some v) (Nat.beq k q)=_
 cases Nat.beq k q <;> rfl
theorem T.get_nd {α:Type}(a b:T α) (i q:Nat):(T.nd a b).get i q=match i%2 with|0=>a.get (i/2) q|_+1=>b.get (i/2) q:=by
 show @Nat.rec (λ_=>Option α) (a.get (i/2) q) (λ_ _=>b.get (i/2) q) (i%2)=_
 cases i%2 <;> rfl
theorem T.set_0 {α:Type}(t:T α) (i k:Nat) (v:α):T.set 0 t i k v=.lf k v:=rfl
theorem T.set_nd {α:Type}(d:Nat) (a b:T α) (i k:Nat) (v:α):T.set (d+1) (.nd a b) i k v=match i%2 with|0=>.nd (T.set d a (i/2) k v) b|_+1=>.nd a (T.set d b (i/2) k v):=by
 show @Nat.rec (λ_=>T α) (.nd (T.set d a (i/2) k v) b) (λ_ _=>.nd a (T.set d b (i/2) k v)) (i%2)=_
 cases i%2 <;> rfl
theorem T.set_e {α:Type}(d:Nat) (i k:Nat) (v:α):T.set (d+1) .e i k v=match i%2 with|0=>.nd (T.set d .e (i/2) k v) .e|_+1=>.nd .e (T.set d .e (i/2) k v):=by
 show @Nat.rec (λ_=>T α) (.nd (T.set d .e (i/2) k v) .e) (λ_ _=>.nd .e (T.set d .e (i/2) k v)) (i%2)=_
 cases i%2 <;> rfl
theorem T.set_lf {α:Type}(d:Nat) (k':Nat) (v':α) (i k:Nat) (v:α):T.set (d+1) (.lf k' v') i k v=match i%2 with|0=>.nd (T.set d .e (i/2) k v) .e|_+1=>.nd .e (T.set d .e (i/2) k v):=by
 show @Nat.rec (λ_=>T α) (.nd (T.set d .e (i/2) k v) .e) (λ_ _=>.nd .e (T.set d .e (i/2) k v)) (i%2)=_
 cases i%2 <;> rfl
theorem T.get_set {α:Type}:∀ (d:Nat) (t:T α) (i k:Nat) (v:α) (j q:Nat) (x:α),(q=k->j=i)->(T.set d t i k v).get j q=some x->(q=k/\x=v)\/(q≠k/\t.get j q=some x)
 |0,t,i,k,v,j,q,x,hj,h=>by
  rw[T.set_0,T.get_lf] at h
  cases hb:Nat.beq k q with
  |true=>rw[hb] at h;exact .inl ⟨(Nat.eq_of_beq_eq_true hb).symm,(Option.some.inj h).symm⟩
  |false=>rw[hb] at h;cases h
 |d+1,.nd a b,i,k,v,j,q,x,hj,h=>by
  rw[T.set_nd] at h
  have hj2:q=k->j/2=i/2:=λe=>by rw[hj e]
  cases hi:i%2 with
  |zero=>
   rw[hi] at h;simp only[T.get_nd] at h ⊢
   cases hm:j%2 with
   |zero=>
    rw[hm] at h;exact T.get_set d a _ k v _ q x hj2 h
   |succ m=>
    rw[hm] at h;exact .inr ⟨λe=>by have:=hj e;subst this;omega,h⟩
  |succ n=>
   rw[hi] at h;simp only[T.get_nd] at h ⊢
   cases hm:j%2 with
   |zero=>
    rw[hm] at h;exact .inr ⟨λe=>by have:=hj e;subst this;omega,h⟩
   |succ m=>
    rw[hm] at h;exact T.get_set d b _ k v _ q x hj2 h
 |d+1,.e,i,k,v,j,q,x,hj,h=>by
  rw[T.set_e] at h
  have hj2:q=k->j/2=i/2:=λe=>by rw[hj e]
  cases hi:i%2 with
  |zero=>
   rw[hi] at h;simp only[T.get_nd] at h
   cases hm:j%2 with
   |zero=>
    rw[hm] at h;rcases T.get_set d .e _ k v _ q x hj2 h with h1|⟨h1,h2⟩
    ·exact .inl h1
    ·cases h2
   |succ m=>rw[hm] at h;cases h
  |succ n=>
   rw[hi] at h;simp only[T.get_nd] at h
   cases hm:j%2 with
   |zero=>rw[hm] at h;cases h
   |succ m=>
    rw[hm] at h;rcases T.get_set d .e _ k v _ q x hj2 h with h1|⟨h1,h2⟩
    ·exact .inl h1
    ·cases h2
 |d+1,.lf k' v',i,k,v,j,q,x,hj,h=>by
  rw[T.set_lf] at h
  have hj2:q=k->j/2=i/2:=λe=>by rw[hj e]
  cases hi:i%2 with
  |zero=>
   rw[hi] at h;simp only[T.get_nd] at h
   cases hm:j%2 with
   |zero=>
    rw[hm] at h;rcases T.get_set d .e _ k v _ q x hj2 h with h1|⟨h1,h2⟩
    ·exact .inl h1
    ·cases h2
   |succ m=>rw[hm] at h;cases h
  |succ n=>
   rw[hi] at h;simp only[T.get_nd] at h
   cases hm:j%2 with
   |zero=>rw[hm] at h;cases h
   |succ m=>
    rw[hm] at h;rcases T.get_set d .e _ k v _ q x hj2 h with h1|⟨h1,h2⟩
    ·exact .inl h1
    ·cases h2
abbrev Blk:=TypeId × List X
inductive M where
 |mp (es:List (X × X))
 |it (s:List Nat) (pos:Nat)
structure St where
 h:T (Option Blk)
 n:Nat
 k:Nat
 m:T (Option M)
 g:List (Nat × List X)
def jn {α:Type}:Option (Option α)->Option α
 |some (some c)=>some c
 |_=>none
def St.blk (s:St) (b:Nat):Option Blk:=jn (s.h.get b b)
def St.mo (s:St) (b:Nat):Option M:=jn (s.m.get b b)
def St.put (s:St) (b:Nat) (c:Option Blk):St:=⟨T.set 14 s.h b b c,s.n,s.k,s.m,s.g⟩
def St.mput (s:St) (b:Nat) (c:Option M):St:=⟨s.h,s.n,s.k,T.set 14 s.m b b c,s.g⟩
theorem Zik {α:Type}{t:T (Option α)}{b q:Nat}{c:Option α}{x:α}(h:jn ((T.set 14 t b b c).get q q)=some x):(q=b/\c=some x)\/(q≠b/\jn (t.get q q)=some x):=by
 cases hg:T.get (T.set 14 t b b c) q q with
 |none=>rw[hg] at h;cases h
 |some y=>
  rw[hg] at h
  cases y with
  |none=>cases h
  |some z=>
   obtain rfl:z=x:=Option.some.inj h;rcases T.get_set 14 t b b c q q _ (λe=>e) hg with⟨h1,h2⟩|⟨h1,h2⟩
   ·exact .inl ⟨h1,h2.symm⟩
   ·refine .inr ⟨h1,?_⟩;rw[h2];rfl
theorem Zbk {s:St}{b q:Nat}{c:Option Blk}{x:Blk}(h:(s.put b c).blk q=some x):(q=b/\c=some x)\/(q≠b/\s.blk q=some x):=Zik h
theorem Zd7 {s:St}{b q:Nat}{c:Option M}{x:M}(h:(s.mput b c).mo q=some x):(q=b/\c=some x)\/(q≠b/\s.mo q=some x):=Zik h
def szOf (P:Program) (e:TypeId):Nat:=match P.info? e with
 |some i=>i.size
 |none=>0
def isArrB (P:Program) (e:TypeId):Bool:=match P.underlying e with
 |some (.array _ _)=>true
 |_=>false
structure Bs where
 pr:Nat->Prop
 res:Nat->Prop
 gp:Nat->Prop
 gpr:∀ a,gp a->pr a
def lkG:List (Nat × List X)->Nat->Option (List X)
 |[],_=>none
 |p::l,g=>match Nat.beq p.1 g with
  |true=>some p.2
  |false=>lkG l g
structure Own (P:Program) (base:Bs) (σ:Sg) (w:World) (b e:Nat) (cs:List X) (rb off k:Nat) (pre vs sp post:List Value):Prop where
 sg_:σ b=some (rb,off,k)
 val:vls σ cs=some vs
 pre_:pre.length=off
 sp_:sp.length=k*szOf P e
 heap:∃ fz:Nat × Nat,w.heap[rb]?=some (.cells (pre++vs++sp++post).toArray e fz)/\∀ o,o < (pre++vs++sp++post).length->¬ (fz.1<=o/\o < fz.2)
 low:¬ base.pr rb
 flat:vs.all sg=true
 mul_:∃ q,off=q*szOf P e
 nsp:isArrB P e=true->k=0
def EsR (σ:Sg):List (X × X)->List MapEntry->Prop
 |[],[]=>True
 |(k,v)::l,e::l'=>vl σ k=some e.key/\vl σ v=some e.val/\EsR σ l l'
 |_,_=>False
theorem EsR.ext {σ σ':Sg}(hx:Ext σ σ'):∀ {l:List (X × X)}{l':List MapEntry},EsR σ l l'->EsR σ' l l'
 |[],[],_=>trivial
 |(k,v)::l,e::l',⟨h1,h2,h3⟩=>⟨Zdb hx _ _ h1,Zdb hx _ _ h2,EsR.ext hx h3⟩
def MOk (σ:Sg) (w:World) (rb:Nat):M->Prop
 |.mp es=>∃ (l:List MapEntry) (clock:Nat),w.heap[rb]?=some (.map l.toArray clock)/\EsR σ es l
 |.it s p=>w.heap[rb]?=some (.stringIter (str s) p)
theorem MOk.ext {σ σ':Sg}{w:World}{rb:Nat}(hx:Ext σ σ'):∀ {o:M},MOk σ w rb o->MOk σ' w rb o
 |.mp es,⟨l,c,h1,h2⟩=>⟨l,c,h1,h2.ext hx⟩
 |.it s p,h=>h
def NoC (w:World) (rb:Nat):Prop:=∀ c e z,w.heap[rb]?≠some (.cells c e z)
theorem MOk.noC {σ:Sg}{w:World}{rb:Nat}:∀ {o:M},MOk σ w rb o->NoC w rb/\(w.heap[rb]?).isSome=true
 |.mp es,⟨l,c,h1,_⟩=>⟨(λ_ _ _ h=>by rw[h1] at h;cases h),(by rw[h1];rfl)⟩
 |.it s p,h=>⟨(λ_ _ _ h'=>by rw[show w.heap[rb]?=_ from h] at h';cases h'),(by rw[show w.heap[rb]?=_ from h];rfl)⟩
theorem MOk.keep {σ:Sg}{w w':World}{rb:Nat}(hk:∀ o,w.heap[rb]?=some o->w'.heap[rb]?=some o):∀ {o:M},MOk σ w rb o->MOk σ w' rb o
 |.mp es,⟨l,c,h1,h2⟩=>⟨l,c,hk _ h1,h2⟩
 |.it s p,h=>hk _ h
structure Mem (P:Program) (base:Bs) (σ:Sg) (s:St) (w:World):Prop where
 own:∀ b e cs,s.blk b=some (e,cs)->∃ rb off k pre vs sp post,Own P base σ w b e cs rb off k pre vs sp post
 apart:∀ b c x y r r',s.blk b=some x->s.blk c=some y->b≠c->σ b=some r->σ c=some r'->r.1≠r'.1
 mown:∀ b o,s.mo b=some o->∃ rb,σ b=some (rb,0,0)/\¬ base.pr rb/\MOk σ w rb o
 mapart:∀ b c x y r r',s.mo b=some x->s.mo c=some y->b≠c->σ b=some r->σ c=some r'->r.1≠r'.1
 glb:∀ g xs,lkG s.g g=some xs->base.gp g/\∃ e fz vs,vls (λ_=>none) xs=some vs/\w.heap[g]?=some (.cells vs.toArray e fz)
theorem Mem.keepG {P:Program}{base:Bs}{σ:Sg}{s:St}{w w':World}(h:Mem P base σ s w) (ho:∀ (c:Nat) (o:Obj),base.pr c->w.heap[c]?=some o->w'.heap[c]?=some o) :
  ∀ g xs,lkG s.g g=some xs->base.gp g/\∃ e fz vs,vls (λ_=>none) xs=some vs/\w'.heap[g]?=some (.cells vs.toArray e fz):=λg xs hg=>by
 obtain⟨h1,e,fz,vs,h2,h3⟩:=h.glb g xs hg;exact⟨h1,e,fz,vs,h2,ho g _ (base.gpr g h1) h3⟩
theorem Own.ext {P:Program}{base:Bs}{σ σ':Sg}{w:World}{b e:Nat}{cs:List X}{rb off k:Nat}{pre vs sp post:List Value}(h:Own P base σ w b e cs rb off k pre vs sp post) (hx:Ext σ σ'):Own P base σ' w b e cs rb off k pre vs sp post:=
 ⟨hx _ _ h.sg_,Zbp hx _ _ h.val,h.pre_,h.sp_,h.heap,h.low,h.flat,h.mul_,h.nsp⟩
theorem Mem.ext {P:Program}{base:Bs}{σ σ':Sg}{s:St}{w:World}(h:Mem P base σ s w) (hx:Ext σ σ'):Mem P base σ' s w:=by
 refine⟨λb e cs hb=>?_,λb c x y r r' hb hc hne h1 h2=>?_,λb o hb=>?_,λb c x y r r' hb hc hne h1 h2=>?_,h.glb⟩
 ·obtain⟨rb,off,k,pre,vs,sp,post,h1⟩:=h.own b e cs hb;exact⟨rb,off,k,pre,vs,sp,post,h1.ext hx⟩
 ·obtain⟨e,cs⟩:=x;obtain⟨e',cs'⟩:=y;obtain⟨_,_,_,_,_,_,_,g1⟩:=h.own b e cs hb;obtain⟨_,_,_,_,_,_,_,g2⟩:=h.own c e' cs' hc;have e1:=hx _ _ g1.sg_;have e2:=hx _ _ g2.sg_;rw[h1] at e1;rw[h2] at e2;have f1:=g1.sg_;have f2:=g2.sg_;rw[<-e1] at f1;rw[<-e2] at f2;exact h.apart b c _ _ _ _ hb hc hne f1 f2
 ·obtain⟨rb,h1,h2,h3⟩:=h.mown b o hb;exact⟨rb,hx _ _ h1,h2,h3.ext hx⟩
 ·obtain⟨_,g1,_⟩:=h.mown b x hb;obtain⟨_,g2,_⟩:=h.mown c y hc;have e1:=hx _ _ g1;have e2:=hx _ _ g2;rw[h1] at e1;rw[h2] at e2;rw[<-e1] at g1;rw[<-e2] at g2;exact h.mapart b c _ _ _ _ hb hc hne g1 g2
structure Fram (base:Bs) (w0 w:World):Prop where
 same:Same w0 w
 low:∀ c,base.pr c->c < w.heap.size
 old:∀ c,base.pr c->w.heap[c]?=w0.heap[c]?
structure FreshN (base:Bs) (σ:Sg) (n k:Nat):Prop where
 nx:σ n=none
 lt:n < k
 ge:∀ m,k<=m->σ m=none
 rs:∀ m,base.res m->σ m=none/\m≠n/\m < k
abbrev Fresh (base:Bs) (σ:Sg) (s:St):Prop:=FreshN base σ s.n s.k
end
end Go.Ev
/- A verified evaluator for closed calls, second part: memory that turns; operations that leave the world as it is. No program in sight. -/
namespace Go.Ev
open Go Go.Vc
noncomputable section
variable {P:Program}{base:Bs}{σ:Sg}{s:St}{w w':World}
theorem Own.keep {b e:Nat}{cs:List X}{rb off k:Nat}{pre vs sp post:List Value}(g:Own P base σ w b e cs rb off k pre vs sp post) (ho:∀ o,w.heap[rb]?=some o->w'.heap[rb]?=some o):Own P base σ w' b e cs rb off k pre vs sp post:=by
 obtain⟨fz,h1,h2⟩:=g.heap;exact⟨g.sg_,g.val,g.pre_,g.sp_,⟨fz,ho _ h1,h2⟩,g.low,g.flat,g.mul_,g.nsp⟩
theorem Mem.sep (h:Mem P base σ s w){q rb:Nat}{o:M}(hq:s.mo q=some o) (hc:∃ c e z,w.heap[rb]?=some (.cells c e z)):∀ {r:Nat × Nat × Nat},σ q=some r->r.1≠rb:=by
 intro r hr he;obtain⟨rb',h1,_,h3⟩:=h.mown q o hq;rw[h1] at hr;obtain rfl:=Option.some.inj hr;obtain⟨c,e,z,hh⟩:=hc;replace he:rb'=rb:=he;rw[he] at h3;exact h3.noC.1 c e z hh
theorem Mem.upd (h:Mem P base σ s w){b e:Nat}{cs cs':List X}{rb off k:Nat}{pre vs' sp post:List Value}(hb:s.blk b=some (e,cs)) (hn:Own P base σ w' b e cs' rb off k pre vs' sp post)
  (ho:∀ c o,c≠rb->w.heap[c]?=some o->w'.heap[c]?=some o):Mem P base σ (s.put b (some (e,cs'))) w':=by
 have key:∀ q x,(s.put b (some (e,cs'))).blk q=some x->∃ y,s.blk q=some y:=by
  intro q x hq;rcases Zbk hq with⟨rfl,_⟩|⟨_,h2⟩
  ·exact⟨_,hb⟩
  ·exact⟨_,h2⟩
 refine⟨λq e' cs'' hq=>?_,λq c x y r r' hq hc hne h1 h2=>?_,λq o hq=>?_,λq c x y r r' hq hc hne h1 h2=>h.mapart q c x y r r' hq hc hne h1 h2,h.keepG λc o hc=>ho c o λe=>hn.low (e▸hc)⟩
 ·rcases Zbk hq with⟨rfl,h2⟩|⟨hne,h2⟩
  ·simp only[Option.some.injEq,Prod.mk.injEq] at h2;obtain⟨rfl,rfl⟩:=h2;exact⟨rb,off,k,pre,vs',sp,post,hn⟩
  ·obtain⟨rb',off',k',pre',vs,sp',post',g⟩:=h.own q e' cs'' h2;exact⟨rb',off',k',pre',vs,sp',post',g.keep (ho _ · (h.apart q b _ _ _ _ h2 hb hne g.sg_ hn.sg_))⟩
 ·obtain⟨x',hx'⟩:=key q x hq;obtain⟨y',hy'⟩:=key c y hc;exact h.apart q c x' y' r r' hx' hy' hne h1 h2
 ·replace hq:s.mo q=some o:=hq;obtain⟨rb',h1,h2,h3⟩:=h.mown q o hq;obtain⟨rb0,off0,k0,pre0,vs0,sp0,post0,g0⟩:=h.own b e cs hb;obtain⟨fz,hh,_⟩:=g0.heap
  have hrb:rb0=rb:=by have:=g0.sg_;rw[hn.sg_] at this;cases this;rfl
  subst hrb;exact⟨rb',h1,h2,h3.keep λo'=>ho rb' o' (h.sep hq ⟨_,_,_,hh⟩ h1)⟩
theorem Mem.del (h:Mem P base σ s w) (b:Nat):Mem P base σ (s.put b none) w:=by
 have key:∀ q x,(s.put b none).blk q=some x->q≠b/\s.blk q=some x:=by
  intro q x hq;rcases Zbk hq with⟨_,h2⟩|h2
  ·cases h2
  ·exact h2
 exact⟨λq e cs hq=>h.own q e cs (key q _ hq).2,λq c x y r r' hq hc hne h1 h2=>h.apart q c x y r r' (key q x hq).2 (key c y hc).2 hne h1 h2,h.mown,h.mapart,h.glb⟩
theorem Mem.lose (h:Mem P base σ s w){b:Nat}{x:Blk}{r:Nat × Nat × Nat}(hb:s.blk b=some x) (hr:σ b=some r) (ho:∀ c o,c≠r.1->w.heap[c]?=some o->w'.heap[c]?=some o):Mem P base σ (s.put b none) w':=by
 have key:∀ q x,(s.put b none).blk q=some x->q≠b/\s.blk q=some x:=by
  intro q x hq;rcases Zbk hq with⟨_,h2⟩|h2
  ·cases h2
  ·exact h2
 have hlow:¬ base.pr r.1:=by
  obtain⟨e,cs⟩:=x;obtain⟨rb0,off0,k0,pre0,vs0,sp0,post0,g0⟩:=h.own b e cs hb;have:=g0.sg_;rw[hr] at this;obtain rfl:=Option.some.inj this;exact g0.low
 refine⟨λq e cs hq=>?_,λq c x y r r' hq hc hne h1 h2=>h.apart q c x y r r' (key q x hq).2 (key c y hc).2 hne h1 h2,λq o hq=>?_,h.mapart,h.keepG λc o hc=>ho c o λe=>hlow (e▸hc)⟩
 ·obtain⟨hne,hq⟩:=key q _ hq;obtain⟨rb',off',k',pre',vs,sp',post',g⟩:=h.own q e cs hq;exact⟨rb',off',k',pre',vs,sp',post',g.keep (ho _ · (h.apart q b _ _ _ _ hq hb hne g.sg_ hr))⟩
 ·replace hq:s.mo q=some o:=hq;obtain⟨rb',h1,h2,h3⟩:=h.mown q o hq;obtain⟨e,cs⟩:=x;obtain⟨rb0,off0,k0,pre0,vs0,sp0,post0,g0⟩:=h.own b e cs hb;obtain⟨fz,hh,_⟩:=g0.heap;have:=g0.sg_;rw[hr] at this;obtain rfl:=Option.some.inj this;exact⟨rb',h1,h2,h3.keep λo'=>ho rb' o' (h.sep hq ⟨_,_,_,hh⟩ h1)⟩
theorem Mem.mupd (h:Mem P base σ s w){b rb:Nat}{o o':M}(hb:s.mo b=some o) (hr:σ b=some (rb,0,0)) (hn:MOk σ w' rb o') (ho:∀ c x,c≠rb->w.heap[c]?=some x->w'.heap[c]?=some x):Mem P base σ (s.mput b (some o')) w':=by
 have key:∀ q x,(s.mput b (some o')).mo q=some x->∃ y,s.mo q=some y:=by
  intro q x hq;rcases Zd7 hq with⟨rfl,_⟩|⟨_,h2⟩
  ·exact⟨_,hb⟩
  ·exact⟨_,h2⟩
 obtain⟨rb0,g1,g2,g3⟩:=h.mown b o hb;rw[hr] at g1;cases g1;refine⟨λq e cs hq=>?_,h.apart,λq x hq=>?_,λq c x y r r' hq hc hne h1 h2=>?_,h.keepG λc o hc=>ho c o λe=>g2 (e▸hc)⟩
 ·obtain⟨rb',off',k',pre',vs,sp',post',g⟩:=h.own q e cs hq;refine⟨rb',off',k',pre',vs,sp',post',g.keep λx=>ho _ x λhe=>?_⟩;obtain⟨fz,hh,_⟩:=g.heap;exact g3.noC.1 _ _ _ (he▸hh)
 ·rcases Zd7 hq with⟨rfl,h2⟩|⟨hne,h2⟩
  ·obtain rfl:=Option.some.inj h2;exact⟨rb,hr,g2,hn⟩
  ·obtain⟨rb',h1,h3,h4⟩:=h.mown q x h2;exact⟨rb',h1,h3,h4.keep λx=>ho _ x (h.mapart q b _ _ _ _ h2 hb hne h1 hr)⟩
 ·obtain⟨x',hx'⟩:=key q x hq;obtain⟨y',hy'⟩:=key c y hc;exact h.mapart q c x' y' r r' hx' hy' hne h1 h2
def sgPut (σ:Sg) (n:Nat) (r:Nat × Nat × Nat):Sg:=λm=>match Nat.beq m n with
 |true=>some r
 |false=>σ m
theorem Za8 (σ:Sg) (n:Nat) (r:Nat × Nat × Nat):sgPut σ n r n=some r:=by unfold sgPut;rw[Nat.beq_refl]
theorem Zc4 {σ:Sg}{n m:Nat}{r:Nat × Nat × Nat}(h:m≠n):sgPut σ n r m=σ m:=by
 unfold sgPut
 cases hb:Nat.beq m n with
 |true=>exact absurd (Nat.eq_of_beq_eq_true hb) h
 |false=>rfl
theorem Zh2 {σ:Sg}{n:Nat}{r:Nat × Nat × Nat}(h:σ n=none):Ext σ (sgPut σ n r):=by
 intro m q hm;rw[Zc4]
 ·exact hm
 ·rintro rfl;rw[h] at hm;cases hm
def St.new (s:St) (c:Blk):St:=⟨(s.put s.n (some c)).h,s.k,s.k+1,s.m,s.g⟩
def St.mnew (s:St) (c:M):St:=⟨s.h,s.k,s.k+1,(s.mput s.n (some c)).m,s.g⟩
theorem Fresh.next {s':St}(hf:Fresh base σ s) (r:Nat × Nat × Nat) (h1:s'.n=s.k) (h2:s'.k=s.k+1):Fresh base (sgPut σ s.n r) s':=by
 have hl:=hf.lt;refine⟨?_,by omega,λm hm=>?_,λm hm=>?_⟩
 ·rw[h1,Zc4 (by omega)];exact hf.ge _ (Nat.le_refl _)
 ·rw[Zc4 (by omega)];exact hf.ge _ (by omega)
 ·obtain⟨a,b,c⟩:=hf.rs m hm;rw[Zc4 b];exact⟨a,by omega,by omega⟩
theorem Zhq {s:St}{c x:M}{q:Nat}(h:(s.mnew c).mo q=some x):(q=s.n/\c=x)\/(q≠s.n/\s.mo q=some x):=by
 have:(s.mput s.n (some c)).mo q=some x:=h;rcases Zd7 this with⟨h1,h2⟩|h2
 ·exact .inl ⟨h1,Option.some.inj h2⟩
 ·exact .inr h2
theorem Zhu {c x:Blk}{q:Nat}(h:(s.new c).blk q=some x):(q=s.n/\c=x)\/(q≠s.n/\s.blk q=some x):=by
 have:(s.put s.n (some c)).blk q=some x:=h;rcases Zbk this with⟨h1,h2⟩|h2
 ·exact .inl ⟨h1,Option.some.inj h2⟩
 ·exact .inr h2
theorem Mem.fresh (h:Mem P base σ s w) (hf:Fresh base σ s){e:TypeId}{cs:List X}{pre vs sp post:List Value}{rb k:Nat}(hv:vls σ cs=some vs) (hsp:sp.length=k*szOf P e) (hbase:¬ base.pr rb) (hg:vs.all sg=true)
  (hh:∃ fz:Nat × Nat,w'.heap[rb]?=some (.cells (pre++vs++sp++post).toArray e fz)/\∀ o,o < (pre++vs++sp++post).length->¬ (fz.1<=o/\o < fz.2)) (hno:∀ b x r,s.blk b=some x->σ b=some r->r.1≠rb)
  (hnm:∀ b x r,s.mo b=some x->σ b=some r->r.1≠rb) (hml:∃ q,pre.length=q*szOf P e) (hns:isArrB P e=true->k=0) (ho:∀ c o,c≠rb->w.heap[c]?=some o->w'.heap[c]?=some o) :
  Mem P base (sgPut σ s.n (rb,pre.length,k)) (s.new (e,cs)) w'/\Ext σ (sgPut σ s.n (rb,pre.length,k))/\Fresh base (sgPut σ s.n (rb,pre.length,k)) (s.new (e,cs)):=by
 have hx:Ext σ (sgPut σ s.n (rb,pre.length,k)):=Zh2 hf.nx;refine⟨⟨λq e' cs' hq=>?_,λq c x y r r' hq hc hne h1 h2=>?_,λq o hq=>?_,λq c x y r r' hq hc hne h1 h2=>?_,h.keepG λc o hc=>ho c o λe=>hbase (e▸hc)⟩,hx,hf.next _ rfl rfl⟩
 ·rcases Zhu hq with⟨rfl,h2⟩|⟨hne,h2⟩
  ·simp only[Prod.mk.injEq] at h2;obtain⟨rfl,rfl⟩:=h2;exact⟨rb,pre.length,k,pre,vs,sp,post,⟨Za8 _ _ _,Zbp hx _ _ hv,rfl,hsp,hh,hbase,hg,hml,hns⟩⟩
  ·obtain⟨rb',off',k',pre',vs',sp',post',g⟩:=h.own q e' cs' h2;exact⟨rb',off',k',pre',vs',sp',post',(g.keep (ho _ · (hno q _ _ h2 g.sg_))).ext hx⟩
 ·have old:∀ q x r,s.blk q=some x->sgPut σ s.n (rb,pre.length,k) q=some r->q≠s.n->σ q=some r:=λq x r _ h1 hne=>by rw[Zc4 hne] at h1;exact h1
  rcases Zhu hq with⟨rfl,h3⟩|⟨hn1,h3⟩ <;> rcases Zhu hc with⟨rfl,h4⟩|⟨hn2,h4⟩
  ·exact absurd rfl hne
  ·rw[Za8] at h1;cases h1;exact λe=>hno c y r' h4 (old c y r' h4 h2 hn2) e.symm
  ·rw[Za8] at h2;cases h2;exact hno q x r h3 (old q x r h3 h1 hn1)
  ·exact h.apart q c x y r r' h3 h4 hne (old q x r h3 h1 hn1) (old c y r' h4 h2 hn2)
 ·replace hq:s.mo q=some o:=hq;obtain⟨rb',h1,h2,h3⟩:=h.mown q o hq;exact⟨rb',hx _ _ h1,h2,(h3.keep (ho _ · (hnm q o _ hq h1))).ext hx⟩
 ·replace hq:s.mo q=some x:=hq;replace hc:s.mo c=some y:=hc;obtain⟨_,g1,_⟩:=h.mown q x hq;obtain⟨_,g2,_⟩:=h.mown c y hc;have e1:=hx _ _ g1;have e2:=hx _ _ g2;rw[h1] at e1;rw[h2] at e2;rw[<-e1] at g1;rw[<-e2] at g2;exact h.mapart q c x y _ _ hq hc hne g1 g2
theorem Mem.mbelow (h:Mem P base σ s w){b:Nat}{x:M}{r:Nat × Nat × Nat}(hb:s.mo b=some x) (hr:σ b=some r):r.1 < w.heap.size:=by
 obtain⟨rb,h1,_,h3⟩:=h.mown b x hb;rw[h1] at hr;obtain rfl:=Option.some.inj hr;show rb < w.heap.size;rcases hU_ rb w.heap.size with h4|h4
 ·exact h4
 ·have:=h3.noC.2;rw[Array.getElem?_eq_none h4] at this;cases this
theorem Mem.below (h:Mem P base σ s w){b:Nat}{x:Blk}{r:Nat × Nat × Nat}(hb:s.blk b=some x) (hr:σ b=some r):r.1 < w.heap.size:=by
 obtain⟨e',cs'⟩:=x;obtain⟨rb,off,k,pre,vs,sp,post,g⟩:=h.own b e' cs' hb;have:=g.sg_;rw[hr] at this;obtain rfl:=Option.some.inj this;show rb < w.heap.size;rcases hU_ rb w.heap.size with h1|h1
 ·exact h1
 ·obtain⟨fz,this,_⟩:=g.heap;rw[Array.getElem?_eq_none h1] at this;cases this
theorem Zbx {o':Obj}:∀ c o,c≠w.heap.size->w.heap[c]?=some o->(w.alloc o').heap[c]?=some o:=by
 intro c o hc hco;show (w.heap.push _)[c]?=_;rw[Array.getElem?_push,if_neg hc];exact hco
theorem Fram.alloc {w0:World}(hF:Fram base w0 w) (o:Obj):Fram base w0 (w.alloc o):=by
 refine⟨hF.same.trans (.alloc _ _),?_,λc hc=>?_⟩
 ·intro c hc;show c < (w.heap.push _).size;have:=hF.low c hc;simp only[Array.size_push];omega
 ·have:=hF.low c hc;show (w.heap.push _)[c]?=_;rw[Array.getElem?_push,if_neg (by omega)];exact hF.old c hc
theorem Fram.top {w0:World}(hF:Fram base w0 w):¬ base.pr w.heap.size:=λh=>Nat.lt_irrefl _ (hF.low _ h)
theorem Mem.alloc (h:Mem P base σ s w) (hf:Fresh base σ s){w0:World}(hF:Fram base w0 w){e:TypeId}{cs:List X}{vs sp:List Value}{k:Nat}(hv:vls σ cs=some vs) (hsp:sp.length=k*szOf P e) (hg:vs.all sg=true) (hns:isArrB P e=true->k=0) :
  Mem P base (sgPut σ s.n (w.heap.size,0,k)) (s.new (e,cs)) (w.alloc (.cells (vs++sp).toArray e))/\Ext σ (sgPut σ s.n (w.heap.size,0,k))/\Fresh base (sgPut σ s.n (w.heap.size,0,k)) (s.new (e,cs)):=
 h.fresh (w':=w.alloc (.cells (vs++sp).toArray e)) (e:=e) (pre:=[]) (post:=[]) (sp:=sp) (rb:=w.heap.size) (k:=k) hf hv hsp hF.top hg ⟨(0,0),by show (w.heap.push _)[w.heap.size]?=_;simp,λo _ hz=>by have:=hz.2;exact absurd this (Nat.not_lt_zero _)⟩
  (λb x r hb hr he=>by have:=h.below hb hr;omega) (λb x r hb hr he=>by have:=h.mbelow hb hr;omega) ⟨0,by simp⟩ hns Zbx
theorem Ziu (o:Obj):(w.alloc o).heap[w.heap.size]?=some o:=by show (w.heap.push _)[w.heap.size]?=_;simp
theorem Mem.mnew (h:Mem P base σ s w) (hf:Fresh base σ s){w0:World}(hF:Fram base w0 w){o:M}{ob:Obj}(hn:∀ w',w'.heap[w.heap.size]?=some ob->MOk σ w' w.heap.size o) :
  Mem P base (sgPut σ s.n (w.heap.size,0,0)) (s.mnew o) (w.alloc ob)/\Ext σ (sgPut σ s.n (w.heap.size,0,0))/\Fresh base (sgPut σ s.n (w.heap.size,0,0)) (s.mnew o):=by
 have hx:Ext σ (sgPut σ s.n (w.heap.size,0,0)):=Zh2 hf.nx
 have low:∀ {b:Nat} {x:Obj},w.heap[b]?=some x->b≠w.heap.size:=λ{b x} hb he=>by
  rw[Array.getElem?_eq_none (by omega)] at hb;cases hb
 refine⟨⟨λq e cs hq=>?_,λq c x y r r' hq hc hne h1 h2=>?_,λq x hq=>?_,λq c x y r r' hq hc hne h1 h2=>?_,h.keepG λc o _ hco=>Zbx c o (low hco) hco⟩,hx,hf.next _ rfl rfl⟩
 ·replace hq:s.blk q=some (e,cs):=hq;obtain⟨rb',off',k',pre',vs',sp',post',g⟩:=h.own q e cs hq;exact⟨rb',off',k',pre',vs',sp',post',(g.keep λo ho=>Zbx _ _ (low ho) ho).ext hx⟩
 ·replace hq:s.blk q=some x:=hq;replace hc:s.blk c=some y:=hc;exact (h.ext hx).apart q c x y r r' hq hc hne h1 h2
 ·rcases Zhq hq with⟨rfl,rfl⟩|⟨hne,h2⟩
  ·exact⟨w.heap.size,Za8 _ _ _,hF.top,(hn _ (Ziu ob)).ext hx⟩
  ·obtain⟨rb',h1,h3,h4⟩:=h.mown q x h2;exact⟨rb',hx _ _ h1,h3,(h4.keep λo ho=>Zbx _ _ (low ho) ho).ext hx⟩
 ·have old:∀ q x r,s.mo q=some x->sgPut σ s.n (w.heap.size,0,0) q=some r->q≠s.n->σ q=some r:=λq x r _ h1 hne=>by rw[Zc4 hne] at h1;exact h1
  rcases Zhq hq with⟨rfl,h3⟩|⟨hn1,h3⟩ <;> rcases Zhq hc with⟨rfl,h4⟩|⟨hn2,h4⟩
  ·exact absurd rfl hne
  ·rw[Za8] at h1;cases h1
   exact λe=>by have:=h.mbelow h4 (old c y r' h4 h2 hn2);omega
  ·rw[Za8] at h2;cases h2
   exact λe=>by have:=h.mbelow h3 (old q x r h3 h1 hn1);omega
  ·exact h.mapart q c x y r r' h3 h4 hne (old q x r h3 h1 hn1) (old c y r' h4 h2 hn2)
def oth (w:World) (rb:Nat):HProp:=λh=>∀ c o,c≠rb->w.heap[c]?=some o->h c=some o
theorem Fram.upd {w0:World}{rb:Nat}(hF:Fram base w0 w) (hS:Same w w') (hb:¬ base.pr rb) (ho:∀ c o,c≠rb->w.heap[c]?=some o->w'.heap[c]?=some o):Fram base w0 w':=by
 refine⟨hF.same.trans hS,λc hc=>Nat.lt_of_lt_of_le (hF.low c hc) hS.size,λc hc=>?_⟩;have h1:c < w.heap.size:=hF.low c hc;rw[<-hF.old c hc];have h2:w.heap[c]?=some w.heap[c]:=Array.getElem?_eq_getElem h1;rw[h2];exact ho c _ (λe=>hb (e▸hc)) h2
theorem Fram.drew {w0:World}(hF:Fram base w0 w):Fram base w0 w.drew:=⟨hF.same.trans (.drew _),hF.low,hF.old⟩
theorem Mem.drew (h:Mem P base σ s w):Mem P base σ s w.drew:=
 ⟨λb e cs hb=>let ⟨rb,off,k,pre,vs,sp,post,g⟩:=h.own b e cs hb;⟨rb,off,k,pre,vs,sp,post,g.keep λ_ ho=>ho⟩,h.apart,λb o hb=>let ⟨rb,h1,h2,h3⟩:=h.mown b o hb;⟨rb,h1,h2,h3.keep λ_ ho=>ho⟩,h.mapart,h.glb⟩
def ofV:Value->Option X
 |.bool b=>some (.b b)
 |.int k n=>some (.i k n)
 |.string s=>some (.s (s.data.toList.map UInt8.toNat))
 |.pointer none=>some (.p none)
 |.slice none n c=>some (.l none n c)
 |.nilIface=>some .ni
 |.nilFunc=>some .nf
 |.map none=>some (.m none)
 |_=>none
theorem Zl8 (s:ByteArray):str (s.data.toList.map UInt8.toNat)=s:=by
 apply Zco;simp only[str,List.map_map];rw[show (UInt8.ofNat ∘ UInt8.toNat)=id by funext x;simp,List.map_id]
theorem Zew {v:Value}{x:X}(h:ofV v=some x):vl σ x=some v:=by
 cases v with
 |bool b=>simp only[ofV,Option.some.injEq] at h;subst h;rfl
 |int k n=>simp only[ofV,Option.some.injEq] at h;subst h;rfl
 |string s=>simp only[ofV,Option.some.injEq] at h;subst h;simp only[vl,Zl8]
 |pointer a=>
  cases a with
  |none=>simp only[ofV,Option.some.injEq] at h;subst h;rfl
  |some a=>cases h
 |slice a n c=>
  cases a with
  |none=>simp only[ofV,Option.some.injEq] at h;subst h;rfl
  |some a=>cases h
 |nilIface=>simp only[ofV,Option.some.injEq] at h;subst h;rfl
 |nilFunc=>simp only[ofV,Option.some.injEq] at h;subst h;rfl
 |map a=>
  cases a with
  |none=>simp only[ofV,Option.some.injEq] at h;subst h;rfl
  |some a=>cases h
 |_=>cases h
def ofVs:List Value->Option (List X)
 |[]=>some []
 |v::r=>match ofV v,ofVs r with
  |some x,some xs=>some (x::xs)
  |_,_=>none
theorem Zg2:∀ {vs:List Value}{xs:List X},ofVs vs=some xs->vls σ xs=some vs
 |[],xs,h=>by simp only[ofVs,Option.some.injEq] at h;subst h;rfl
 |v::r,xs,h=>by
  simp only[ofVs] at h
  cases hx:ofV v with
  |none=>rw[hx] at h;cases h
  |some x=>
   cases hr:ofVs r with
   |none=>rw[hx,hr] at h;cases h
   |some ys=>
    rw[hx,hr] at h;obtain rfl:=Option.some.inj h;exact Zas (Zew hx) (Zg2 hr)
def eqN:List Nat->List Nat->Bool
 |[],[]=>true
 |x::a,y::b=>match Nat.beq (x%256) (y%256) with
  |true=>eqN a b
  |false=>false
 |_,_=>false
theorem Zbn:∀ (a b:List Nat),eqN a b=decide (str a=str b)
 |[],[]=>by simp[eqN]
 |[],y::b=>by
  have:¬ str []=str (y::b):=by intro h;have:=congrArg ByteArray.size h;simp[str,ByteArray.size] at this
  simp[eqN,this]
 |x::a,[]=>by
  have:¬ str (x::a)=str []:=by intro h;have:=congrArg ByteArray.size h;simp[str,ByteArray.size] at this
  simp[eqN,this]
 |x::a,y::b=>by
  have h1:str (x::a)=str (y::b)↔x%256=y%256/\str a=str b:=by
   constructor
   ·intro h;have:=congrArg (λs:ByteArray=>s.data.toList) h;simp only[str,hR_,List.cons.injEq] at this;refine⟨?_,Zco (by simpa [str] using this.2)⟩;have:=congrArg UInt8.toNat this.1;simpa using this
   ·rintro⟨h1,h2⟩;have h3:=congrArg (λs:ByteArray=>s.data.toList) h2;apply Zco;simp only[str,hR_] at h3 ⊢;rw[h3]
    congr 1
    apply UInt8.toNat_inj.1;simpa using h1
  simp only[eqN]
  cases hb:Nat.beq (x%256) (y%256) with
  |true=>
   have:=Nat.eq_of_beq_eq_true hb;simp only;rw[Zbn a b,decide_eq_decide,h1];simp[this]
  |false=>
   have:=Nat.ne_of_beq_eq_false hb
   symm
   rw[decide_eq_false_iff_not,h1];exact λe=>this e.1
theorem Zog (a b:List Nat):str (a++b)=str a++str b:=by
 apply Zco;simp[str]
theorem Zan (a:List Nat):(str a).size=a.length:=by simp[str,ByteArray.size]
def bpV (op:BinOp) (u v:Value):Option X:=match bp op u v with
 |some r=>ofV r
 |none=>none
theorem Zbm {op:BinOp}{u v:Value}{z:X}(h:bpV op u v=some z):∃ r,bp op u v=some r/\vl σ z=some r:=by
 unfold bpV at h
 cases hr:bp op u v with
 |none=>rw[hr] at h;cases h
 |some r=>rw[hr] at h;exact⟨r,rfl,Zew h⟩
def bpS (op:BinOp) (a b:List Nat):Option X:=match op with
 |.add=>(match Nat.ble (a.length+b.length) 9223372036854775807 with
  |true=>some (.s (a++b))
  |false=>none)
 |.eql=>some (.b (eqN a b))
 |.neq=>some (.b !(eqN a b))
 |op=>bpV op (.string (str a)) (.string (str b))
theorem Zmf {op:BinOp}{a b:List Nat}{z:X}(h:bpS op a b=some z):∃ r,bp op (.string (str a)) (.string (str b))=some r/\vl σ z=some r:=by
 unfold bpS at h;split at h
 ·split at h
  ·rename_i hl;obtain rfl:=Option.some.inj h;have hl2:=Nat.le_of_ble_eq_true hl;refine⟨.string (str a++str b),?_,by simp only[vl,Zog]⟩;simp only[bp];rw[if_neg];rw[Zan,Zan];show ¬ _ > (9223372036854775807:Int);omega
  ·cases h
 ·obtain rfl:=Option.some.inj h;exact⟨_,rfl,by simp only[vl,Zbn,Ze3]⟩
 ·obtain rfl:=Option.some.inj h;exact⟨_,rfl,by simp only[vl,Zbn,Ze3]⟩
 ·exact Zbm h
def bp64 (op:BinOp) (m n:Nat):Option X:=match op with
 |.add=>@Bool.rec (λ_=>Option X) (bpV .add (.int .i64 (.ofNat m)) (.int .i64 (.ofNat n))) (some (.i .i64 (.ofNat (Nat.add m n)))) (Nat.blt (Nat.add m n) 9223372036854775808)
 |.sub=>@Bool.rec (λ_=>Option X) (bpV .sub (.int .i64 (.ofNat m)) (.int .i64 (.ofNat n))) (@Bool.rec (λ_=>Option X) (bpV .sub (.int .i64 (.ofNat m)) (.int .i64 (.ofNat n))) (some (.i .i64 (.ofNat (Nat.sub m n)))) (Nat.blt m 9223372036854775808)) (Nat.ble n m)
 |.mul=>@Bool.rec (λ_=>Option X) (bpV .mul (.int .i64 (.ofNat m)) (.int .i64 (.ofNat n))) (some (.i .i64 (.ofNat (Nat.mul m n)))) (Nat.blt (Nat.mul m n) 9223372036854775808)
 |.lss=>some (.b (Nat.blt m n))
 |.leq=>some (.b (Nat.ble m n))
 |.gtr=>some (.b (Nat.blt n m))
 |.geq=>some (.b (Nat.ble n m))
 |.eql=>some (.b (Nat.beq m n))
 |.neq=>some (.b (Bool.not (Nat.beq m n)))
 |op=>bpV op (.int .i64 (.ofNat m)) (.int .i64 (.ofNat n))
theorem Zdr {α:Type}(a b:α) (c:Bool):@Bool.rec (λ_=>α) a b c=if c=true then b else a:=by cases c <;> rfl
theorem Zl1 {op:BinOp}{m n:Nat}{z:X}(h:bp64 op m n=some z):∃ r,bp op (.int .i64 (m:Int)) (.int .i64 (n:Int))=some r/\vl σ z=some r:=by
 have w:∀ k:Int,0<=k->k < 9223372036854775808->IntKind.i64.wrap k=k:=λk h1 h2=>wrap64 (by omega) (by omega);unfold bp64 at h;split at h
 ·rw[Zdr] at h;split at h
  ·rename_i hb;have hb:=Nat.le_of_ble_eq_true hb;obtain rfl:=Option.some.inj h;refine⟨_,rfl,?_⟩;simp only[vl];rw[w _ (by omega) (by have:Nat.add m n=m+n:=rfl;omega)];rfl
  ·exact Zbm h
 ·rw[Zdr] at h;split at h
  ·rename_i hb;rw[Zdr] at h;split at h
   ·rename_i hb2;have hb:=Nat.le_of_ble_eq_true hb;have hb2:=Nat.le_of_ble_eq_true hb2;obtain rfl:=Option.some.inj h;refine⟨_,rfl,?_⟩;simp only[vl];rw[w _ (by omega) (by omega)]
    congr 2
    show ((m - n:Nat):Int)=(m:Int) - (n:Int);omega
   ·exact Zbm h
  ·exact Zbm h
 ·rw[Zdr] at h;split at h
  ·rename_i hb;have hb:=Nat.le_of_ble_eq_true hb;obtain rfl:=Option.some.inj h;refine⟨_,rfl,?_⟩;simp only[vl]
   have e:(m:Int)*(n:Int)=((m*n:Nat):Int):=by simp
   have e2:Nat.mul m n=m*n:=rfl;rw[e,w _ (by omega) (by omega)];rfl
  ·exact Zbm h
 ·obtain rfl:=Option.some.inj h;refine⟨_,rfl,?_⟩;simp only[vl]
  congr 2
  rw[Bool.eq_iff_iff,decide_eq_true_iff];exact⟨λh=>by have:=Nat.le_of_ble_eq_true h;show (m:Int) < n;omega,λh=>Nat.ble_eq_true_of_le (by have:(m:Int) < n:=h;omega)⟩
 ·obtain rfl:=Option.some.inj h;refine⟨_,rfl,?_⟩;simp only[vl]
  congr 2
  rw[Bool.eq_iff_iff,decide_eq_true_iff];exact⟨λh=>by have:=Nat.le_of_ble_eq_true h;show (m:Int)<=n;omega,λh=>Nat.ble_eq_true_of_le (by have:(m:Int)<=n:=h;omega)⟩
 ·obtain rfl:=Option.some.inj h;refine⟨_,rfl,?_⟩;simp only[vl]
  congr 2
  rw[Bool.eq_iff_iff,decide_eq_true_iff];exact⟨λh=>by have:=Nat.le_of_ble_eq_true h;show (n:Int) < m;omega,λh=>Nat.ble_eq_true_of_le (by have:(n:Int) < m:=h;omega)⟩
 ·obtain rfl:=Option.some.inj h;refine⟨_,rfl,?_⟩;simp only[vl]
  congr 2
  rw[Bool.eq_iff_iff,decide_eq_true_iff];exact⟨λh=>by have:=Nat.le_of_ble_eq_true h;show (n:Int)<=m;omega,λh=>Nat.ble_eq_true_of_le (by have:(n:Int)<=m:=h;omega)⟩
 ·obtain rfl:=Option.some.inj h;refine⟨_,rfl,?_⟩;simp only[vl]
  congr 2
  rw[Bool.eq_iff_iff,beq_iff_eq]
  constructor
  ·intro h;rw[Nat.eq_of_beq_eq_true h]
  ·intro h
   have:m=n:=by omega
   subst this;exact Nat.beq_refl _
 ·obtain rfl:=Option.some.inj h;refine⟨_,rfl,?_⟩;simp only[vl]
  congr 2
  have:Nat.beq m n=((m:Int)==(n:Int)):=by
   rw[Bool.eq_iff_iff,beq_iff_eq]
   constructor
   ·intro h;rw[Nat.eq_of_beq_eq_true h]
   ·intro h
    have:m=n:=by omega
    subst this;exact Nat.beq_refl _
  rw[this];rfl
 ·exact Zbm h
def bpI (op:BinOp) (k:IntKind) (a:Int) (k':IntKind) (b:Int):Option X:=match k,k',a,b with
 |.i64,.i64,.ofNat m,.ofNat n=>bp64 op m n
 |k,k',a,b=>bpV op (.int k a) (.int k' b)
theorem Zmg {op:BinOp}{k k':IntKind}{a b:Int}{z:X}(h:bpI op k a k' b=some z):∃ r,bp op (.int k a) (.int k' b)=some r/\vl σ z=some r:=by
 unfold bpI at h;split at h
 ·exact Zl1 h
 ·exact Zbm h
def bpX (op:BinOp) (x y:X):Option X:=match x,y with
 |.i k a,.i k' b=>bpI op k a k' b
 |.s a,.s b=>bpS op a b
 |_,_=>none
theorem Zmo {op:BinOp}{x y z:X}{u v:Value}(h:bpX op x y=some z) (hx:vl σ x=some u) (hy:vl σ y=some v):∃ r,bp op u v=some r/\vl σ z=some r:=by
 unfold bpX at h;split at h
 ·simp only[vl,Option.some.injEq] at hx hy;subst hx;subst hy;exact Zmg h
 ·simp only[vl,Option.some.injEq] at hx hy;subst hx;subst hy;exact Zmf h
 ·cases h
def evX (ρ:T X):Operand->Option X
 |.tmp t=>ρ.get t t
 |.const v=>ofV v
 |.func f=>some (.f (.func f) [] [])
 |_=>none
def EnvR (σ:Sg) (ρ:T X) (r:Env):Prop:=∀ t x,ρ.get t t=some x->vl σ x=some (r.get t)
theorem Za0 {ρ:T X}{r:Env}(h:EnvR σ ρ r){o:Operand}{x:X}(hx:evX ρ o=some x):vl σ x=some (r.ev o):=by
 cases o with
 |tmp t=>exact h t x hx
 |const v=>exact Zew hx
 |global g=>cases hx
 |func f=>obtain rfl:=Option.some.inj hx;rfl
def isAg (P:Program) (t:TypeId):Option Bool:=match P.underlying t with
 |some (.struct _)|some (.array _ _)=>some true
 |some _=>some false
 |none=>none
def ldX (s:St) (b o:Nat):Option X:=match s.blk b with
 |some c=>c.2[o]?
 |none=>none
def ldAX (s:St) (b o n:Nat):Option X:=match s.blk b with
 |some c=>match Nat.beq ((c.2.drop o).take n).length n with
  |true=>some (.g ((c.2.drop o).take n))
  |false=>none
 |none=>none
theorem Own.cell {b e:Nat}{cs:List X}{rb off k:Nat}{pre vs sp post:List Value}(h:Own P base σ w b e cs rb off k pre vs sp post){o:Nat}(ho:o < vs.length):w.cell? ⟨rb,off+o,none⟩=vs[o]?:=by
 obtain⟨fz,hh,_⟩:=h.heap
 have:w.cell? ⟨rb,off+o,none⟩=(pre++vs++sp++post)[off+o]?:=by simp[World.cell?,hh]
 have hp:=h.pre_;rw[this,gI,gI,gT (by omega),gM (by omega)]
 congr 1
 omega
theorem Own.any {b e:Nat}{cs:List X}{rb off k:Nat}{pre vs sp post:List Value}(h:Own P base σ w b e cs rb off k pre vs sp post) (o:Nat):w.cell? ⟨rb,o,none⟩=(pre++vs++sp++post)[o]?:=by
 obtain⟨fz,hh,_⟩:=h.heap;simp[World.cell?,hh]
theorem Own.nofz {b e:Nat}{cs:List X}{rb off k:Nat}{pre vs sp post:List Value}(h:Own P base σ w b e cs rb off k pre vs sp post){o:Nat}(ho:o < (pre++vs++sp++post).length):w.frozen? ⟨rb,o,none⟩=false:=by
 obtain⟨fz,hh,hz⟩:=h.heap;have:=hz o ho;obtain⟨lo,hi⟩:=fz;simp only[World.frozen?,hh];simp only at this;rw[Bool.and_eq_false_iff,decide_eq_false_iff_not,decide_eq_false_iff_not];omega
theorem Zmt (h:Mem P base σ s w){b o:Nat}{x:X}(hx:ldX s b o=some x):∃ r v,σ b=some r/\vl σ x=some v/\w.cell? ⟨r.1,r.2.1+o,none⟩=some v:=by
 unfold ldX at hx
 cases hb:s.blk b with
 |none=>rw[hb] at hx;cases hx
 |some c=>
  rw[hb] at hx;obtain⟨e,cs⟩:=c;obtain⟨rb,off,k,pre,vs,sp,post,g⟩:=h.own b e cs hb;obtain⟨v,g1,g2⟩:=Zc9 g.val hx;exact⟨_,v,g.sg_,g2,by rw[g.cell (gH.1 g1).1,g1]⟩
theorem Zlq (h:Mem P base σ s w){b o n:Nat}{x:X}(hx:ldAX s b o n=some x):∃ (r:Nat × Nat × Nat) (vs:List Value),σ b=some r/\vl σ x=some (.agg vs.toArray)/\vs.length=n/\∀ i v,vs[i]?=some v->w.cell? ((⟨r.1,r.2.1+o,none⟩:Addr).add i)=some v:=by
 unfold ldAX at hx
 cases hb:s.blk b with
 |none=>rw[hb] at hx;cases hx
 |some c=>
  rw[hb] at hx;obtain⟨e,cs⟩:=c;simp only at hx
  cases hl:Nat.beq ((cs.drop o).take n).length n with
  |false=>rw[hl] at hx;cases hx
  |true=>
   rw[hl] at hx;obtain rfl:=Option.some.inj hx;obtain⟨rb,off,k,pre,vs,sp,post,g⟩:=h.own b e cs hb;have h3:=Zah n (Zam o g.val);have h5:=Nat.eq_of_beq_eq_true hl;rw[Zac h3] at h5;refine⟨_,_,g.sg_,by simp only[vl,h3],h5,λi v hi=>?_⟩;rw[add_off];have hi2:=hi;rw[hI_ (by have:=(gH.1 hi).1;omega),hH_] at hi2;rw[show off+o+i=off+(o+i) by omega,g.cell (gH.1 hi2).1,hi2]
end
end Go.Ev
/- A verified evaluator for closed calls, third part: operations that leave the world as it is. No program in sight. -/
namespace Go.Ev
open Go Go.Vc
noncomputable section
variable {P:Program}{base:Bs}{σ:Sg}{s:St}{w w':World}
def cellsX:X->List X
 |.g xs=>xs
 |x=>[x]
theorem Zea {x:X}{v:Value}(h:vl σ x=some v):vls σ (cellsX x)=some v.cells.toList:=by
 have one:∀ (x:X),cellsX x=[x]->v.cells=#[v]->vl σ x=some v->vls σ (cellsX x)=some v.cells.toList:=by
  intro x h1 h2 h3;rw[h1,h2];exact Zas h3 rfl
 cases x with
 |g xs=>
  simp only[vl] at h
  cases hs:vls σ xs with
  |none=>rw[hs] at h;cases h
  |some us=>
   rw[hs] at h;obtain rfl:=Option.some.inj h;simpa [cellsX,Value.cells] using hs
 |b c=>exact one _ rfl (by simp only[vl,Option.some.injEq] at h;subst h;rfl) h
 |i k n=>exact one _ rfl (by simp only[vl,Option.some.injEq] at h;subst h;rfl) h
 |s l=>exact one _ rfl (by simp only[vl,Option.some.injEq] at h;subst h;rfl) h
 |ni=>exact one _ rfl (by simp only[vl,Option.some.injEq] at h;subst h;rfl) h
 |nf=>exact one _ rfl (by simp only[vl,Option.some.injEq] at h;subst h;rfl) h
 |p a=>
  refine one _ rfl ?_ h
  cases a with
  |none=>simp only[vl,Option.some.injEq] at h;subst h;rfl
  |some a=>
   simp only[vl] at h
   cases hs:σ a.1 with
   |none=>rw[hs] at h;cases h
   |some r=>rw[hs] at h;obtain rfl:=Option.some.inj h;rfl
 |l a n c=>
  refine one _ rfl ?_ h
  cases a with
  |none=>simp only[vl,Option.some.injEq] at h;subst h;rfl
  |some a=>
   simp only[vl] at h
   cases hs:σ a.1 with
   |none=>rw[hs] at h;cases h
   |some r=>rw[hs] at h;obtain rfl:=Option.some.inj h;rfl
 |fc t x=>
  refine one _ rfl ?_ h;simp only[vl] at h
  cases hs:vl σ x with
  |none=>rw[hs] at h;cases h
  |some r=>rw[hs] at h;obtain rfl:=Option.some.inj h;rfl
 |t xs=>
  refine one _ rfl ?_ h;simp only[vl] at h
  cases hs:vls σ xs with
  |none=>rw[hs] at h;cases h
  |some r=>rw[hs] at h;obtain rfl:=Option.some.inj h;rfl
 |f fn a c=>
  refine one _ rfl ?_ h;simp only[vl] at h
  cases hs:vls σ a with
  |none=>rw[hs] at h;cases h
  |some r=>
   cases hc:vls σ c with
   |none=>rw[hs,hc] at h;cases h
   |some r'=>rw[hs,hc] at h;obtain rfl:=Option.some.inj h;rfl
 |m a=>
  refine one _ rfl ?_ h
  cases a with
  |none=>simp only[vl,Option.some.injEq] at h;subst h;rfl
  |some a=>
   simp only[vl] at h
   cases hs:σ a with
   |none=>rw[hs] at h;cases h
   |some r=>rw[hs] at h;obtain rfl:=Option.some.inj h;rfl
 |e0 b o q=>
  refine one _ rfl ?_ h;simp only[vl] at h
  cases hs:σ b with
  |none=>rw[hs] at h;cases h
  |some r=>rw[hs] at h;obtain rfl:=Option.some.inj h;rfl
def setLX:List X->Nat->List X->List X
 |cs,_,[]=>cs
 |cs,o,x::r=>setLX (cs.set o x) (o+1) r
theorem Zd4:∀ {xs cs:List X}{us vs:List Value}(o:Nat),vls σ cs=some vs->vls σ xs=some us->vls σ (setLX cs o xs)=some (setL vs o us)
 |[],cs,us,vs,o,h,k=>by simp only[vls,Option.some.injEq] at k;subst k;exact h
 |x::r,cs,us,vs,o,h,k=>by
  obtain⟨v,us',h1,h2,rfl⟩:=Za1 k;exact Zd4 (o+1) (Zl5 o h h1) h2
theorem Zgj:∀ (us vs:List Value) (off j:Nat),(us.zipIdx j).foldl (λ(cs:Array Value) x=>cs.setIfInBounds (off+x.2) x.1) vs.toArray=(setL vs (off+j) us).toArray
 |[],vs,off,j=>rfl
 |u::us,vs,off,j=>by
  rw[List.zipIdx_cons,foldl_cons,List.setIfInBounds_toArray,Zgj us _ off (j+1),setL];rfl
def xfill (place:Nat->Option (Nat × Nat)):List X->List (Nat × X)->Option (List X)
 |cells,[]=>some cells
 |cells,(i,x)::rest=>match place i with
  |none=>none
  |some q=>match Nat.beq (cellsX x).length q.2,Nat.ble (q.1+(cellsX x).length) cells.length with
   |true,true=>xfill place (setLX cells q.1 (cellsX x)) rest
   |_,_=>none
def pvl (σ:Sg):List (Nat × X)->Option (List (Nat × Value))
 |[]=>some []
 |(i,x)::r=>match vl σ x,pvl σ r with
  |some v,some vs=>some ((i,v)::vs)
  |_,_=>none
theorem Zc6 {place:Nat->Option (Nat × Nat)}:∀ {ps:List (Nat × X)}{cs cs':List X}{vs:List Value}{qs:List (Nat × Value)},xfill place cs ps=some cs'->vls σ cs=some vs->pvl σ ps=some qs->
  ∃ vs',Instr.fill place vs.toArray qs=some vs'.toArray/\vls σ cs'=some vs'
 |[],cs,cs',vs,qs,h,h1,h2=>by
  simp only[pvl,Option.some.injEq] at h2;subst h2;obtain rfl:=Option.some.inj h;exact⟨vs,rfl,h1⟩
 |(i,x)::r,cs,cs',vs,qs,h,h1,h2=>by
  simp only[pvl] at h2
  cases hx:vl σ x with
  |none=>rw[hx] at h2;cases h2
  |some v=>
   cases hr:pvl σ r with
   |none=>rw[hx,hr] at h2;cases h2
   |some vs2=>
    rw[hx,hr] at h2;obtain rfl:=Option.some.inj h2;simp only[xfill] at h
    cases hp:place i with
    |none=>rw[hp] at h;cases h
    |some q=>
     obtain⟨off,size⟩:=q;rw[hp] at h;simp only at h;have hcx:=Zea hx;have hl1:=Zac hcx;have hl2:=Zac h1
     cases hb:Nat.beq (cellsX x).length size with
     |false=>rw[hb] at h;cases h
     |true=>
      cases hb2:Nat.ble (off+(cellsX x).length) cs.length with
      |false=>rw[hb,hb2] at h;cases h
      |true=>
       rw[hb,hb2] at h;have e1:=Nat.eq_of_beq_eq_true hb;have e2:=Nat.le_of_ble_eq_true hb2;obtain⟨vs',g1,g2⟩:=Zc6 h (Zd4 off h1 hcx) hr;refine⟨vs',?_,g2⟩;rw[Instr.fill];simp only[hp];rw[if_neg]
       ·rw[<-g1]
        congr 1
        have hz:v.cells.zipIdx=(v.cells.toList.zipIdx 0).toArray:=by apply Array.ext';simp
        have:=Zgj v.cells.toList vs off 0;rw[hz,List.foldl_toArray];simpa using this
       ·have hsz:v.cells.toList.length=v.cells.size:=Array.length_toList;simp;omega
def xparts (ρ:T X):List (Nat × Operand)->Option (List (Nat × X))
 |[]=>some []
 |(i,o)::r=>match evX ρ o,xparts ρ r with
  |some x,some xs=>some ((i,x)::xs)
  |_,_=>none
theorem Zbu {ρ:T X}{r:Env}(hE:EnvR σ ρ r):∀ {ps:List (Nat × Operand)}{xs:List (Nat × X)},xparts ρ ps=some xs->pvl σ xs=some (pmap r.ev ps)
 |[],xs,h=>by simp only[xparts,Option.some.injEq] at h;subst h;rfl
 |(i,o)::q,xs,h=>by
  simp only[xparts] at h
  cases hx:evX ρ o with
  |none=>rw[hx] at h;cases h
  |some x=>
   cases hr:xparts ρ q with
   |none=>rw[hx,hr] at h;cases h
   |some ys=>
    rw[hx,hr] at h;obtain rfl:=Option.some.inj h;simp only[pvl,Za0 hE hx,Zbu hE hr,pmap]
def xargs (ρ:T X):List Operand->Option (List X)
 |[]=>some []
 |o::r=>match evX ρ o,xargs ρ r with
  |some x,some xs=>some (x::xs)
  |_,_=>none
theorem Za5 {ρ:T X}{r:Env}(hE:EnvR σ ρ r):∀ {ps:List Operand}{xs:List X},xargs ρ ps=some xs->vls σ xs=some (lmap r.ev ps)
 |[],xs,h=>by simp only[xargs,Option.some.injEq] at h;subst h;rfl
 |o::q,xs,h=>by
  simp only[xargs] at h
  cases hx:evX ρ o with
  |none=>rw[hx] at h;cases h
  |some x=>
   cases hr:xargs ρ q with
   |none=>rw[hx,hr] at h;cases h
   |some ys=>
    rw[hx,hr] at h;obtain rfl:=Option.some.inj h;exact Zas (Za0 hE hx) (Za5 hE hr)
def zeroX (P:Program) (t:TypeId):Option (List X):=match P.info? t with
 |some i=>match i.zero with
  |some z=>ofVs z.cells.toList
  |none=>none
 |none=>none
def bdX (P:Program) (t:TypeId) (ps:List (Nat × X)):Option X:=match P.underlying t with
 |some (.struct fields)=>match zeroX P t,fields.toList.mapM (λf=>(P.info? f.type).map λi=>(f.offset,i.size)) with
  |some z,some places=>match xfill (places.toArray[·]?) z ps with
   |some cs=>some (.g cs)
   |none=>none
  |_,_=>none
 |some (.array _ e)=>match zeroX P t,P.info? e with
  |some z,some ie=>match xfill (λi=>some (i*ie.size,ie.size)) z ps with
   |some cs=>some (.g cs)
   |none=>none
  |_,_=>none
 |_=>none
theorem Zb5 {t:TypeId}{xs:List X}(h:zeroX P t=some xs):∃ i z,P.info? t=some i/\i.zero=some z/\vls σ xs=some z.cells.toList:=by
 unfold zeroX at h
 cases hi:P.info? t with
 |none=>rw[hi] at h;cases h
 |some i=>
  rw[hi] at h;simp only at h
  cases hz:i.zero with
  |none=>rw[hz] at h;cases h
  |some z=>rw[hz] at h;exact⟨i,z,rfl,hz,Zg2 h⟩
theorem Zly {t:TypeId}{ps:List (Nat × X)}{x:X}{qs:Array (Nat × Value)}(h:bdX P t ps=some x) (hp:pvl σ ps=some qs.toList):∃ v,vl σ x=some v/\(Instr.build t qs).run P w=.ok v w:=by
 unfold bdX at h;split at h
 ·rename_i fields hu;split at h
  ·rename_i z places hz hpl;split at h
   ·rename_i cs hf;obtain rfl:=Option.some.inj h;obtain⟨i,zv,h1,h2,h3⟩:=Zb5 (σ:=σ) hz;obtain⟨vs',g1,g2⟩:=Zc6 hf h3 hp;refine⟨.agg vs'.toArray,by simp only[vl,g2],run_build w t qs _ ?_⟩;unfold Program.built;rw[h1,hu];simp only[h2,hpl];simpa using g1
   ·cases h
  ·cases h
 ·rename_i n e hu;split at h
  ·rename_i z ie hz hie;split at h
   ·rename_i cs hf;obtain rfl:=Option.some.inj h;obtain⟨i,zv,h1,h2,h3⟩:=Zb5 (σ:=σ) hz;obtain⟨vs',g1,g2⟩:=Zc6 hf h3 hp;refine⟨.agg vs'.toArray,by simp only[vl,g2],run_build w t qs _ ?_⟩;unfold Program.built;rw[h1,hu];simp only[h2,hie];simpa using g1
   ·cases h
  ·cases h
 ·cases h
def inX (n:Int) (l:Nat):Option Nat:=match n with
 |.ofNat m=>match Nat.blt m l with
  |true=>some m
  |false=>none
 |_=>none
theorem Zdn {n:Int}{l m:Nat}(h:inX n l=some m):n=(m:Int)/\m < l:=by
 unfold inX at h;split at h
 ·rename_i k;split at h
  ·rename_i hb;obtain rfl:=Option.some.inj h;exact⟨rfl,Nat.le_of_ble_eq_true hb⟩
  ·cases h
 ·cases h
def natX:X->Option Nat
 |.i _ (.ofNat m)=>some m
 |_=>none
theorem Zkz {x:X}{m:Nat}{v:Value}(h:natX x=some m) (hv:vl σ x=some v):∃ k,v=.int k (m:Int):=by
 unfold natX at h;split at h
 ·rename_i k m';obtain rfl:=Option.some.inj h;simp only[vl,Option.some.injEq] at hv;exact⟨k,hv.symm⟩
 ·cases h
def bndX (ρ:T X) (d:Nat):Option Operand->Option Nat
 |none=>some d
 |some o=>match evX ρ o with
  |some x=>natX x
  |none=>none
theorem Zab {ρ:T X}{r:Env}(hE:EnvR σ ρ r){d l:Nat}{o:Option Operand}(h:bndX ρ d o=some l):bnd (o.map r.ev) d l:=by
 cases o with
 |none=>simp only[bndX,Option.some.injEq] at h;exact h.symm
 |some o=>
  simp only[bndX] at h
  cases hx:evX ρ o with
  |none=>rw[hx] at h;cases h
  |some x=>
   rw[hx] at h;obtain⟨k,hk⟩:=Zkz h (Za0 hE hx);exact⟨k,hk⟩
theorem Zok {l:List Nat}{m:Nat}(h:m < l.length):((str l).data.toList.getD m 0).toNat=l.getD m 0%256:=by
 simp only[str];rw[gB,gB,hV_,gA h];simp
theorem Znz {l:List Nat}{a b:Nat}:(str l).extract a b=str ((l.take b).drop a):=by
 apply ByteArray.ext;apply Array.ext';rw[ByteArray.data_extract,Array.toList_extract,extract_eq_take_drop];simp[str,List.drop_take]
def bytesX:List X->Option (List Nat)
 |[]=>some []
 |.i .u8 (.ofNat m)::r=>match bytesX r with
  |some l=>some (m::l)
  |none=>none
 |_=>none
theorem Zc8:∀ {xs:List X}{l:List Nat},bytesX xs=some l->vls σ xs=some ((l.map λ(m:Nat)=>(m:Int)).map (Value.int .u8))
 |[],l,h=>by simp only[bytesX,Option.some.injEq] at h;subst h;rfl
 |x::r,l,h=>by
  unfold bytesX at h;split at h
  ·rename_i heq;cases heq
  ·rename_i m r' heq;cases heq
   cases hr:bytesX r with
   |none=>rw[hr] at h;cases h
   |some l'=>
    rw[hr] at h;obtain rfl:=Option.some.inj h;exact Zas rfl (Zc8 hr)
  ·cases h
theorem Zmj (l:List Nat):∀ (a:List Nat),(l.map λ(m:Nat)=>(m:Int)).foldl (λr n=>r.push (UInt8.ofNat n.toNat)) (str a)=str (a++l):=by
 induction l with
 |nil=>intro a;simp
 |cons c l ih=>
  intro a;rw[hR_,foldl_cons]
  have:(str a).push (UInt8.ofNat (c:Int).toNat)=str (a++[c]):=by
   apply Zco;simp[str,ByteArray.push]
  rw[this,ih,gI];rfl
def strX (s:St):X->Option X
 |.l none _ _=>some (.s [])
 |.l (some a) n _=>match s.blk a.1 with
  |some c=>match Nat.beq ((c.2.drop a.2).take n).length n,bytesX ((c.2.drop a.2).take n) with
   |true,some l=>some (.s l)
   |_,_=>none
  |none=>none
 |_=>none
theorem Zkm (h:Mem P base σ s w){t d e:TypeId}(h1:P.underlying t=some (.slice e)) (h2:P.underlying e=some (.int .u8)) (h3:P.underlying d=some .string){x y:X}{v:Value}(hx:vl σ x=some v) (hy:strX s x=some y) :
  ∃ u,vl σ y=some u/\(convert t d v).run P w=.ok u w:=by
 unfold strX at hy;split at hy
 ·rename_i n c;obtain rfl:=Option.some.inj hy;simp only[vl,Option.some.injEq] at hx;subst hx;refine⟨.string (str []),rfl,?_⟩;rw[run_convert_bytes_string (P:=P) w t d e none _ c h1 h2 h3];rfl
 ·rename_i a n c;simp only[vl] at hx;split at hy
  ·rename_i cb hb;obtain⟨be,cs⟩:=cb;split at hy
   ·rename_i l hl hby
    obtain rfl:=Option.some.inj hy;obtain⟨rb,off,k,pre,vs,sp,post,g⟩:=h.own a.1 be cs hb;rw[g.sg_] at hx;obtain rfl:=Option.some.inj hx;simp only at hl hby ⊢;refine⟨.string (str l),rfl,?_⟩;have hv:=Zah n (Zam a.2 g.val);have hlen:=Nat.eq_of_beq_eq_true hl;rw[Zac hv] at hlen
    have hvb:=Zc8 (σ:=σ) hby
    rw[hv] at hvb;have hvs:=Option.some.inj hvb;rw[run_convert_bytes_string (P:=P) w t d e _ _ _ h1 h2 h3]
    have hload:(loadCells (⟨rb,off+a.2,none⟩:Addr) n).run P w=.ok ((l.map λ(m:Nat)=>(m:Int)).map (Value.int .u8)).toArray w:=by
     have:=Vc.Zax (P:=P) (w:=w) (a:=⟨rb,off+a.2,none⟩) (cs:=((vs.drop a.2).take n).toArray) (λj v hj=>by
      have hj2:((vs.drop a.2).take n)[j]?=some v:=by simpa using hj
      rw[add_off];have hjn:=(gH.1 hj2).1;rw[hI_ (by omega),hH_] at hj2
      rw[show off+a.2+j=off+(a.2+j) by omega,g.cell (gH.1 hj2).1,hj2])
     rw[<-hvs]
     have hsz:((vs.drop a.2).take n).toArray.size=n:=by simpa using hlen
     rw[hsz] at this;exact this
    rw[run_bytesToString (P:=P) w _ n _ _ hload];have:=Zmj l [];rw[show str []=ByteArray.empty from rfl] at this;rw[this];rfl
   ·cases hy
  ·cases hy
 ·cases hy
end
end Go.Ev
/- A verified evaluator for closed calls: equality, maps, methods. No program in sight. -/
namespace Go.Ev
open Go Go.Vc
noncomputable section
variable {P:Program}{base:Bs}{σ:Sg}{s:St}{w w':World}
def partX (P:Program) (e:TypeId) (xs:List X) (off:Nat):Option X:=match P.underlying e with
 |some (.struct _)|some (.array _ _)=>(match P.info? e with
  |some i=>some (.g ((xs.drop off).take i.size))
  |none=>none)
 |some _=>xs[off]?
 |none=>none
theorem Zo1 (vs:List Value) (a n:Nat):vs.toArray.extract a (a+n)=((vs.drop a).take n).toArray:=by
 apply Array.ext';rw[Array.toList_extract,extract_eq_take_drop];simp
theorem Zdq {e:TypeId}{xs:List X}{off:Nat}{x:X}{vs:List Value}(h:partX P e xs off=some x) (hv:vls σ xs=some vs):∃ v,vl σ x=some v/\∀ w,(part e vs.toArray off).run P w=.ok v w:=by
 unfold partX at h
 have big:∀ d,P.underlying e=some d->((∃ fs,d=.struct fs)\/∃ n e,d=.array n e)->(match P.info? e with
  |some i=>some (X.g ((xs.drop off).take i.size))
  |none=>none)=some x->∃ v,vl σ x=some v/\∀ w,(part e vs.toArray off).run P w=.ok v w:=by
  intro d hu hd h
  cases hi:P.info? e with
  |none=>rw[hi] at h;cases h
  |some i=>
   rw[hi] at h;obtain rfl:=Option.some.inj h;refine⟨.agg ((vs.drop off).take i.size).toArray,?_,λw=>?_⟩
   ·simp only[vl,Zah i.size (Zam off hv)]
   ·simp only[part,Sem.run_bind,Zai hu hd,Result.andThen_ok,if_true,Zag hi,Sem.run_pure,Zo1]
 cases hu:P.underlying e with
 |none=>rw[hu] at h;cases h
 |some d=>
  rw[hu] at h
  cases d with
  |struct fs=>exact big _ hu (.inl ⟨_,rfl⟩) h
  |array n a=>exact big _ hu (.inr ⟨_,_,rfl⟩) h
  |_=>
   obtain⟨v,g1,g2⟩:=Zc9 hv h;refine⟨v,g2,λw=>?_⟩
   have g1':vs.toArray[off]?=some v:=by simpa using g1
   simp only[part,Sem.run_bind,Zc5 hu (λfs h=>by cases h) (λn e h=>by cases h),Result.andThen_ok,Bool.false_eq_true,if_false,g1',Sem.run_pure]
def eq1:TypeDesc->X->X->Option Bool
 |.bool,.b a,.b b=>some (a==b)
 |.int _,.i k a,.i k' b=>(match decide (k=k') with
  |true=>some (a==b)
  |false=>none)
 |.string,.s a,.s b=>some (eqN a b)
 |.pointer _,.p none,.p b=>some b.isNone
 |.pointer _,.p (some _),.p none=>some false
 |.interface _,.ni,.ni=>some true
 |.interface _,.ni,.fc _ _=>some false
 |.interface _,.fc _ _,.ni=>some false
 |.slice _,.l none _ _,.l b _ _=>some b.isNone
 |.slice _,.l (some _) _ _,.l none _ _=>some false
 |.slice _,.e0 _ _ _,.l none _ _=>some false
 |.slice _,.l none _ _,.e0 _ _ _=>some false
 |.map _ _,.m none,.m b=>some b.isNone
 |.map _ _,.m (some _),.m none=>some false
 |.func _ _ _,.nf,.nf=>some true
 |.func _ _ _,.nf,.f _ _ _=>some false
 |.func _ _ _,.f _ _ _,.nf=>some false
 |_,_,_=>none
theorem vl_ps {a:Nat × Nat}{v:Value}(h:vl σ (.p (some a))=some v):∃ q,v=.pointer (some q):=by
 simp only[vl] at h
 cases hs:σ a.1 with
 |none=>rw[hs] at h;cases h
 |some r=>rw[hs] at h;exact⟨_,(Option.some.inj h).symm⟩
theorem vl_ls {a:Nat × Nat}{n c:Nat}{v:Value}(h:vl σ (.l (some a) n c)=some v):∃ q m d,v=.slice (some q) m d:=by
 simp only[vl] at h
 cases hs:σ a.1 with
 |none=>rw[hs] at h;cases h
 |some r=>rw[hs] at h;exact⟨_,_,_,(Option.some.inj h).symm⟩
theorem vl_es {b o q:Nat}{v:Value}(h:vl σ (.e0 b o q)=some v):∃ p m,v=.slice (some p) 0 m:=by
 simp only[vl] at h
 cases hs:σ b with
 |none=>rw[hs] at h;cases h
 |some r=>rw[hs] at h;exact⟨_,_,(Option.some.inj h).symm⟩
theorem vl_ms {a:Nat}{v:Value}(h:vl σ (.m (some a))=some v):∃ q,v=.map (some q):=by
 simp only[vl] at h
 cases hs:σ a with
 |none=>rw[hs] at h;cases h
 |some r=>rw[hs] at h;exact⟨_,(Option.some.inj h).symm⟩
theorem vl_fs {fn:Fn}{a c:List X}{v:Value}(h:vl σ (.f fn a c)=some v):∃ us vs,v=.func fn us.toArray vs.toArray/\vls σ a=some us/\vls σ c=some vs:=by
 simp only[vl] at h
 cases hs:vls σ a with
 |none=>rw[hs] at h;cases h
 |some r=>
  cases hc:vls σ c with
  |none=>rw[hs,hc] at h;cases h
  |some r'=>rw[hs,hc] at h;exact⟨_,_,(Option.some.inj h).symm,rfl,rfl⟩
theorem Zde {t:TypeId}{x:X}{v:Value}(h:vl σ (.fc t x)=some v):∃ u,v=.iface t u/\vl σ x=some u:=by
 simp only[vl] at h
 cases hs:vl σ x with
 |none=>rw[hs] at h;cases h
 |some r=>rw[hs] at h;exact⟨_,(Option.some.inj h).symm,rfl⟩
theorem Zpj {t:TypeId}{d:TypeDesc}{x y:X}{u v:Value}{b:Bool}(hu:P.underlying t=some d) (h:eq1 d x y=some b) (hx:vl σ x=some u) (hy:vl σ y=some v) (D:Nat) (w:World):(Op.equalIn (D+1) t u v).run P w=.ok b w:=by
 unfold eq1 at h;split at h
 ·simp only[vl,Option.some.injEq] at hx hy h;subst hx;subst hy;subst h;exact run_equalIn_bool' w D t _ _ hu
 ·split at h
  ·rename_i hk;have hk:=of_decide_eq_true hk;subst hk;simp only[vl,Option.some.injEq] at hx hy h;subst hx;subst hy;subst h;exact run_equalIn_int w D t _ _ _ _ hu
  ·cases h
 ·simp only[vl,Option.some.injEq] at hx hy h;subst hx;subst hy;subst h;rw[run_equalIn_string w D t _ _ hu,Zbn,Ze3]
 ·rename_i q;simp only[vl,Option.some.injEq] at hx h;subst hx;subst h
  cases q with
  |none=>simp only[vl,Option.some.injEq] at hy;subst hy;simp[Op.equalIn,run_underlying hu]
  |some q=>obtain⟨q',rfl⟩:=vl_ps hy;simp[Op.equalIn,run_underlying hu]
 ·simp only[vl,Option.some.injEq] at hy h;subst hy;subst h;obtain⟨q',rfl⟩:=vl_ps hx;simp[Op.equalIn,run_underlying hu]
 ·simp only[vl,Option.some.injEq] at hx hy h;subst hx;subst hy;subst h;simp[Op.equalIn,run_underlying hu]
 ·simp only[vl,Option.some.injEq] at hx h;subst hx;subst h;obtain⟨q',rfl,_⟩:=Zde hy;simp[Op.equalIn,run_underlying hu]
 ·simp only[vl,Option.some.injEq] at hy h;subst hy;subst h;obtain⟨q',rfl,_⟩:=Zde hx;simp[Op.equalIn,run_underlying hu]
 ·rename_i q _ _;simp only[vl,Option.some.injEq] at hx h;subst hx;subst h
  cases q with
  |none=>simp only[vl,Option.some.injEq] at hy;subst hy;simp[Op.equalIn,run_underlying hu]
  |some q=>obtain⟨q',_,_,rfl⟩:=vl_ls hy;simp[Op.equalIn,run_underlying hu]
 ·simp only[vl,Option.some.injEq] at hy h;subst hy;subst h;obtain⟨q',_,_,rfl⟩:=vl_ls hx;simp[Op.equalIn,run_underlying hu]
 ·simp only[vl,Option.some.injEq] at hy h;subst hy;subst h;obtain⟨q',_,rfl⟩:=vl_es hx;simp[Op.equalIn,run_underlying hu]
 ·simp only[vl,Option.some.injEq] at hx h;subst hx;subst h;obtain⟨q',_,rfl⟩:=vl_es hy;simp[Op.equalIn,run_underlying hu]
 ·rename_i q;simp only[vl,Option.some.injEq] at hx h;subst hx;subst h
  cases q with
  |none=>simp only[vl,Option.some.injEq] at hy;subst hy;simp[Op.equalIn,run_underlying hu]
  |some q=>obtain⟨q',rfl⟩:=vl_ms hy;simp[Op.equalIn,run_underlying hu]
 ·simp only[vl,Option.some.injEq] at hy h;subst hy;subst h;obtain⟨q',rfl⟩:=vl_ms hx;simp[Op.equalIn,run_underlying hu]
 ·simp only[vl,Option.some.injEq] at hx hy h;subst hx;subst hy;subst h;simp[Op.equalIn,run_underlying hu]
 ·simp only[vl,Option.some.injEq] at hx h;subst hx;subst h;obtain⟨_,_,rfl,_⟩:=vl_fs hy;simp[Op.equalIn,run_underlying hu]
 ·simp only[vl,Option.some.injEq] at hy h;subst hy;subst h;obtain⟨_,_,rfl,_⟩:=vl_fs hx;simp[Op.equalIn,run_underlying hu]
 ·cases h
def eqFs (P:Program) (eq:TypeId->X->X->Option Bool) (xs ys:List X):List Field->Option Bool
 |[]=>some true
 | f :: fs => match f.name == "_" with
  |true=>eqFs P eq xs ys fs
  |false=>(match partX P f.type xs f.offset,partX P f.type ys f.offset with
   |some a,some b=>(match eq f.type a b with
    |some true=>eqFs P eq xs ys fs
    |some false=>some false
    |none=>none)
   |_,_=>none)
def eqIs (P:Program) (eq:TypeId->X->X->Option Bool) (e:TypeId) (c:Nat) (xs ys:List X):List Nat->Option Bool
 |[]=>some true
 |i::is=>(match partX P e xs (i*c),partX P e ys (i*c) with
  |some a,some b=>(match eq e a b with
   |some true=>eqIs P eq e c xs ys is
   |some false=>some false
   |none=>none)
  |_,_=>none)
def eqT (P:Program):Nat->TypeId->X->X->Option Bool
 |0,_,_,_=>none
 |d+1,t,x,y=>match P.underlying t with
  |some (.struct fs)=>(match P.stoodInHeld t,x,y with
   |false,.g xs,.g ys=>eqFs P (eqT P d) xs ys fs.toList
   |_,_,_=>none)
  |some (.array n e)=>(match P.info? e,x,y with
   |some i,.g xs,.g ys=>eqIs P (eqT P d) e i.size xs ys (List.range n)
   |_,_,_=>none)
  |some k=>eq1 k x y
  |none=>none
def EqOk (P:Program) (σ:Sg) (D:Nat) (eq:TypeId->X->X->Option Bool):Prop:=∀ t x y u v b,eq t x y=some b->vl σ x=some u->vl σ y=some v->∀ w,(Op.equalIn D t u v).run P w=.ok b w
theorem Zhp {D:Nat}{eq:TypeId->X->X->Option Bool}(he:EqOk P σ D eq){xs ys:List X}{us vs:List Value}(hx:vls σ xs=some us) (hy:vls σ ys=some vs):∀ {fs:List Field}{b:Bool},eqFs P eq xs ys fs=some b->∀ w,(Op.eqFields D us.toArray vs.toArray fs).run P w=.ok b w
 |[],b,h,w=>by obtain rfl:=Option.some.inj h;rfl
 |f::fs,b,h,w=>by
  simp only[eqFs] at h;unfold Op.eqFields
  cases hn : f.name == "_" with
  |true=>
   rw[hn] at h
   have hn' : f.name = "_" := by simpa using hn
   rw[if_neg (by simp[hn'])];exact Zhp he hx hy h w
  |false=>
   rw[hn] at h
   have hn' : f.name ≠ "_" := by simpa using hn
   rw[if_pos hn'];simp only at h;split at h
   ·rename_i a c ha hc;obtain⟨v1,g1,g2⟩:=Zdq ha hx;obtain⟨v2,g3,g4⟩:=Zdq hc hy;split at h
    ·rename_i hb;simp only[Sem.run_bind,g2,g4,Result.andThen_ok,he _ _ _ _ _ _ hb g1 g3,Bool.not_true,Bool.false_eq_true,if_false];exact Zhp he hx hy h w
    ·rename_i hb;obtain rfl:=Option.some.inj h;simp only[Sem.run_bind,g2,g4,Result.andThen_ok,he _ _ _ _ _ _ hb g1 g3,Bool.not_false,if_true,Sem.run_pure]
    ·cases h
   ·cases h
theorem Zk7 {D:Nat}{eq:TypeId->X->X->Option Bool}(he:EqOk P σ D eq){e:TypeId}{xs ys:List X}{us vs:List Value}{c:Nat}(hx:vls σ xs=some us) (hy:vls σ ys=some vs):∀ {is:List Nat}{b:Bool},eqIs P eq e c xs ys is=some b->∀ w,(Op.eqItems D e c us.toArray vs.toArray is).run P w=.ok b w
 |[],b,h,w=>by obtain rfl:=Option.some.inj h;rfl
 |i::is,b,h,w=>by
  simp only[eqIs] at h;unfold Op.eqItems;split at h
  ·rename_i a q ha hc;obtain⟨v1,g1,g2⟩:=Zdq ha hx;obtain⟨v2,g3,g4⟩:=Zdq hc hy;split at h
   ·rename_i hb;simp only[Sem.run_bind,g2,g4,Result.andThen_ok,he _ _ _ _ _ _ hb g1 g3,Bool.not_true,Bool.false_eq_true,if_false];exact Zk7 he hx hy h w
   ·rename_i hb;obtain rfl:=Option.some.inj h;simp only[Sem.run_bind,g2,g4,Result.andThen_ok,he _ _ _ _ _ _ hb g1 g3,Bool.not_false,if_true,Sem.run_pure]
   ·cases h
  ·cases h
theorem Zlo (k:Nat):∀ d,EqOk P σ (d+k) (eqT P d)
 |0=>λt x y u v b h=>by simp only[eqT] at h;cases h
 |d+1=>λt x y u v b h hx hy w=>by
  simp only[eqT] at h
  have hd:d+1+k=d+k+1:=by omega
  rw[hd]
  cases hu:P.underlying t with
  |none=>rw[hu] at h;cases h
  |some q=>
   rw[hu] at h
   cases q with
   |struct fs=>
    simp only at h;split at h
    ·rename_i xs ys hp;simp only[vl] at hx hy
     cases h1:vls σ xs with
     |none=>rw[h1] at hx;cases hx
     |some us=>
      cases h2:vls σ ys with
      |none=>rw[h2] at hy;cases hy
      |some vs=>
       rw[h1] at hx;rw[h2] at hy;obtain rfl:=Option.some.inj hx;obtain rfl:=Option.some.inj hy
       have hf:P.fieldsOf t=fs:=by unfold Program.fieldsOf;rw[hu]
       rw[run_equalIn_struct w (d+k) t _ _ (by rw[hf];exact hu) hp,hf];exact Zhp (Zlo k d) h1 h2 h w
    ·cases h
   |array n e=>
    simp only at h;split at h
    ·rename_i i xs ys hi;simp only[vl] at hx hy
     cases h1:vls σ xs with
     |none=>rw[h1] at hx;cases hx
     |some us=>
      cases h2:vls σ ys with
      |none=>rw[h2] at hy;cases hy
      |some vs=>
       rw[h1] at hx;rw[h2] at hy;obtain rfl:=Option.some.inj hx;obtain rfl:=Option.some.inj hy;rw[run_equalIn_array w (d+k) _ _ hu hi,show P.cellsOf e=i.size by unfold Program.cellsOf;rw[hi];rfl];exact Zk7 (Zlo k d) h1 h2 h w
    ·cases h
   |_=>exact Zpj hu h hx hy (d+k) w
def isC:Operand->Bool
 |.const _=>true
 |_=>false
def gdE (P:Program) (t:TypeId) (A B:Operand):X->X->Bool
 |.ni,.ni=>(match isC A with
  |true=>true
  |false=>isC B)
 |.g _,.g _=>(match P.eqGuardType P.depth t with
  |true=>false
  |false=>true)
 |_,_=>true
theorem Zni {A:Operand}(h:isC A=true):∃ v,A=.const v:=by
 cases A with
 |const v=>exact⟨v,rfl⟩
 |_=>cases h
theorem Znm {x:X}(h:vl σ x=some .nilIface):x=.ni:=by
 cases x with
 |ni=>rfl
 |p a=>cases a with
  |none=>simp[vl] at h
  |some a=>obtain⟨_,h⟩:=vl_ps h;cases h
 |l a n c=>cases a with
  |none=>simp[vl] at h
  |some a=>obtain⟨_,_,_,h⟩:=vl_ls h;cases h
 |m a=>cases a with
  |none=>simp[vl] at h
  |some a=>obtain⟨_,h⟩:=vl_ms h;cases h
 |f fn a c=>obtain⟨_,_,h,_⟩:=vl_fs h;cases h
 |e0 b o q=>obtain⟨_,_,h⟩:=vl_es h;cases h
 |fc t x=>obtain⟨_,h,_⟩:=Zde h;cases h
 |g xs=>simp only[vl] at h;cases hs:vls σ xs <;> rw[hs] at h <;> cases h
 |t xs=>simp only[vl] at h;cases hs:vls σ xs <;> rw[hs] at h <;> cases h
 |_=>simp[vl] at h
theorem Zn0 {x:X}{cs:Array Value}(h:vl σ x=some (.agg cs)):∃ xs vs,x=.g xs/\vls σ xs=some vs/\cs=vs.toArray:=by
 cases x with
 |g xs=>
  simp only[vl] at h
  cases hs:vls σ xs with
  |none=>rw[hs] at h;cases h
  |some vs=>rw[hs] at h;exact⟨xs,vs,rfl,hs,by have:=Option.some.inj h;cases this;rfl⟩
 |p a=>cases a with
  |none=>simp[vl] at h
  |some a=>obtain⟨_,h⟩:=vl_ps h;cases h
 |l a n c=>cases a with
  |none=>simp[vl] at h
  |some a=>obtain⟨_,_,_,h⟩:=vl_ls h;cases h
 |m a=>cases a with
  |none=>simp[vl] at h
  |some a=>obtain⟨_,h⟩:=vl_ms h;cases h
 |f fn a c=>obtain⟨_,_,h,_⟩:=vl_fs h;cases h
 |e0 b o q=>obtain⟨_,_,h⟩:=vl_es h;cases h
 |fc t x=>obtain⟨_,h,_⟩:=Zde h;cases h
 |t xs=>simp only[vl] at h;cases hs:vls σ xs <;> rw[hs] at h <;> cases h
 |_=>simp[vl] at h
theorem Zny {t:TypeId}{A B:Operand}{u v:Value}{op:BinOp}(w:World) (hn:u=.nilIface->v=.nilIface->isC A=true\/isC B=true) (ha:∀ cs ds,u=.agg cs->v=.agg ds->P.eqGuardType P.depth t=false):(eqGuard op t A B u v).run P w=.ok () w:=by
 have key:∀ q:BinOp,(q=.eql\/q=.neq)->(eqGuard q t A B u v).run P w=.ok () w:=by
  intro q hq;unfold eqGuard;rw[if_neg (by rcases hq with rfl|rfl <;> decide)];split
  ·rcases hn rfl rfl with h|h
   ·obtain⟨v,rfl⟩:=Zni h;rfl
   ·obtain⟨v,rfl⟩:=Zni h;simp
  ·simp[run_program,ha _ _ rfl rfl]
  ·rfl
 cases op with
 |eql=>exact key _ (.inl rfl)
 |neq=>exact key _ (.inr rfl)
 |_=>rfl
theorem Zpg {t:TypeId}{A B:Operand}{x y:X}{u v:Value}{op:BinOp}(h:gdE P t A B x y=true) (hx:vl σ x=some u) (hy:vl σ y=some v) (w:World):(eqGuard op t A B u v).run P w=.ok () w:=by
 refine Zny w (λh1 h2=>?_) λcs ds h1 h2=>?_
 ·subst h1;subst h2;have h1:=Znm hx;have h2:=Znm hy;subst h1;subst h2;simp only[gdE] at h
  cases hA:isC A with
  |true=>exact .inl rfl
  |false=>rw[hA] at h;exact .inr h
 ·subst h1;subst h2;obtain⟨xs,us,rfl,_⟩:=Zn0 hx;obtain⟨ys,vs,rfl,_⟩:=Zn0 hy;simp only[gdE] at h
  cases hg:P.eqGuardType P.depth t with
  |true=>rw[hg] at h;cases h
  |false=>rfl
def beX (P:Program) (op:BinOp) (t:TypeId) (A B:Operand) (x y:Option X):Option X:=match x,y with
 |some x,some y=>(match gdE P t A B x y with
  |true=>(match op with
   |.eql=>(match eqT P 20 t x y with
    |some b=>some (.b b)
    |none=>none)
   |.neq=>(match eqT P 20 t x y with
    |some b=>some (.b (!b))
    |none=>none)
   |_=>none)
  |false=>none)
 |_,_=>none
def oddV:Value->Bool
 |.agg _|.slice _ _ _|.map _|.func _ _ _|.nilFunc|.iface _ _|.nilIface=>true
 |_=>false
theorem Zon {d:TypeDesc}{x y:X}{u v:Value}{b:Bool}(h1:∀ k,d≠.int k) (h2:d≠.string) (h3:d≠.bool) (h4:∀ e,d≠.pointer e) (h:eq1 d x y=some b) (hx:vl σ x=some u) (hy:vl σ y=some v):oddV u=true:=by
 unfold eq1 at h;split at h
 ·exact absurd rfl h3
 ·exact absurd rfl (h1 _)
 ·exact absurd rfl h2
 ·exact absurd rfl (h4 _)
 ·exact absurd rfl (h4 _)
 ·simp only[vl,Option.some.injEq] at hx;subst hx;rfl
 ·simp only[vl,Option.some.injEq] at hx;subst hx;rfl
 ·obtain⟨_,rfl,_⟩:=Zde hx;rfl
 ·simp only[vl,Option.some.injEq] at hx;subst hx;rfl
 ·obtain⟨_,_,_,rfl⟩:=vl_ls hx;rfl
 ·obtain⟨_,_,rfl⟩:=vl_es hx;rfl
 ·simp only[vl,Option.some.injEq] at hx;subst hx;rfl
 ·simp only[vl,Option.some.injEq] at hx;subst hx;rfl
 ·obtain⟨_,rfl⟩:=vl_ms hx;rfl
 ·simp only[vl,Option.some.injEq] at hx;subst hx;rfl
 ·simp only[vl,Option.some.injEq] at hx;subst hx;rfl
 ·obtain⟨_,_,rfl,_⟩:=vl_fs hx;rfl
 ·cases h
theorem Zov {t:TypeId}{d:TypeDesc}{n:Nat}{x y:X}{u v:Value}{b:Bool}(hd:P.underlying t=some d) (h1:∀ k,d≠.int k) (h2:d≠.string) (h3:d≠.bool) (h4:∀ e,d≠.pointer e) (h:eqT P n t x y=some b) (hx:vl σ x=some u) (hy:vl σ y=some v):oddV u=true:=by
 cases n with
 |zero=>simp only[eqT] at h;cases h
 |succ n=>
  simp only[eqT,hd] at h
  cases d with
  |struct fs=>
   simp only at h;split at h
   ·simp only[vl] at hx;rename_i xs ys hp
    cases hs:vls σ xs <;> rw[hs] at hx
    ·cases hx
    ·obtain rfl:=Option.some.inj hx;rfl
   ·cases h
  |array n e=>
   simp only at h;split at h
   ·simp only[vl] at hx;rename_i i xs ys hp
    cases hs:vls σ xs <;> rw[hs] at hx
    ·cases hx
    ·obtain rfl:=Option.some.inj hx;rfl
   ·cases h
  |_=>exact Zon h1 h2 h3 h4 h hx hy
theorem Zn2 {t:TypeId}{d:TypeDesc}{op:BinOp}{A B:Operand}{x y:Option X}{z:X}{f:Operand->Value}(hd:P.underlying t=some d) (h1:∀ k,d≠.int k) (h2:d≠.string) (h3:d≠.bool) (h4:∀ e,d≠.pointer e)
  (h:beX P op t A B x y=some z) (hx:∀ a,x=some a->vl σ a=some (f A)) (hy:∀ a,y=some a->vl σ a=some (f B)) {w:World} {K:Value->Prop} (hK:∀ v,vl σ z=some v->K v):Be P op t A B (f A) (f B) w K:=by
 unfold beX at h;split at h
 ·rename_i x y;have hx:=hx _ rfl;have hy:=hy _ rfl;split at h
  ·rename_i hg;have gd:=λw=>Zpg (op:=op) hg hx hy w;have fin:∀ b:Bool,eqT P 20 t x y=some b->(Op.equal t (f A) (f B)).run P w=.ok b w/\oddV (f A)=true:=λb hb=>⟨Zlo 9980 20 t x y _ _ b hb hx hy w,Zov hd h1 h2 h3 h4 hb hx hy⟩;split at h
   ·split at h
    ·rename_i b hb;obtain rfl:=Option.some.inj h;obtain⟨g1,g2⟩:=fin b hb;refine⟨.bool b,?_,hK _ rfl⟩;rw[Sem.run_bind,gd w];simp only[Result.andThen_ok];clear fin gd hK hx hy;generalize f A=p at g1 g2 ⊢;generalize f B=q at g1 ⊢
     cases p <;> first|exact Bool.noConfusion g2|(cases q <;> simp only[binOp,Sem.run_bind,g1,Result.andThen_ok,Sem.run_pure])
    ·cases h
   ·split at h
    ·rename_i b hb;obtain rfl:=Option.some.inj h;obtain⟨g1,g2⟩:=fin b hb;refine⟨.bool (!b),?_,hK _ rfl⟩;rw[Sem.run_bind,gd w];simp only[Result.andThen_ok];clear fin gd hK hx hy;generalize f A=p at g1 g2 ⊢;generalize f B=q at g1 ⊢
     cases p <;> first|exact Bool.noConfusion g2|(cases q <;> simp only[binOp,Sem.run_bind,g1,Result.andThen_ok,Sem.run_pure])
    ·cases h
   ·cases h
  ·cases h
 ·cases h
theorem mgetObj {r:Nat}{es:Array MapEntry}{clock:Nat}(hb:w.heap[r]?=some (.map es clock)):(getObj r).run P w=.ok (.map es clock) w:=by
 simp[getObj,Sem.run,hb]
theorem msetObj {r:Nat}{es:Array MapEntry}{clock:Nat}(o:Obj) (hb:w.heap[r]?=some (.map es clock)):(setObj r o).run P w=.ok () { w with heap:=w.heap.setIfInBounds r o }:=by
 simp[setObj,Sem.run,hb]
theorem mfindKey {kt:TypeId}{d:TypeDesc}{k:Value}{l:List MapEntry}{a:Option (Nat × Value)}(hd:P.underlying kt=some d) (h:Instr.findNow d k l 0=some a):(Instr.findKey kt k l).run P w=.ok a w:=by
 simp[Instr.findKey,run_underlying hd,Result.andThen,h]
def keyOk:TypeDesc->X->Bool
 |.int _,.i _ _=>true
 |.string,.s _=>true
 |_,_=>false
def keyEq:X->X->Option Bool
 |.i k a,.i k' b=>(match decide (k=k') with
  |true=>some (a==b)
  |false=>none)
 |.s a,.s b=>some (eqN a b)
 |_,_=>none
def findX (k:X):List (X × X)->Nat->Option (Option (Nat × X))
 |[],_=>some none
 |e::es,i=>match keyEq k e.1 with
  |some true=>some (some (i,e.2))
  |some false=>findX k es (i+1)
  |none=>none
theorem Zmp {d:TypeDesc}{x y:X}{u v:Value}{b:Bool}(hk:keyOk d x=true) (h:keyEq x y=some b) (hx:vl σ x=some u) (hy:vl σ y=some v):Instr.sameNow d u v=some b:=by
 unfold keyEq at h;split at h
 ·split at h
  ·rename_i hk';have hk':=of_decide_eq_true hk';subst hk';simp only[vl,Option.some.injEq] at hx hy h;subst hx;subst hy;subst h
   cases d <;> simp[keyOk] at hk
   simp[Instr.sameNow]
  ·cases h
 ·simp only[vl,Option.some.injEq] at hx hy h;subst hx;subst hy;subst h
  cases d <;> simp[keyOk] at hk
  simp only[Instr.sameNow];rw[beq_toListBytes,Ze3,Zbn]
 ·cases h
def FX (σ:Sg) (k:X) (es:List (X × X)) (i:Nat):Option (Nat × X)->Option (Nat × Value)->Prop
 |none,none=>True
 |some r,some q=>r.1=q.1/\vl σ r.2=some q.2/\i<=r.1/\(∃ e,es[r.1 - i]?=some e/\keyEq k e.1=some true)
 |_,_=>False
theorem Zbo {d:TypeDesc}{k:X}{kv:Value}(hk:keyOk d k=true) (hv:vl σ k=some kv):∀ {es:List (X × X)}{l:List MapEntry}{i:Nat}{r:Option (Nat × X)},EsR σ es l->findX k es i=some r->
  ∃ q,Instr.findNow d kv l i=some q/\FX σ k es i r q
 |[],[],i,r,_,h=>by
  obtain rfl:=Option.some.inj h;exact⟨none,rfl,trivial⟩
 |(a,b)::es,e::l,i,r,⟨h1,h2,h3⟩,h=>by
  simp only[findX] at h
  cases hq:keyEq k a with
  |none=>rw[hq] at h;cases h
  |some c=>
   have hs:=Zmp hk hq hv h1;rw[hq] at h
   cases c with
   |true=>
    obtain rfl:=Option.some.inj h;exact⟨some (i,e.val),by simp[Instr.findNow,hs],rfl,h2,Nat.le_refl _,(a,b),by simp,hq⟩
   |false=>
    obtain⟨q,g1,g2⟩:=Zbo hk hv (i:=i+1) h3 h;refine⟨q,by simp[Instr.findNow,hs,g1],?_⟩
    cases r with
    |none=>
     cases q with
     |none=>trivial
     |some q=>exact g2.elim
    |some r=>
     obtain⟨j,x⟩:=r
     cases q with
     |none=>exact g2.elim
     |some q=>
      obtain⟨j',v⟩:=q;obtain⟨e1,e2,e3,e',e4,e5⟩:=g2;refine⟨e1,e2,Nat.le_of_succ_le e3,e',?_,e5⟩;show ((a,b)::es)[j - i]?=_;have e3':i+1<=j:=e3;rw[show j - i=(j - (i+1))+1 by omega,gF];exact e4
 |[],_::_,_,_,h,_=>h.elim
 |_::_,[],_,_,h,_=>h.elim
theorem Zb8 {d:TypeDesc}{kt:TypeId}{k:X}{kv:Value}(hd:P.underlying kt=some d) (hk:keyOk d k=true) (hv:vl σ k=some kv) (e:Bool) (n:Nat) (w:World):(Instr.checkKey e (n+1) kt kv).run P w=.ok () w:=by
 unfold Instr.checkKey;simp only[Sem.run_bind,run_underlying hd,Result.andThen]
 cases d <;> cases k <;> simp[keyOk] at hk
 all_goals (simp only[vl,Option.some.injEq] at hv;subst hv;rfl)
def zeroVX (P:Program) (t:TypeId):Option X:=match P.info? t with
 |some i=>(match i.zero with
  |some (.agg cs)=>(match ofVs cs.toList with
   |some xs=>some (.g xs)
   |none=>none)
  |some z=>ofV z
  |none=>none)
 |none=>none
theorem Zcu {t:TypeId}{x:X}(h:zeroVX P t=some x):∃ z,vl σ x=some z/\∀ w,(zeroValue t).run P w=.ok z w:=by
 unfold zeroVX at h;split at h
 ·rename_i i hi
  have run:∀ z,i.zero=some z->∀ w,(zeroValue t).run P w=.ok z w:=λz hz w=>by simp[zeroValue,typeInfo,hi,hz]
  split at h
  ·rename_i cs hz;split at h
   ·rename_i xs hxs;obtain rfl:=Option.some.inj h;refine⟨_,?_,run _ hz⟩;simp only[vl,Zg2 hxs]
   ·cases h
  ·rename_i z _ hz;exact⟨_,Zew h,run _ hz⟩
  ·cases h
 ·cases h
def esX (s:St):Option Nat->Option (List (X × X))
 |none=>some []
 |some b=>(match s.mo b with
  |some (.mp es)=>some es
  |_=>none)
def lkR (ok:Bool) (v:X) (b:Bool):X:=match ok with
 |true=>.t [v,.b b]
 |false=>v
def lkX (P:Program) (s:St) (t:TypeId) (x i:Option X) (ok:Bool):Option X:=match P.underlying t,x,i with
 |some (.map k e),some (.m b),some i=>(match P.underlying k,esX s b with
  |some d,some es=>(match keyOk d i,findX i es 0 with
   |true,some (some q)=>some (lkR ok q.2 true)
   |true,some none=>(match zeroVX P e with
    |some z=>some (lkR ok z false)
    |none=>none)
   |_,_=>none)
  |_,_=>none)
 |_,_,_=>none
theorem Zq4 {ok b:Bool}{x:X}{v:Value}(h:vl σ x=some v):vl σ (lkR ok x b)=some (if ok then .tuple #[v,.bool b] else v):=by
 cases ok with
 |true=>simp only[lkR,vl,vls,h];rfl
 |false=>exact h
theorem Zpr (hM:Mem P base σ s w){t:TypeId}{x i:Option X}{ok:Bool}{z:X}{u v:Value}(h:lkX P s t x i ok=some z) (hx:∀ a,x=some a->vl σ a=some u) (hi:∀ a,i=some a->vl σ a=some v){K:Value->Prop}(hK:∀ v,vl σ z=some v->K v):Lk P t u v ok w K:=by
 unfold lkX at h;split at h
 ·rename_i k e b i ht;have hx:=hx _ rfl;have hi:=hi _ rfl;split at h
  ·rename_i d es hd hes
   have hent:∃ l:List MapEntry,EsR σ es l/\((u=.map none/\l=[])\/∃ rb clock,u=.map (some rb)/\w.heap[rb]?=some (.map l.toArray clock)):=by
    cases b with
    |none=>
     simp only[vl,Option.some.injEq] at hx;obtain rfl:=Option.some.inj hes;exact⟨[],trivial,.inl ⟨hx.symm,rfl⟩⟩
    |some b=>
     simp only[esX] at hes;split at hes
     ·rename_i es' hb;obtain rfl:=Option.some.inj hes;obtain⟨rb,g1,g2,l,clock,g3,g4⟩:=hM.mown b _ hb;simp only[vl,g1,Option.some.injEq] at hx;exact⟨l,g4,.inr ⟨rb,clock,hx.symm,g3⟩⟩
     ·cases hes
   obtain⟨l,hE,hu⟩:=hent
   have fin:∀ r,keyOk d i=true->findX i es 0=some r->∀ (z':X) (zv:Value),(match r with
     |some q=>z'=q.2/\vl σ z'=some zv
     |none=>zeroVX P e=some z'/\vl σ z'=some zv)->z=lkR ok z' r.isSome->Lk P t u v ok w K:=by
    intro r hk hf z' zv hz hzz;obtain⟨q,g1,g2⟩:=Zbo hk hi hE hf;have hfk:=mfindKey (P:=P) (w:=w) hd g1;have hck:∀ b,(Instr.checkKey b 10000 k v).run P w=.ok () w:=λb=>Zb8 hd hk hi b 9999 w
    refine⟨if ok then .tuple #[zv,.bool r.isSome] else zv,?_,hK _ (by rw[hzz];exact Zq4 (by
     cases r with
     |none=>exact hz.2
     |some r=>exact hz.2))⟩
    unfold Instr.lookup;rw[Sem.run_bind,run_underlying ht]
    cases r with
    |none=>
     cases q with
     |some q=>exact g2.elim
     |none=>
      obtain⟨zv',e1,e2⟩:=Zcu (σ:=σ) hz.1;rw[hz.2] at e1;obtain rfl:=Option.some.inj e1;rcases hu with⟨rfl,rfl⟩|⟨rb,clock,rfl,g3⟩
      ·simp only[Result.andThen_ok,Sem.run_bind,Sem.run_pure,hck,toList_toArray,hfk,e2,Option.isSome_none]
      ·simp only[Result.andThen_ok,Sem.run_bind,Sem.run_pure,mgetObj g3,hck,toList_toArray,hfk,e2,Option.isSome_none]
    |some r=>
     obtain⟨j,x'⟩:=r
     cases q with
     |none=>exact g2.elim
     |some q=>
      obtain⟨j',v'⟩:=q;obtain⟨_,e2,_⟩:=g2;obtain⟨rfl,e3⟩:=hz;simp only at e2 e3;rw[e2] at e3;obtain rfl:=Option.some.inj e3;rcases hu with⟨rfl,rfl⟩|⟨rb,clock,rfl,g3⟩
      ·simp only[Result.andThen_ok,Sem.run_bind,Sem.run_pure,hck,toList_toArray,hfk,Option.isSome_some]
      ·simp only[Result.andThen_ok,Sem.run_bind,Sem.run_pure,mgetObj g3,hck,toList_toArray,hfk,Option.isSome_some]
   split at h
   ·rename_i q hk hf;obtain rfl:=Option.some.inj h;obtain⟨q',g1,g2⟩:=Zbo hk hi hE hf
    cases q' with
    |none=>exact g2.elim
    |some q'=>exact fin (some q) hk hf q.2 q'.2 ⟨rfl,g2.2.1⟩ rfl
   ·rename_i hk hf;split at h
    ·rename_i z' hz;obtain rfl:=Option.some.inj h;obtain⟨zv,e1,_⟩:=Zcu (σ:=σ) hz;exact fin none hk hf z' zv ⟨hz,e1⟩ rfl
    ·cases h
   ·cases h
  ·cases h
 ·cases h
def methX (P:Program) (t:TypeId) (name:String):Option FuncId:=match P.info? t,P.underlying t with
 |some i,some (.pointer _)=>(match i.methods.toList.find? (·.name==name) with
  |some m=>(match m.path.isEmpty,m.func with
   |true,some (f,true)=>some f
   |_,_=>none)
  |none=>none)
 |_,_=>none
theorem Zme {t:TypeId}{name:String}{f:FuncId}{v:Value}(h:methX P t name=some f) (n:Nat) (w:World):(method (n+1) t v name).run P w=.ok (f,v) w:=by
 unfold methX at h;split at h
 ·rename_i i e hi hu;split at h
  ·rename_i m hm;split at h
   ·rename_i f' hp hf;obtain rfl:=Option.some.inj h
    have hm':i.methods.find? (·.name==name)=some m:=by rw[<-hm,Array.find?_toList]
    have hpath:m.path.toList=[]:=by
     have:=Array.isEmpty_iff.1 hp;rw[this]
    unfold method;rw[Sem.run_bind,show (typeInfo t).run P w=.ok i w by simp[typeInfo,hi]];simp only[Result.andThen_ok,hm',hpath,follow,Sem.run_bind,Sem.run_pure,hf];simp only[receiverAt,Sem.run_bind,run_underlying hu,Result.andThen_ok,Place.get,Sem.run_pure]
   ·cases h
  ·cases h
 ·cases h
def taR (ok:Bool) (x:X):Option X:=some (match ok with
 |true=>.t [x,.b true]
 |false=>x)
def taF (P:Program) (a:TypeId) (ok:Bool):Option X:=match ok,zeroVX P a with
 |true,some z=>some (.t [z,.b false])
 |_,_=>none
def missB (want:Array (String × TypeId)) (got:Array Method):Bool:=(want.toList.filter λx=>!got.any λm=>m.name==x.1&&m.sig==x.2).isEmpty
def taI (P:Program) (a:TypeId) (ok:Bool) (want:Array (String × TypeId)):X->Option X
 |.ni=>taF P a ok
 |.fc t x=>(match P.info? t with
  |some i=>(match missB want i.methods with
   |true=>taR ok (.fc t x)
   |false=>taF P a ok)
  |none=>none)
 |_=>none
def taC (P:Program) (a:TypeId) (ok:Bool):X->Option X
 |.ni=>taF P a ok
 |.fc t x=>(match Nat.beq t a with
  |true=>taR ok x
  |false=>taF P a ok)
 |_=>none
def taX (P:Program) (a:TypeId) (ok:Bool) (x:Option X):Option X:=match P.underlying a,x with
 |some (.interface want),some x=>taI P a ok want x
 |some _,some x=>taC P a ok x
 |_,_=>none
theorem Zmw {ok:Bool}{x z:X}{v:Value}(h:taR ok x=some z) (hx:vl σ x=some v):vl σ z=some (if ok then .tuple #[v,.bool true] else v):=by
 obtain rfl:=Option.some.inj h
 cases ok with
 |true=>simp only[vl,vls,hx];rfl
 |false=>exact hx
theorem Ziw {a:TypeId}{ok:Bool}{z:X}(h:taF P a ok=some z):∃ v,ok=true/\vl σ z=some (.tuple #[v,.bool false])/\∀ w,(zeroValue a).run P w=.ok v w:=by
 unfold taF at h;split at h
 ·rename_i y hy;obtain rfl:=Option.some.inj h;obtain⟨v,h1,h2⟩:=Zcu (σ:=σ) hy;refine⟨v,rfl,?_,h2⟩;simp only[vl,vls,h1]
 ·cases h
theorem Zpi {a xt:TypeId}{ok:Bool}{x:Option X}{z:X}{u:Value}(h:taX P a ok x=some z) (hx:∀ b,x=some b->vl σ b=some u){K:Value->Prop}(hK:∀ v,vl σ z=some v->K v):Ta P u xt a ok w K:=by
 unfold taX at h;split at h
 ·rename_i want x hu;have hx:=hx _ rfl;unfold taI at h;split at h
  ·simp only[vl,Option.some.injEq] at hx;subst hx;obtain⟨v,rfl,h1,h2⟩:=Ziw (σ:=σ) h;refine⟨_,?_,hK _ h1⟩;simp[Instr.typeAssert,run_underlying hu,h2]
  ·rename_i t y;obtain⟨v,rfl,hv⟩:=Zde hx;split at h
   ·rename_i i hi;split at h
    ·rename_i hm;refine⟨_,?_,hK _ (Zmw h hx)⟩;have hm':(want.toList.filter λx=>!i.methods.any λm=>m.name==x.1&&m.sig==x.2)=[]:=List.isEmpty_iff.1 hm
     have hmm:Instr.missingMethod want i.methods=none:=by
      unfold Instr.missingMethod;rw[hm'];rfl
     simp[Instr.typeAssert,run_underlying hu,typeInfo,hi,hmm]
    ·rename_i hm;obtain⟨v',rfl,h1,h2⟩:=Ziw (σ:=σ) h;exact Zq7 hu hi (λe=>by unfold missB at hm;rw[e] at hm;exact Bool.noConfusion hm) h2 (hK _ h1)
   ·cases h
  ·cases h
 ·rename_i d x hni hu;have hx:=hx _ rfl;unfold taC at h;split at h
  ·simp only[vl,Option.some.injEq] at hx;subst hx;obtain⟨v,rfl,h1,h2⟩:=Ziw (σ:=σ) h;refine⟨_,?_,hK _ h1⟩;simp only[Instr.typeAssert,run_underlying hu,Sem.run_bind,Result.andThen_ok]
   cases d <;> first|exact absurd rfl (hni _)|simp[h2]
  ·rename_i t y;obtain⟨v,rfl,hv⟩:=Zde hx;split at h
   ·rename_i ht;obtain rfl:=Nat.eq_of_beq_eq_true ht;refine⟨_,?_,hK _ (Zmw h hv)⟩;simp only[Instr.typeAssert,run_underlying hu,Sem.run_bind,Result.andThen_ok]
    cases d <;> first|exact absurd rfl (hni _)|simp
   ·rename_i ht;have ht:=Nat.ne_of_beq_eq_false ht;obtain⟨v',rfl,h1,h2⟩:=Ziw (σ:=σ) h;refine⟨_,?_,hK _ h1⟩;simp only[Instr.typeAssert,run_underlying hu,Sem.run_bind,Result.andThen_ok]
    cases d <;> first|exact absurd rfl (hni _)|simp[h2,ht]
  ·cases h
 ·cases h
end
end Go.Ev
/- A verified evaluator for closed calls: pointers that are seen as others. No program in sight. -/
namespace Go.Ev
open Go Go.Vc
noncomputable section
variable {P:Program}{base:Bs}{w0:World}{σ:Sg}{s:St}{w w':World}
theorem Zm1 {p:Program}{fits:TypeId->Bool}{d:Nat}{e:TypeId}{c c' o q n:Nat}(h:rowAt p fits d e c o n=true) (hc:c+q<=c'):rowAt p fits d e c' (q*p.cellsOf e+o) n=true:=by
 cases d with
 |zero=>simp[rowAt] at h
 |succ d=>
  unfold rowAt at h ⊢
  by_cases hs:p.cellsOf e=0
  ·simp[hs] at h
  ·simp only[hs,if_false] at h ⊢
   have h1:(q*p.cellsOf e+o)/p.cellsOf e=q+o/p.cellsOf e:=by
    rw[Nat.add_comm,Nat.add_mul_div_right _ _ (Nat.pos_of_ne_zero hs),Nat.add_comm]
   have h2:(q*p.cellsOf e+o)%p.cellsOf e=o%p.cellsOf e:=by rw[Nat.add_comm,Nat.add_mul_mod_self_right]
   rw[h1,h2];rw[Bool.or_eq_true] at h ⊢;rcases h with h|h
   ·left;simp only[Bool.and_eq_true,decide_eq_true_eq] at h ⊢;exact⟨⟨h.1.1,by have:=h.1.2;omega⟩,h.2⟩
   ·right;simp only[Bool.and_eq_true,decide_eq_true_eq] at h ⊢;exact⟨by have:=h.1;omega,h.2⟩
theorem Ze9 {p:Program}{e:TypeId}{c c' o q:Nat}(hc:c+q<=c'):∀ {d:Nat}{u:TypeId}{n:Nat},liesAt p d e c o u n=true->liesAt p d e c' (q*p.cellsOf e+o) u n=true
 |0,u,n,h=>by simp[liesAt] at h
 |d+1,u,n,h=>by
  unfold liesAt at h ⊢;rw[Bool.or_eq_true] at h ⊢;rcases h with h|h
  ·exact .inl (Zm1 h hc)
  ·right;split at h
   ·rename_i m u' hu;exact Ze9 hc h
   ·cases h
theorem Own.shape {b e:Nat}{cs:List X}{rb off k:Nat}{pre vs sp post:List Value}(g:Own P base σ w b e cs rb off k pre vs sp post):w.shape? rb=some (e,(pre++vs++sp++post).length):=by
 obtain⟨fz,hh,_⟩:=g.heap;simp[World.shape?,hh]
def cpX (P:Program) (s:St) (q d:TypeId) (x:Option X):Option X:=match P.underlying q,P.underlying d,x with
 |some (.pointer _),some .unsafePointer,some (.p none)=>some (.p none)
 |some (.pointer t),some .unsafePointer,some (.p (some a))=>(match s.blk a.1,P.info? t with
  |some cb,some i=>(match Nat.blt a.2 cb.2.length,Nat.beq i.size 0 with
   |true,false=>some (.p (some a))
   |_,_=>none)
  |_,_=>none)
 |some .unsafePointer,some (.pointer _),some (.p none)=>some (.p none)
 |some .unsafePointer,some (.pointer u),some (.p (some a))=>(match s.blk a.1,P.info? u with
  |some cb,some i=>(match Nat.blt 0 (szOf P cb.1),liesAt P P.depth cb.1 (cb.2.length/szOf P cb.1) a.2 u 1 with
   |true,true=>some (.p (some a))
   |_,_=>none)
  |_,_=>none)
 |_,_,_=>none
theorem Zdf {e:TypeId}(h:0 < szOf P e):P.cellsOf e=szOf P e:=by
 unfold szOf at h ⊢;unfold Program.cellsOf
 cases hi:P.info? e with
 |none=>rw[hi] at h;exact absurd h (Nat.lt_irrefl _)
 |some i=>rfl
theorem Zpd (hM:Mem P base σ s w){q d:TypeId}{x:Option X}{z:X}{u:Value}(h:cpX P s q d x=some z) (hx:∀ a,x=some a->vl σ a=some u):vl σ z=some u/\(convert q d u).run P w=.ok u w:=by
 unfold cpX at h;split at h
 ·rename_i t hq hd;obtain rfl:=Option.some.inj h;have hx:=hx _ rfl;simp only[vl,Option.some.injEq] at hx;subst hx;exact⟨rfl,by simp[convert,run_underlying hq,run_underlying hd,Conv.unsafePointer]⟩
 ·rename_i t a hq hd;have hx:=hx _ rfl;split at h
  ·rename_i cb i hb hi;split at h
   ·rename_i h1 h2;obtain rfl:=Option.some.inj h;refine⟨hx,?_⟩;obtain⟨e,cs⟩:=cb;obtain⟨rb,off,k,pre,vs,sp,post,g⟩:=hM.own a.1 e cs hb;have hx2:=hx;simp only[vl,g.sg_,Option.some.injEq] at hx2;subst hx2;have hsh:=g.shape;have hl:=Zac g.val;have hp:=g.pre_;have h1:=Nat.le_of_ble_eq_true h1
    have h2:i.size≠0:=λe=>by rw[e] at h2;cases h2
    simp only at h1
    have hlt:¬ ((pre++vs++sp++post).length<=off+a.2):=by simp only[gD];omega
    simp only[gD] at hlt hsh;simp[convert,run_underlying hq,run_underlying hd,Conv.unsafePointer,Conv.seenAt,viewAt,cellsIn,hsh,Zag hi,h2,hlt]
   ·cases h
  ·cases h
 ·rename_i t hq hd;obtain rfl:=Option.some.inj h;have hx:=hx _ rfl;simp only[vl,Option.some.injEq] at hx;subst hx;exact⟨rfl,by simp[convert,run_underlying hq,run_underlying hd,Conv.unsafePointer]⟩
 ·rename_i t a hq hd;have hx:=hx _ rfl;split at h
  ·rename_i cb i hb hi;split at h
   ·rename_i h1 h2;obtain rfl:=Option.some.inj h;refine⟨hx,?_⟩;obtain⟨e,cs⟩:=cb;obtain⟨rb,off,k,pre,vs,sp,post,g⟩:=hM.own a.1 e cs hb;have hx2:=hx;simp only[vl,g.sg_,Option.some.injEq] at hx2;subst hx2;have hsh:=g.shape;have hl:=Zac g.val;have hp:=g.pre_;have h1:=Nat.le_of_ble_eq_true h1;simp only at h1 h2;obtain⟨qq,hqq⟩:=g.mul_;have hc:=Zdf h1
    have hlies:liesAt P P.depth e ((pre++vs++sp++post).length/P.cellsOf e) (off+a.2) t 1=true:=by
     rw[hqq,<-hc];refine Ze9 ?_ h2;rw[hc,Nat.le_div_iff_mul_le h1,Nat.add_mul];have:=Nat.div_mul_le_self cs.length (szOf P e);simp only[gD];omega
    simp only[gD] at hlies hsh;simp[convert,run_underlying hq,run_underlying hd,Conv.unsafePointer,Conv.seenAt,viewAt,hsh,Zag hi,variablesAt,hlies]
   ·cases h
  ·cases h
 ·cases h
def capX (P:Program):List TypeId->Option (List X)->Option X
 |t::_,some (.l none _ c::_)=>(match P.underlying t with
  |some (.slice _)=>some (.i .i64 (c:Int))
  |_=>none)
 |_,_=>none
theorem Zol {ats:Array TypeId}{ty:TypeId}{xs:Option (List X)}{vs:List Value}{z:X}(h:capX P ats.toList xs=some z) (hv:∀ l,xs=some l->vls σ l=some vs){K:Value->Prop}(hK:∀ v,vl σ z=some v->K v):Bc P ats ty vs.toArray w K:=by
 unfold capX at h;split at h
 ·rename_i t ts n c r hats;obtain⟨v1,vs1,e1,e2,rfl⟩:=Za1 (hv _ rfl);simp only[vl,Option.some.injEq] at e1;subst e1
  have hat:ats=(t::ts).toArray:=by rw[<-hats]
  subst hat;split at h
  ·rename_i e ht;obtain rfl:=Option.some.inj h;exact⟨.int .i64 (c:Int),by simp[Builtin.cap_,run_underlying ht,goInt],hK _ rfl⟩
  ·cases h
 ·cases h
end
end Go.Ev
/- A verified evaluator for closed calls, fourth part: operations that leave the world as it is, each against its formula. No program in sight. -/
namespace Go.Ev
open Go Go.Vc
noncomputable section
variable {P:Program}{base:Bs}{σ:Sg}{s:St}{w w':World}{ρ:T X}{r:Env}
def pX:Option X->Option (Nat × Nat)
 |some (.p (some a))=>some a
 |_=>none
theorem Znp {o:Operand}{a:Nat × Nat}(hE:EnvR σ ρ r) (h:pX (evX ρ o)=some a):∃ q,σ a.1=some q/\r.ev o=.pointer (some ⟨q.1,q.2.1+a.2,none⟩)\/False:=by
 unfold pX at h;split at h
 ·rename_i b hb;obtain rfl:=Option.some.inj h;have:=Za0 hE hb;simp only[vl] at this
  cases hs:σ b.1 with
  |none=>rw[hs] at this;cases this
  |some q=>rw[hs] at this;exact⟨q,.inl ⟨rfl,(Option.some.inj this).symm⟩⟩
 ·cases h
theorem pX_ok {o:Operand}{a:Nat × Nat}(hE:EnvR σ ρ r) (h:pX (evX ρ o)=some a):∃ q,σ a.1=some q/\r.ev o=.pointer (some ⟨q.1,q.2.1+a.2,none⟩):=by
 obtain⟨q,h1|h1⟩:=Znp hE h
 ·exact⟨q,h1⟩
 ·exact h1.elim
theorem vl_p {b o:Nat}{q:Nat × Nat × Nat}(h:σ b=some q):vl σ (.p (some (b,o)))=some (.pointer (some ⟨q.1,q.2.1+o,none⟩)):=by
 simp only[vl,h]
def foX (a:Option (Nat × Nat)) (off:Nat):Option X:=match a with
 |some a=>some (.p (some (a.1,a.2+off)))
 |none=>none
theorem Zq1 {o:Operand}{off:Nat}{x:X}{K:Value->Prop}(hE:EnvR σ ρ r) (h:foX (pX (evX ρ o)) off=some x) (hK:∀ v,vl σ x=some v->K v):Fo off (r.ev o) K:=by
 unfold foX at h;split at h
 ·rename_i a ha;obtain rfl:=Option.some.inj h;obtain⟨q,h1,h2⟩:=pX_ok hE ha;rw[h2];refine⟨_,rfl,?_⟩;rw[add_off];refine hK _ ?_;rw[vl_p h1,hG_]
 ·cases h
def ldV (P:Program) (s:St) (t:TypeId) (a:Option (Nat × Nat)):Option X:=match P.underlying t,a with
 |some (.struct _),some a|some (.array _ _),some a=>(match P.info? t with
  |some i=>ldAX s a.1 a.2 i.size
  |none=>none)
 |some _,some a=>ldX s a.1 a.2
 |_,_=>none
def ldG1:List X->Option X
 |[x]=>some x
 |_=>none
def ldGA (xs:List X) (n:Nat):Option X:=match Nat.beq xs.length n with
 |true=>some (.g xs)
 |false=>none
def ldG (P:Program) (t:TypeId) (xs:List X):Option X:=match P.underlying t with
 |some (.struct _)|some (.array _ _)=>(match P.info? t with
  |some i=>ldGA xs i.size
  |none=>none)
 |some _=>ldG1 xs
 |none=>none
def ldW (P:Program) (ρ:T X) (s:St) (t:TypeId):Operand->Option X
 |.global g=>(match lkG s.g g with
  |some xs=>ldG P t xs
  |none=>none)
 |a=>ldV P s t (pX (evX ρ a))
def iaX (P:Program) (e:TypeId) (len:Nat) (a:Option (Nat × Nat)) (n:Option X):Option X:=match P.info? e,a,n with
 |some inf,some a,some (.i k n)=>(match inX n len with
  |some m=>some (.p (some (a.1,a.2+m*inf.size)))
  |none=>none)
 |_,_,_=>none
def isX (P:Program) (e:TypeId) (x n:Option X):Option X:=match x with
 |some (.l (some a) len _)=>iaX P e len (some a) n
 |_=>none
def ixsX (x n:Option X):Option X:=match x,n with
 |some (.s l),some (.i k n)=>(match inX n l.length with
  |some m=>some (.i .u8 ((l.getD m 0%256:Nat):Int))
  |none=>none)
 |_,_=>none
theorem Zoa {a b:Operand}{x:X}{K:Value->Prop}(hE:EnvR σ ρ r) (h:ixsX (evX ρ a) (evX ρ b)=some x) (hK:∀ v,vl σ x=some v->K v):Ixs (r.ev a) (r.ev b) K:=by
 unfold ixsX at h;split at h
 ·rename_i l k n ha hb;split at h
  ·rename_i m hm;obtain rfl:=Option.some.inj h;obtain⟨rfl,h2⟩:=Zdn hm;have e1:=Za0 hE ha;have e2:=Za0 hE hb;simp only[vl,Option.some.injEq] at e1 e2;rw[<-e1,<-e2];refine⟨str l,k,(m:Int),rfl,rfl,by omega,by rw[Zan];omega,hK _ ?_⟩;rw[gC,Zok h2];rfl
  ·cases h
 ·cases h
def ixaX (size:Nat) (agg:Bool) (len:Nat) (x n:Option X):Option X:=match x,n with
 |some (.g xs),some (.i k n)=>(match inX n len with
  |some m=>(match agg with
   |true=>some (.g ((xs.drop (m*size)).take size))
   |false=>xs[m*size]?)
  |none=>none)
 |_,_=>none
theorem Zes (vs:List Value) (a n:Nat):vs.toArray.extract a (a+n)=((vs.drop a).take n).toArray:=by
 apply Array.ext';rw[Array.toList_extract,extract_eq_take_drop];simp
theorem Zhg {size len:Nat}{agg:Bool}{a b:Operand}{x:X}{K:Value->Prop}(hE:EnvR σ ρ r) (h:ixaX size agg len (evX ρ a) (evX ρ b)=some x) (hK:∀ v,vl σ x=some v->K v):Ixa len size agg (r.ev a) (r.ev b) K:=by
 unfold ixaX at h;split at h
 ·rename_i xs k n ha hb;split at h
  ·rename_i m hm;obtain⟨rfl,h2⟩:=Zdn hm;have e1:=Za0 hE ha;have e2:=Za0 hE hb;simp only[vl] at e1;simp only[vl,Option.some.injEq] at e2
   cases hv:vls σ xs with
   |none=>rw[hv] at e1;cases e1
   |some vs=>
    rw[hv] at e1;rw[<-Option.some.inj e1,<-e2];refine⟨vs.toArray,k,(m:Int),rfl,rfl,by omega,by omega,?_⟩;rw[gC]
    cases agg with
    |true=>
     obtain rfl:=Option.some.inj h;refine hK _ ?_;rw[Zes];simp only[vl,Zah size (Zam (m*size) hv)]
    |false=>
     obtain⟨v,g1,g2⟩:=Zc9 hv h;exact⟨v,by simpa using g1,hK _ g2⟩
  ·cases h
 ·cases h
def fdX (off:Nat) (x:Option X):Option X:=match x with
 |some (.g xs)=>xs[off]?
 |_=>none
theorem Zp5 {off:Nat}{a:Operand}{x:X}{K:Value->Prop}(hE:EnvR σ ρ r) (h:fdX off (evX ρ a)=some x) (hK:∀ v,vl σ x=some v->K v):Vc.Fd off (r.ev a) K:=by
 unfold fdX at h;split at h
 ·rename_i xs ha;have e1:=Za0 hE ha;simp only[vl] at e1
  cases hv:vls σ xs with
  |none=>rw[hv] at e1;cases e1
  |some vs=>
   rw[hv] at e1;rw[<-Option.some.inj e1];obtain⟨v,g1,g2⟩:=Zc9 hv h;exact⟨vs.toArray,v,rfl,by simpa using g1,hK _ g2⟩
 ·cases h
def fdaX (off n:Nat) (x:Option X):Option X:=match x with
 |some (.g xs)=>some (.g ((xs.drop off).take n))
 |_=>none
theorem Zkk {off n:Nat}{a:Operand}{x:X}{K:Value->Prop}(hE:EnvR σ ρ r) (h:fdaX off n (evX ρ a)=some x) (hK:∀ v,vl σ x=some v->K v):FdA off n (r.ev a) K:=by
 unfold fdaX at h;split at h
 ·rename_i xs ha;have e1:=Za0 hE ha;simp only[vl] at e1
  cases hv:vls σ xs with
  |none=>rw[hv] at e1;cases e1
  |some vs=>
   rw[hv] at e1;rw[<-Option.some.inj e1];obtain rfl:=Option.some.inj h;refine⟨vs.toArray,rfl,hK _ ?_⟩;rw[Zes];simp only[vl,Zah n (Zam off hv)]
 ·cases h
def bp2 (op:BinOp) (x y:Option X):Option X:=match x,y with
 |some x,some y=>bpX op x y
 |_,_=>none
def bbX (neg:Bool) (x y:Option X):Option X:=match x,y with
 |some (.b a),some (.b b)=>some (.b (if neg then !(a==b) else a==b))
 |_,_=>none
def bnX (P:Program) (e:TypeId) (neg:Bool) (x y:Option X):Option X:=match x,y with
 |some (.p none),some (.p b)=>some (.b (if neg then !b.isNone else b.isNone))
 |some (.p (some _)),some (.p none)=>some (.b neg)
 |some (.p (some a)),some (.p (some b))=>(match P.info? e,Nat.beq a.1 b.1,Nat.beq a.2 b.2 with
  |some _,true,true=>some (.b (!neg))
  |_,_,_=>none)
 |_,_=>none
theorem Zmx {e:TypeId}{neg:Bool}{a b:Operand}{x:X}{K:Value->Prop}(hE:EnvR σ ρ r) (h:bnX P e neg (evX ρ a) (evX ρ b)=some x) (hK:∀ v,vl σ x=some v->K v):Bn P e neg (r.ev a) (r.ev b) K:=by
 unfold bnX at h;split at h
 ·rename_i q ha hb;obtain rfl:=Option.some.inj h;have e1:=Za0 hE ha;have e2:=Za0 hE hb;simp only[vl,Option.some.injEq] at e1;rw[<-e1]
  cases q with
  |none=>
   simp only[vl,Option.some.injEq] at e2;rw[<-e2];exact .inl ⟨true,rfl,hK _ rfl⟩
  |some q=>
   simp only[vl] at e2
   cases hs:σ q.1 with
   |none=>rw[hs] at e2;cases e2
   |some z=>
    rw[hs] at e2;rw[<-Option.some.inj e2];exact .inl ⟨false,rfl,hK _ rfl⟩
 ·rename_i q ha hb;obtain rfl:=Option.some.inj h;have e1:=Za0 hE ha;have e2:=Za0 hE hb;simp only[vl,Option.some.injEq] at e2;rw[<-e2];simp only[vl] at e1
  cases hs:σ q.1 with
  |none=>rw[hs] at e1;cases e1
  |some z=>
   rw[hs] at e1;rw[<-Option.some.inj e1];exact .inl ⟨false,rfl,hK _ (by cases neg <;> rfl)⟩
 ·rename_i p q ha hb;split at h
  ·rename_i i hi h1 h2;obtain rfl:=Option.some.inj h;have e1:=Za0 hE ha;have e2:=Za0 hE hb;obtain⟨p1,p2⟩:=p;obtain⟨q1,q2⟩:=q;obtain rfl:=Nat.eq_of_beq_eq_true h1;obtain rfl:=Nat.eq_of_beq_eq_true h2;rw[e1] at e2;have e2:=Option.some.inj e2;obtain⟨z,hz⟩:=vl_ps e1;rw[<-e2,hz];exact .inr ⟨i,z,hi,rfl,rfl,hK _ rfl⟩
  ·cases h
 ·cases h
def mfX (ρ:T X) (fn:Fn) (a c:Array Operand):Option X:=match xargs ρ a.toList,xargs ρ c.toList with
 |some xs,some ys=>some (.f fn xs ys)
 |_,_=>none
theorem Zp6 {fn:Fn}{a c:Array Operand}{x:X}{K:Value->Prop}(hE:EnvR σ ρ r) (h:mfX ρ fn a c=some x) (hK:∀ v,vl σ x=some v->K v):Mf P fn (amap r.ev a) (amap r.ev c) w K:=by
 unfold mfX at h;split at h
 ·rename_i xs ys hx hy;obtain rfl:=Option.some.inj h;refine⟨_,rfl,hK _ ?_⟩;simp only[vl,Za5 hE hx,Za5 hE hy];rfl
 ·cases h
def lmX (s:St) (b:Option Nat):Option X:=match esX s b with
 |some es=>some (.i .i64 (es.length:Int))
 |none=>none
theorem EsR.len {σ:Sg}:∀ {es:List (X × X)}{l:List MapEntry},EsR σ es l->es.length=l.length
 |[],[],_=>rfl
 |(k,v)::es,e::l,⟨_,_,h⟩=>by simp[EsR.len h]
 |[],_::_,h=>h.elim
 |_::_,[],h=>h.elim
theorem Zq6 (hM:Mem P base σ s w){t k e ty:TypeId}{b:Option Nat}{x:X}{v:Value}(ht:P.underlying t=some (.map k e)) (h:lmX s b=some x) (hv:vl σ (.m b)=some v):∃ u,vl σ x=some u/\∀ (ts:List TypeId) (vs:List Value),(Builtin.len_ (t::ts).toArray ty (v::vs).toArray).run P w=.ok u w:=by
 unfold lmX at h;split at h
 ·rename_i es hes;obtain rfl:=Option.some.inj h;refine⟨_,rfl,λts vs=>?_⟩
  cases b with
  |none=>
   obtain rfl:=Option.some.inj hes;simp only[vl,Option.some.injEq] at hv;subst hv;simp[Builtin.len_,run_underlying ht,goInt]
  |some b=>
   simp only[esX] at hes;split at hes
   ·rename_i es' hb;obtain rfl:=Option.some.inj hes;obtain⟨rb,g1,g2,l,clock,g3,g4⟩:=hM.mown b _ hb;simp only[vl,g1,Option.some.injEq] at hv;subst hv;simp[Builtin.len_,run_underlying ht,mgetObj g3,goInt,g4.len]
   ·cases hes
 ·cases h
def upX (op:UnOp) (x:Option X):Option X:=match x with
 |some (.i k n)=>(match up op (.int k n) with
  |some v=>ofV v
  |none=>none)
 |some (.b b)=>(match up op (.bool b) with
  |some v=>ofV v
  |none=>none)
 |_=>none
theorem Zpw {op:UnOp}{a:Operand}{x:X}{K:Value->Prop}(hE:EnvR σ ρ r) (h:upX op (evX ρ a)=some x) (hK:∀ v,vl σ x=some v->K v):Up op (r.ev a) K:=by
 unfold upX at h;split at h
 ·rename_i k n ha;have e1:=Za0 hE ha;simp only[vl,Option.some.injEq] at e1;rw[<-e1];split at h
  ·rename_i v hv;exact⟨v,hv,hK _ (Zew h)⟩
  ·cases h
 ·rename_i b ha;have e1:=Za0 hE ha;simp only[vl,Option.some.injEq] at e1;rw[<-e1];split at h
  ·rename_i v hv;exact⟨v,hv,hK _ (Zew h)⟩
  ·cases h
 ·cases h
def ciX (k:IntKind) (x:Option X):Option X:=match x with
 |some (.i _ n)=>some (.i k (k.wrap n))
 |_=>none
def cvX (P:Program) (s:St) (t:TypeId) (x:Option X):Option X:=match P.underlying t with
 |some (.slice e)=>(match P.underlying e,x with
  |some (.int .u8),some x=>strX s x
  |_,_=>none)
 |_=>none
def sstX (x:Option X) (lo hi:Nat->Option Nat):Option X:=match x with
 |some (.s l)=>(match lo 0,hi l.length with
  |some a,some b=>(match Nat.ble a b,Nat.ble b l.length with
   |true,true=>some (.s ((l.take b).drop a))
   |_,_=>none)
  |_,_=>none)
 |_=>none
def slaX (P:Program) (s:St) (n:Nat) (e:TypeId) (x:Option X) (lo hi:Nat->Option Nat):Option X:=match x with
 |some (.p (some a))=>(match s.blk a.1 with
  |some cb=>(match isArrB P cb.1,P.info? e,lo 0,hi n with
   |true,some inf,some i,some j=>(match Nat.ble i j,Nat.ble j n,Nat.beq n i with
    |true,true,false=>some (.l (some (a.1,a.2+i*inf.size)) (j - i) (n - i))
    |true,true,true=>some (.l (some a) 0 0)
    |_,_,_=>none)
   |_,_,_,_=>none)
  |none=>none)
 |_=>none
theorem Zoh (hM:Mem P base σ s w){t:TypeId}{n:Nat}{e:TypeId}(hu:P.underlying t=some (.array n e)){a:Operand}{lo hi:Option Operand}{x:X}{K:Value->Prop}(hE:EnvR σ ρ r) (h:slaX P s n e (evX ρ a) (λd=>bndX ρ d lo) (λd=>bndX ρ d hi)=some x) (hK:∀ v,vl σ x=some v->K v) :
  Sl P t (r.ev a) (lo.map r.ev) (hi.map r.ev) none w K:=by
 unfold slaX at h;split at h
 ·rename_i p ha;have e1:=Za0 hE ha;split at h
  ·rename_i cb hb;obtain⟨be,cs⟩:=cb;obtain⟨rb,off,k,pre,vs,sp,post,g⟩:=hM.own p.1 be cs hb;split at h
   ·rename_i inf i j har hinf hi' hj';have hk:k=0:=g.nsp har;subst hk;simp only[vl,g.sg_,Option.some.injEq] at e1;split at h
    ·rename_i h1 h2 h3;obtain rfl:=Option.some.inj h;have h1:=Nat.le_of_ble_eq_true h1;have h2:=Nat.le_of_ble_eq_true h2;have h3:=Nat.ne_of_beq_eq_false h3;have hb:=Zc2 (P:=P) (w:=w) (b:=false) (Zab hE hi') (Zab hE hj') h1 h2;refine⟨.slice (some ⟨rb,off+p.2+i*inf.size,none⟩) (j - i) (n - i),?_,hK _ ?_⟩
     ·rw[<-e1];simp[Instr.sliceAt,Instr.sureAddr,run_underlying hu,hb,Zag hinf,h3,add_off]
     ·simp only[vl,g.sg_,Nat.add_zero,hG_]
    ·rename_i h1 h2 h3;obtain rfl:=Option.some.inj h;have h1:=Nat.le_of_ble_eq_true h1;have h2:=Nat.le_of_ble_eq_true h2;have h3:=Nat.eq_of_beq_eq_true h3;subst h3
     have h4:j=n:=by omega
     subst h4;have hb:=Zc2 (P:=P) (w:=w) (b:=false) (Zab hE hi') (Zab hE hj') h1 h2;refine⟨.slice (some ⟨rb,off+p.2,none⟩) 0 0,?_,hK _ ?_⟩
     ·rw[<-e1];simp[Instr.sliceAt,Instr.sureAddr,run_underlying hu,hb,Zag hinf]
     ·simp only[vl,g.sg_,Nat.add_zero]
    ·cases h
   ·cases h
  ·cases h
 ·cases h
def sslX (size:Nat) (x:Option X) (lo hi:Nat->Option Nat):Option X:=match x with
 |some (.l (some p) n c)=>(match lo 0,hi n with
  |some a,some b=>(match Nat.ble a b,Nat.ble b c,Nat.beq c a&&!(Nat.beq a 0) with
   |true,true,false=>some (.l (some (p.1,p.2+a*size)) (b - a) (c - a))
   |true,true,true=>some (.e0 p.1 p.2 (p.2+a*size))
   |_,_,_=>none)
  |_,_=>none)
 |some (.l none n c)=>(match lo 0,hi n with
  |some a,some b=>(match Nat.ble a b,Nat.ble b c with
   |true,true=>some (.l none (b - a) (c - a))
   |_,_=>none)
  |_,_=>none)
 |_=>none
theorem Zoo {size:Nat}{a:Operand}{lo hi:Option Operand}{x:X}{K:Value->Prop}(hE:EnvR σ ρ r) (h:sslX size (evX ρ a) (λd=>bndX ρ d lo) (λd=>bndX ρ d hi)=some x) (hK:∀ v,vl σ x=some v->K v):Ssl size (r.ev a) (lo.map r.ev) (hi.map r.ev) K:=by
 unfold sslX at h;split at h
 ·rename_i p n c ha;have e1:=Za0 hE ha;simp only[vl] at e1;split at h
  ·rename_i i j hi' hj';split at h
   ·rename_i h1 h2 h3;obtain rfl:=Option.some.inj h;have h1:=Nat.le_of_ble_eq_true h1;have h2:=Nat.le_of_ble_eq_true h2
    cases hs:σ p.1 with
    |none=>rw[hs] at e1;cases e1
    |some q=>
     rw[hs] at e1;rw[<-Option.some.inj e1];refine⟨_,n,c+q.2.2,i,j,rfl,Zab hE hi',Zab hE hj',h1,by omega,hK _ ?_⟩
     have h4:¬ (c=i/\i≠0):=by
      rintro⟨rfl,h5⟩;have h6:Nat.beq c c=true:=Nat.beq_refl c;rw[h6] at h3
      cases h7:Nat.beq c 0 with
      |true=>exact h5 (Nat.eq_of_beq_eq_true h7)
      |false=>rw[h7] at h3;cases h3
     simp only[vl,hs]
     congr 1
     have h8:c+q.2.2 - i=c - i+q.2.2:=by omega
     rw[h8]
     congr 1
     split
     ·rename_i h9
      have h10:i=0:=by
       rcases Nat.eq_zero_or_pos i with h11|h11
       ·exact h11
       ·exact absurd ⟨by omega,by omega⟩ h4
      subst h10;rw[Nat.zero_mul,Nat.add_zero]
     ·simp only[Option.map_some,add_off,hG_]
   ·rename_i h1 h2 h3;obtain rfl:=Option.some.inj h;have h1:=Nat.le_of_ble_eq_true h1;have h2:=Nat.le_of_ble_eq_true h2;rw[Bool.and_eq_true] at h3;have h3:=Nat.eq_of_beq_eq_true h3.1
    cases hs:σ p.1 with
    |none=>rw[hs] at e1;cases e1
    |some q=>
     rw[hs] at e1;rw[<-Option.some.inj e1];refine⟨_,n,c+q.2.2,i,j,rfl,Zab hE hi',Zab hE hj',h1,by omega,hK _ ?_⟩;simp only[vl,hs]
     have h4:j - i=0:=by omega
     have h5:c+q.2.2 - i=q.2.2:=by omega
     rw[h4,h5]
     congr 2
     by_cases hk:q.2.2=0
     ·rw[if_pos hk,if_pos (by omega)]
     ·rw[if_neg hk,if_neg (by omega)];simp only[Option.map_some,add_off,hG_]
   ·cases h
  ·cases h
 ·rename_i n c ha;have e1:=Za0 hE ha;simp only[vl,Option.some.injEq] at e1;rw[<-e1];split at h
  ·rename_i i j hi' hj';split at h
   ·rename_i h1 h2;obtain rfl:=Option.some.inj h;refine⟨none,n,c,i,j,rfl,Zab hE hi',Zab hE hj',Nat.le_of_ble_eq_true h1,Nat.le_of_ble_eq_true h2,hK _ ?_⟩;simp only[vl,Option.map_none,ite_self]
   ·cases h
  ·cases h
 ·cases h
def exX (x:Option X) (i:Nat):Option X:=match x with
 |some (.t xs)=>xs[i]?
 |_=>none
theorem Zpt {i:Nat}{a:Operand}{x:X}{K:Value->Prop}(hE:EnvR σ ρ r) (h:exX (evX ρ a) i=some x) (hK:∀ v,vl σ x=some v->K v):Ex (r.ev a) i K:=by
 unfold exX at h;split at h
 ·rename_i xs ha;have e1:=Za0 hE ha;simp only[vl] at e1
  cases hv:vls σ xs with
  |none=>rw[hv] at e1;cases e1
  |some vs=>
   rw[hv] at e1;rw[<-Option.some.inj e1];obtain⟨v,g1,g2⟩:=Zc9 hv h;exact⟨vs.toArray,v,rfl,by simpa using g1,hK _ g2⟩
 ·cases h
def mmR (mx:Bool) (a b:Int):Int:=match mx with
 |true=>if a < b then b else a
 |false=>if b < a then b else a
def mmL (mx:Bool) (k:IntKind):Int->List X->Option X
 |a,[]=>some (.i k a)
 |a,.i k' b::l=>(match decide (k=k') with
  |true=>mmL mx k (mmR mx a b) l
  |false=>none)
 |_,_=>none
def mmX (mx:Bool):List X->Option X
 |.i k a::l=>mmL mx k a l
 |_=>none
def xval (P:Program) (ρ:T X) (s:St) (o:Oper):Option X:=match o.op with
 |.move x|.assign x=>evX ρ x
 |.pick c a b=>(match evX ρ c with
  |some (.b true)=>evX ρ a
  |some (.b false)=>evX ρ b
  |_=>none)
 |.nilCheck x=>(match pX (evX ρ x) with
  |some a=>some (.p (some a))
  |none=>none)
 |.load t a=>ldW P ρ s t a
 |.fieldAddr q x f=>(match P.underlying q with
  |some (.struct fs)=>(match fldOf fs.toList f with
   |some fd=>(match P.info? fd.type with
    |some i=>(match i.size with
     |0=>none
     |_+1=>foX (pX (evX ρ x)) fd.offset)
    |none=>none)
   |none=>none)
  |_=>none)
 |.indexAddr t x i=>(match P.underlying t with
  |some (.array len e)=>iaX P e len (pX (evX ρ x)) (evX ρ i)
  |some (.slice e)=>isX P e (evX ρ x) (evX ρ i)
  |_=>none)
 |.index t x i=>(match P.underlying t with
  |some .string=>ixsX (evX ρ x) (evX ρ i)
  |some (.array len e)=>(match P.info? e with
   |some inf=>(match P.underlying e with
    |some (.struct _)|some (.array _ _)=>ixaX inf.size true len (evX ρ x) (evX ρ i)
    |some _=>ixaX inf.size false len (evX ρ x) (evX ρ i)
    |none=>none)
   |none=>none)
  |_=>none)
 |.field t x f=>(match P.underlying t with
  |some (.struct fs)=>(match fldOf fs.toList f with
   |some fd=>(match P.underlying fd.type with
    |some (.struct _)|some (.array _ _)=>(match P.info? fd.type with
     |some i=>fdaX fd.offset i.size (evX ρ x)
     |none=>none)
    |some _=>fdX fd.offset (evX ρ x)
    |none=>none)
   |none=>none)
  |_=>none)
 |.binOp op t x y _=>(match P.underlying t with
  |some (.int _)|some .string=>bp2 op (evX ρ x) (evX ρ y)
  |some .bool=>(match op with
   |.eql=>bbX false (evX ρ x) (evX ρ y)
   |.neq=>bbX true (evX ρ x) (evX ρ y)
   |_=>none)
  |some (.pointer e)=>(match op with
   |.eql=>bnX P e false (evX ρ x) (evX ρ y)
   |.neq=>bnX P e true (evX ρ x) (evX ρ y)
   |_=>none)
  |some _=>beX P op t x y (evX ρ x) (evX ρ y)
  |none=>none)
 |.makeFunc fn a c=>mfX ρ fn a c
 |.lookup t x i ok=>lkX P s t (evX ρ x) (evX ρ i) ok
 |.typeAssert x _ a ok=>taX P a ok (evX ρ x)
 |.unOp op _ x=>upX op (evX ρ x)
 |.convert q d x=>(match P.underlying q,P.underlying d with
  |some (.int _),some (.int k)=>ciX k (evX ρ x)
  |some (.slice e),some .string=>cvX P s q (evX ρ x)
  |some _,some _=>cpX P s q d (evX ρ x)
  |_,_=>none)
 |.makeInterface t x=>(match P.underlying t,evX ρ x with
  |some (.interface _),_=>none
  |some _,some x=>some (.fc t x)
  |_,_=>none)
 |.slice t x l h m=>(match P.underlying t,m with
  |some .string,none=>sstX (evX ρ x) (λd=>bndX ρ d l) (λd=>bndX ρ d h)
  |some (.slice e),none=>(match P.info? e with
   |some inf=>sslX inf.size (evX ρ x) (λd=>bndX ρ d l) (λd=>bndX ρ d h)
   |none=>none)
  |some (.array n e),none=>slaX P s n e (evX ρ x) (λd=>bndX ρ d l) (λd=>bndX ρ d h)
  |_,_=>none)
 |.extract x i=>exX (evX ρ x) i
 |.build t ps=>(match xparts ρ ps.toList with
  |some xs=>bdX P t xs
  |none=>none)
 |.call c=>(match c.callee with
  |.builtin .len=>(match c.argTypes.toList,xargs ρ c.args.toList with
   |t::_,some (x::_)=>(match P.underlying t,x with
    |some .string,.s l=>some (.i .i64 (l.length:Int))
    |some (.slice _),.l _ n _=>some (.i .i64 (n:Int))
    |some (.slice _),.e0 _ _ _=>some (.i .i64 0)
    |some (.map _ _),.m b=>lmX s b
    |_,_=>none)
   |_,_=>none)
  |.builtin .cap=>capX P c.argTypes.toList (xargs ρ c.args.toList)
  |.builtin .min=>(match xargs ρ c.args.toList with
   |some xs=>mmX false xs
   |none=>none)
  |.builtin .max=>(match xargs ρ c.args.toList with
   |some xs=>mmX true xs
   |none=>none)
  |_=>none)
 |_=>none
theorem Zn7 {mx:Bool}{k:IntKind}{x:X}:∀ {l:List X}{a:Int},mmL mx k a l=some x->∃ bs:List Int,l=bs.map (X.i k)/\x=.i k (bs.foldl (mmR mx) a)
 |[],a,h=>⟨[],rfl,(Option.some.inj h).symm⟩
 |y::l,a,h=>by
  unfold mmL at h;split at h
  ·rename_i e;cases e
  ·rename_i a' k' b l' e;cases e
   by_cases hk:k=k'
   ·subst hk;rw[decide_eq_true rfl] at h;obtain⟨bs,rfl,h2⟩:=Zn7 (l:=l) h;exact⟨b::bs,rfl,h2⟩
   ·rw[decide_eq_false hk] at h;cases h
  ·cases h
theorem mm_ok {mx:Bool}{xs:List X}{x:X}(h:mmX mx xs=some x):∃ k a,∃ bs:List Int,xs=.i k a::bs.map (X.i k)/\x=.i k (bs.foldl (mmR mx) a):=by
 unfold mmX at h;split at h
 ·rename_i k a l;obtain⟨bs,rfl,h2⟩:=Zn7 h;exact⟨k,a,bs,rfl,h2⟩
 ·cases h
theorem Ziy {k:IntKind}:∀ (bs:List Int),vls σ (bs.map (X.i k))=some (bs.map (Value.int k))
 |[]=>rfl
 |b::bs=>Zas rfl (Ziy bs)
theorem Ziz (k:IntKind) (w:World):∀ (bs:List Int) (a:Int),((bs.map (Value.int k)).foldlM Builtin.min2 (Value.int k a)).run P w=.ok (.int k (bs.foldl (mmR false) a)) w/\((bs.map (Value.int k)).foldlM Builtin.max2 (Value.int k a)).run P w=.ok (.int k (bs.foldl (mmR true) a)) w
 |[],a=>⟨by simp,by simp⟩
 |b::bs,a=>by
  obtain⟨h1,_⟩:=Ziz k w bs (mmR false a b);obtain⟨_,h2⟩:=Ziz k w bs (mmR true a b);refine⟨?_,?_⟩
  ·rw[hR_,List.foldlM_cons,foldl_cons,Sem.run_bind,show (Builtin.min2 (Value.int k a) (Value.int k b)).run P w=.ok (.int k (mmR false a b)) w by simp[Builtin.min2,mmR]];exact h1
  ·rw[hR_,List.foldlM_cons,foldl_cons,Sem.run_bind,show (Builtin.max2 (Value.int k a) (Value.int k b)).run P w=.ok (.int k (mmR true a b)) w by simp[Builtin.max2,mmR]];exact h2
theorem Zbs (hM:Mem P base σ s w) (hE:EnvR σ ρ r){o:Oper}{x:X}(h:xval P ρ s o=some x) (st:Bool){K:KT}(hK:∀ v,vl σ x=some v->K v w):vcOp P st r.ev o w K:=by
 unfold xval at h;unfold vcOp
 cases ho:o.op with
 |move a=>simp only[ho] at h ⊢;exact hK _ (Za0 hE h)
 |assign a=>simp only[ho] at h ⊢;exact hK _ (Za0 hE h)
 |pick c a b=>
  simp only[ho] at h ⊢;split at h
  ·rename_i hc;have e1:=Za0 hE hc;simp only[vl,Option.some.injEq] at e1;rw[<-e1];exact hK _ (Za0 hE h)
  ·rename_i hc;have e1:=Za0 hE hc;simp only[vl,Option.some.injEq] at e1;rw[<-e1];exact hK _ (Za0 hE h)
  ·cases h
 |nilCheck a=>
  simp only[ho] at h ⊢;split at h
  ·rename_i p hp;obtain rfl:=Option.some.inj h;obtain⟨q,h1,h2⟩:=pX_ok hE hp;refine⟨⟨_,h2⟩,hK _ ?_⟩;rw[h2];exact vl_p h1
  ·cases h
 |load t a=>
  simp only[ho] at h ⊢;unfold ldW at h;split at h
  ·rename_i g;split at h
   ·rename_i xs hxs;obtain⟨_,e,fz,vs,h2,h3⟩:=hM.glb g xs hxs;have h4:vls σ xs=some vs:=Zbp (λn q hn=>by cases hn) _ _ h2
    have hcell:∀ (j:Nat) v,vs[j]?=some v->w.cell? ((⟨g,0,none⟩:Addr).add j)=some v:=λj v hj=>by
     rw[add_off,Nat.zero_add];simp[World.cell?,h3,hj]
    unfold ldG at h
    have agg:∀ {i:TypeInfo},ldGA xs i.size=some x->LdA i.size (r.ev (.global g)) w λv=>K v w:=by
     intro i h;unfold ldGA at h
     cases hb:Nat.beq xs.length i.size with
     |false=>rw[hb] at h;cases h
     |true=>
      rw[hb] at h;obtain rfl:=Option.some.inj h;have:=Zac h4;have hb:=Nat.eq_of_beq_eq_true hb;refine⟨⟨g,0,none⟩,vs.toArray,rfl,by simp;omega,λj v hj=>hcell j v (by simpa using hj),hK _ ?_⟩;simp only[vl,h4]
    have one:ldG1 xs=some x->Ld (r.ev (.global g)) w λv=>K v w:=by
     intro h
     cases xs with
     |nil=>cases h
     |cons y l=>
      cases l with
      |cons _ _=>cases h
      |nil=>
       obtain rfl:=Option.some.inj h;obtain⟨v,us,g1,g2,rfl⟩:=Za1 h4;have:=hcell 0 v rfl;rw[add_off] at this;exact⟨⟨g,0,none⟩,v,rfl,this,hK _ g1⟩
    cases hu:P.underlying t with
    |none=>rw[hu] at h;cases h
    |some d=>
     rw[hu] at h
     cases d with
     |struct fs=>
      simp only at h ⊢
      cases hi:P.info? t with
      |none=>rw[hi] at h;cases h
      |some i=>rw[hi] at h;exact agg h
     |array n e=>
      simp only at h ⊢
      cases hi:P.info? t with
      |none=>rw[hi] at h;cases h
      |some i=>rw[hi] at h;exact agg h
     |_=>exact one h
   ·cases h
  ·unfold ldV at h
   have agg:∀ {p:Nat × Nat} {y:X} {i:TypeInfo},pX (evX ρ a)=some p->ldAX s p.1 p.2 i.size=some y->y=x->LdA i.size (r.ev a) w λv=>K v w:=by
    rintro p y i hp hl rfl;obtain⟨q,h1,h2⟩:=pX_ok hE hp;obtain⟨q',vs,g1,g2,g3,g4⟩:=Zlq hM hl;rw[h1] at g1;cases g1;rw[h2];exact⟨_,vs.toArray,rfl,by simpa using g3,λj v hj=>g4 j v (by simpa using hj),hK _ g2⟩
   have one:∀ {p:Nat × Nat} {y:X},pX (evX ρ a)=some p->ldX s p.1 p.2=some y->y=x->Ld (r.ev a) w λv=>K v w:=by
    rintro p y hp hl rfl;obtain⟨q,h1,h2⟩:=pX_ok hE hp;obtain⟨q',v,g1,g2,g3⟩:=Zmt hM hl;rw[h1] at g1;cases g1;rw[h2];exact⟨_,v,rfl,g3,hK _ g2⟩
   cases hu:P.underlying t with
   |none=>simp[hu] at h
   |some d=>
    cases hp:pX (evX ρ a) with
    |none=>cases d <;> simp[hu,hp] at h
    |some p=>
     rw[hu,hp] at h
     cases d with
     |struct fs=>
      simp only at h ⊢
      cases hi:P.info? t with
      |none=>rw[hi] at h;cases h
      |some i=>rw[hi] at h;exact agg hp h rfl
     |array n e=>
      simp only at h ⊢
      cases hi:P.info? t with
      |none=>rw[hi] at h;cases h
      |some i=>rw[hi] at h;exact agg hp h rfl
     |_=>exact one hp h rfl
 |fieldAddr q a f=>
  simp only[ho] at h ⊢;split at h
  ·rename_i fs hu;split at h
   ·rename_i fd hf;split at h
    ·rename_i i hi;split at h
     ·cases h
     ·rename_i m hm;simp only[hu,hf,hi,hm];exact Zq1 hE h λv hv=>hK v hv
    ·cases h
   ·cases h
  ·cases h
 |indexAddr t a i=>
  simp only[ho] at h ⊢;split at h
  ·rename_i len e hu;unfold iaX at h;split at h
   ·rename_i inf p k n hi hp hn;split at h
    ·rename_i m hm;obtain rfl:=Option.some.inj h;obtain⟨rfl,h2⟩:=Zdn hm;obtain⟨q,h1,h3⟩:=pX_ok hE hp;have e2:=Za0 hE hn;simp only[vl,Option.some.injEq] at e2;simp only[hu,hi];rw[h3,<-e2];refine⟨_,k,(m:Int),rfl,rfl,by omega,by omega,hK _ ?_⟩;rw[add_off,gC,vl_p h1,hG_]
    ·cases h
   ·cases h
  ·rename_i e hu;unfold isX at h;split at h
   ·rename_i p len c ha;unfold iaX at h;split at h
    ·rename_i inf p' k n hi hp hn;cases hp;split at h
     ·rename_i m hm;obtain rfl:=Option.some.inj h;obtain⟨rfl,h2⟩:=Zdn hm;have e1:=Za0 hE ha;have e2:=Za0 hE hn;simp only[vl,Option.some.injEq] at e2;simp only[vl] at e1
      cases hs:σ p.1 with
      |none=>rw[hs] at e1;cases e1
      |some q=>
       rw[hs] at e1;simp only[hu,hi];rw[<-Option.some.inj e1,<-e2];refine⟨_,len,_,k,(m:Int),rfl,rfl,by omega,by omega,hK _ ?_⟩;rw[add_off,gC,vl_p hs,hG_]
     ·cases h
    ·cases h
   ·cases h
  ·cases h
 |index t a i=>
  simp only[ho] at h ⊢;split at h
  ·rename_i hu;simp only[hu];exact Zoa hE h λv hv=>hK v hv
  ·rename_i len e hu;split at h
   ·rename_i inf hi;split at h
    ·rename_i fs he;simp only[hu,hi,he];exact Zhg hE h λv hv=>hK v hv
    ·rename_i fs n he;simp only[hu,hi,he];exact Zhg hE h λv hv=>hK v hv
    ·rename_i d h1 h2 he;simp only[hu,hi,he];exact Zhg hE h λv hv=>hK v hv
    ·cases h
   ·cases h
  ·cases h
 |field t a f=>
  simp only[ho] at h ⊢;split at h
  ·rename_i fs hu;split at h
   ·rename_i fd hf;split at h
    ·rename_i fs2 he;split at h
     ·rename_i i hi;simp only[hu,hf,he,hi];exact Zkk hE h λv hv=>hK v hv
     ·cases h
    ·rename_i n e he;split at h
     ·rename_i i hi;simp only[hu,hf,he,hi];exact Zkk hE h λv hv=>hK v hv
     ·cases h
    ·rename_i d h1 h2 he;simp only[hu,hf,he];exact Zp5 hE h λv hv=>hK v hv
    ·cases h
   ·cases h
  ·cases h
 |binOp op t a b yt=>
  simp only[ho] at h ⊢
  have arith:bp2 op (evX ρ a) (evX ρ b)=some x->Bp op (r.ev a) (r.ev b) λv=>K v w:=by
   intro h;unfold bp2 at h;split at h
   ·rename_i y z ha hb;obtain⟨v,g1,g2⟩:=Zmo h (Za0 hE ha) (Za0 hE hb);exact⟨v,g1,hK _ g2⟩
   ·cases h
  have bool:∀ neg,bbX neg (evX ρ a) (evX ρ b)=some x->Bb neg (r.ev a) (r.ev b) λv=>K v w:=by
   intro neg h;unfold bbX at h;split at h
   ·rename_i y z ha hb;obtain rfl:=Option.some.inj h;have e1:=Za0 hE ha;have e2:=Za0 hE hb;simp only[vl,Option.some.injEq] at e1 e2;exact⟨y,z,e1.symm,e2.symm,hK _ rfl⟩
   ·cases h
  split at h
  ·rename_i k hu;simp only[hu];exact arith h
  ·rename_i hu;simp only[hu];exact arith h
  ·rename_i hu;simp only[hu];split at h
   ·exact bool _ h
   ·exact bool _ h
   ·cases h
  ·rename_i e hu;simp only[hu];split at h
   ·exact Zmx hE h λv hv=>hK v hv
   ·exact Zmx hE h λv hv=>hK v hv
   ·cases h
  ·rename_i d h1 h2 h3 h4 hu;have hb:=Zn2 (w:=w) hu (λk e=>h1 k e) (λe=>h2 e) (λe=>h3 e) (λq e=>h4 q e) h (λa ha=>Za0 hE ha) (λa ha=>Za0 hE ha) (K:=λv=>K v w) λv hv=>hK v hv
   cases d with
   |int k=>exact (h1 k rfl).elim
   |string=>exact (h2 rfl).elim
   |bool=>exact (h3 rfl).elim
   |pointer e=>exact (h4 e rfl).elim
   |_=>simp only[hu];exact hb
  ·cases h
 |makeFunc fn a c=>simp only[ho] at h ⊢;exact Zp6 hE h λv hv=>hK v hv
 |typeAssert a t b ok=>simp only[ho] at h ⊢;exact Zpi h (λq hq=>Za0 hE hq) λv hv=>hK v hv
 |lookup t a i ok=>simp only[ho] at h ⊢;exact Zpr hM h (λq hq=>Za0 hE hq) (λq hq=>Za0 hE hq) λv hv=>hK v hv
 |unOp op t a=>simp only[ho] at h ⊢;exact Zpw hE h λv hv=>hK v hv
 |convert q d a=>
  simp only[ho] at h ⊢;split at h
  ·rename_i k1 k2 hq hd;unfold ciX at h;split at h
   ·rename_i k n ha;obtain rfl:=Option.some.inj h;have e1:=Za0 hE ha;simp only[vl,Option.some.injEq] at e1;simp only[hq,hd];exact⟨k,n,e1.symm,hK _ rfl⟩
   ·cases h
  ·rename_i e hq hd;unfold cvX at h;rw[hq] at h;simp only at h;split at h
   ·rename_i y he ha;obtain⟨u,g1,g2⟩:=Zkm hM hq he hd (Za0 hE ha) h;simp only[hq,hd]
    cases st with
    |true=>exact⟨u,g2,hK _ g1⟩
    |false=>exact⟨u,w,g2,hK _ g1⟩
   ·cases h
  ·rename_i d1 d2 n1 n2 hq hd;have g:=Zpd (w:=w) hM h (u:=r.ev a) λb hb=>Za0 hE hb
   have key:(match st with
    |true=>Cv P q d (r.ev a) w λv=>K v w
    |false=>Cw P q d (r.ev a) w K):=by
    cases st with
    |true=>exact⟨_,g.2,hK _ g.1⟩
    |false=>exact⟨_,w,g.2,hK _ g.1⟩
   cases d1 with
   |int k1=>
    cases d2 with
    |int k2=>exact (n1 k1 k2 rfl rfl).elim
    |_=>simp only[hq,hd];exact key
   |_=>simp only[hq,hd];exact key
  ·cases h
 |makeInterface t a=>
  simp only[ho] at h ⊢;split at h
  ·cases h
  ·rename_i d y hn hu ha;obtain rfl:=Option.some.inj h;have e1:=Za0 hE ha
   have:vl σ (.fc t y)=some (.iface t (r.ev a)):=by simp only[vl,e1]
   have hk:=hK _ this
   cases d <;> first|(simp only[hu];exact hk)|exact (hn _ rfl).elim
  ·cases h
 |slice t a l hh m=>
  simp only[ho] at h ⊢;split at h
  ·rename_i hu;simp only[hu];unfold sstX at h;split at h
   ·rename_i q ha;split at h
    ·rename_i i j hi hj;split at h
     ·rename_i h1 h2;obtain rfl:=Option.some.inj h;have e1:=Za0 hE ha;simp only[vl,Option.some.injEq] at e1;rw[<-e1];refine⟨str q,i,j,rfl,Zab hE hi,by rw[Zan];exact Zab hE hj,Nat.le_of_ble_eq_true h1,by rw[Zan];exact Nat.le_of_ble_eq_true h2,hK _ ?_⟩;rw[Znz];rfl
     ·cases h
    ·cases h
   ·cases h
  ·rename_i e hu;split at h
   ·rename_i inf hi;simp only[hu,hi];exact Zoo hE h λv hv=>hK v hv
   ·cases h
  ·rename_i q e hu;simp only[hu];exact Zoh hM hu hE h λv hv=>hK v hv
  ·cases h
 |extract a i=>simp only[ho] at h ⊢;exact Zpt hE h λv hv=>hK v hv
 |build t ps=>
  simp only[ho] at h ⊢;split at h
  ·rename_i xs hx;obtain⟨v,g1,g2⟩:=Zly (w:=w) (qs:=bmap r.ev ps) h (by rw[Zbu hE hx];rfl);exact⟨v,g2,hK _ g1⟩
  ·cases h
 |call c=>
  simp only[ho] at h ⊢
  have mm:∀ mx xs,xargs ρ c.args.toList=some xs->mmX mx xs=some x->∃ k a,∃ bs:List Int,amap r.ev c.args=(Value.int k a::bs.map (Value.int k)).toArray/\vl σ x=some (.int k (bs.foldl (mmR mx) a)):=by
   intro mx xs hx hm;obtain⟨k,a,bs,rfl,rfl⟩:=mm_ok hm;have:=Za5 hE hx;obtain⟨v1,vs1,e1,e2,e3⟩:=Za1 this;rw[Ziy] at e2;obtain rfl:=Option.some.inj e2;simp only[vl,Option.some.injEq] at e1;subst e1;exact⟨k,a,bs,by unfold amap;rw[e3],rfl⟩
  split at h
  ·rename_i hc;simp only[hc];split at h
   ·rename_i t ts y ys h1 h2;obtain⟨v1,vs1,e1,e2,e3⟩:=Za1 (Za5 hE h2);rw[h1,e3];simp only;split at h
    ·rename_i l hu;obtain rfl:=Option.some.inj h;simp only[vl,Option.some.injEq] at e1;rw[hu];refine⟨str l,e1.symm,hK _ ?_⟩;rw[Zan];rfl
    ·rename_i e a n q hu;obtain rfl:=Option.some.inj h;rw[hu]
     cases a with
     |none=>
      simp only[vl,Option.some.injEq] at e1;exact⟨none,n,q,e1.symm,hK _ rfl⟩
     |some a=>
      simp only[vl] at e1
      cases hs:σ a.1 with
      |none=>rw[hs] at e1;cases e1
      |some z=>rw[hs] at e1;exact⟨_,n,_,(Option.some.inj e1).symm,hK _ rfl⟩
    ·rename_i a b o q hu;obtain rfl:=Option.some.inj h;rw[hu];obtain⟨p,m,rfl⟩:=vl_es e1;exact⟨_,0,_,rfl,hK _ rfl⟩
    ·rename_i k e b hu;obtain⟨u,g1,g2⟩:=Zq6 hM (ty:=o.type) hu h e1;rw[hu];refine⟨u,?_,hK _ g1⟩;have:=g2 ts vs1
     have ea:amap r.ev c.args=(v1::vs1).toArray:=by unfold amap;rw[e3]
     have et:c.argTypes=(t::ts).toArray:=by rw[<-h1]
     rw[ea,et];exact this
    ·cases h
   ·cases h
  ·rename_i hc;simp only[hc];have:=Zol (P:=P) (σ:=σ) (w:=w) (ty:=o.type) (K:=λv=>K v w) h (λl hl=>Za5 hE hl) λv hv=>hK v hv;exact this
  ·rename_i hc;simp only[hc];split at h
   ·rename_i xs hx;obtain⟨k,a,bs,e1,e2⟩:=mm false xs hx h;rw[e1];exact⟨_,(Ziz k w bs a).1,hK _ e2⟩
   ·cases h
  ·rename_i hc;simp only[hc];split at h
   ·rename_i xs hx;obtain⟨k,a,bs,e1,e2⟩:=mm true xs hx h;rw[e1];exact⟨_,(Ziz k w bs a).2,hK _ e2⟩
   ·cases h
  ·cases h
 |_=>simp only[ho] at h;cases h
end
end Go.Ev
/- A verified evaluator for closed calls, fifth part: operations that turn memory. No program in sight. -/
namespace Go.Ev
open Go Go.Vc
noncomputable section
variable {P:Program}{base:Bs}{w0:World}{σ:Sg}{s:St}{w w':World}{ρ:T X}{r:Env}
structure Wo (P:Program) (base:Bs) (w0:World) (σ:Sg) (s:St) (w:World):Prop where
 mem:Mem P base σ s w
 fresh:Fresh base σ s
 fram:Fram base w0 w
theorem Wo.drew (h:Wo P base w0 σ s w):Wo P base w0 σ s w.drew:=⟨h.mem.drew,h.fresh,h.fram.drew⟩
theorem Zg6:∀ (us l:List Value) (o:Nat),o+us.length<=l.length->setL l o us=l.take o++us++l.drop (o+us.length)
 |[],l,o,h=>by simp[setL]
 |u::us,l,o,h=>by
  simp only[List.length_cons] at h;rw[setL,Zg6 us (l.set o u) (o+1) (by rw[List.length_set];omega)]
  have h1:(l.set o u).take (o+1)=l.take o++[u]:=by
   rw[gO,List.take_set_of_le (Nat.le_refl _),List.getElem?_set_self (by omega)];rfl
  have h2:(l.set o u).drop (o+1+us.length)=l.drop (o+(us.length+1)):=by
   rw[List.drop_set_of_lt (by omega)]
   congr 1
   omega
  rw[h1,h2];simp
theorem Zcl {b:Nat}{t:TypeId}{fz:Nat × Nat}:∀ (vs:List Value){w:World}{cs:List Value}(o:Nat),w.heap[b]?=some (.cells cs.toArray t fz)->
  (w.setCells b o vs).heap[b]?=some (.cells (setL cs o vs).toArray t fz)/\∀ c,c≠b->(w.setCells b o vs).heap[c]?=w.heap[c]?
 |[],w,cs,o,h=>⟨h,λ_ _=>rfl⟩
 |v::r,w,cs,o,h=>by
  have h1:(w.setCell ⟨b,o,none⟩ v).heap[b]?=some (.cells (cs.set o v).toArray t fz):=by simp[World.setCell,Array.getElem?_modify,h]
  have h2:∀ c,c≠b->(w.setCell ⟨b,o,none⟩ v).heap[c]?=w.heap[c]?:=λc hc=>by
   simp only[World.setCell,Array.getElem?_modify];rw[if_neg (by simpa using λh=>hc h.symm)]
  obtain⟨g1,g2⟩:=Zcl r (o+1) h1;exact⟨g1,λc hc=>(g2 c hc).trans (h2 c hc)⟩
theorem Zbt:∀ (vs:List Value) (w:World) (b o:Nat),Same w (w.setCells b o vs)
 |[],w,_,_=>.refl w
 |v::r,w,b,o=>(Same.setCell w _ v).trans (Zbt r _ b (o+1))
theorem Own.write {b e:Nat}{cs:List X}{rb off k:Nat}{pre vs sp post:List Value}(g:Own P base σ w b e cs rb off k pre vs sp post) (o:Nat) (us:List Value) (ho:o+us.length<=vs.length+sp.length) :
  (∃ fz:Nat × Nat,(w.setCells rb (off+o) us).heap[rb]?=some (.cells (pre++((vs++sp).take o++us++(vs++sp).drop (o+us.length))++post).toArray e fz)/\∀ q,q < (pre++vs++sp++post).length->¬ (fz.1<=q/\q < fz.2))/\
   (∀ c x,c≠rb->w.heap[c]?=some x->(w.setCells rb (off+o) us).heap[c]?=some x):=by
 obtain⟨fz,hh,hz⟩:=g.heap;obtain⟨g1,g2⟩:=Zcl us (off+o) hh;refine⟨⟨fz,?_,hz⟩,λc x hc hx=>(g2 c hc).trans hx⟩;rw[g1]
 congr 3
 have hp:=g.pre_;rw[Zg6 us _ _ (by simp;omega)]
 have e1:pre++vs++sp++post=pre++((vs++sp)++post):=by simp
 rw[e1,<-hp,List.take_append,gK (by omega),Nat.add_sub_cancel_left,List.take_append_of_le_length (by simp;omega),List.drop_append,List.drop_of_length_le (by omega),hO_,
  show pre.length+o+us.length - pre.length=o+us.length by omega,List.drop_append_of_le_length (by simp;omega)]
 simp
def stX (s:St) (a:Nat × Nat) (x:X):Option St:=match s.blk a.1 with
 |some c=>(match Nat.blt a.2 c.2.length with
  |true=>some (s.put a.1 (some (c.1,c.2.set a.2 x)))
  |false=>none)
 |none=>none
def flatX:X->Bool
 |.g _|.t _=>false
 |_=>true
theorem Zie {x:X}{v:Value}(h:flatX x=true) (hv:vl σ x=some v):sg v=true:=by
 cases x with
 |g xs=>cases h
 |t xs=>cases h
 |b c=>simp only[vl,Option.some.injEq] at hv;subst hv;rfl
 |i k n=>simp only[vl,Option.some.injEq] at hv;subst hv;rfl
 |s l=>simp only[vl,Option.some.injEq] at hv;subst hv;rfl
 |ni=>simp only[vl,Option.some.injEq] at hv;subst hv;rfl
 |nf=>simp only[vl,Option.some.injEq] at hv;subst hv;rfl
 |p a=>
  cases a with
  |none=>simp only[vl,Option.some.injEq] at hv;subst hv;rfl
  |some a=>
   simp only[vl] at hv
   cases hs:σ a.1 with
   |none=>rw[hs] at hv;cases hv
   |some r=>rw[hs] at hv;obtain rfl:=Option.some.inj hv;rfl
 |l a n c=>
  cases a with
  |none=>simp only[vl,Option.some.injEq] at hv;subst hv;rfl
  |some a=>
   simp only[vl] at hv
   cases hs:σ a.1 with
   |none=>rw[hs] at hv;cases hv
   |some r=>rw[hs] at hv;obtain rfl:=Option.some.inj hv;rfl
 |fc t x=>
  simp only[vl] at hv
  cases hs:vl σ x with
  |none=>rw[hs] at hv;cases hv
  |some r=>rw[hs] at hv;obtain rfl:=Option.some.inj hv;rfl
 |f fn a c=>
  simp only[vl] at hv
  cases hs:vls σ a with
  |none=>rw[hs] at hv;cases hv
  |some r=>
   cases hc:vls σ c with
   |none=>rw[hs,hc] at hv;cases hv
   |some r'=>rw[hs,hc] at hv;obtain rfl:=Option.some.inj hv;rfl
 |m a=>
  cases a with
  |none=>simp only[vl,Option.some.injEq] at hv;subst hv;rfl
  |some a=>
   simp only[vl] at hv
   cases hs:σ a with
   |none=>rw[hs] at hv;cases hv
   |some r=>rw[hs] at hv;obtain rfl:=Option.some.inj hv;rfl
 |e0 b o q=>
  simp only[vl] at hv
  cases hs:σ b with
  |none=>rw[hs] at hv;cases hv
  |some r=>rw[hs] at hv;obtain rfl:=Option.some.inj hv;rfl
def flatXs:List X->Bool
 |[]=>true
 |x::r=>match flatX x with
  |true=>flatXs r
  |false=>false
theorem Zb6:∀ {xs:List X}{vs:List Value},flatXs xs=true->vls σ xs=some vs->vs.all sg=true
 |[],vs,_,h=>by simp only[vls,Option.some.injEq] at h;subst h;rfl
 |x::r,vs,hf,h=>by
  obtain⟨v,us,h1,h2,rfl⟩:=Za1 h;simp only[flatXs] at hf
  cases hx:flatX x with
  |false=>rw[hx] at hf;cases hf
  |true=>
   rw[hx] at hf;rw[List.all_cons,Zie hx h1,Zb6 hf h2];rfl
theorem Zfg {vs us:List Value}{o:Nat}(h1:vs.all sg=true) (h2:us.all sg=true) (n:Nat):(vs.take o++us++vs.drop n).all sg=true:=by
 rw[List.all_append,List.all_append,Bool.and_eq_true,Bool.and_eq_true];refine⟨⟨all_eq_true.2 λx hx=>all_eq_true.1 h1 x (List.mem_of_mem_take hx),h2⟩,all_eq_true.2 λx hx=>all_eq_true.1 h1 x (List.mem_of_mem_drop hx)⟩
theorem Wo.write (h:Wo P base w0 σ s w){b e:Nat}{cs xs:List X}{us:List Value}{o:Nat}(hb:s.blk b=some (e,cs)) (hx:vls σ xs=some us) (hf:us.all sg=true) (ho:o+xs.length<=cs.length){q:Nat × Nat × Nat}(hq:σ b=some q) :
  Wo P base w0 σ (s.put b (some (e,setLX cs o xs))) (w.setCells q.1 (q.2.1+o) us)/\(∀ j,j < us.length->(w.cell? ⟨q.1,q.2.1+o+j,none⟩).isSome=true/\w.frozen? ⟨q.1,q.2.1+o+j,none⟩=false):=by
 obtain⟨rb,off,k,pre,vs,sp,post,g⟩:=h.mem.own b e cs hb;have hg:=g.sg_;rw[hq] at hg;obtain rfl:=Option.some.inj hg;have l1:=Zac g.val;have l2:=Zac hx;obtain⟨⟨fz,h1,hz⟩,h2⟩:=g.write o us (by omega);refine⟨⟨h.mem.upd hb (w':=w.setCells rb (off+o) us) (post:=post) ⟨g.sg_,Zd4 o g.val hx,g.pre_,g.sp_,⟨fz,?_,λq hq=>hz q ?_⟩,g.low,?_,g.mul_,g.nsp⟩ h2,h.fresh,h.fram.upd (Zbt _ _ _ _) g.low h2⟩,λj hj=>⟨?_,?_⟩⟩
 ·show (w.setCells rb (off+o) us).heap[rb]?=_;rw[h1,Zg6 us vs o (by omega),List.take_append_of_le_length (by omega),List.drop_append_of_le_length (by omega)];simp
 ·have:=Zj1 us vs o;simp only[gD] at hq ⊢;omega
 ·rw[Zg6 us vs o (by omega)];exact Zfg g.flat hf _
 ·show (w.cell? ⟨rb,off+o+j,none⟩).isSome=true;rw[hG_,g.cell (by omega)];simp;omega
 ·show w.frozen? ⟨rb,off+o+j,none⟩=false;rw[hG_];exact g.nofz (by have:=g.pre_;simp only[gD];omega)
def sizeX (P:Program) (t:TypeId):Option (Nat × Nat):=match P.info? t with
 |some i=>some (i.size,i.bytes)
 |none=>none
def srcX (P:Program) (s:St) (k:Nat) (tx:TypeId) (y:X):Option (Nat × List X):=match P.underlying tx,y with
 |some .string,.s l=>(match Nat.beq k 1 with
  |true=>some (l.length,l.map λm=>.i .u8 ((m%256:Nat):Int))
  |false=>none)
 |some (.slice _),.l none 0 _=>some (0,[])
 |some (.slice _),.e0 _ _ _=>some (0,[])
 |some (.slice _),.l (some b) m _=>(match s.blk b.1 with
  |some c=>(match Nat.beq ((c.2.drop b.2).take (m*k)).length (m*k) with
   |true=>some (m,(c.2.drop b.2).take (m*k))
   |false=>none)
  |none=>none)
 |_,_=>none
theorem Zob (hM:Mem P base σ s w){k:Nat}{tx:TypeId}{y:X}{v:Value}{n:Nat}{xs:List X}(h:srcX P s k tx y=some (n,xs)) (hv:vl σ y=some v):∃ us,vls σ xs=some us/\us.all sg=true/\Src P k tx v n us w:=by
 unfold srcX at h;split at h
 ·rename_i l hu;split at h
  ·rename_i hk;obtain rfl:=Nat.eq_of_beq_eq_true hk;simp only[Option.some.injEq,Prod.mk.injEq] at h;obtain⟨rfl,rfl⟩:=h;simp only[vl,Option.some.injEq] at hv;subst hv
   have hb:byteCells (str l)=l.map λm=>Value.int .u8 ((m%256:Nat):Int):=by
    unfold byteCells str;simp
   have hs:=Src.ofString (P:=P) w hu (str l);rw[Zan,hb] at hs;refine⟨_,?_,?_,hs⟩
   ·clear hs hb
    induction l with
    |nil=>rfl
    |cons c l ih=>exact Zas rfl ih
   ·simp[sg]
  ·cases h
 ·rename_i e c hu;simp only[Option.some.injEq,Prod.mk.injEq] at h;obtain⟨rfl,rfl⟩:=h;simp only[vl,Option.some.injEq] at hv;subst hv;exact⟨[],rfl,rfl,Src.ofNil (P:=P) w hu _⟩
 ·rename_i e b o q hu;simp only[Option.some.injEq,Prod.mk.injEq] at h;obtain⟨rfl,rfl⟩:=h;simp only[vl] at hv
  cases hs:σ b with
  |none=>rw[hs] at hv;cases hv
  |some r=>
   rw[hs] at hv;obtain rfl:=Option.some.inj hv;exact⟨[],rfl,rfl,Src.ofSlice (P:=P) w hu _ 0 _ [] (by simp) (λj v hj=>by simp at hj) (λv hv=>by simp at hv)⟩
 ·rename_i e b m c hu;split at h
  ·rename_i cb hb;split at h
   ·rename_i hl;simp only[Option.some.injEq,Prod.mk.injEq] at h;obtain⟨rfl,rfl⟩:=h;obtain⟨be,cs⟩:=cb;obtain⟨rb,off,kk,pre,vs,sp,post,g⟩:=hM.own b.1 be cs hb;simp only[vl,g.sg_,Option.some.injEq] at hv;subst hv;have h3:=Zah (m*k) (Zam b.2 g.val);have h5:=Nat.eq_of_beq_eq_true hl;rw[Zac h3] at h5;have hfl:((vs.drop b.2).take (m*k)).all sg=true:=all_eq_true.2 λx hx=>all_eq_true.1 g.flat x (List.mem_of_mem_drop (List.mem_of_mem_take hx));refine⟨_,h3,hfl,Src.ofSlice (P:=P) w hu _ m _ _ h5 (λj u hj=>?_) λu hu2=>Zlc (all_eq_true.1 hfl u hu2)⟩;rw[add_off];have hj2:=hj;rw[hI_ (by have:=(gH.1 hj).1;omega),hH_] at hj2;show w.cell? ⟨rb,off+b.2+j,none⟩=_;rw[show off+b.2+j=off+(b.2+j) by omega,g.cell (gH.1 hj2).1,hj2]
   ·cases h
  ·cases h
 ·cases h
end
end Go.Ev
/- Rules for rows that are read wherever they lie. No program in sight but the engine's. -/
namespace Go.Proofs.YthhkodlnfogkgaaGreatDoor
open Go Go.Vc Go.Proofs.Tryz
namespace S4r
section
variable {α:Type}{P:Program}{w:World}{L:List HProp}
def InG (F:α->List Value) (k:Nat) (L:List HProp) (a:Option Addr) (xs:List α):Prop:=
 ∀ w',Holds w' L->∀ i x,xs[i]?=some x->∃ p:Addr,a=some p/\∀ j v,(F x)[j]?=some v->w'.cell? ((p.add (i*k)).add j)=some v
theorem InG.up {F:α->List Value}{k:Nat}{a:Option Addr}{xs:List α}{Q:HProp}(h:InG F k L a xs):InG F k (Q::L) a xs:=λw' H=>h w' H.drop
theorem r_ldG {F:α->List Value}{k:Nat}{a:Option Addr}{xs:List α}{x:α}{i l c:Nat}{q:IntKind}{K:Value->Prop}(hT:InG F k L a xs) (H:Holds w L) (hx:xs[i]?=some x) (hk:(F x).length=k) (hi:i < l) (h:K (.agg (F x).toArray)) :
  Ias k (.slice a l c) (.int q (i:Int)) λy=>LdA k y w K:=by
 obtain⟨p,rfl,hc⟩:=hT w H i x hx;refine Zke hi ?_;refine Zmz (cs:=(F x).toArray) (by simpa using hk) (λj v hv=>hc j v (by simpa using hv)) h
theorem Zi8 {F:α->List Value}{k:Nat}(hF:∀ x,(F x).length=k):∀ (xs:List α) (q:Nat) (u:Value),(flatL F xs)[q]?=some u->∃ i j x,xs[i]?=some x/\(F x)[j]?=some u/\q=i*k+j
 |[],q,u,h=>by simp[flatL] at h
 |y::r,q,u,h=>by
  rw[flatL] at h;rcases hU_ q (F y).length with h1|h1
  ·rw[gM h1] at h;exact⟨0,q,y,rfl,h,by omega⟩
  ·rw[gT h1] at h;obtain⟨i,j,x,h2,h3,h4⟩:=Zi8 hF r _ u h;refine⟨i+1,j,x,by simpa using h2,h3,?_⟩;rw[hF] at h1 h4;rw[Nat.add_mul];omega
theorem InG.own {F:α->List Value}{k:Nat}{e:TypeId}{oa:Option Addr}{n c:Nat}{xs:List α}(i:Nat) (hi:L[i]?=some (RW F k e (.slice oa n c) xs)) (hF:∀ x,(F x).length=k):InG F k L oa xs:=by
 intro w' H' q x hx;obtain⟨oa',m,sp,hv,H1⟩:=H'.openRW i hi;cases hv;have hlt:q < xs.length:=(gH.1 hx).1;obtain⟨b,rfl,hsp,Hb⟩:=H1.rwb i (Za7 hi) (.inl (by omega));refine⟨⟨b,0,none⟩,rfl,λj v hj=>?_⟩
 have hjk:j < k:=by have:=(gH.1 hj).1;rw[hF] at this;exact this
 have h1:=Zdw hF xs q x hx
 have h2:(flatL F xs)[q*k+j]?=some v:=by
  have:((flatL F xs).drop (q*k)).take k=F x:=h1;rw[<-this,hI_ hjk,hH_] at hj;exact hj
 rw[Addr.add_add]
 have e1:(⟨b,0,none⟩:Addr).add (q*k+j)=⟨b,q*k+j,none⟩:=by
  unfold Addr.add;split
  ·rename_i h;rw[h]
  ·simp
 rw[e1,Hb.cell i (by rw[set_set];exact Za7 hi) (q*k+j),gM (gH.1 h2).1];exact h2
end
end S4r
end Go.Proofs.YthhkodlnfogkgaaGreatDoor
