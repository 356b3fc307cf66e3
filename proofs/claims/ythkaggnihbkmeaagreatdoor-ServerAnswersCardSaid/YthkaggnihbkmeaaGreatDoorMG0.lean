/- Several texts in one: M31, M3x, Sl, Sq, Sr, St, Sh, J30, Su, S4r, Lm, Si, J31, J32, J33, Fr. -/
import Derived.WalkKit
import Derived.Test.YthkaggnihbkmeaaGreatDoorVc
import Derived.Deep.DeepAppendRoom
import Derived.Laws.RangeString
import Derived.Lib.OthersKept
import Derived.Shelf.Lays
import Derived.Shelf.Unicode.DecodeAny
import Derived.Ground.NamesProg
import Derived.Test.YthkaggnihbkmeaaGreatDoorProg
import Derived.Test.YthkaggnihbkmeaaGreatDoorFm
import Derived.Deep.Upon
import Derived.Laws.CopyRow
import Derived.Laws.IdiomCopy
import Derived.Laws.IdiomStrings
set_option linter.unusedVariables false
set_option linter.unusedSimpArgs false
open Go.RowKit (intOf)
open List (drop_zero getElem?_set_ne length_nil mem_append mem_of_getElem? set_set size_toArray)
namespace Go.M31
def byt (l:List UInt8) (i:Nat):Nat:=(l.getD i 0).toNat
def goesOn (l:List UInt8) (i:Nat):Bool:=decide (i < l.length)&&decide (128<=byt l i)&&decide (byt l i < 192)
def wideN (l:List UInt8) (bytes:Nat):Nat->Nat->Int->Option Int
 |0,_,n=>some n
 |f+1,i,n=>if i < bytes then (if goesOn l i then wideN l bytes f (i+1) (64*n+(byt l i:Int) - 128) else none) else some n
def startW (c:Int) (bytes:Nat):Int:=if bytes=2 then c - 192 else if bytes=3 then c - 224 else if bytes=4 then c - 240 else c
def least (bytes:Nat):Int:=if bytes=3 then 2048 else if bytes=4 then 65536 else 128
def wideR (n:Int) (bytes:Nat):Int × Nat:=if n < least bytes\/1114111 < n\/(55296<=n/\n<=57343) then (0,0) else (n,bytes)
def wide (l:List UInt8) (bytes:Nat):Int × Nat:=
 match wideN l bytes 4 1 (startW (byt l 0) bytes) with
 |none=>(0,0)
 |some n=>wideR n bytes
def firstW (l:List UInt8):Int × Nat:=
 if 192<=byt l 0/\byt l 0 < 224 then wide l 2 else if 224<=byt l 0/\byt l 0 < 240 then wide l 3 else if 240<=byt l 0/\byt l 0 < 248 then wide l 4 else (0,0)
def first (l:List UInt8):Int × Nat:=
 if byt l 0 < 128 then (byt l 0,1) else if (firstW l).2=0 then (-1,1) else firstW l
theorem wideN2 (l:List UInt8) (n:Int):wideN l 2 4 1 n=if goesOn l 1 then some (64*n+(byt l 1:Int) - 128) else none:=by
 simp[wideN]
theorem wideN3 (l:List UInt8) (n:Int):wideN l 3 4 1 n=if goesOn l 1 then (if goesOn l 2 then some (64*(64*n+(byt l 1:Int) - 128)+(byt l 2:Int) - 128) else none) else none:=by
 simp[wideN]
theorem wideN4 (l:List UInt8) (n:Int):wideN l 4 4 1 n=if goesOn l 1 then (if goesOn l 2 then (if goesOn l 3 then some (64*(64*(64*n+(byt l 1:Int) - 128)+(byt l 2:Int) - 128)+(byt l 3:Int) - 128) else none) else none) else none:=by
 simp[wideN]
theorem Zaj (l:List UInt8) (i:Nat):goesOn l i=true↔i < l.length/\128<=byt l i/\byt l i < 192:=by
 simp[goesOn,and_assoc]
theorem Zic {n:Int}{b:Nat}(h:(wideR n b).2≠0):¬ (n < least b\/1114111 < n\/(55296<=n/\n<=57343))/\wideR n b=(n,b):=by
 unfold wideR at h ⊢
 by_cases hv:n < least b\/1114111 < n\/(55296<=n/\n<=57343)
 ·rw[if_pos hv] at h;exact absurd rfl h
 ·exact⟨hv,if_neg hv⟩
theorem Zbx (l:List UInt8) (h:(wide l 2).2≠0):goesOn l 1=true/\∃ n:Int,n=64*((byt l 0:Int) - 192)+(byt l 1:Int) - 128/\128<=n/\wide l 2=(n,2):=by
 unfold wide at h ⊢;rw[wideN2] at h ⊢
 cases g1:goesOn l 1 with
 |false=>simp[g1] at h
 |true=>
  simp only[g1,if_true] at h ⊢;obtain⟨h1,h2⟩:=Zic h;have h3:least 2=128:=rfl;exact⟨trivial,_,rfl,by unfold startW at h1;simp only[if_true] at h1;omega,h2⟩
theorem Zc0 (l:List UInt8) (h:(wide l 3).2≠0):goesOn l 1=true/\goesOn l 2=true/\∃ n:Int,n=64*(64*((byt l 0:Int) - 224)+(byt l 1:Int) - 128)+(byt l 2:Int) - 128/\2048<=n/\n<=1114111/\¬ (55296<=n/\n<=57343)/\wide l 3=(n,3):=by
 unfold wide at h ⊢;rw[wideN3] at h ⊢
 cases g1:goesOn l 1 with
 |false=>simp[g1] at h
 |true=>
  cases g2:goesOn l 2 with
  |false=>simp[g1,g2] at h
  |true=>
   simp only[g1,g2,if_true] at h ⊢;obtain⟨h1,h2⟩:=Zic h;have h3:least 3=2048:=rfl;have h4:startW (byt l 0) 3=(byt l 0:Int) - 224:=rfl;rw[h4] at h1 h2 ⊢;exact⟨trivial,trivial,_,rfl,by omega,by omega,by omega,h2⟩
theorem Zbz (l:List UInt8) (h:(wide l 4).2≠0):goesOn l 1=true/\goesOn l 2=true/\goesOn l 3=true/\∃ n:Int,n=64*(64*(64*((byt l 0:Int) - 240)+(byt l 1:Int) - 128)+(byt l 2:Int) - 128)+(byt l 3:Int) - 128/\65536<=n/\n<=1114111/\¬ (55296<=n/\n<=57343)/\wide l 4=(n,4):=by
 unfold wide at h ⊢;rw[wideN4] at h ⊢
 cases g1:goesOn l 1 with
 |false=>simp[g1] at h
 |true=>
  cases g2:goesOn l 2 with
  |false=>simp[g1,g2] at h
  |true=>
   cases g3:goesOn l 3 with
   |false=>simp[g1,g2,g3] at h
   |true=>
    simp only[g1,g2,g3,if_true] at h ⊢;obtain⟨h1,h2⟩:=Zic h;have h3:least 4=65536:=rfl;have h4:startW (byt l 0) 4=(byt l 0:Int) - 240:=rfl;rw[h4] at h1 h2 ⊢;exact⟨trivial,trivial,trivial,_,rfl,by omega,by omega,by omega,h2⟩
theorem first_spec (l:List UInt8):(byt l 0 < 128/\first l=((byt l 0:Int),1))\/first l=(-1,1) \/
  (192<=byt l 0/\byt l 0 < 224/\(wide l 2).2≠0/\first l=wide l 2)\/(224<=byt l 0/\byt l 0 < 240/\(wide l 3).2≠0/\first l=wide l 3)\/(240<=byt l 0/\byt l 0 < 248/\(wide l 4).2≠0/\first l=wide l 4):=by
 unfold first
 by_cases h1:byt l 0 < 128
 ·exact .inl ⟨h1,if_pos h1⟩
 ·rw[if_neg h1]
  by_cases hz:(firstW l).2=0
  ·exact .inr (.inl (if_pos hz))
  ·rw[if_neg hz];unfold firstW at hz ⊢
   by_cases h2:192<=byt l 0/\byt l 0 < 224
   ·rw[if_pos h2] at hz ⊢;exact .inr (.inr (.inl ⟨h2.1,h2.2,hz,rfl⟩))
   ·rw[if_neg h2] at hz ⊢
    by_cases h3:224<=byt l 0/\byt l 0 < 240
    ·rw[if_pos h3] at hz ⊢;exact .inr (.inr (.inr (.inl ⟨h3.1,h3.2,hz,rfl⟩)))
    ·rw[if_neg h3] at hz ⊢
     by_cases h4:240<=byt l 0/\byt l 0 < 248
     ·rw[if_pos h4] at hz ⊢;exact .inr (.inr (.inr (.inr ⟨h4.1,h4.2,hz,rfl⟩)))
     ·rw[if_neg h4] at hz;exact absurd rfl hz
theorem Zco (l:List UInt8):1<=(first l).2/\(first l).2<=4:=by
 rcases first_spec l with⟨_,h⟩|h|⟨_,_,hz,h⟩|⟨_,_,hz,h⟩|⟨_,_,hz,h⟩
 ·rw[h];simp
 ·rw[h];simp
 ·obtain⟨_,n,_,_,e⟩:=Zbx l hz;rw[h,e];simp
 ·obtain⟨_,_,n,_,_,_,_,e⟩:=Zc0 l hz;rw[h,e];simp
 ·obtain⟨_,_,_,n,_,_,_,_,e⟩:=Zbz l hz;rw[h,e];simp
theorem Zjj (l:List UInt8) (h0:0 < l.length):(first l).2<=l.length:=by
 rcases first_spec l with⟨_,h⟩|h|⟨_,_,hz,h⟩|⟨_,_,hz,h⟩|⟨_,_,hz,h⟩
 ·rw[h];simp only;omega
 ·rw[h];simp only;omega
 ·obtain⟨g1,n,_,_,e⟩:=Zbx l hz;rw[h,e];have:=(Zaj l 1).1 g1;simp only;omega
 ·obtain⟨_,g1,n,_,_,_,_,e⟩:=Zc0 l hz;rw[h,e];have:=(Zaj l 2).1 g1;simp only;omega
 ·obtain⟨_,_,g1,n,_,_,_,_,e⟩:=Zbz l hz;rw[h,e];have:=(Zaj l 3).1 g1;simp only;omega
theorem Zmp (s:ByteArray) (p k:Nat):(s.get! (p+k)).toNat=byt (s.data.toList.drop p) k:=by
 unfold byt;rw[gB,hH_]
 cases s with
 |mk d=>
  show (d[p+k]!).toNat=_;rw[getElem!_def];simp;rfl
theorem Zd4 (s:ByteArray) (p:Nat) (n:Nat) (k:Nat) (h:first (s.data.toList.drop p)=((n:Int),k)):Utf8.decode s p=(n,k):=by
 have hg:=Zmp s p
 have hsz:s.size=s.data.toList.length:=by simp
 have hc:∀ j,(decide (p+j < s.size)&&(byt (s.data.toList.drop p) j/64==2))=goesOn (s.data.toList.drop p) j:=by
  intro j;rw[Bool.eq_iff_iff,Zaj,Bool.and_eq_true,decide_eq_true_iff,beq_iff_eq,gS,hsz];omega
 unfold Utf8.decode;simp only[hg,hc];generalize hl:s.data.toList.drop p=l at h;have h2:=Zaj l 1;have h3:=Zaj l 2;have h4:=Zaj l 3;have b0:byt l 0 < 256:=UInt8.toNat_lt _;rcases first_spec l with⟨hlt,e⟩|e|⟨r1,r2,hz,e⟩|⟨r1,r2,hz,e⟩|⟨r1,r2,hz,e⟩
 ·rw[e] at h;simp only[Prod.mk.injEq] at h;obtain⟨h5,h6⟩:=h;rw[if_pos hlt,show byt l 0=n by omega,h6]
 ·rw[e] at h;simp only[Prod.mk.injEq] at h;omega
 ·obtain⟨g1,m,hm,hm1,e2⟩:=Zbx l hz;rw[e,e2] at h;simp only[Prod.mk.injEq] at h;obtain⟨h5,rfl⟩:=h;have g1':=h2.1 g1
  have e3:byt l 0%32*64+byt l 1%64=n:=by omega
  rw[if_neg (by omega),if_pos (by rw[g1];simp;omega),e3,if_pos (by omega)]
 ·obtain⟨g1,g2,m,hm,hm1,hm2,hm3,e2⟩:=Zc0 l hz;rw[e,e2] at h;simp only[Prod.mk.injEq] at h;obtain⟨h5,rfl⟩:=h;have g1':=h2.1 g1;have g2':=h3.1 g2
  have e3:byt l 0%16*4096+byt l 1%64*64+byt l 2%64=n:=by omega
  rw[if_neg (by omega),if_neg (by simp;omega),if_pos (by rw[g1,g2];simp;omega),e3,if_pos (by
   unfold Utf8.valid;simp
   omega)]
 ·obtain⟨g1,g2,g3,m,hm,hm1,hm2,hm3,e2⟩:=Zbz l hz;rw[e,e2] at h;simp only[Prod.mk.injEq] at h;obtain⟨h5,rfl⟩:=h;have g1':=h2.1 g1;have g2':=h3.1 g2;have g3':=h4.1 g3
  have e3:byt l 0%8*262144+byt l 1%64*4096+byt l 2%64*64+byt l 3%64=n:=by omega
  rw[if_neg (by omega),if_neg (by simp;omega),if_neg (by simp;omega),if_pos (by rw[g1,g2,g3];simp;omega),e3,if_pos (by
   unfold Utf8.valid;simp
   omega)]
theorem repl (l:List UInt8) (k:Nat) (h:first l=(65533,k)):k=3/\byt l 0=239/\byt l 1=191/\byt l 2=189/\3<=l.length:=by
 have h2:=Zaj l 1;have h3:=Zaj l 2;have h4:=Zaj l 3;rcases first_spec l with⟨hlt,e⟩|e|⟨r1,r2,hz,e⟩|⟨r1,r2,hz,e⟩|⟨r1,r2,hz,e⟩
 ·rw[e] at h;simp only[Prod.mk.injEq] at h;omega
 ·rw[e] at h;simp only[Prod.mk.injEq] at h;omega
 ·obtain⟨g1,m,hm,hm1,e2⟩:=Zbx l hz;rw[e,e2] at h;simp only[Prod.mk.injEq] at h;have g1':=h2.1 g1;omega
 ·obtain⟨g1,g2,m,hm,hm1,hm2,hm3,e2⟩:=Zc0 l hz;rw[e,e2] at h;simp only[Prod.mk.injEq] at h;have g1':=h2.1 g1;have g2':=h3.1 g2;omega
 ·obtain⟨g1,g2,g3,m,hm,hm1,hm2,hm3,e2⟩:=Zbz l hz;rw[e,e2] at h;simp only[Prod.mk.injEq] at h;omega
def mayR (n:Int):Prop:=n > 32/\(n < 127\/n > 160)/\n≠58/\n≠35
instance (n:Int):Decidable (mayR n):=by unfold mayR;infer_instance
def runes (l:List UInt8):List (Int × Nat):=
 if h:l=[] then [] else first l::runes (l.drop (first l).2)
termination_by l.length
decreasing_by
 have:=Zco l
 have:0 < l.length:=by cases l with|nil=>exact absurd rfl h|cons _ _=>simp
 rw[gS];omega
theorem Zeh:runes []=[]:=by rw[runes];simp
theorem Zdk {l:List UInt8}(h:0 < l.length):runes l=first l::runes (l.drop (first l).2):=by
 rw[runes,dif_neg (by intro e;subst e;simp at h)]
theorem Zgt (l:List UInt8):(runes l).length<=l.length:=by
 induction hn:l.length using Nat.strongRecOn generalizing l with
 |_ n ih=>
  subst hn;rcases Nat.eq_zero_or_pos l.length with h|h
  ·have:l=[]:=List.eq_nil_of_length_eq_zero h;subst this;simp[Zeh]
  ·rw[Zdk h];have h1:=Zco l;have h2:=ih (l.drop (first l).2).length (by rw[gS];omega) _ rfl;rw[gS] at h2;simp only[gY];omega
def word (l:List UInt8):Prop:=(∀ r∈runes l,mayR r.1)/\0 < (runes l).length/\(runes l).length<=32
end Go.M31
namespace Go.M31
theorem Zv4 {l:List UInt8}(h:(wide l 2).2=0) (g:goesOn l 1=true):64*((byt l 0:Int) - 192)+(byt l 1:Int) - 128 < 128\/1114111 < 64*((byt l 0:Int) - 192)+(byt l 1:Int) - 128\/(55296<=64*((byt l 0:Int) - 192)+(byt l 1:Int) - 128/\64*((byt l 0:Int) - 192)+(byt l 1:Int) - 128<=57343):=by
 unfold wide at h;rw[wideN2,g,if_pos rfl] at h;simp only[startW,if_pos] at h;unfold wideR at h;split at h
 ·rename_i h1;simpa [least] using h1
 ·cases h
theorem Zum {l:List UInt8}(h:(wide l 3).2=0) (g:goesOn l 1=true) (g2:goesOn l 2=true):∃ n:Int,n=64*(64*((byt l 0:Int) - 224)+(byt l 1:Int) - 128)+(byt l 2:Int) - 128/\(n < 2048\/1114111 < n\/(55296<=n/\n<=57343)):=by
 unfold wide at h;rw[wideN3,g,g2,if_pos rfl,if_pos rfl] at h;simp only[startW,if_pos,show ¬ (3:Nat)=2 by omega,if_false] at h;unfold wideR at h;split at h
 ·rename_i h1;exact⟨_,rfl,by simpa [least] using h1⟩
 ·cases h
theorem Zv3 {l:List UInt8}(h:(wide l 4).2=0) (g:goesOn l 1=true) (g2:goesOn l 2=true) (g3:goesOn l 3=true):∃ n:Int,n=64*(64*(64*((byt l 0:Int) - 240)+(byt l 1:Int) - 128)+(byt l 2:Int) - 128)+(byt l 3:Int) - 128/\(n < 65536\/1114111 < n\/(55296<=n/\n<=57343)):=by
 unfold wide at h;rw[wideN4,g,g2,g3,if_pos rfl,if_pos rfl,if_pos rfl] at h;simp only[startW,if_pos,show ¬ (4:Nat)=2 by omega,show ¬ (4:Nat)=3 by omega,if_false] at h;unfold wideR at h;split at h
 ·rename_i h1;exact⟨_,rfl,by simpa [least] using h1⟩
 ·cases h
theorem Zpu {l:List UInt8}(h:first l=(-1,1)):128<=byt l 0/\(firstW l).2=0:=by
 have hb:¬ byt l 0 < 128:=λhb=>by
  unfold first at h;rw[if_pos hb] at h;simp only[Prod.mk.injEq] at h;omega
 refine⟨by omega,?_⟩
 cases Nat.decEq (firstW l).2 0 with
 |isTrue e=>exact e
 |isFalse e=>
  unfold first at h;rw[if_neg hb,if_neg e] at h;exfalso;unfold firstW at h e;split at h
  ·rename_i hr;rw[if_pos hr] at e;obtain⟨_,n,_,hn,e2⟩:=Zbx l e;rw[e2] at h;simp only[Prod.mk.injEq] at h;omega
  ·rename_i hr1;rw[if_neg hr1] at e;split at h
   ·rename_i hr;rw[if_pos hr] at e;obtain⟨_,_,n,_,hn,_,_,e2⟩:=Zc0 l e;rw[e2] at h;simp only[Prod.mk.injEq] at h;omega
   ·rename_i hr2;rw[if_neg hr2] at e;split at h
    ·rename_i hr;rw[if_pos hr] at e;obtain⟨_,_,_,n,_,hn,_,_,e2⟩:=Zbz l e;rw[e2] at h;simp only[Prod.mk.injEq] at h;omega
    ·simp only[Prod.mk.injEq] at h;omega
theorem Zeg (s:ByteArray) (p:Nat) (h:first (s.data.toList.drop p)=(-1,1)):Utf8.decode s p=(65533,1):=by
 have hg:=Zmp s p
 have hsz:s.size=s.data.toList.length:=by simp
 have hc:∀ j,(decide (p+j < s.size)&&(byt (s.data.toList.drop p) j/64==2))=goesOn (s.data.toList.drop p) j:=by
  intro j;rw[Bool.eq_iff_iff,Zaj,Bool.and_eq_true,decide_eq_true_iff,beq_iff_eq,gS,hsz];omega
 unfold Utf8.decode;simp only[hg,hc];generalize hl:s.data.toList.drop p=l at h;have h2:=Zaj l 1;have h3:=Zaj l 2;have h4:=Zaj l 3;have b0:byt l 0 < 256:=UInt8.toNat_lt _;obtain⟨hb,hz⟩:=Zpu h;unfold firstW at hz;rw[if_neg (by omega)]
 by_cases c2:(byt l 0/32==6&&goesOn l 1)=true
 ·rw[if_pos c2];simp only[Bool.and_eq_true,beq_iff_eq] at c2;rw[if_pos (by omega)] at hz;have:=Zv4 hz c2.2;have g1:=h2.1 c2.2;rw[if_neg (by omega)];rfl
 rw[if_neg c2]
 by_cases c3:(byt l 0/16==14&&goesOn l 1&&goesOn l 2)=true
 ·rw[if_pos c3];simp only[Bool.and_eq_true,beq_iff_eq] at c3;rw[if_neg (by omega),if_pos (by omega)] at hz;obtain⟨n,hn,hv⟩:=Zum hz c3.1.2 c3.2;have g1:=h2.1 c3.1.2;have g2:=h3.1 c3.2;rw[if_neg (by unfold Utf8.valid;simp;omega)];rfl
 rw[if_neg c3]
 by_cases c4:(byt l 0/8==30&&goesOn l 1&&goesOn l 2&&goesOn l 3)=true
 ·rw[if_pos c4];simp only[Bool.and_eq_true,beq_iff_eq] at c4;rw[if_neg (by omega),if_neg (by omega),if_pos (by omega)] at hz;obtain⟨n,hn,hv⟩:=Zv3 hz c4.1.1.2 c4.1.2 c4.2;have g1:=h2.1 c4.1.1.2;have g2:=h3.1 c4.1.2;have g3:=h4.1 c4.2;rw[if_neg (by unfold Utf8.valid;simp;omega)];rfl
 rw[if_neg c4];rfl
end Go.M31
namespace Go.Vc
abbrev Hp:=Nat->Option Obj
abbrev HProp:=Hp->Prop
def Hp.sub (h g:Hp):Prop:=∀ b o,h b=some o->g b=some o
def Hp.minus (h g:Hp):Hp:=λb=>if (g b).isSome=true then none else h b
def Sat:List HProp->Hp->Prop
 |[],_=>True
 |P::L,h=>∃ g,P g/\g.sub h/\Sat L (h.minus g)
def hp (w:World):Hp:=λb=>w.heap[b]?
def Holds (w:World) (L:List HProp):Prop:=Sat L (hp w)
def blkO (b:Nat) (o:Obj):HProp:=λh=>h b=some o
def blk (b:Nat) (t:TypeId) (cs:List Value):HProp:=blkO b (.cells cs.toArray t)
def pur (p:Prop):HProp:=λ_=>p
structure Same (w w':World):Prop where
 os:w'.os=w.os
 tape:w'.tape=w.tape
 output:w'.output=w.output
 size:w.heap.size<=w'.heap.size
theorem Same.refl (w:World):Same w w:=⟨rfl,rfl,rfl,Nat.le_refl _⟩
theorem Same.trans {a b c:World}(h:Same a b) (k:Same b c):Same a c:=⟨k.os.trans h.os,k.tape.trans h.tape,k.output.trans h.output,Nat.le_trans h.size k.size⟩
theorem Sat.mono:∀ {L:List HProp}{h g:Hp},Sat L h->h.sub g->Sat L g
 |[],_,_,_,_=>trivial
 |P::L,h,g,⟨k,hp,hs,hL⟩,hg=>⟨k,hp,λb o hb=>hg b o (hs b o hb),hL.mono λb o hb=>by
  unfold Hp.minus at hb ⊢;split
  ·rename_i h1;rw[if_pos h1] at hb;cases hb
  ·rename_i h1;rw[if_neg h1] at hb;exact hg b o hb⟩
theorem Sat.swap {P Q:HProp}{L:List HProp}{h:Hp}(H:Sat (P::Q::L) h):Sat (Q::P::L) h:=by
 obtain⟨g,hg,hgs,k,hk,hks,hL⟩:=H
 have kn:∀ b o,k b=some o->g b=none/\h b=some o:=λb o hb=>by
  have:=hks b o hb;unfold Hp.minus at this;split at this
  ·cases this
  ·rename_i h1;simp at h1;exact⟨h1,this⟩
 refine⟨k,hk,λb o hb=>(kn b o hb).2,g,hg,λb o hb=>?_,hL.mono λb o hb=>?_⟩
 ·unfold Hp.minus;rw[if_neg ?_]
  ·exact hgs b o hb
  ·intro h1;obtain⟨x,hx⟩:=Option.isSome_iff_exists.1 h1;rw[(kn b x hx).1] at hb;cases hb
 ·unfold Hp.minus at hb ⊢;split at hb
  ·cases hb
  ·rename_i h1;split at hb
   ·cases hb
   ·rename_i h2;rw[if_neg h2,if_neg h1];exact hb
theorem Sat.pull:∀ {L:List HProp}{h:Hp}(i:Nat){P:HProp},Sat L h->L[i]?=some P->Sat (P::L.eraseIdx i) h
 |Q::L,h,0,P,H,hi=>by simp at hi;subst hi;exact H
 |Q::L,h,i+1,P,⟨g,hg,hs,hL⟩,hi=>Sat.swap ⟨g,hg,hs,hL.pull i (by simpa using hi)⟩
theorem Sat.push:∀ {L:List HProp}{h:Hp}(i:Nat){P Q:HProp},L[i]?=some Q->Sat (P::L.eraseIdx i) h->Sat (L.set i P) h
 |R::L,h,0,P,Q,_,H=>H
 |R::L,h,i+1,P,Q,hi,H=>by
  obtain⟨g,hg,hs,hL⟩:=Sat.swap H;exact⟨g,hg,hs,Sat.push i (by simpa using hi) hL⟩
theorem Holds.front {w:World}{L:List HProp}(H:Holds w L) (i:Nat){P:HProp}(hi:L[i]?=some P):Holds w (P::L.eraseIdx i):=Sat.pull i H hi
theorem Holds.swap {w:World}{P Q:HProp}{L:List HProp}(H:Holds w (P::Q::L)):Holds w (Q::P::L):=Sat.swap H
theorem Holds.drop {w:World}{P:HProp}{L:List HProp}(H:Holds w (P::L)):Holds w L:=by
 obtain⟨g,_,_,hL⟩:=H
 exact hL.mono λb o hb=>by
  unfold Hp.minus at hb;split at hb
  ·cases hb
  ·exact hb
theorem Holds.dropAt {w:World}{L:List HProp}(H:Holds w L) (i:Nat):Holds w (L.eraseIdx i):=by
 cases h:L[i]? with
 |none=>rw[List.eraseIdx_of_length_le (by simpa using h)];exact H
 |some P=>exact (H.front i h).drop
theorem Sat.imp {P Q:HProp}{L:List HProp}{h:Hp}(H:Sat (P::L) h) (hpq:∀ h,P h->Q h):Sat (Q::L) h:=by
 obtain⟨g,hg,hs,hL⟩:=H;exact⟨g,hpq _ hg,hs,hL⟩
theorem Holds.imp {P Q:HProp}{L:List HProp}{w:World}(H:Holds w (P::L)) (hpq:∀ h,P h->Q h):Holds w (Q::L):=Sat.imp H hpq
theorem Holds.ex {α:Type}{P:α->HProp}{L:List HProp}{w:World}(H:Holds w ((λh=>∃ x,P x h)::L)):∃ x,Holds w (P x::L):=by
 obtain⟨g,⟨x,hx⟩,hs,hL⟩:=H;exact⟨x,g,hx,hs,hL⟩
theorem Holds.pure {p:Prop}{P:HProp}{L:List HProp}{w:World}(H:Holds w ((λh=>p/\P h)::L)):p/\Holds w (P::L):=by
 obtain⟨g,⟨hp,hg⟩,hs,hL⟩:=H;exact⟨hp,g,hg,hs,hL⟩
theorem Sat.unpack:∀ {A L:List HProp}{h:Hp},Sat (Sat A::L) h->Sat (A++L) h
 |[],L,h,⟨g,_,_,hL⟩=>hL.mono λb o hb=>by
  unfold Hp.minus at hb;split at hb
  ·cases hb
  ·exact hb
 |P::A,L,h,⟨g,⟨k,hk,hks,hA⟩,hgs,hL⟩=>by
  refine⟨k,hk,λb o hb=>hgs b o (hks b o hb),Sat.unpack ⟨g.minus k,hA,λb o hb=>?_,hL.mono λb o hb=>?_⟩⟩
  ·unfold Hp.minus at hb ⊢;split at hb
   ·cases hb
   ·rename_i h1;rw[if_neg h1];exact hgs b o hb
  ·unfold Hp.minus at hb ⊢;split at hb
   ·cases hb
   ·rename_i h1
    have h1':g b=none:=by simpa using h1
    have h2:k b=none:=by
     cases hk:k b with
     |none=>rfl
     |some x=>rw[hks b x hk] at h1';cases h1'
    simp[h1',h2,hb]
theorem Sat.pack:∀ {A L:List HProp}{h:Hp},Sat (A++L) h->Sat (Sat A::L) h
 |[],L,h,H=>by
  refine⟨λ_=>none,trivial,?_,?_⟩
  ·intro b o hb;cases hb
  ·have e:h.minus (λ_=>none)=h:=by funext b;simp[Hp.minus]
   rw[e];exact H
 |P::A,L,h,⟨k,hk,hks,H⟩=>by
  obtain⟨g,hg,hgs,hL⟩:=Sat.pack H
  have gk:∀ b o,g b=some o->k b=none/\h b=some o:=λb o hb=>by
   have:=hgs b o hb;unfold Hp.minus at this;split at this
   ·cases this
   ·rename_i h1;simp at h1;exact⟨h1,this⟩
  refine⟨λb=>(k b).or (g b),⟨k,hk,λb o hb=>by simp[hb],hg.mono λb o hb=>?_⟩,λb o hb=>?_,hL.mono λb o hb=>?_⟩
  ·unfold Hp.minus;simp[(gk b o hb).1,hb]
  ·cases hkb:k b with
   |none=>simp[hkb] at hb;exact (gk b o hb).2
   |some x=>simp[hkb] at hb;subst hb;exact hks b x hkb
  ·unfold Hp.minus at hb ⊢;split at hb
   ·cases hb
   ·rename_i h1;split at hb
    ·cases hb
    ·rename_i h2;simp at h1 h2;simp[h1,h2,hb]
theorem Holds.pack {A L:List HProp}{w:World}(H:Holds w (A++L)):Holds w (Sat A::L):=Sat.pack H
theorem Holds.unpack {A L:List HProp}{w:World}(H:Holds w (Sat A::L)):Holds w (A++L):=Sat.unpack H
theorem Holds.obj {w:World}{L:List HProp}(H:Holds w L) (i:Nat){b:Nat}{o:Obj}(hi:L[i]?=some (blkO b o)):w.heap[b]?=some o:=by
 obtain⟨g,hg,hs,_⟩:=H.front i hi;exact hs b o hg
theorem Holds.upd {w w':World}{L:List HProp}(H:Holds w L) (i:Nat){b:Nat}{o o':Obj}(hi:L[i]?=some (blkO b o)) (hb:w'.heap[b]?=some o') (ho:∀ c,c≠b->w'.heap[c]?=w.heap[c]?) :
  Holds w' (L.set i (blkO b o')):=by
 obtain⟨g,hg,hs,hL⟩:=H.front i hi;refine Sat.push i hi ⟨λc=>if c=b then some o' else none,by simp[blkO],λc o hc=>?_,hL.mono λc o hc=>?_⟩
 ·by_cases e:c=b
  ·subst e;simp at hc;subst hc;exact hb
  ·simp[e] at hc
 ·unfold Hp.minus at hc ⊢
  by_cases e:c=b
  ·subst e;rw[if_pos (by rw[show g c=some _ from hg];rfl)] at hc;cases hc
  ·simp only[e,if_false,Option.isSome_none,Bool.false_eq_true];split at hc
   ·cases hc
   ·show w'.heap[c]?=_;rw[ho c e];exact hc
theorem Holds.new {w w':World}{L:List HProp}(H:Holds w L){b:Nat}{o:Obj}(hn:w.heap[b]?=none) (hb:w'.heap[b]?=some o) (ho:∀ c,c≠b->w'.heap[c]?=w.heap[c]?) :
  Holds w' (blkO b o::L):=by
 refine⟨λc=>if c=b then some o else none,by simp[blkO],λc x hc=>?_,Sat.mono H λc x hc=>?_⟩
 ·by_cases e:c=b
  ·subst e;simp at hc;subst hc;exact hb
  ·simp[e] at hc
 ·unfold Hp.minus
  by_cases e:c=b
  ·subst e;rw[show hp w c=none from hn] at hc;cases hc
  ·simp only[e,if_false,Option.isSome_none,Bool.false_eq_true];show w'.heap[c]?=_;rw[ho c e];exact hc
theorem Holds.same {w w':World}{L:List HProp}(H:Holds w L) (h:w'.heap=w.heap):Holds w' L:=by
 unfold Holds hp at *;rw[h];exact H
theorem Holds.cell {w:World}{L:List HProp}(H:Holds w L) (i:Nat){b:Nat}{t:TypeId}{cs:List Value}(hi:L[i]?=some (blk b t cs)) (o:Nat):w.cell? ⟨b,o,none⟩=cs[o]?:=by
 have:=H.obj i hi;simp[World.cell?,this]
theorem Holds.frozen {w:World}{L:List HProp}(H:Holds w L) (i:Nat){b:Nat}{t:TypeId}{cs:List Value}(hi:L[i]?=some (blk b t cs)) (o:Nat):w.frozen? ⟨b,o,none⟩=false:=by
 have:=H.obj i hi;simp[World.frozen?,this]
theorem Holds.set {w:World}{L:List HProp}(H:Holds w L) (i:Nat){b:Nat}{t:TypeId}{cs:List Value}(hi:L[i]?=some (blk b t cs)) (o:Nat) (v:Value) :
  Holds (w.setCell ⟨b,o,none⟩ v) (L.set i (blk b t (cs.set o v))):=by
 have h:=H.obj i hi;refine H.upd i hi ?_ λc hc=>?_
 ·simp[World.setCell,Array.getElem?_modify,h]
 ·simp only[World.setCell,Array.getElem?_modify];rw[if_neg (by simpa using λh=>hc h.symm)]
theorem Same.setCell (w:World) (a:Addr) (v:Value):Same w (w.setCell a v):=⟨rfl,rfl,rfl,by simp[World.setCell]⟩
theorem Same.drew (w:World):Same w w.drew:=⟨rfl,rfl,rfl,Nat.le_refl _⟩
theorem Same.alloc (w:World) (o:Obj):Same w (w.alloc o):=⟨rfl,rfl,rfl,by simp⟩
theorem Holds.alloc {w:World}{L:List HProp}(H:Holds w L) (o:Obj):Holds (w.alloc o) (blkO w.heap.size o::L):=by
 refine H.new (by simp) ?_ λc hc=>?_
 ·show (w.heap.push o)[w.heap.size]?=_;simp
 ·show (w.heap.push o)[c]?=_;rw[Array.getElem?_push,if_neg (by omega)]
def whole (w:World):HProp:=λh=>∀ b o,w.heap[b]?=some o->h b=some o
theorem holds_whole (w:World):Holds w [whole w]:=⟨hp w,λb o h=>h,λb o h=>h,trivial⟩
theorem Zl7 {w w':World}(S:Same w w'){L:List HProp}(H:Holds w' (whole w::L)):RowKit.Below w.heap.size w w':=by
 refine⟨S.os,S.tape,S.output,S.size,λk hk=>?_⟩;obtain⟨g,hg,hs,_⟩:=H;have h1:w.heap[k]?=some w.heap[k]:=Array.getElem?_eq_getElem hk;rw[h1];exact hs k _ (hg k _ h1)
theorem calls_of_law {P:Program}{f:FuncId}{args:Array Value}{w:World}(h:∀ K:Value->World->Prop,(∀ w',Same w w'->Holds w' [whole w]->K (.bool true) w')->Cl P f args w K) :
  Calls P f args w λe w'=>e=.returned (.bool true)/\RowKit.Below w.heap.size w w':=
 (h (λv w'=>v=.bool true/\RowKit.Below w.heap.size w w') λw' S H=>⟨rfl,Zl7 S H⟩).2.mono λe w' ⟨v,he,hv,hb⟩=>⟨by rw[he,hv],hb⟩
section
variable {P:Program}{w:World}{L:List HProp}
theorem r_nc {a:Addr}{A:Prop}(h:A):Nc (.pointer (some a)) A:=⟨⟨a,rfl⟩,h⟩
theorem r_fo {off b o:Nat}{K:Value->Prop}(h:K (.pointer (some ⟨b,o+off,none⟩))):Fo off (.pointer (some ⟨b,o,none⟩)) K:=by
 refine⟨_,rfl,?_⟩;unfold Addr.add;split
 ·rename_i h0;subst h0;exact h
 ·exact h
theorem r_fo0 {off b:Nat}{K:Value->Prop}(h:K (.pointer (some ⟨b,off,none⟩))):Fo off (.pointer (some ⟨b,0,none⟩)) K:=r_fo (by rw[Nat.zero_add];exact h)
theorem r_ld (i:Nat) (H:Holds w L){b o:Nat}{t:TypeId}{cs:List Value}{v:Value}{K:Value->Prop}(hi:L[i]?=some (blk b t cs)) (hc:cs[o]?=some v) (h:K v) :
  Ld (.pointer (some ⟨b,o,none⟩)) w K:=⟨_,v,rfl,(H.cell i hi o).trans hc,h⟩
theorem r_st (i:Nat) (H:Holds w L){b o:Nat}{t:TypeId}{cs:List Value}{v:Value}{K:World->Prop}(hi:L[i]?=some (blk b t cs)) (ho:o < cs.length) (hs:sg v=true)
  (h:∀ w',Same w w'->Holds w' (L.set i (blk b t (cs.set o v)))->K w'):St (.pointer (some ⟨b,o,none⟩)) v w K:=
 ⟨_,cs[o],rfl,(H.cell i hi o).trans (by simp[ho]),H.frozen i hi o,hs,h _ (.setCell _ _ _) (H.set i hi o v)⟩
theorem r_new {z:Value}{t:TypeId}(H:Holds w L){K:KT}(h:∀ b w',Same w w'->Holds w' (blk b t z.cells.toList::L)->K (.pointer (some ⟨b,0,none⟩)) w'):New z t w K:=
 h _ _ (.alloc _ _) (H.alloc _)
theorem r_dr (H:Holds w L){K:World->Prop}(h:∀ w',Same w w'->Holds w' L->K w'):Dr w K:=h _ (.drew _) (H.same rfl)
theorem r_vif {b:Bool}{A B:Prop}(h1:b=true->A) (h2:b=false->B):Vif (.bool b) A B:=by
 cases b
 ·exact h2 rfl
 ·exact h1 rfl
theorem Zd8 {rest:(Nat->Value)->Cur 0}{br:Cur 0->Prop}(J:World->Prop) (hJ:∀ jb w,J w->rest jb w) (h:br J):VJoin 0 rest br:=⟨J,λjb w hw=>hJ jb w hw,h⟩
theorem Za0 {rest:(Nat->Value)->Cur 1}{br:Cur 1->Prop}(J:KT) (hJ:∀ jb x w,J x w->rest jb x w) (h:br J):VJoin 1 rest br:=⟨J,λjb x w hw=>hJ jb x w hw,h⟩
theorem Zpd {rest:(Nat->Value)->Cur 2}{br:Cur 2->Prop}(J:Value->Value->World->Prop) (hJ:∀ jb x y w,J x y w->rest jb x y w) (h:br J):VJoin 2 rest br:=⟨J,λjb x y w hw=>hJ jb x y w hw,h⟩
theorem r_ke {a:List Value}{X:Prop}(h:X):KE a a X:=⟨rfl,h⟩
theorem Zp7 {w:World}{body:(Nat->Value)->Cur 0->Cur 0}(I:World->Prop) (μ:World->Nat) (h0:I w)
  (h:∀ jb w,I w->body jb (λw'=>I w'/\μ w' < μ w) w):VLoop 0 [] w body:=
 ⟨λ_ w=>I w,λ_ w=>μ w,h0,λjb us u hl hI=>match us,hl with|[],_=>h jb u hI⟩
theorem Zat {w:World}{a:Value}{body:(Nat->Value)->Cur 1->Cur 1}(I:KT) (μ:Value->World->Nat) (h0:I a w)
  (h:∀ jb x w,I x w->body jb (λx' w'=>I x' w'/\μ x' w' < μ x w) x w):VLoop 1 [a] w body:=
 ⟨λl w=>match l with|[x]=>I x w|_=>False,λl w=>match l with|[x]=>μ x w|_=>0,h0,λjb us u hl hI=>match us,hl with|[x],_=>h jb x u hI⟩
theorem Zb1 {w:World}{a b:Value}{body:(Nat->Value)->Cur 2->Cur 2}(I:Value->Value->World->Prop) (μ:Value->Value->World->Nat) (h0:I a b w)
  (h:∀ jb x y w,I x y w->body jb (λx' y' w'=>I x' y' w'/\μ x' y' w' < μ x y w) x y w):VLoop 2 [a,b] w body:=
 ⟨λl w=>match l with|[x,y]=>I x y w|_=>False,λl w=>match l with|[x,y]=>μ x y w|_=>0,h0,λjb us u hl hI=>match us,hl with|[x,y],_=>h jb x y u hI⟩
theorem wrap64 {n:Int}(h1:-9223372036854775808<=n) (h2:n<=9223372036854775807):IntKind.i64.wrap n=n:=IntWalk.i64_in n ⟨h1,h2⟩
theorem r_add {a b:Int}{K:Value->Prop}(h1:-9223372036854775808<=a+b) (h2:a+b<=9223372036854775807) (h:K (.int .i64 (a+b))):Bp .add (.int .i64 a) (.int .i64 b) K:=
 ⟨.int .i64 (a+b),by simp only[bp,if_true];rw[wrap64 h1 h2],h⟩
theorem r_sub {a b:Int}{K:Value->Prop}(h1:-9223372036854775808<=a - b) (h2:a - b<=9223372036854775807) (h:K (.int .i64 (a - b))):Bp .sub (.int .i64 a) (.int .i64 b) K:=
 ⟨.int .i64 (a - b),by simp only[bp,if_true];rw[wrap64 h1 h2],h⟩
theorem r_mul {a b:Int}{K:Value->Prop}(h1:-9223372036854775808<=a*b) (h2:a*b<=9223372036854775807) (h:K (.int .i64 (a*b))):Bp .mul (.int .i64 a) (.int .i64 b) K:=
 ⟨.int .i64 (a*b),by simp only[bp,if_true];rw[wrap64 h1 h2],h⟩
theorem r_quo {a b:Int}{K:Value->Prop}(h0:0<=a) (hb:0 < b) (h2:a<=9223372036854775807) (h:K (.int .i64 (a/b))):Bp .quo (.int .i64 a) (.int .i64 b) K:=by
 refine⟨.int .i64 (a/b),?_,h⟩;have e:a.tdiv b=a/b:=Int.tdiv_eq_ediv_of_nonneg h0;have h3:0<=a/b:=Int.ediv_nonneg h0 (by omega);have h4:a/b<=a:=Int.ediv_le_self b h0;show (if IntKind.i64=IntKind.i64/\b≠0 then some (Value.int .i64 (IntKind.i64.wrap (a.tdiv b))) else none)=_;rw[if_pos ⟨rfl,by omega⟩,e,wrap64 (by omega) (by omega)]
theorem r_rem {a b:Int}{K:Value->Prop}(h0:0<=a) (hb:0 < b) (h:K (.int .i64 (a%b))):Bp .rem (.int .i64 a) (.int .i64 b) K:=by
 refine⟨.int .i64 (a%b),?_,h⟩;have e:a.tmod b=a%b:=Int.tmod_eq_emod_of_nonneg h0;show (if IntKind.i64=IntKind.i64/\b≠0 then some (Value.int .i64 (a.tmod b)) else none)=_;rw[if_pos ⟨rfl,by omega⟩,e]
theorem Zxf {a b r:Int}{K:Value->Prop}(hr:a.tmod b=r) (hb:b≠0) (h:K (.int .i64 r)):Bp .rem (.int .i64 a) (.int .i64 b) K:=by
 refine⟨.int .i64 r,?_,h⟩;show (if IntKind.i64=IntKind.i64/\b≠0 then some (Value.int .i64 (a.tmod b)) else none)=_;rw[if_pos ⟨rfl,hb⟩,hr]
theorem r_eql {k:IntKind}{a b:Int}{K:Value->Prop}(h:K (.bool (a==b))):Bp .eql (.int k a) (.int k b) K:=⟨.bool (a==b),by simp only[bp,if_true],h⟩
theorem r_neq {k:IntKind}{a b:Int}{K:Value->Prop}(h:K (.bool (a != b))):Bp .neq (.int k a) (.int k b) K:=⟨.bool (a != b),by simp only[bp,if_true],h⟩
theorem r_lss {k:IntKind}{a b:Int}{K:Value->Prop}(h:K (.bool (decide (a < b)))):Bp .lss (.int k a) (.int k b) K:=⟨.bool (decide (a < b)),by simp only[bp,if_true],h⟩
theorem r_leq {k:IntKind}{a b:Int}{K:Value->Prop}(h:K (.bool (decide (a<=b)))):Bp .leq (.int k a) (.int k b) K:=⟨.bool (decide (a<=b)),by simp only[bp,if_true],h⟩
theorem r_gtr {k:IntKind}{a b:Int}{K:Value->Prop}(h:K (.bool (decide (b < a)))):Bp .gtr (.int k a) (.int k b) K:=⟨.bool (decide (b < a)),by simp only[bp,if_true,gt_iff_lt,ge_iff_le],h⟩
theorem r_geq {k:IntKind}{a b:Int}{K:Value->Prop}(h:K (.bool (decide (b<=a)))):Bp .geq (.int k a) (.int k b) K:=⟨.bool (decide (b<=a)),by simp only[bp,if_true,gt_iff_lt,ge_iff_le],h⟩
theorem Zep {a b:ByteArray}(h:a.data.toList=b.data.toList):a=b:=by
 obtain⟨⟨a⟩⟩:=a;obtain⟨⟨b⟩⟩:=b;simp at h;rw[h]
theorem Zfd (a b:ByteArray):(a.toList==b.toList)=decide (a=b):=by
 rw[Bool.eq_iff_iff,beq_iff_eq,decide_eq_true_iff,ByteArray.toList_eq,ByteArray.toList_eq];exact⟨Zep,λh=>by rw[h]⟩
theorem Ztu (a:ByteArray):a=⟨#[]⟩↔a.size=0:=by
 constructor
 ·rintro rfl;rfl
 ·intro h;apply Zep
  have:a.data.toList.length=0:=by simpa using h
  rw[List.eq_nil_of_length_eq_zero this]
theorem Zad {a:ByteArray}{K:Value->Prop}(h:K (.bool (decide (a.size=0)))):Bp .eql (.string a) (.string ⟨#[]⟩) K:=
 ⟨_,rfl,by rw[Zfd,show decide (a=⟨#[]⟩)=decide (a.size=0) from by rw[Bool.eq_iff_iff,decide_eq_true_iff,decide_eq_true_iff,Ztu]];exact h⟩
theorem Zai {a:ByteArray}{K:Value->Prop}(h:K (.bool (decide (¬ a.size=0)))):Bp .neq (.string a) (.string ⟨#[]⟩) K:=
 ⟨_,rfl,by rw[Zfd,show (!decide (a=⟨#[]⟩))=decide (¬ a.size=0) from by rw[Bool.eq_iff_iff,Bool.not_eq_true',decide_eq_false_iff_not,decide_eq_true_iff,Ztu]];exact h⟩
theorem r_seq {a b:ByteArray}{K:Value->Prop}(h:K (.bool (decide (a=b)))):Bp .eql (.string a) (.string b) K:=⟨_,rfl,by rw[Zfd];exact h⟩
theorem r_sne {a b:ByteArray}{K:Value->Prop}(h:K (.bool (!decide (a=b)))):Bp .neq (.string a) (.string b) K:=⟨_,rfl,by rw[Zfd];exact h⟩
theorem r_cat {a b:ByteArray}{K:Value->Prop}(hs:a.size+b.size<=9223372036854775807) (h:K (.string (a++b))):Bp .add (.string a) (.string b) K:=by
 refine⟨.string (a++b),?_,h⟩;simp only[bp];rw[if_neg (by show ¬ _ > (9223372036854775807:Int);omega)]
theorem r_not {b:Bool}{K:Value->Prop}(h:K (.bool !b)):Up .not (.bool b) K:=⟨_,rfl,h⟩
theorem r_bnS {e:TypeId}{neg:Bool}{a:Addr}{K:Value->Prop}(h:K (.bool neg)):Bn P e neg (.pointer (some a)) (.pointer none) K:=
 .inl ⟨false,rfl,by cases neg <;> exact h⟩
theorem r_bnN {e:TypeId}{neg:Bool}{K:Value->Prop}(h:K (.bool !neg)):Bn P e neg (.pointer none) (.pointer none) K:=
 .inl ⟨true,rfl,by cases neg <;> exact h⟩
theorem r_vt {A B:Prop}(h:A):Vif (.bool true) A B:=h
theorem r_vf {A B:Prop}(h:B):Vif (.bool false) A B:=h
theorem r_vtd {c:Bool}{A B:Prop}(hc:c=true) (h:A):Vif (.bool c) A B:=by subst hc;exact h
theorem r_vfd {c:Bool}{A B:Prop}(hc:c=false) (h:B):Vif (.bool c) A B:=by subst hc;exact h
theorem r_vtD {p:Prop} [Decidable p] {A B:Prop}(hc:p) (h:A):Vif (.bool (decide p)) A B:=r_vtd (decide_eq_true hc) h
theorem r_vfD {p:Prop} [Decidable p] {A B:Prop}(hc:¬ p) (h:B):Vif (.bool (decide p)) A B:=r_vfd (decide_eq_false hc) h
theorem r_vtE {a b:Int}{A B:Prop}(hc:a=b) (h:A):Vif (.bool (a==b)) A B:=r_vtd (beq_iff_eq.2 hc) h
theorem r_vfE {a b:Int}{A B:Prop}(hc:¬ a=b) (h:B):Vif (.bool (a==b)) A B:=r_vfd (beq_eq_false_iff_ne.2 hc) h
theorem r_vtN {a b:Int}{A B:Prop}(hc:¬ a=b) (h:A):Vif (.bool (a != b)) A B:=r_vtd (bne_iff_ne.2 hc) h
theorem r_vfN {a b:Int}{A B:Prop}(hc:a=b) (h:B):Vif (.bool (a != b)) A B:=r_vfd (by subst hc;simp) h
theorem r_ifD {p:Prop} [Decidable p] {A B:Prop}(h1:p->A) (h2:¬ p->B):Vif (.bool (decide p)) A B:=r_vif (λh=>h1 (of_decide_eq_true h)) λh=>h2 (of_decide_eq_false h)
theorem r_ifE {a b:Int}{A B:Prop}(h1:a=b->A) (h2:¬ a=b->B):Vif (.bool (a==b)) A B:=r_vif (λh=>h1 (beq_iff_eq.1 h)) λh=>h2 (beq_eq_false_iff_ne.1 h)
theorem r_ifN {a b:Int}{A B:Prop}(h1:¬ a=b->A) (h2:a=b->B):Vif (.bool (a != b)) A B:=r_vif (λh=>h1 (bne_iff_ne.1 h)) λh=>h2 (by simpa using h)
theorem r_bb {neg a b:Bool}{K:Value->Prop}(h:K (.bool (if neg then !(a==b) else a==b))):Bb neg (.bool a) (.bool b) K:=⟨a,b,rfl,rfl,h⟩
theorem r_lns {s:ByteArray}{K:Value->Prop}(h:K (.int .i64 (s.size:Int))):Lns (.string s) K:=⟨s,rfl,h⟩
theorem r_lnl {a:Option Addr}{l c:Nat}{K:Value->Prop}(h:K (.int .i64 (l:Int))):Lnl (.slice a l c) K:=⟨a,l,c,rfl,h⟩
theorem r_ixs {s:ByteArray}{k:IntKind}{n:Int}{K:Value->Prop}(h0:0<=n) (h1:n < (s.size:Int)) (h:K (.int .u8 ((s.data.toList.getD n.toNat 0).toNat:Int))):Ixs (.string s) (.int k n) K:=
 ⟨s,k,n,rfl,rfl,h0,h1,h⟩
theorem r_iaa {len size b o:Nat}{k:IntKind}{n:Int}{K:Value->Prop}(h0:0<=n) (h1:n < (len:Int)) (h:K (.pointer (some ⟨b,o+n.toNat*size,none⟩))) :
  Iaa len size (.pointer (some ⟨b,o,none⟩)) (.int k n) K:=by
 refine⟨_,k,n,rfl,rfl,h0,h1,?_⟩;unfold Addr.add;split
 ·rename_i e;rw[e] at h;exact h
 ·exact h
theorem r_ias {size b o l c:Nat}{k:IntKind}{n:Int}{K:Value->Prop}(h0:0<=n) (h1:n < (l:Int)) (h:K (.pointer (some ⟨b,o+n.toNat*size,none⟩))) :
  Ias size (.slice (some ⟨b,o,none⟩) l c) (.int k n) K:=by
 refine⟨_,l,c,k,n,rfl,rfl,h0,h1,?_⟩;unfold Addr.add;split
 ·rename_i e;rw[e] at h;exact h
 ·exact h
theorem r_ex {vs:Array Value}{i:Nat}{v:Value}{K:Value->Prop}(hv:vs[i]?=some v) (h:K v):Ex (.tuple vs) i K:=⟨vs,v,rfl,hv,h⟩
theorem Zag {a:Addr}{e:TypeId}{K:Value->Prop}(h:K (.bool true)):Bn P e true (.pointer (some a)) (.pointer none) K:=r_bnS h
theorem Za2 {a:Addr}{e:TypeId}{K:Value->Prop}(h:K (.bool false)):Bn P e false (.pointer (some a)) (.pointer none) K:=r_bnS h
theorem Zam {e:TypeId}{K:Value->Prop}(h:K (.bool true)):Bn P e false (.pointer none) (.pointer none) K:=r_bnN h
theorem Zan {e:TypeId}{K:Value->Prop}(h:K (.bool false)):Bn P e true (.pointer none) (.pointer none) K:=r_bnN h
theorem Zao {K:Value->Prop}(h:K (.bool false)):Up .not (.bool true) K:=r_not h
theorem Zaq {K:Value->Prop}(h:K (.bool true)):Up .not (.bool false) K:=r_not h
theorem r_pkT {a b:Value}{K:Value->Prop}(h:K a):Pk (.bool true) a b K:=h
theorem r_pkF {a b:Value}{K:Value->Prop}(h:K b):Pk (.bool false) a b K:=h
theorem r_pkB {c:Bool}{K:Value->Prop}(h:K (.bool c)):Pk (.bool c) (.bool true) (.bool false) K:=by
 cases c
 ·exact h
 ·exact h
theorem Za4 {a b:Value}{K:Value->Prop}(h:K a):Ex (.tuple #[a,b]) 0 K:=r_ex rfl h
theorem Za3 {a b:Value}{K:Value->Prop}(h:K b):Ex (.tuple #[a,b]) 1 K:=r_ex rfl h
theorem Zae {a b c:Value}{K:Value->Prop}(h:K a):Ex (.tuple #[a,b,c]) 0 K:=r_ex rfl h
theorem Zah {a b c:Value}{K:Value->Prop}(h:K b):Ex (.tuple #[a,b,c]) 1 K:=r_ex rfl h
theorem Zaf {a b c:Value}{K:Value->Prop}(h:K c):Ex (.tuple #[a,b,c]) 2 K:=r_ex rfl h
theorem r_ci {k k':IntKind}{n:Int}{K:Value->Prop}(h:K (.int k (k.wrap n))):Ci k (.int k' n) K:=⟨k',n,rfl,h⟩
theorem Zab {k':IntKind}{n:Int}{K:Value->Prop}(h1:-9223372036854775808<=n) (h2:n<=9223372036854775807) (h:K (.int .i64 n)):Ci .i64 (.int k' n) K:=
 ⟨k',n,rfl,by rw[wrap64 h1 h2];exact h⟩
theorem Zac {k':IntKind}{n:Int}{K:Value->Prop}(h1:0<=n) (h2:n<=255) (h:K (.int .u8 n)):Ci .u8 (.int k' n) K:=
 ⟨k',n,rfl,by rw[show IntKind.u8.wrap n=n from by show n%256=n;omega];exact h⟩
theorem Za8 {k':IntKind}{n:Int}{K:Value->Prop}(h1:0<=n) (h2:n<=4294967295) (h:K (.int .u32 n)):Ci .u32 (.int k' n) K:=
 ⟨k',n,rfl,by rw[show IntKind.u32.wrap n=n from by show n%4294967296=n;omega];exact h⟩
theorem r_sst {s:ByteArray}{lo hi:Option Value}{l h:Nat}{K:Value->Prop}(hl:bnd lo 0 l) (hh:bnd hi s.size h) (h1:l<=h) (h2:h<=s.size) (hk:K (.string (s.extract l h))):Sst (.string s) lo hi K:=
 ⟨s,l,h,rfl,hl,hh,h1,h2,hk⟩
theorem r_ldA (i:Nat) (H:Holds w L){n b o:Nat}{t:TypeId}{cs:List Value}{K:Value->Prop}(sub:List Value) (hi:L[i]?=some (blk b t cs)) (hs:(cs.drop o).take n=sub) (hn:sub.length=n)
  (h:K (.agg sub.toArray)):LdA n (.pointer (some ⟨b,o,none⟩)) w K:=by
 refine⟨_,sub.toArray,rfl,by simpa using hn,λj v hv=>?_,h⟩
 have e1:(⟨b,o,none⟩:Addr).add j=⟨b,o+j,none⟩:=by
  unfold Addr.add;split
  ·rename_i h;rw[h];rfl
  ·rfl
 rw[e1,H.cell i hi]
 have hv':sub[j]?=some v:=by simpa using hv
 have hj:j < n:=by rw[<-hn];exact (gH.1 hv').1
 rw[<-hv',<-hs,hI_ hj,hH_]
theorem Zak {s:ByteArray}{k:IntKind}{m:Nat}{K:Value->Prop}(h1:m < s.size) (h:K (.int .u8 ((s.data.toList.getD m 0).toNat:Int))):Ixs (.string s) (.int k (m:Int)) K:=
 r_ixs (by omega) (by omega) (by rw[gC];exact h)
theorem Zal {len b o m:Nat}{k:IntKind}{K:Value->Prop}(h1:m < len) (h:K (.pointer (some ⟨b,o+m,none⟩))):Iaa len 1 (.pointer (some ⟨b,o,none⟩)) (.int k (m:Int)) K:=
 r_iaa (by omega) (by omega) (by rw[gC,Nat.mul_one];exact h)
theorem Za1 {a:Nat}{K:Value->Prop}(h2:a < 9223372036854775807) (h:K (.int .i64 ((a+1:Nat):Int))):Bp .add (.int .i64 (a:Int)) (.int .i64 1) K:=r_add (by omega) (by omega) h
theorem Za9 {a:Nat}{K:Value->Prop}(h2:1<=a) (h3:a < 9223372036854775807) (h:K (.int .i64 ((a - 1:Nat):Int))):Bp .sub (.int .i64 (a:Int)) (.int .i64 1) K:=
 r_sub (by omega) (by omega) (by rw[show (a:Int) - 1=((a - 1:Nat):Int) by omega];exact h)
theorem Zaa {a b:Nat}{K:Value->Prop}(h2:a+b < 9223372036854775807) (h:K (.int .i64 ((a+b:Nat):Int))):Bp .add (.int .i64 (a:Int)) (.int .i64 (b:Int)) K:=r_add (by omega) (by omega) h
theorem r_bd {t:TypeId}{ps:Array (Nat × Value)}{v:Value}{K:Value->Prop}(h:(Instr.build t ps).run P w=.ok v w) (k:K v):Bd P t ps w K:=⟨v,h,k⟩
theorem r_be {op:BinOp}{t:TypeId}{X Y:Operand}{x y v:Value}{K:Value->Prop}(h:(do eqGuard op t X Y x y;binOp op t x y).run P w=.ok v w) (k:K v):Be P op t X Y x y w K:=⟨v,h,k⟩
theorem r_min {ats:Array TypeId}{t:TypeId}{k:IntKind}{a b:Int}{K:Value->Prop}(h:K (.int k (min a b))):Bmin P ats t #[.int k a,.int k b] w K:=by
 refine⟨.int k (if b < a then b else a),by simp[Builtin.min_,Builtin.min2,Sem.run_pure,List.foldlM],?_⟩
 have:(if b < a then b else a)=min a b:=by split <;> omega
 rw[this];exact h
theorem r_max {ats:Array TypeId}{t:TypeId}{k:IntKind}{a b:Int}{K:Value->Prop}(h:K (.int k (max a b))):Bmax P ats t #[.int k a,.int k b] w K:=by
 refine⟨.int k (if b > a then b else a),by simp[Builtin.max_,Builtin.max2,Sem.run_pure,List.foldlM],?_⟩
 have:(if b > a then b else a)=max a b:=by split <;> omega
 rw[this];exact h
theorem r_rk {N:Node}{v:Value}{A:Prop}(h:N w λu=>u=v) (hA:A):Rk N v w A:=⟨h,hA⟩
theorem r_cl {f:FuncId}{args:Array Value}{K K':KT}(h:Cl P f args w K) (hk:∀ v w',K v w'->K' v w'):Cl P f args w K':=
 ⟨h.1,h.2.mono λe w' ⟨v,he,hv⟩=>⟨v,he,hk v w' hv⟩⟩
end
end Go.Vc
namespace Go.Vc
abbrev iv (n:Int):Value:=.int .i64 n
abbrev nv (n:Nat):Value:=.int .i64 (n:Int)
abbrev bv (c:UInt8):Value:=.int .u8 (c.toNat:Int)
abbrev uv (n:Nat):Value:=.int .u32 (n:Int)
abbrev stv (s:ByteArray):Value:=.string s
theorem Sat.at:∀ {L:List HProp}{h:Hp}(i:Nat){P Q:HProp},Sat L h->L[i]?=some P->(∀ g,P g->Q g)->Sat (L.set i Q) h:=by
 intro L h i P Q H hi hpq;exact Sat.push i hi ((H.pull i hi).imp hpq)
theorem Holds.at {w:World}{L:List HProp}(H:Holds w L) (i:Nat){P Q:HProp}(hi:L[i]?=some P) (hpq:∀ g,P g->Q g):Holds w (L.set i Q):=Sat.at i H hi hpq
theorem Holds.atEx {α:Type}{w:World}{L:List HProp}(H:Holds w L) (i:Nat){P:HProp}{Q:α->HProp}(hi:L[i]?=some P) (hpq:∀ g,P g->∃ x,Q x g):∃ x,Holds w (L.set i (Q x)):=by
 obtain⟨g,hg,hs,hL⟩:=H.front i hi;obtain⟨x,hx⟩:=hpq g hg;exact⟨x,Sat.push i hi ⟨g,hx,hs,hL⟩⟩
section
variable {α:Type}
def slb (f:α->Value) (e:TypeId) (oa:Option Addr) (xs:List α) (sp:List Value):HProp:=
 match oa with
 |none=>pur (xs=[]/\sp=[])
 |some a=>λh=>a.off=0/\a.spot=none/\blk a.block e (xs.map f++sp) h
def SL (f:α->Value) (e:TypeId) (v:Value) (xs:List α):HProp:=λh=>∃ oa sp,v=.slice oa xs.length (xs.length+sp.length)/\slb f e oa xs sp h
theorem Holds.open {w:World}{L:List HProp}(H:Holds w L) (i:Nat){f:α->Value}{e:TypeId}{v:Value}{xs:List α}(hi:L[i]?=some (SL f e v xs)) :
  ∃ oa sp,v=.slice oa xs.length (xs.length+sp.length)/\Holds w (L.set i (slb f e oa xs sp)):=by
 obtain⟨g,⟨oa,sp,hv,hg⟩,hs,hL⟩:=H.front i hi;exact⟨oa,sp,hv,Sat.push i hi ⟨g,hg,hs,hL⟩⟩
theorem Holds.close {w:World}{L:List HProp}(H:Holds w L) (i:Nat){f:α->Value}{e:TypeId}{oa:Option Addr}{xs:List α}{sp:List Value}(hi:L[i]?=some (slb f e oa xs sp)) :
  Holds w (L.set i (SL f e (.slice oa xs.length (xs.length+sp.length)) xs)):=H.at i hi λg hg=>⟨oa,sp,rfl,hg⟩
theorem Zwx (f:α->Value) (e:TypeId) (h:Hp):SL f e (.slice none 0 0) [] h:=⟨none,[],rfl,rfl,rfl⟩
theorem Holds.nilSL {w:World}{L:List HProp}(H:Holds w L) (f:α->Value) (e:TypeId):Holds w (SL f e (.slice none 0 0) []::L):=
 ⟨λ_=>none,Zwx f e _,(λb o h=>by cases h),by
  have h0:(hp w).minus (λ_=>none)=hp w:=by funext b;simp[Hp.minus]
  rw[h0];exact H⟩
theorem Holds.slb {w:World}{L:List HProp}(H:Holds w L) (i:Nat){f:α->Value}{e:TypeId}{b:Nat}{xs:List α}{sp:List Value}(hi:L[i]?=some (slb f e (some ⟨b,0,none⟩) xs sp)) :
  Holds w (L.set i (blk b e (xs.map f++sp))):=H.at i hi λg hg=>hg.2.2
theorem Holds.slb' {w:World}{L:List HProp}(H:Holds w L) (i:Nat){f:α->Value}{e:TypeId}{b:Nat}{xs:List α}{sp:List Value}(hi:L[i]?=some (blk b e (xs.map f++sp))) :
  Holds w (L.set i (Vc.slb f e (some ⟨b,0,none⟩) xs sp)):=H.at i hi λg hg=>⟨rfl,rfl,hg⟩
theorem Za6 {L:List HProp}{i:Nat}{P Q:HProp}(hi:L[i]?=some P):(L.set i Q)[i]?=some Q:=by
 have:i < L.length:=(gH.1 hi).1;simp[this]
theorem Zwu (i:Nat){w:World}{L:List HProp}(H:Holds w L){f:α->Value}{e:TypeId}{oa:Option Addr}{xs:List α}{sp:List Value}{l c:Nat}{k:IntKind}{n:Int}{K:Value->Prop}
  (hi:L[i]?=some (Vc.slb f e oa xs sp)) (h0:0<=n) (h1:n < (l:Int)) (hl:l<=xs.length) (h:∀ b,oa=some ⟨b,0,none⟩->K (.pointer (some ⟨b,n.toNat,none⟩))):Ias 1 (.slice oa l c) (.int k n) K:=by
 cases oa with
 |none=>
  obtain⟨g,⟨h2,_⟩,_⟩:=H.front i hi;subst h2;simp at hl;omega
 |some a=>
  obtain⟨g,⟨h2,h3,_⟩,_⟩:=H.front i hi;obtain⟨b,o,s⟩:=a;simp only at h2 h3;subst h2;subst h3;refine r_ias h0 h1 ?_;simpa using h b rfl
theorem Zht (i:Nat){w:World}{L:List HProp}(H:Holds w L){f:α->Value}{e:TypeId}{oa:Option Addr}{xs:List α}{sp:List Value}{l c:Nat}{k:IntKind}{m:Nat}{K:Value->Prop}
  (hi:L[i]?=some (Vc.slb f e oa xs sp)) (h1:m < l) (hl:l<=xs.length) (h:∀ b,oa=some ⟨b,0,none⟩->K (.pointer (some ⟨b,m,none⟩))):Ias 1 (.slice oa l c) (.int k (m:Int)) K:=
 Zwu i H hi (by omega) (by omega) hl (by rw[gC];exact h)
theorem Zi4 (i:Nat){w:World}{L:List HProp}(H:Holds w L){f:α->Value}{e:TypeId}{b o:Nat}{xs:List α}{sp:List Value}{x:α}{K:Value->Prop}
  (hi:L[i]?=some (Vc.slb f e (some ⟨b,0,none⟩) xs sp)) (hx:xs[o]?=some x) (h:K (f x)):Ld (.pointer (some ⟨b,o,none⟩)) w K:=by
 have hlt:o < xs.length:=(gH.1 hx).1;refine r_ld i (H.slb i hi) (Za6 hi) (v:=f x) ?_ h;rw[gM (by simpa using hlt),hV_,hx];rfl
end
theorem Zmd {size:Nat}{a:Option Addr}{n c i:Nat}{k:IntKind}{K:Value->Prop}(h1:i<=c) (h:K (.slice a i c)):Ssl size (.slice a n c) none (some (.int k (i:Int))) K:=by
 refine⟨a,n,c,0,i,rfl,rfl,⟨k,rfl⟩,Nat.zero_le _,h1,?_⟩
 have e:(if c=0 then a else a.map (·.add (0*size)))=a:=by
  split
  ·rfl
  ·cases a with
   |none=>rfl
   |some x=>simp[Addr.add]
 rw[e,Nat.sub_zero,Nat.sub_zero];exact h
theorem ext1 {s:ByteArray}{m:Nat}(h:m < s.size):s.extract m (m+1)=⟨[s.data.toList.getD m 0].toArray⟩:=by
 apply ByteArray.ext;apply Array.ext';rw[ByteArray.data_extract,Array.toList_extract]
 have hd:m < s.data.toList.length:=by simpa using h
 rw[List.extract_eq_take_drop,List.drop_eq_getElem_cons hd,Nat.add_sub_cancel_left,List.take_succ_cons,List.take_zero,gB,gA hd];rfl
theorem Zxt {s:ByteArray}{k k':IntKind}{m:Nat}{K:Value->Prop}(h1:m < s.size) (h:K (.string ⟨[s.data.toList.getD m 0].toArray⟩)):Sst (.string s) (some (.int k (m:Int))) (some (.int k' ((m+1:Nat):Int))) K:=
 r_sst ⟨k,rfl⟩ ⟨k',rfl⟩ (by omega) (by omega) (by rw[ext1 h1];exact h)
theorem Zaw {xs ys:List UInt8}{K:Value->Prop}(hs:xs.length+ys.length<=9223372036854775807) (h:K (.string ⟨(xs++ys).toArray⟩)):Bp .add (.string ⟨xs.toArray⟩) (.string ⟨ys.toArray⟩) K:=
 r_cat (by simpa [ByteArray.size] using by omega) (by
  have e:(⟨xs.toArray⟩:ByteArray)++⟨ys.toArray⟩=⟨(xs++ys).toArray⟩:=by
   apply ByteArray.ext;rw[ByteArray.data_append];simp
  rw[e];exact h)
def setL (cs:List Value) (o:Nat):List Value->List Value
 |[]=>cs
 |v::r=>setL (cs.set o v) (o+1) r
theorem Zmi:∀ (vs cs:List Value) (o:Nat),(setL cs o vs).length=cs.length
 |[],_,_=>rfl
 |v::r,cs,o=>by rw[setL,Zmi r,List.length_set]
theorem Same.setCells:∀ (vs:List Value) (w:World) (a:Addr) (i:Nat),Same w (setCells w a vs i)
 |[],w,_,_=>.refl w
 |v::r,w,a,i=>(Same.setCell w _ v).trans (Same.setCells r _ a (i+1))
theorem Holds.setCells (i:Nat){b o:Nat}{t:TypeId}:∀ (vs:List Value){w:World}{L:List HProp}{cs:List Value}(k:Nat) (_:Holds w L) (_:L[i]?=some (blk b t cs)),
  Holds (Vc.setCells w ⟨b,o,none⟩ vs k) (L.set i (blk b t (setL cs (o+k) vs)))
 |[],w,L,cs,k,H,hi=>by
  rw[setL]
  have:L.set i (blk b t cs)=L:=by
   apply List.ext_getElem?;intro j;rw[List.getElem?_set];split
   ·rename_i e;subst e;rw[hi];split
    ·rfl
    ·rename_i h;rw[gX (by omega)] at hi;cases hi
   ·rfl
  rw[this];exact H
 |v::r,w,L,cs,k,H,hi=>by
  rw[Vc.setCells,setL]
  have e1:(⟨b,o,none⟩:Addr).add k=⟨b,o+k,none⟩:=by
   unfold Addr.add;split
   ·rename_i h;rw[h];rfl
   ·rfl
  rw[e1];have H2:=H.set i hi (o+k) v;have:=Holds.setCells (o:=o) i r (k+1) H2 (Za6 hi);rw[set_set] at this;exact this
theorem r_stA (i:Nat){w:World}{L:List HProp}(H:Holds w L){n b o:Nat}{t:TypeId}{cs vs:List Value}{K:World->Prop}(hi:L[i]?=some (blk b t cs)) (ho:o+n<=cs.length) (hn:vs.length=n) (hs:vs.all sg=true)
  (h:∀ w',Same w w'->Holds w' (L.set i (blk b t (setL cs o vs)))->K w'):StA n (.pointer (some ⟨b,o,none⟩)) (.agg vs.toArray) w K:=by
 refine⟨_,vs.toArray,rfl,rfl,by simpa using hn,λj hj=>?_,by simpa using hs,?_⟩
 ·have e1:(⟨b,o,none⟩:Addr).add j=⟨b,o+j,none⟩:=by
   unfold Addr.add;split
   ·rename_i h;rw[h];rfl
   ·rfl
  rw[e1];refine⟨?_,H.frozen i hi (o+j)⟩;rw[H.cell i hi (o+j),gA (by omega)];rfl
 ·exact h _ (.setCells _ _ _ _) (Holds.setCells i vs 0 H hi)
theorem Zs2 {s:ByteArray}{m:Nat}:s.extract m s.size=⟨(s.data.toList.drop m).toArray⟩:=by
 apply ByteArray.ext;apply Array.ext';rw[ByteArray.data_extract,Array.toList_extract,List.extract_eq_take_drop];rw[gK (by simp)]
theorem Zs5 {s:ByteArray}{m:Nat}:s.extract 0 m=⟨(s.data.toList.take m).toArray⟩:=by
 apply ByteArray.ext;apply Array.ext';rw[ByteArray.data_extract,Array.toList_extract,List.extract_eq_take_drop,Nat.sub_zero,drop_zero]
theorem Zrf {s:ByteArray}{k:IntKind}{m:Nat}{K:Value->Prop}(h1:m<=s.size) (h:K (.string ⟨(s.data.toList.drop m).toArray⟩)):Sst (.string s) (some (.int k (m:Int))) none K:=
 r_sst ⟨k,rfl⟩ rfl h1 (Nat.le_refl _) (by rw[Zs2];exact h)
theorem Zx2 {s:ByteArray}{k:IntKind}{m:Nat}{K:Value->Prop}(h1:m<=s.size) (h:K (.string ⟨(s.data.toList.take m).toArray⟩)):Sst (.string s) none (some (.int k (m:Int))) K:=
 r_sst rfl ⟨k,rfl⟩ (Nat.zero_le _) h1 (by rw[Zs5];exact h)
theorem Zcj {size:Nat}{p:Addr}{l c:Nat}{k:IntKind}{n:Nat}{K:Value->Prop}(h:n < l) (hk:K (.pointer (some (p.add (n*size))))):Ias size (.slice (some p) l c) (.int k (n:Int)) K:=
 ⟨p,l,c,k,n,rfl,rfl,by omega,by omega,by rw[gC];exact hk⟩
theorem Zgm {n:Nat}{p:Addr}{w:World}{cs:Array Value}{K:Value->Prop}(hn:cs.size=n) (hc:∀ (j:Nat) v,cs[j]?=some v->w.cell? (p.add j)=some v) (hk:K (.agg cs)):LdA n (.pointer (some p)) w K:=
 ⟨p,cs,rfl,hn,hc,hk⟩
theorem r_ldP {p:Addr}{w:World}{v:Value}{K:Value->Prop}(hc:w.cell? p=some v) (hk:K v):Ld (.pointer (some p)) w K:=⟨p,v,rfl,hc,hk⟩
class Row (P:Program) (t:TypeId) (e:outParam TypeId) (z:outParam Value):Prop where
 und:P.underlying t=some (.slice e)
 inf:∃ i,P.info? e=some i/\i.size=1/\i.bytes<=32/\i.zero=some z
 one:z.cells=#[z]
section
variable {α:Type}{P:Program}{w:World}{L:List HProp}
theorem r_ms {t e:TypeId}{z:Value} [hr:Row P t e z] (H:Holds w L){f:α->Value}{x:α}(hz:z=f x){k k':IntKind}{n:Int}{K:KT}(h0:0<=n) (h1:n<=1099511627776)
  (h:∀ b w',Same w w'->Holds w' (slb f e (some ⟨b,0,none⟩) (List.replicate n.toNat x) []::L)->K (.slice (some ⟨b,0,none⟩) n.toNat n.toNat) w'):Ms P t (.int k n) (.int k' n) w K:=by
 obtain⟨i,hi,hsz,hby,hzz⟩:=hr.inf
 have hrun:=run_make (P:=P) w t e i z hr.und hi hzz k k' n n h0 (Int.le_refl _) (by
  have:(i.bytes:Int)*n<=32*n:=Int.mul_le_mul_of_nonneg_right (by omega) h0
  omega) (by omega)
 refine⟨_,_,hrun,h _ _ (.alloc _ _) ?_⟩
 have hc:madeCells z.cells (n.toNat*i.size)=((List.replicate n.toNat x).map f).toArray:=by
  rw[hsz,Nat.mul_one,hr.one];apply Array.ext
  ·simp[madeCells]
  ·intro j h1 h2;simp[madeCells,hz,Nat.mod_one]
 have:=H.alloc (.cells (madeCells z.cells (n.toNat*i.size)) e);rw[hc] at this ⊢;refine Holds.imp this λg hg=>⟨rfl,rfl,?_⟩;rw[gU];exact hg
theorem r_bs1 {t e:TypeId}{z:Value} [hr:Row P t e z] (H:Holds w L){v:Value}{K:KT}(hs:sg v=true)
  (h:∀ b w',Same w w'->Holds w' (blk b e [v]::L)->K (.slice (some ⟨b,0,none⟩) 1 1) w'):Bs P t 1 #[(0,v)] w K:=by
 obtain⟨i,hi,hsz,hby,hzz⟩:=hr.inf
 have hcells:v.cells=#[v]:=by cases v <;> first|rfl|simp[sg] at hs
 refine⟨.slice (some ⟨w.heap.size,0,none⟩) 1 1,w.alloc (.cells #[v] e),?_,h _ _ (.alloc _ _) (H.alloc _)⟩
 have hc:(Array.map (λx=>[z][x%1]?.getD default) (Array.range 1)).setIfInBounds 0 v=#[v]:=by
  apply Array.ext
  ·simp
  ·intro j h1 h2
   have:j=0:=by simpa using h2
   subst this;simp
 simp[Instr.buildSlice,run_underlying hr.und,sizeOf,typeInfo,hi,hsz,zeroValue,hzz,Instr.fill,hcells,newRow,newObj,hr.one];rw[hc];rfl
theorem Zkf {v:Value}(h:sg v=true):v.oneCell'=true:=by
 cases v <;> first|rfl|simp[sg] at h
theorem r_ap {t e:TypeId}{z:Value} [hr:Row P t e z] (H:Holds w L) (i j:Nat){f:α->Value}{oa:Option Addr}{xs ys:List α}{sp:List Value}{l c m c' b2:Nat}{cs:List Value}{ty:TypeId}{K:KT}
  (hi:L[i]?=some (slb f e oa xs sp)) (hj:L[j]?=some (blk b2 e cs)) (hcs:cs.take m=ys.map f) (hm:m=ys.length) (hl:l=xs.length) (hc:c=xs.length+sp.length) (hs:∀ y,sg (f y)=true)
  (hn:xs.length+ys.length<=1099511627776) (hne:0 < ys.length)
  (h:∀ oa' sp' w',Same w w'->Holds w' (L.set i (slb f e oa' (xs++ys) sp'))->K (.slice oa' (xs.length+ys.length) (xs.length+ys.length+sp'.length)) w') :
  Ap P #[t,t] ty #[.slice oa l c,.slice (some ⟨b2,0,none⟩) m c'] w K:=by
 subst hl hc hm;obtain⟨inf,hinf,hsz,hby,hzz⟩:=hr.inf
 have hnews:∀ k u,(ys.map f)[k]?=some u->w.cell? ((⟨b2,0,none⟩:Addr).add k)=some u:=by
  intro k u hu
  have e1:(⟨b2,0,none⟩:Addr).add k=⟨b2,k,none⟩:=by
   unfold Addr.add;split
   ·rename_i h;rw[h]
   ·simp
  rw[e1,H.cell j hj k]
  have hk:k < ys.length:=by have:=(gH.1 hu).1;simpa using this
  rw[<-hu,<-hcs,hI_ hk]
 have hmul:(xs.length+ys.length)*inf.bytes<=140737488355328:=
  Nat.le_trans (Nat.mul_le_mul_left _ hby) (by omega)
 have grow:∀ (b:Addr) (olds:List Value),olds=xs.map f->(∀ k v,olds[k]?=some v->w.cell? (b.add k)=some v)->sp.length < ys.length->
   (∃ o,L[i]?=some o)->Ap P #[t,t] ty #[.slice (some b) xs.length (xs.length+sp.length),.slice (some ⟨b2,0,none⟩) ys.length c'] w K:=by
  intro b olds ho hold hg _;subst ho
  have hrun:=run_append_grow (P:=P) w t ty e inf z hr.und hinf hzz b xs.length (xs.length+sp.length) (xs.map f) (by simp[hsz]) hold
   ⟨b2,0,none⟩ ys.length c' (ys.map f) (by simp[hsz]) hnews (by omega) (by omega) (growslice_fits (by omega) hmul)
  refine⟨_,_,hrun,?_⟩;have hcap:=grownCap_ge w (xs.length+ys.length) (xs.length+sp.length) e;generalize grownCap w (xs.length+ys.length) (xs.length+sp.length) e=cap at hcap ⊢
  have hz2:Builtin.zeroCells z.cells (cap - (xs.length+ys.length))=(List.replicate (cap - (xs.length+ys.length)) z).toArray:=by
   rw[hr.one];apply Array.ext
   ·simp[Builtin.zeroCells]
   ·intro j h1 h2;simp[Builtin.zeroCells,Nat.mod_one]
  have hcells:((xs.map f).toArray++(ys.map f).toArray++Builtin.zeroCells z.cells (cap - (xs.length+ys.length)))=((xs++ys).map f++List.replicate (cap - (xs.length+ys.length)) z).toArray:=by
   rw[hz2];simp
  rw[hcells];have H1:Holds w.drew L:=H.same rfl;have H2:=H1.alloc (.cells ((xs++ys).map f++List.replicate (cap - (xs.length+ys.length)) z).toArray e)
  have H3:Holds (w.drew.alloc (.cells ((xs++ys).map f++List.replicate (cap - (xs.length+ys.length)) z).toArray e)) (L.set i (slb f e (some ⟨w.heap.size,0,none⟩) (xs++ys) (List.replicate (cap - (xs.length+ys.length)) z))):=by
   have H4:=(Holds.imp H2 (Q:=slb f e (some ⟨w.heap.size,0,none⟩) (xs++ys) (List.replicate (cap - (xs.length+ys.length)) z)) λg hg=>⟨rfl,rfl,hg⟩);have H5:=H4.dropAt (i+1);rw[List.eraseIdx_cons_succ] at H5;exact Sat.push i hi H5
  have:=h (some ⟨w.heap.size,0,none⟩) (List.replicate (cap - (xs.length+ys.length)) z) _ ((Same.drew w).trans (.alloc _ _)) H3
  have hc2:xs.length+ys.length+(List.replicate (cap - (xs.length+ys.length)) z).length=cap:=by simp;omega
  rw[hc2] at this;exact this
 cases oa with
 |none=>
  obtain⟨g,⟨h2,h3⟩,_⟩:=H.front i hi;subst h2;subst h3;simp only[length_nil,Nat.zero_add,hO_] at hn hmul h ⊢;have hrun:=run_append_nil (P:=P) w t ty e inf z hr.und hinf hzz ⟨b2,0,none⟩ ys.length c' (ys.map f) (by simp[hsz]) hnews (by omega) (by omega) (by omega);refine⟨_,_,hrun,?_⟩;have hcap:=grownCap_ge w ys.length 0 e;generalize grownCap w ys.length 0 e=cap at hcap ⊢
  have hz2:Builtin.zeroCells z.cells (cap - ys.length)=(List.replicate (cap - ys.length) z).toArray:=by
   rw[hr.one];apply Array.ext
   ·simp[Builtin.zeroCells]
   ·intro j h1 h2;simp[Builtin.zeroCells,Nat.mod_one]
  have hcells:((ys.map f).toArray++Builtin.zeroCells z.cells (cap - ys.length))=(ys.map f++List.replicate (cap - ys.length) z).toArray:=by
   rw[hz2];simp
  rw[hcells];have H2:=(H.same (w':=w.drew) rfl).alloc (.cells (ys.map f++List.replicate (cap - ys.length) z).toArray e);have H4:=(Holds.imp H2 (Q:=slb f e (some ⟨w.heap.size,0,none⟩) ys (List.replicate (cap - ys.length) z)) λg hg=>⟨rfl,rfl,hg⟩);have H5:=H4.dropAt (i+1);rw[List.eraseIdx_cons_succ] at H5;have:=h (some ⟨w.heap.size,0,none⟩) (List.replicate (cap - ys.length) z) _ ((Same.drew w).trans (.alloc _ _)) (Sat.push i hi H5)
  have hc2:ys.length+(List.replicate (cap - ys.length) z).length=cap:=by simp;omega
  rw[hc2] at this;exact this
 |some a=>
  obtain⟨g,⟨h2,h3,_⟩,_⟩:=H.front i hi;obtain⟨b,o,s⟩:=a;simp only at h2 h3;subst h2;subst h3;have Hb:=H.slb i hi;have hgi:(L.set i (blk b e (xs.map f++sp)))[i]?=some (blk b e (xs.map f++sp)):=Za6 hi
  have hold:∀ k v,(xs.map f)[k]?=some v->w.cell? ((⟨b,0,none⟩:Addr).add k)=some v:=by
   intro k v hv
   have e1:(⟨b,0,none⟩:Addr).add k=⟨b,k,none⟩:=by
    unfold Addr.add;split
    ·rename_i h;rw[h]
    ·simp
   rw[e1,Hb.cell i hgi k,gM (by simpa using (gH.1 hv).1)];exact hv
  rcases hU_ sp.length ys.length with hg|hg
  ·exact grow ⟨b,0,none⟩ _ rfl hold hg ⟨_,hi⟩
  ·have hobj:=Hb.obj i hgi
   have hrun:=run_append_room (P:=P) w t ty e inf hr.und hinf b xs.length (xs.length+sp.length) (xs.map f++sp).toArray hobj
    ⟨b2,0,none⟩ ys.length c' (ys.map f) (by simp[hsz]) hnews (by simpa using λy _=>Zkf (hs y)) (by omega) (by simp[hsz];omega)
   refine⟨_,_,hrun,?_⟩
   have hcells:(((xs.map f++sp).toArray.toList.take (xs.length*inf.size)++ys.map f++(xs.map f++sp).toArray.toList.drop (xs.length*inf.size+(ys.map f).length)).toArray)=((xs++ys).map f++sp.drop ys.length).toArray:=by
    rw[hsz];simp[List.take_append,List.drop_append]
   rw[hcells]
   have H3:Holds (w.setRow b ((xs++ys).map f++sp.drop ys.length).toArray) (L.set i (slb f e (some ⟨b,0,none⟩) (xs++ys) (sp.drop ys.length))):=by
    have:=Hb.upd (w':=w.setRow b ((xs++ys).map f++sp.drop ys.length).toArray) i hgi (o':=.cells ((xs++ys).map f++sp.drop ys.length).toArray e) (setRow_heap w b _ _ e _ hobj) λc hc=>setRow_other w b c _ hc;have h4:=Holds.slb' (f:=f) (e:=e) (b:=b) (xs:=xs++ys) (sp:=sp.drop ys.length) this i (by rw[set_set];exact Za6 hi);simpa [set_set] using h4
   have hlen:xs.length+sp.length=xs.length+ys.length+(sp.drop ys.length).length:=by simp;omega
   rw[hlen];exact h _ _ _ ⟨rfl,rfl,rfl,by simp⟩ H3
theorem Zma {t e:TypeId}{z:Value} [hr:Row P t e z] (H:Holds w L) (i:Nat){f:α->Value}{v:Value}{xs:List α}{ty:TypeId}{K:KT}
  (hi:L[i]?=some (SL f e v xs)) (x:α) (hs:∀ y,sg (f y)=true) (hn:xs.length+1<=1099511627776)
  (h:∀ v' w',Same w w'->Holds w' (L.set i (SL f e v' (xs++[x])))->K v' w'):Bs P t 1 #[(0,f x)] w λy w2=>Ap P #[t,t] ty #[v,y] w2 K:=by
 obtain⟨oa,sp,rfl,H1⟩:=H.open i hi;refine r_bs1 H1 (hs x) λb3 w3 S3 H3=>?_;refine r_ap (f:=f) (ys:=[x]) H3 (i+1) 0 (xs:=xs) (sp:=sp) (by rw[gF];exact Za6 hi) rfl rfl rfl rfl rfl hs (by rw[gQ];omega) (by simp) λoa' sp' w4 S4 H4=>?_;rw[gW,set_set] at H4;have H5:=H4.drop.close i (Za6 hi);rw[set_set] at H5
 have e:xs.length+[x].length=(xs++[x]).length:=by simp
 rw[e];exact h _ _ (S3.trans S4) H5
theorem Zhg (l:List UInt8):∀ (s:ByteArray),(l.map λc=>(c.toNat:Int)).foldl (λr n=>r.push (UInt8.ofNat n.toNat)) s=⟨(s.data.toList++l).toArray⟩:=by
 induction l with
 |nil=>intro s;simp
 |cons c l ih=>
  intro s;rw[hR_,List.foldl_cons,ih];simp[ByteArray.push]
class Bytes (P:Program) (t e d:TypeId):Prop where
 und:P.underlying t=some (.slice e)
 el:P.underlying e=some (.int .u8)
 str:P.underlying d=some .string
theorem r_cbs {t e d:TypeId} [hr:Bytes P t e d] (H:Holds w L) (i:Nat){oa:Option Addr}{xs:List UInt8}{sp:List Value}{l c:Nat}{K:KT}
  (hi:L[i]?=some (slb bv e oa xs sp)) (hl:l=xs.length) (h:K (.string ⟨xs.toArray⟩) w):Cw P t d (.slice oa l c) w K:=by
 subst hl
 cases oa with
 |none=>
  obtain⟨g,⟨h2,h3⟩,_⟩:=H.front i hi;subst h2;refine⟨.string ⟨[].toArray⟩,w,?_,h⟩;rw[run_convert_bytes_string (P:=P) w t d e none _ c hr.und hr.el hr.str];rfl
 |some a=>
  obtain⟨g,⟨h2,h3,_⟩,_⟩:=H.front i hi;obtain⟨b,o,s⟩:=a;simp only at h2 h3;subst h2;subst h3;have Hb:=H.slb i hi;refine⟨_,w,?_,h⟩;rw[run_convert_bytes_string (P:=P) w t d e _ _ c hr.und hr.el hr.str]
  have hload:(loadCells (⟨b,0,none⟩:Addr) xs.length).run P w=.ok ((xs.map λc=>(c.toNat:Int)).map (Value.int .u8)).toArray w:=by
   have hcells:((xs.map λc=>(c.toNat:Int)).map (Value.int .u8))=xs.map bv:=by rw[List.map_map];rfl
   rw[hcells]
   have:=Zbg (P:=P) (w:=w) (a:=⟨b,0,none⟩) (cs:=(xs.map bv).toArray) (λj v hv=>by
    have e1:(⟨b,0,none⟩:Addr).add j=⟨b,j,none⟩:=by
     unfold Addr.add;split
     ·rename_i h;rw[h]
     ·simp
    rw[e1,Hb.cell i (Za6 hi) j]
    have hv':(xs.map bv)[j]?=some v:=by simpa using hv
    rw[gM (gH.1 hv').1]
    exact hv')
   simpa using this
  rw[run_bytesToString (P:=P) w _ xs.length c _ hload,Zhg];simp
end
end Go.Vc
namespace Go.Vc
variable {P:Program}{w:World}{L:List HProp}
def itPos (w:World) (b:Nat):Nat:=match w.heap[b]? with
 |some (.stringIter _ p)=>p
 |_=>0
theorem Zfr (H:Holds w L) (i:Nat){b p:Nat}{s:ByteArray}(hi:L[i]?=some (blkO b (.stringIter s p))):itPos w b=p:=by
 unfold itPos;rw[H.obj i hi]
theorem r_rg {t:TypeId}{s:ByteArray}{K:KT}(ht:P.underlying t=some .string) (H:Holds w L)
  (h:∀ b w',Same w w'->Holds w' (blkO b (.stringIter s 0)::L)->K (.pointer (some ⟨b,0,none⟩)) w'):Rg P t (.string s) w K:=
 ⟨_,_,run_range_string w t s ht,h _ _ (.alloc _ _) (H.alloc _)⟩
theorem r_nxT (H:Holds w L) (i:Nat){t:TypeId}{s:ByteArray}{b p:Nat}{K:KT}(hi:L[i]?=some (blkO b (.stringIter s p))) (hp:p < s.size)
  (h:∀ w',Same w w'->Holds w' (L.set i (blkO b (.stringIter s (p+(Utf8.decode s p).2))))->K (.tuple #[.bool true,.int .i64 p,.int .i32 (Utf8.decode s p).1]) w') :
  Nx P (.pointer (some ⟨b,0,none⟩)) true t w K:=by
 have ho:=H.obj i hi;refine⟨_,_,Lib.run_next_any_at w b s p t ho hp,h _ ⟨rfl,rfl,rfl,by simp[World.iterAt]⟩ (H.upd i hi ?_ ?_)⟩
 ·have:b < w.heap.size:=by
   rcases hU_ b w.heap.size with h1|h1
   ·exact h1
   ·rw[Array.getElem?_eq_none h1] at ho;cases ho
  simp[World.iterAt,Array.getElem?_setIfInBounds,this]
 ·intro c hc;simp only[World.iterAt,Array.getElem?_setIfInBounds];rw[if_neg (by omega)]
theorem r_nxE (H:Holds w L) (i:Nat){t:TypeId}{s:ByteArray}{b p:Nat}{K:KT}(hi:L[i]?=some (blkO b (.stringIter s p))) (hp:¬ p < s.size)
  (h:K (.tuple #[.bool false]) w):Nx P (.pointer (some ⟨b,0,none⟩)) true t w K:=
 ⟨_,_,Lib.run_next_end_at w b s p t (H.obj i hi) hp,h⟩
theorem Ztj {a:Value}{K:Value->Prop}(h:K a):Ex (.tuple #[a]) 0 K:=r_ex rfl h
theorem r_bsK {t e:TypeId}{n:Nat}{ps:Array (Nat × Value)}{K:KT}(cells:List Value) (H:Holds w L)
  (h:(Instr.buildSlice t n ps).run P w=.ok (.slice (some ⟨w.heap.size,0,none⟩) n n) (w.alloc (.cells cells.toArray e)))
  (k:∀ b w',Same w w'->Holds w' (blk b e cells::L)->K (.slice (some ⟨b,0,none⟩) n n) w'):Bs P t n ps w K:=
 ⟨_,_,h,k _ _ (.alloc _ _) (H.alloc _)⟩
theorem Zjr (i:Nat){α:Type}{f:α->Value}{e:TypeId}{b:Nat}(xs:List α) (H:Holds w L) (hi:L[i]?=some (blk b e (xs.map f))):Holds w (L.set i (SL f e (.slice (some ⟨b,0,none⟩) xs.length xs.length) xs)):=
 H.at i hi λg hg=>⟨some ⟨b,0,none⟩,[],by simp,rfl,rfl,by simpa using hg⟩
theorem Zg2 {size b l c:Nat}{k:IntKind}{n:Nat}{K:Value->Prop}(h:n < l) (hk:K (.pointer (some ⟨b,n*size,none⟩))):Ias size (.slice (some ⟨b,0,none⟩) l c) (.int k (n:Int)) K:=by
 refine Zcj h ?_
 have e1:(⟨b,0,none⟩:Addr).add (n*size)=⟨b,n*size,none⟩:=by
  unfold Addr.add;split
  ·rename_i h;rw[h]
  ·simp
 rw[e1];exact hk
theorem r_inv {m:Sem Next}{f:FuncId}{args:Array Value}{K:KT}(h:m.run P w=.ok (.enter f args) w) (k:Cl P f args w K):Inv P m w K:=⟨f,args,h,k.2⟩
theorem r_ta {x:Value}{xt at_:TypeId}{ok:Bool}{K:Value->Prop}(v:Value) (h:(Instr.typeAssert x xt at_ ok).run P w=.ok v w) (k:K v):Ta P x xt at_ ok w K:=⟨v,h,k⟩
theorem Zv6 {k':IntKind}{n:Int}{K:Value->Prop}(h1:0<=n) (h2:n < 18446744073709551616) (h:K (.int .u64 n)):Ci .u64 (.int k' n) K:=by
 have:Ci .u64 (.int k' n) K:=r_ci (by rw[show IntKind.u64.wrap n=n from by show n%18446744073709551616=n;omega];exact h);exact this
theorem wrapU32 {z:Int}(h1:0<=z) (h2:z < 4294967296):IntKind.u32.wrap z=z:=by show z%4294967296=z;omega
theorem wrapU8 {z:Int}(h1:0<=z) (h2:z < 256):IntKind.u8.wrap z=z:=by show z%256=z;omega
theorem Zn9 {s n:Nat}{k k':IntKind}{K:Value->Prop}(hn:n<=k.bits) (h:K (.int k ((s/2^n:Nat):Int))):Bp .shr (.int k (s:Int)) (.int k' (n:Int)) K:=by
 refine⟨_,?_,h⟩;simp only[bp]
 rw[if_neg (by omega),gC,Nat.min_eq_left hn,Int.fdiv_eq_ediv_of_nonneg _ (by
  have:(0:Int)<=((2^n:Nat):Int):=Int.natCast_nonneg _
  simpa using this)]
 simp
theorem Zmc {s n:Nat}{k':IntKind}{K:Value->Prop}(hn:n<=32) (h:K (.int .u32 ((s*2^n%4294967296:Nat):Int))):Bp .shl (.int .u32 (s:Int)) (.int k' (n:Int)) K:=by
 refine⟨_,?_,h⟩;have hb:IntKind.u32.bits=32:=rfl;simp only[bp];rw[if_neg (by omega),gC,hb,Nat.min_eq_left hn];show some (Value.int .u32 ((s:Int)*2^n%4294967296))=_;simp
theorem Zsy {s t:Nat}{K:Value->Prop}(hs:s < 4294967296) (ht:t < 4294967296) (h:K (.int .u32 ((s ^^^ t:Nat):Int))):Bp .xor (.int .u32 (s:Int)) (.int .u32 (t:Int)) K:=by
 refine⟨_,?_,h⟩;have hb:IntKind.u32.bits=32:=rfl;have hx:s ^^^ t < 2^32:=Nat.xor_lt_two_pow (by simpa using hs) (by simpa using ht);simp only[bp,if_true];rw[hb,BitVec.toNat_xor,BitVec.toNat_ofInt,BitVec.toNat_ofInt]
 have e1:((s:Int)%((2^32:Nat):Int)).toNat=s:=by omega
 have e2:((t:Int)%((2^32:Nat):Int)).toNat=t:=by omega
 rw[e1,e2,wrapU32 (by omega) (by omega)]
theorem Zrv {s t:Nat}{K:Value->Prop}(h1:s*t < 4294967296) (h:K (.int .u32 ((s*t:Nat):Int))):Bp .mul (.int .u32 (s:Int)) (.int .u32 (t:Int)) K:=by
 refine⟨_,?_,h⟩;simp only[bp,if_true];rw[<-Int.natCast_mul,wrapU32 (by omega) (by omega)]
def filled {α:Type}(xs:List α) (z:α) (n i:Nat):List α:=xs.take i++List.replicate (n - i) z
theorem Znc {α:Type}{xs:List α}{z:α}{n i:Nat}(hi:i<=n) (hn:xs.length=n):(filled xs z n i).length=n:=by simp[filled,hn];omega
theorem Zlm {α:Type}(xs:List α) (z:α) (n:Nat):filled xs z n 0=List.replicate n z:=by simp[filled]
theorem Zo4 {α:Type}{xs:List α}{z:α}{n:Nat}(hn:xs.length=n):filled xs z n n=xs:=by simp[filled,<-hn]
theorem Znr {α:Type}{xs:List α}{z x:α}{n i:Nat}(hi:i < n) (hn:xs.length=n) (hx:xs[i]?=some x):(filled xs z n i).set i x=filled xs z n (i+1):=by
 unfold filled
 have hl:(xs.take i).length=i:=by simp;omega
 rw[List.set_append_right _ _ (by omega),hl,Nat.sub_self,gO,hx,show n - i=(n - (i+1))+1 by omega,List.replicate_succ,gJ,gI];rfl
theorem Ztz {s t:Nat}{K:Value->Prop}(hs:s < 256) (ht:t < 256) (h:K (.int .u8 ((s ||| t:Nat):Int))):Bp .or (.int .u8 (s:Int)) (.int .u8 (t:Int)) K:=by
 refine⟨_,?_,h⟩;have hb:IntKind.u8.bits=8:=rfl;have hx:s ||| t < 2^8:=Nat.or_lt_two_pow (by simpa using hs) (by simpa using ht);simp only[bp,if_true];rw[hb,BitVec.toNat_or,BitVec.toNat_ofInt,BitVec.toNat_ofInt]
 have e1:((s:Int)%((2^8:Nat):Int)).toNat=s:=by omega
 have e2:((t:Int)%((2^8:Nat):Int)).toNat=t:=by omega
 rw[e1,e2,wrapU8 (by omega) (by omega)]
theorem Zt8 {s t:Nat}{K:Value->Prop}(hs:s < 4294967296) (ht:t < 4294967296) (h:K (.int .u32 ((s &&& t:Nat):Int))):Bp .and (.int .u32 (s:Int)) (.int .u32 (t:Int)) K:=by
 refine⟨_,?_,h⟩;have hb:IntKind.u32.bits=32:=rfl;have hx:s &&& t<=s:=Nat.and_le_left;simp only[bp,if_true];rw[hb,BitVec.toNat_and,BitVec.toNat_ofInt,BitVec.toNat_ofInt]
 have e1:((s:Int)%((2^32:Nat):Int)).toNat=s:=by omega
 have e2:((t:Int)%((2^32:Nat):Int)).toNat=t:=by omega
 rw[e1,e2,wrapU32 (by omega) (by omega)]
theorem Zvr {s n:Nat}{k':IntKind}{K:Value->Prop}(hn:n<=8) (h:K (.int .u8 ((s*2^n%256:Nat):Int))):Bp .shl (.int .u8 (s:Int)) (.int k' (n:Int)) K:=by
 refine⟨_,?_,h⟩;have hb:IntKind.u8.bits=8:=rfl;simp only[bp];rw[if_neg (by omega),gC,hb,Nat.min_eq_left hn];show some (Value.int .u8 ((s:Int)*2^n%256))=_;simp
theorem Zfa {a b:Int}(c:Int){K:Value->Prop}(hc:a*b=c) (h1:-9223372036854775808<=c) (h2:c<=9223372036854775807) (h:K (.int .i64 c)):Bp .mul (.int .i64 a) (.int .i64 b) K:=by
 subst hc;exact r_mul h1 h2 h
end Go.Vc
namespace Go.Vc
class RowN (P:Program) (t:TypeId) (e:outParam TypeId) (k:outParam Nat):Prop where
 und:P.underlying t=some (.slice e)
 inf:∃ i z,P.info? e=some i/\i.size=k/\i.bytes<=256/\i.zero=some z/\z.cells.size=k
variable {α:Type}{P:Program}{w:World}{L:List HProp}
def flatL (F:α->List Value):List α->List Value
 |[]=>[]
 |x::r=>F x++flatL F r
theorem Zki (F:α->List Value) (a b:List α):flatL F (a++b)=flatL F a++flatL F b:=by
 induction a with
 |nil=>rfl
 |cons x r ih=>simp[flatL,ih]
theorem Zb9 {F:α->List Value}{k:Nat}(hF:∀ x,(F x).length=k) (xs:List α):(flatL F xs).length=xs.length*k:=by
 induction xs with
 |nil=>simp[flatL]
 |cons x r ih=>simp[flatL,ih,hF,Nat.add_mul];omega
theorem Zdb {F:α->List Value}{k:Nat}(hF:∀ x,(F x).length=k):∀ (xs:List α) (i:Nat) (x:α),xs[i]?=some x->((flatL F xs).drop (i*k)).take k=F x
 |y::r,0,x,h=>by
  simp at h;subst h;have:=hF y;simp[flatL,List.take_append,this]
 |y::r,i+1,x,h=>by
  have h1:=Zdb hF r i x (by simpa using h);have:=hF y;rw[flatL,List.drop_append,this,List.drop_of_length_le (by rw[this,Nat.add_mul];omega),hO_,show (i+1)*k - k=i*k by rw[Nat.add_mul];omega];exact h1
def rwb (F:α->List Value) (k:Nat) (e:TypeId) (oa:Option Addr) (xs:List α) (m:Nat) (sp:List Value):HProp:=
 match oa with
 |none=>pur (xs=[]/\m=0)
 |some a=>λh=>a.off=0/\a.spot=none/\sp.length=m*k/\blk a.block e (flatL F xs++sp) h
def RW (F:α->List Value) (k:Nat) (e:TypeId) (v:Value) (xs:List α):HProp:=λh=>∃ oa m sp,v=.slice oa xs.length (xs.length+m)/\rwb F k e oa xs m sp h
theorem Holds.openRW (H:Holds w L) (i:Nat){F:α->List Value}{k:Nat}{e:TypeId}{v:Value}{xs:List α}(hi:L[i]?=some (RW F k e v xs)) :
  ∃ oa m sp,v=.slice oa xs.length (xs.length+m)/\Holds w (L.set i (rwb F k e oa xs m sp)):=by
 obtain⟨g,⟨oa,m,sp,hv,hg⟩,hs,hL⟩:=H.front i hi;exact⟨oa,m,sp,hv,Sat.push i hi ⟨g,hg,hs,hL⟩⟩
theorem Holds.nilRW (H:Holds w L) (F:α->List Value) (k:Nat) (e:TypeId):Holds w (RW F k e (.slice none 0 0) []::L):=
 ⟨λ_=>none,⟨none,0,[],rfl,rfl,rfl⟩,(λb o h=>by cases h),by
  have h0:(hp w).minus (λ_=>none)=hp w:=by funext b;simp[Hp.minus]
  rw[h0];exact H⟩
theorem Holds.rwb (H:Holds w L) (i:Nat){F:α->List Value}{k:Nat}{e:TypeId}{oa:Option Addr}{xs:List α}{m:Nat}{sp:List Value}(hi:L[i]?=some (rwb F k e oa xs m sp)) (hx:0 < xs.length\/0 < m) :
  ∃ b,oa=some ⟨b,0,none⟩/\sp.length=m*k/\Holds w (L.set i (blk b e (flatL F xs++sp))):=by
 cases oa with
 |none=>
  obtain⟨g,⟨h1,h2⟩,_⟩:=H.front i hi;subst h1;subst h2;simp at hx
 |some a=>
  obtain⟨g,⟨h1,h2,h3,h4⟩,hs,hL⟩:=H.front i hi;obtain⟨b,o,s⟩:=a;simp only at h1 h2;subst h1;subst h2;exact⟨b,rfl,h3,Sat.push i hi ⟨g,h4,hs,hL⟩⟩
theorem Zbs (z:Array Value) (n:Nat):(Builtin.zeroCells z n).toList.length=n*z.size:=by simp[Builtin.zeroCells]
theorem r_apN {t e:TypeId}{k:Nat} [hr:RowN P t e k] (H:Holds w L) (i j:Nat){F:α->List Value}{v:Value}{xs ys:List α}{m' c' b2:Nat}{cs:List Value}{ty:TypeId}{K:KT}
  (hi:L[i]?=some (RW F k e v xs)) (hj:L[j]?=some (blk b2 e cs)) (hij:j≠i) (hcs:cs.take (ys.length*k)=flatL F ys) (hm:m'=ys.length) (hF:∀ y,(F y).length=k) (hs:∀ y,∀ u∈F y,sg u=true)
  (hn:xs.length+ys.length<=68719476736) (hne:0 < ys.length) (hk:0 < k)
  (h:∀ v' w',Same w w'->Holds w' (L.set i (RW F k e v' (xs++ys)))->K v' w') :
  Ap P #[t,t] ty #[v,.slice (some ⟨b2,0,none⟩) m' c'] w K:=by
 obtain⟨oa,m,sp,rfl,H⟩:=H.openRW i hi;have hi1:(L.set i (Vc.rwb F k e oa xs m sp))[i]?=some (Vc.rwb F k e oa xs m sp):=Za6 hi
 have hj1:(L.set i (Vc.rwb F k e oa xs m sp))[j]?=some (blk b2 e cs):=by rw[getElem?_set_ne (λe=>hij e.symm)];exact hj
 subst hm;obtain⟨inf,z,hinf,hsz,hby,hzz,hzk⟩:=hr.inf;have hlen:=Zb9 (k:=k) hF
 have hsg:∀ u∈flatL F ys,u.oneCell'=true:=by
  intro u hu;clear hcs hne hn h
  induction ys with
  |nil=>simp[flatL] at hu
  |cons y r ih=>
   rw[flatL,mem_append] at hu;rcases hu with hu|hu
   ·exact Zkf (hs y u hu)
   ·exact ih hu
 have hnews:∀ q u,(flatL F ys)[q]?=some u->w.cell? ((⟨b2,0,none⟩:Addr).add q)=some u:=by
  intro q u hu
  have e1:(⟨b2,0,none⟩:Addr).add q=⟨b2,q,none⟩:=by
   unfold Addr.add;split
   ·rename_i h;rw[h]
   ·simp
  rw[e1,H.cell j hj1 q]
  have hq:q < ys.length*k:=by have:=(gH.1 hu).1;rw[hlen] at this;exact this
  rw[<-hu,<-hcs,hI_ hq]
 have hmul:(xs.length+ys.length)*inf.bytes<=140737488355328:=
  Nat.le_trans (Nat.mul_le_mul_left _ hby) (by omega)
 have fin:∀ (b' cap:Nat) (w':World) (sp':List Value) (L':List HProp),xs.length+ys.length<=cap->sp'.length=(cap - (xs.length+ys.length))*k->Same w w'->
   Holds w' (blk b' e (flatL F (xs++ys)++sp')::L.eraseIdx i)->K (.slice (some ⟨b',0,none⟩) (xs.length+ys.length) cap) w':=by
  intro b' cap w' sp' L' hc hsp S' H'
  have H4:=Holds.imp H' (Q:=RW F k e (.slice (some ⟨b',0,none⟩) (xs.length+ys.length) cap) (xs++ys)) λg hg=>⟨some ⟨b',0,none⟩,cap - (xs.length+ys.length),sp',by
   rw[gD];congr 1;omega,rfl,rfl,hsp,hg⟩
  exact h _ _ S' (Sat.push i hi H4)
 cases oa with
 |none=>
  obtain⟨g,⟨h2,h3⟩,_⟩:=H.front i hi1;subst h2;subst h3;simp only[length_nil,Nat.zero_add,hO_] at hn hmul fin ⊢;have hrun:=run_append_nil (P:=P) w t ty e inf z hr.und hinf hzz ⟨b2,0,none⟩ ys.length c' (flatL F ys) (by rw[hlen,hsz]) hnews (by omega) (by omega) (by omega);refine⟨_,_,hrun,?_⟩;have hcap:=grownCap_ge w ys.length 0 e;generalize grownCap w ys.length 0 e=cap at hcap ⊢;have H2:=(H.same (w':=w.drew) rfl).alloc (.cells ((flatL F ys).toArray++Builtin.zeroCells z.cells (cap - ys.length)) e);have H5:=H2.dropAt (i+1);rw[List.eraseIdx_cons_succ,List.eraseIdx_set_eq] at H5;refine fin _ cap _ (Builtin.zeroCells z.cells (cap - ys.length)).toList L (by omega) (by rw[Zbs,hzk]) ((Same.drew w).trans (.alloc _ _)) ?_
  have hc:((flatL F ys).toArray++Builtin.zeroCells z.cells (cap - ys.length))=(flatL F ys++(Builtin.zeroCells z.cells (cap - ys.length)).toList).toArray:=by simp
  rw[hc] at H5 ⊢;exact H5
 |some a=>
  have h4:=H.rwb i hi1;obtain⟨g,⟨h2,h3,hspl,_⟩,_⟩:=H.front i hi1;obtain⟨b,o,s⟩:=a;simp only at h2 h3;subst h2;subst h3
  have Hb:Holds w (L.set i (blk b e (flatL F xs++sp))):=by
   have:=H.at i hi1 (Q:=blk b e (flatL F xs++sp)) λg hg=>hg.2.2.2;rw[set_set] at this;exact this
  have hgi:(L.set i (blk b e (flatL F xs++sp)))[i]?=some (blk b e (flatL F xs++sp)):=Za6 hi
  have hold:∀ q u,(flatL F xs)[q]?=some u->w.cell? ((⟨b,0,none⟩:Addr).add q)=some u:=by
   intro q u hu
   have e1:(⟨b,0,none⟩:Addr).add q=⟨b,q,none⟩:=by
    unfold Addr.add;split
    ·rename_i h;rw[h]
    ·simp
   rw[e1,Hb.cell i hgi q,gM (gH.1 hu).1];exact hu
  rcases hU_ m ys.length with hg|hg
  ·have hrun:=run_append_grow (P:=P) w t ty e inf z hr.und hinf hzz ⟨b,0,none⟩ xs.length (xs.length+m) (flatL F xs) (by rw[hlen,hsz]) hold
    ⟨b2,0,none⟩ ys.length c' (flatL F ys) (by rw[hlen,hsz]) hnews (by omega) (by omega) (growslice_fits (by omega) hmul)
   refine⟨_,_,hrun,?_⟩;have hcap:=grownCap_ge w (xs.length+ys.length) (xs.length+m) e;generalize grownCap w (xs.length+ys.length) (xs.length+m) e=cap at hcap ⊢;have H2:=(Hb.same (w':=w.drew) rfl).alloc (.cells ((flatL F xs).toArray++(flatL F ys).toArray++Builtin.zeroCells z.cells (cap - (xs.length+ys.length))) e);have H5:=H2.dropAt (i+1);rw[List.eraseIdx_cons_succ,List.eraseIdx_set_eq] at H5;refine fin _ cap _ (Builtin.zeroCells z.cells (cap - (xs.length+ys.length))).toList L (by omega) (by rw[Zbs,hzk]) ((Same.drew w).trans (.alloc _ _)) ?_
   have hc:((flatL F xs).toArray++(flatL F ys).toArray++Builtin.zeroCells z.cells (cap - (xs.length+ys.length)))=(flatL F (xs++ys)++(Builtin.zeroCells z.cells (cap - (xs.length+ys.length))).toList).toArray:=by
    rw[Zki];simp
   rw[hc] at H5 ⊢;exact H5
  ·have hobj:=Hb.obj i hgi;have hroom:(xs.length+ys.length)*k<=(xs.length+m)*k:=Nat.mul_le_mul_right _ (by omega)
   have hrun:=run_append_room (P:=P) w t ty e inf hr.und hinf b xs.length (xs.length+m) (flatL F xs++sp).toArray hobj
    ⟨b2,0,none⟩ ys.length c' (flatL F ys) (by rw[hlen,hsz]) hnews hsg (by omega) (by
     rw[hsz,size_toArray,gD,hspl];have e1:=hlen xs;have e2:=hlen ys;rw[Nat.add_mul,Nat.add_mul] at hroom
     omega)
   refine⟨_,_,hrun,?_⟩
   have hcells:(((flatL F xs++sp).toArray.toList.take (xs.length*inf.size)++flatL F ys++(flatL F xs++sp).toArray.toList.drop (xs.length*inf.size+(flatL F ys).length)).toArray)=(flatL F (xs++ys)++sp.drop (ys.length*k)).toArray:=by
    rw[hsz,Zki];simp[List.take_append,List.drop_append,hlen]
   rw[hcells]
   have H3:Holds (w.setRow b (flatL F (xs++ys)++sp.drop (ys.length*k)).toArray) (L.set i (blk b e (flatL F (xs++ys)++sp.drop (ys.length*k)))):=by
    have:=Hb.upd (w':=w.setRow b (flatL F (xs++ys)++sp.drop (ys.length*k)).toArray) i hgi (o':=.cells (flatL F (xs++ys)++sp.drop (ys.length*k)).toArray e) (setRow_heap w b _ _ e _ hobj) λc hc=>setRow_other w b c _ hc;rw[set_set] at this;exact this
   have H6:=H3.front i (Za6 hi);rw[List.eraseIdx_set_eq] at H6;refine fin b (xs.length+m) _ (sp.drop (ys.length*k)) L (by omega) ?_ ⟨rfl,rfl,rfl,by simp⟩ H6;rw[gS,hspl,show xs.length+m - (xs.length+ys.length)=m - ys.length by omega,Nat.sub_mul]
theorem Zhz {t e:TypeId}{k:Nat} [hr:RowN P t e k] (H:Holds w L) (i:Nat){F:α->List Value}{v:Value}{xs:List α}{ps:Array (Nat × Value)}{ty:TypeId}{K:KT}(x:α)
  (hi:L[i]?=some (RW F k e v xs)) (hb:(Instr.buildSlice t 1 ps).run P w=.ok (.slice (some ⟨w.heap.size,0,none⟩) 1 1) (w.alloc (.cells (F x).toArray e)))
  (hF:∀ y,(F y).length=k) (hs:∀ y,∀ u∈F y,sg u=true)
  (hn:xs.length+1<=68719476736) (hk:0 < k)
  (h:∀ v' w',Same w w'->Holds w' (L.set i (RW F k e v' (xs++[x])))->K v' w'):Bs P t 1 ps w λy w2=>Ap P #[t,t] ty #[v,y] w2 K:=by
 refine r_bsK (F x) H hb λb3 w3 S3 H3=>?_;refine r_apN (F:=F) (ys:=[x]) H3 (i+1) 0 (by rw[gF];exact hi) rfl (by omega) (by simp[flatL,gK,hF]) rfl hF hs (by simpa using hn) (by simp) hk λv' w4 S4 H4=>?_;rw[gW] at H4;exact h _ _ (S3.trans S4) H4.drop
theorem r_ldN (i:Nat) (H:Holds w L){F:α->List Value}{k:Nat}{e:TypeId}{oa:Option Addr}{xs:List α}{m:Nat}{sp:List Value}{l c q:Nat}{kk:IntKind}{x:α}{K:Value->Prop}
  (hi:L[i]?=some (rwb F k e oa xs m sp)) (hx:xs[q]?=some x) (hF:∀ y,(F y).length=k) (hl:q < l) (h:K (.agg (F x).toArray)) :
  Ias k (.slice oa l c) (.int kk (q:Int)) λy=>LdA k y w K:=by
 have hlt:q < xs.length:=(gH.1 hx).1;obtain⟨b,rfl,hsp,Hb⟩:=H.rwb i hi (.inl (by omega));refine Zg2 hl ?_;refine r_ldA i Hb (F x) (Za6 hi) ?_ (hF x) h;have h1:=Zdb hF xs q x hx
 have hq:q*k+k<=xs.length*k:=by
  have:(q+1)*k<=xs.length*k:=Nat.mul_le_mul_right _ (by omega);rw[Nat.add_mul,Nat.one_mul] at this;exact this
 have hlen:=Zb9 (k:=k) hF xs;rw[List.drop_append_of_le_length (by omega),List.take_append_of_le_length (by rw[gS];omega)];exact h1
theorem r_bpK {op:BinOp}{x y:Value}{K:Value->Prop}(v:Value) (h:bp op x y=some v) (k:K v):Bp op x y K:=⟨v,h,k⟩
theorem r_ciK {k k':IntKind}{n:Int}{K:Value->Prop}(m:Int) (h:k.wrap n=m) (hk:K (.int k m)):Ci k (.int k' n) K:=⟨k',n,rfl,by rw[h];exact hk⟩
theorem Zhy {l:List String}(h:l≠[]):∃ m,Instr.least l=some m:=by
 cases l with
 |nil=>exact absurd rfl h
 |cons s r=>exact⟨_,rfl⟩
theorem Zjk {want:Array (String × TypeId)}{got:Array Method}(h:(want.toList.filter λx=>!got.any λm=>m.name==x.1&&m.sig==x.2)≠[]):∃ m,Instr.missingMethod want got=some m:=by
 have h2:((want.toList.filter λx=>!got.any λm=>m.name==x.1&&m.sig==x.2).map (·.1))≠[]:=by simpa using h
 unfold Instr.missingMethod;simp only;generalize ((want.toList.filter λx=>!got.any λm=>m.name==x.1&&m.sig==x.2).map (·.1))=l at *;rw[List.partition_eq_filter_filter];simp only
 by_cases h3:l.filter (λa=>decide (¬ (a.contains '.')=true))=[]
 ·have h5:l.filter (λa=>a.contains '.')≠[]:=by
   intro h4;apply h2;refine List.eq_nil_iff_forall_not_mem.2 λx hx=>?_
   by_cases hc:(x.contains '.')=true
   ·have:x∈l.filter (λa=>a.contains '.'):=List.mem_filter.2 ⟨hx,hc⟩;rw[h4] at this;cases this
   ·have:x∈l.filter (λa=>decide (¬ (a.contains '.')=true)):=List.mem_filter.2 ⟨hx,by simpa using hc⟩;rw[h3] at this;cases this
  obtain ⟨m, hm⟩ := Zhy (l := (l.filter (fun a => a.contains '.')).map fun id => (id.splitOn ".").getLastD id) (by simpa using h5)
  cases hx:Instr.least (l.filter (not ∘ λa=>a.contains '.')) with
  |some y=>exact⟨y,by simp⟩
  |none=>exact⟨m,by simpa using hm⟩
 ·have h6:l.filter (not ∘ λa=>a.contains '.')≠[]:=by
   intro h4;apply h3;rw[<-h4]
   congr 1
   funext a
   simp
  obtain⟨m,hm⟩:=Zhy h6;exact⟨m,by rw[hm];rfl⟩
theorem Ztk {P:Program}{t at_ xt:TypeId}{v z:Value}{want:Array (String × TypeId)}{i:TypeInfo}{K:Value->Prop}(hu:P.underlying at_=some (.interface want)) (hi:P.info? t=some i)
  (hm:(want.toList.filter λx=>!i.methods.any λm=>m.name==x.1&&m.sig==x.2)≠[]) (hz:∀ w,(zeroValue at_).run P w=.ok z w) (k:K (.tuple #[z,.bool false])):Ta P (.iface t v) xt at_ true w K:=by
 obtain⟨m,hm⟩:=Zjk hm;refine⟨_,?_,k⟩;simp[Instr.typeAssert,run_underlying hu,typeInfo,hi,hm,hz]
end Go.Vc
/-
 DERIVED: THE SHELF's CONTRACTS AT THIS DUMP,IN PLAIN WORDS (tools/lay-plain.mjs out of 'YthkaggnihbkmeaaGreatDoorShx.lean',which tools/lay-shelf.mjs wrote): THE SAME DECLARATIONS UNDER THE SAME NAMES: 'import','namespace','open','def','theorem' AND NOTHING ELSE: no command of the shelf's: FOR A HAND-IN. Each laying: the table of numbers ('.._ren') and one theorem,a field a fact of the dump's own or the kernel's comparison;each contract: ONE APPLICATION.
-/
namespace Go.Proofs
open Go.Shelf
def Tryz.lays197_ren:Go.Shelf.Ren:=⟨fun|197=>229|260=>235|n=>n,fun|9=>9|21=>21|3=>3|4=>4|5=>5|105=>297|119=>341|0=>0|46=>271|139=>344|138=>343|n=>n,fun|3=>0|4=>1|n=>n⟩
theorem Tryz.lays197:Go.Proofs.Lays.n197 Tryz.prog Tryz.lays197_ren:={
 mixed:=by kernel_rfl
 f197:=Tryz.func229.trans (congrArg some (by kernel_rfl))
 f260:=Tryz.func235.trans (congrArg some (by kernel_rfl))
 t0:=Tryz.underlying0
 a0:=Tryz.isAgg0
 z0:=Tryz.sizeOf0
 v0:=Tryz.zeroValue0
 t3:=Tryz.underlying3
 a3:=Tryz.isAgg3
 z3:=Tryz.sizeOf3
 v3:=Tryz.zeroValue3
 t4:=Tryz.underlying4
 a4:=Tryz.isAgg4
 z4:=Tryz.sizeOf4
 v4:=Tryz.zeroValue4
 t5:=Tryz.underlying5
 a5:=Tryz.isAgg5
 z5:=Tryz.sizeOf5
 v5:=Tryz.zeroValue5
 t9:=Tryz.underlying9
 a9:=Tryz.isAgg9
 z9:=Tryz.sizeOf9
 v9:=Tryz.zeroValue9
 t21:=Tryz.underlying21
 a21:=Tryz.isAgg21
 z21:=Tryz.sizeOf21
 v21:=Tryz.zeroValue21
 t46:=Tryz.underlying271
 a46:=Tryz.isAgg271
 z46:=Tryz.sizeOf271
 v46:=Tryz.zeroValue271
 t105:=Tryz.underlying297
 a105:=Tryz.isAgg297
 z105:=Tryz.sizeOf297
 v105:=Tryz.zeroValue297
 t119:=Tryz.underlying341
 a119:=Tryz.isAgg341
 z119:=Tryz.sizeOf341
 t138:=Tryz.underlying343
 a138:=Tryz.isAgg343
 z138:=Tryz.sizeOf343
 v138:=Tryz.zeroValue343
 t139:=Tryz.underlying344
 a139:=Tryz.isAgg344
 z139:=Tryz.sizeOf344
 v139:=Tryz.zeroValue344
 g3:=by kernel_rfl
 g4:=by kernel_rfl }
def Tryz.lays156_ren:Go.Shelf.Ren:=⟨fun|156=>205|165=>219|166=>155|169=>48|240=>192|241=>230|276=>215|277=>236|n=>n,fun|31=>273|9=>9|3=>3|4=>4|0=>0|20=>20|72=>86|76=>237|70=>84|37=>79|75=>236|127=>173|164=>280|5=>5|80=>100|n=>n,fun|n=>n⟩
theorem Tryz.lays156:Go.Proofs.Lays.n156 Tryz.prog Tryz.lays156_ren:={
 mixed:=by kernel_rfl
 f156:=Tryz.func205.trans (congrArg some (by kernel_rfl))
 f165:=Tryz.func219.trans (congrArg some (by kernel_rfl))
 f166:=Tryz.func155.trans (congrArg some (by kernel_rfl))
 f169:=Tryz.func48.trans (congrArg some (by kernel_rfl))
 f240:=Tryz.func192.trans (congrArg some (by kernel_rfl))
 f241:=Tryz.func230.trans (congrArg some (by kernel_rfl))
 f276:=Tryz.func215.trans (congrArg some (by kernel_rfl))
 f277:=Tryz.func236.trans (congrArg some (by kernel_rfl))
 t0:=Tryz.underlying0
 a0:=Tryz.isAgg0
 z0:=Tryz.sizeOf0
 v0:=Tryz.zeroValue0
 t3:=Tryz.underlying3
 a3:=Tryz.isAgg3
 z3:=Tryz.sizeOf3
 v3:=Tryz.zeroValue3
 t4:=Tryz.underlying4
 a4:=Tryz.isAgg4
 z4:=Tryz.sizeOf4
 v4:=Tryz.zeroValue4
 t9:=Tryz.underlying9
 a9:=Tryz.isAgg9
 z9:=Tryz.sizeOf9
 v9:=Tryz.zeroValue9
 t20:=Tryz.underlying20
 a20:=Tryz.isAgg20
 z20:=Tryz.sizeOf20
 v20:=Tryz.zeroValue20
 t31:=Tryz.underlying273
 a31:=Tryz.isAgg273
 z31:=Tryz.sizeOf273
 v31:=Tryz.zeroValue273
 t37:=Tryz.underlying79
 a37:=Tryz.isAgg79
 z37:=Tryz.sizeOf79
 v37:=Tryz.zeroValue79
 t70:=Tryz.underlying84
 a70:=Tryz.isAgg84
 z70:=Tryz.sizeOf84
 v70:=Tryz.zeroValue84
 t72:=Tryz.underlying86
 a72:=Tryz.isAgg86
 z72:=Tryz.sizeOf86
 v72:=Tryz.zeroValue86
 t75:=Tryz.underlying236
 a75:=Tryz.isAgg236
 z75:=Tryz.sizeOf236
 v75:=Tryz.zeroValue236
 t76:=Tryz.underlying237
 a76:=Tryz.isAgg237
 z76:=Tryz.sizeOf237
 v76:=Tryz.zeroValue237
 t127:=Tryz.underlying173
 a127:=Tryz.isAgg173
 z127:=Tryz.sizeOf173
 v127:=Tryz.zeroValue173
 t164:=Tryz.underlying280
 a164:=Tryz.isAgg280
 z164:=Tryz.sizeOf280
 v164:=Tryz.zeroValue280 }
end Go.Proofs
namespace Go.Proofs.YthkaggnihbkmeaaGreatDoor
open Go Go.Vc Go.Proofs.Tryz
namespace J30
variable {w:World}{L:List HProp}{K:KT}
def TabIn (L:List HProp):Prop:=∀ w',Holds w' L->Lib.Utf8Tabs 0 1 w'
theorem TabIn.up {Q:HProp}(h:TabIn L):TabIn (Q::L):=λw' H=>h w' H.drop
theorem Zh0 {w w':World}(h:RowKit.Below w.heap.size w w') (H:Holds w L):Holds w' L:=by
 refine Sat.mono H λc o hc=>?_;show w'.heap[c]?=some o;have hc':w.heap[c]?=some o:=hc;rw[h.block c (Array.getElem?_eq_some_iff.1 hc').1,hc']
theorem Zkx {s:ByteArray}(H:Holds w L) (hT:TabIn L) (h0:0 < s.size) (post:∀ w',Same w w'->Holds w' L->K (.tuple #[.int .i32 ((Utf8.decode s 0).1:Int),nv (Utf8.decode s 0).2]) w') :
  Cl prog 229 #[.string s] w K:=by
 have c:=Any.utf8_DecodeRuneInString Tryz.lays197 s w (hT w H);refine⟨Tryz.call229 _ _,c.mono λe w' ⟨he,hb⟩=>⟨_,he,?_⟩⟩
 have hd:Lib.decodeGo s=Utf8.decode s 0:=by unfold Lib.decodeGo;rw[if_neg (by omega)]
 rw[hd];exact post w' ⟨hb.os,hb.tape,hb.output,hb.size⟩ (Zh0 hb H)
end J30
end Go.Proofs.YthkaggnihbkmeaaGreatDoor
namespace Go.Vc
variable {P:Program}{w:World}{L:List HProp}
theorem Zxu {s t:Nat}{K:Value->Prop}(hs:s < 256) (ht:t < 256) (h:K (.int .u8 ((s &&& t:Nat):Int))):Bp .and (.int .u8 (s:Int)) (.int .u8 (t:Int)) K:=by
 refine⟨_,?_,h⟩;have hb:IntKind.u8.bits=8:=rfl;have hx:s &&& t<=s:=Nat.and_le_left;simp only[bp,if_true];rw[hb,BitVec.toNat_and,BitVec.toNat_ofInt,BitVec.toNat_ofInt]
 have e1:((s:Int)%((2^8:Nat):Int)).toNat=s:=by omega
 have e2:((t:Int)%((2^8:Nat):Int)).toNat=t:=by omega
 rw[e1,e2,wrapU8 (by omega) (by omega)]
theorem Zc9 {P:HProp}{L L':List HProp}{h:Hp}(hL:∀ h,Sat L h->Sat L' h) (H:Sat (P::L) h):Sat (P::L') h:=by
 obtain⟨g,hg,hs,hr⟩:=H;exact⟨g,hg,hs,hL _ hr⟩
def live:List (Option HProp)->List HProp
 |[]=>[]
 |none::M=>live M
 |some P::M=>P::live M
def dead:List (Option HProp)->Nat->List (Option HProp)
 |[],_=>[]
 |_::M,0=>none::M
 |x::M,i+1=>x::dead M i
def sel:List Nat->List (Option HProp)->Option (List HProp)
 |[],_=>some []
 |i::is,M=>match M[i]? with
  |some (some P)=>(match sel is (dead M i) with
   |some R=>some (P::R)
   |none=>none)
  |_=>none
theorem Zgn:∀ (M:List (Option HProp)) (i:Nat){P:HProp}{L:List HProp}{h:Hp},M[i]?=some (some P)->Sat (live M++L) h->Sat (P::(live (dead M i)++L)) h
 |[],i,P,L,h,hi,H=>by simp at hi
 |none::M,0,P,L,h,hi,H=>by simp at hi
 |some Q::M,0,P,L,h,hi,H=>by
  simp at hi;subst hi;exact H
 |none::M,i+1,P,L,h,hi,H=>Zgn M i (by simpa using hi) H
 |some Q::M,i+1,P,L,h,hi,H=>Sat.swap (Zc9 (λh' H'=>Zgn M i (by simpa using hi) H') H)
theorem Zgs:∀ (M:List (Option HProp)){L:List HProp}{h:Hp},Sat (live M++L) h->Sat L h
 |[],_,_,H=>H
 |none::M,_,_,H=>Zgs M H
 |some Q::M,L,h,H=>Zgs M (by
  obtain⟨g,_,_,hL⟩:=H
  exact hL.mono λb o hb=>by
   unfold Hp.minus at hb;split at hb
   ·cases hb
   ·exact hb)
theorem Zpe:∀ (is:List Nat){M:List (Option HProp)}{R L:List HProp}{h:Hp},sel is M=some R->Sat (live M++L) h->Sat (R++L) h
 |[],M,R,L,h,hR,H=>by
  cases hR;exact Zgs M H
 |i::is,M,R,L,h,hR,H=>by
  unfold sel at hR;split at hR
  ·rename_i P hP;split at hR
   ·rename_i R' hR';cases hR;exact Zc9 (λh' H'=>Zpe is hR' H') (Zgn M i hP H)
   ·cases hR
  ·cases hR
theorem Zk8:∀ (F:List HProp),live (F.map some)=F
 |[]=>rfl
 |P::F=>by rw[hR_,live,Zk8 F]
theorem Holds.ord (n:Nat) (is:List Nat) (H:Holds w L){R:List HProp}(hR:sel is ((L.take n).map some)=some R):Holds w (R++L.drop n):=by
 refine Zpe is hR ?_;rw[Zk8,List.take_append_drop];exact H
theorem Zsx {i j:Nat}{X Y Q:HProp}(hij:i≠j) (hj:L[j]?=some Q):((L.set j X).set i Y).set j Q=L.set i Y:=by
 have e:L.set j Q=L:=by
  have hl:j < L.length:=(gH.1 hj).1;have h2:L[j]=Q:=(gH.1 hj).2;rw[<-h2,List.set_getElem_self]
 have e1:(L.set j X).set i Y=(L.set i Y).set j X:=List.set_comm _ _ (Ne.symm hij);have e2:(L.set i Y).set j Q=(L.set j Q).set i Y:=List.set_comm _ _ hij;rw[e1,set_set,e2,e]
theorem r_apS {α:Type}{t e:TypeId}{z:Value} [hr:Row P t e z] (H:Holds w L) (i j:Nat) (hij:i≠j){f:α->Value}{v v2:Value}{xs ys:List α}{ty:TypeId}{K:KT}
  (hi:L[i]?=some (SL f e v xs)) (hj:L[j]?=some (SL f e v2 ys)) (hs:∀ y,sg (f y)=true) (hn:xs.length+ys.length<=1099511627776)
  (h:∀ v' w',Same w w'->Holds w' (L.set i (SL f e v' (xs++ys)))->K v' w'):Ap P #[t,t] ty #[v,v2] w K:=by
 obtain⟨inf,hinf,hsz,hby,hzz⟩:=hr.inf
 have nothing:ys=[]->(∃ oa c,v2=.slice oa 0 c)->Ap P #[t,t] ty #[v,v2] w K:=by
  rintro rfl ⟨oa2,c2,rfl⟩;obtain⟨oa,sp,rfl,_⟩:=H.open i hi
  have hsrc:Src P inf.size t (.slice oa2 0 c2) 0 [] w:=by
   cases oa2 with
   |none=>exact Src.ofNil w hr.und c2
   |some a=>exact Src.ofSlice w hr.und a 0 c2 [] (by simp) (λj u hu=>by simp at hu) (λ_ h=>by cases h)
  refine⟨_,_,run_append_nothing w t t ty e inf hr.und hinf oa xs.length (xs.length+sp.length) (by omega) _ hsrc,h _ _ (.refl _) ?_⟩
  rw[gU,show L.set i (SL f e (.slice oa xs.length (xs.length+sp.length)) xs)=L from by
   have hl:i < L.length:=(gH.1 hi).1;have e1:L[i]=_:=(gH.1 hi).2
   rw[<-e1,List.set_getElem_self]]
  exact H
 obtain⟨oa2,sp2,rfl,H1⟩:=H.open j hj
 cases oa2 with
 |none=>
  obtain⟨g,⟨h2,_⟩,_⟩:=H1.front j (Za6 hj);exact nothing h2 ⟨_,_,by rw[h2];rfl⟩
 |some a=>
  obtain⟨g,⟨h2,h3,_⟩,_⟩:=H1.front j (Za6 hj);obtain⟨b2,o,s⟩:=a;simp only at h2 h3;subst h2;subst h3
  by_cases hy:ys=[]
  ·exact nothing hy ⟨_,_,by rw[hy];rfl⟩
  ·have hy0:0 < ys.length:=List.length_pos_iff.2 hy;have H2:=H1.slb j (Za6 hj);rw[set_set] at H2
   have hi2:(L.set j (blk b2 e (ys.map f++sp2)))[i]?=some (SL f e v xs):=by rw[getElem?_set_ne (Ne.symm hij)];exact hi
   obtain⟨oa,sp,rfl,H3⟩:=H2.open i hi2;refine r_ap (f:=f) (ys:=ys) H3 i j (xs:=xs) (sp:=sp) (Za6 hi2) (by rw[getElem?_set_ne hij];exact Za6 hj) (by simp) rfl rfl rfl hs hn hy0 λoa' sp' w4 S4 H4=>?_;rw[set_set] at H4;have hi3:(L.set j (blk b2 e (ys.map f++sp2)))[i]?=some (SL f e (.slice oa xs.length (xs.length+sp.length)) xs):=hi2;have H5:=H4.close i (Za6 hi3);rw[set_set] at H5;have H6:=H5.at j (Q:=SL f e (.slice (some ⟨b2,0,none⟩) ys.length (ys.length+sp2.length)) ys) (by rw[getElem?_set_ne hij];exact Za6 hj) λg hg=>⟨some ⟨b2,0,none⟩,sp2,rfl,rfl,rfl,hg⟩;rw[Zsx hij hj] at H6
   have e1:xs.length+ys.length=(xs++ys).length:=by simp
   rw[e1];exact h _ _ S4 H6
theorem r_mf {fn:Fn}{f c:Array Value}{K:Value->Prop}(v:Value) (h:(Instr.makeFunc fn f c).run P w=.ok v w) (k:K v):Mf P fn f c w K:=⟨v,h,k⟩
theorem Zw6 {α:Type}{t e:TypeId}{z:Value} [hr:Row P t e z] (H:Holds w L) (i:Nat){f:α->Value}{v:Value}{xs:List α}{ty:TypeId}{N:Node}{K:KT}
  (hi:L[i]?=some (SL f e v xs)) (x:α) (hs:∀ y,sg (f y)=true) (hn:xs.length+1<=1099511627776) (hN:∀ w',Holds w' L->N w' λu=>u=v)
  (h:∀ v' w',Same w w'->Holds w' (L.set i (SL f e v' (xs++[x])))->K v' w'):Bs P t 1 #[(0,f x)] w λy w2=>Rk N v w2 (Ap P #[t,t] ty #[v,y] w2 K):=by
 refine r_bs1 H (hs x) λb3 w3 S3 H3=>r_rk (hN _ H3.drop) ?_;obtain⟨oa,sp,rfl,H4⟩:=H3.open (i+1) (by rw[gF];exact hi);rw[gW] at H4;refine r_ap (f:=f) (ys:=[x]) H4 (i+1) 0 (xs:=xs) (sp:=sp) (by rw[gF];exact Za6 hi) rfl rfl rfl rfl rfl hs (by rw[gQ];omega) (by simp) λoa' sp' w4 S4 H4=>?_;rw[gW,set_set] at H4;have H5:=H4.drop.close i (Za6 hi);rw[set_set] at H5
 have e:xs.length+[x].length=(xs++[x]).length:=by simp
 rw[e];exact h _ _ (S3.trans S4) H5
theorem Zui {s t:Nat}{K:Value->Prop}(hs:s < 256) (ht:t < 256) (h:K (.int .u8 ((s ^^^ t:Nat):Int))):Bp .xor (.int .u8 (s:Int)) (.int .u8 (t:Int)) K:=by
 refine⟨_,?_,h⟩;have hb:IntKind.u8.bits=8:=rfl;have hx:s ^^^ t < 2^8:=Nat.xor_lt_two_pow (by simpa using hs) (by simpa using ht);simp only[bp,if_true];rw[hb,BitVec.toNat_xor,BitVec.toNat_ofInt,BitVec.toNat_ofInt]
 have e1:((s:Int)%((2^8:Nat):Int)).toNat=s:=by omega
 have e2:((t:Int)%((2^8:Nat):Int)).toNat=t:=by omega
 rw[e1,e2,wrapU8 (by omega) (by omega)]
theorem Zwl {a n:Nat}{k':IntKind}{K:Value->Prop}(hn:n<=64) (h1:a*2^n < 9223372036854775808) (h:K (.int .i64 ((a*2^n:Nat):Int))):Bp .shl (.int .i64 (a:Int)) (.int k' (n:Int)) K:=by
 refine⟨_,?_,h⟩;have hb:IntKind.i64.bits=64:=rfl;simp only[bp];rw[if_neg (by omega),gC,hb,Nat.min_eq_left hn]
 have e:(a:Int)*2^n=((a*2^n:Nat):Int):=by simp
 rw[e,wrap64 (by omega) (by omega)]
theorem r_lnS {α:Type}(i:Nat) (H:Holds w L){f:α->Value}{e:TypeId}{v:Value}{xs:List α}{K:Value->Prop}(hi:L[i]?=some (SL f e v xs)) (h:K (nv xs.length)):Lnl v K:=by
 obtain⟨oa,sp,rfl,_⟩:=H.open i hi;exact r_lnl h
end Go.Vc
namespace Go.Proofs.YthkaggnihbkmeaaGreatDoor
open Go Go.Vc Go.Proofs.Tryz
namespace S4r
section
variable {α:Type}{P:Program}{w:World}{L:List HProp}
def InG (F:α->List Value) (k:Nat) (L:List HProp) (a:Option Addr) (xs:List α):Prop:=
 ∀ w',Holds w' L->∀ i x,xs[i]?=some x->∃ p:Addr,a=some p/\∀ j v,(F x)[j]?=some v->w'.cell? ((p.add (i*k)).add j)=some v
theorem InG.up {F:α->List Value}{k:Nat}{a:Option Addr}{xs:List α}{Q:HProp}(h:InG F k L a xs):InG F k (Q::L) a xs:=λw' H=>h w' H.drop
theorem r_ldG {F:α->List Value}{k:Nat}{a:Option Addr}{xs:List α}{x:α}{i l c:Nat}{q:IntKind}{K:Value->Prop}(hT:InG F k L a xs) (H:Holds w L) (hx:xs[i]?=some x) (hk:(F x).length=k) (hi:i < l) (h:K (.agg (F x).toArray)) :
  Ias k (.slice a l c) (.int q (i:Int)) λy=>LdA k y w K:=by
 obtain⟨p,rfl,hc⟩:=hT w H i x hx;refine Zcj hi ?_;refine Zgm (cs:=(F x).toArray) (by simpa using hk) (λj v hv=>hc j v (by simpa using hv)) h
theorem flatL_in {F:α->List Value}{k:Nat}(hF:∀ x,(F x).length=k):∀ (xs:List α) (q:Nat) (u:Value),(flatL F xs)[q]?=some u->∃ i j x,xs[i]?=some x/\(F x)[j]?=some u/\q=i*k+j
 |[],q,u,h=>by simp[flatL] at h
 |y::r,q,u,h=>by
  rw[flatL] at h;rcases hU_ q (F y).length with h1|h1
  ·rw[gM h1] at h;exact⟨0,q,y,rfl,h,by omega⟩
  ·rw[gT h1] at h;obtain⟨i,j,x,h2,h3,h4⟩:=flatL_in hF r _ u h;refine⟨i+1,j,x,by simpa using h2,h3,?_⟩;rw[hF] at h1 h4;rw[Nat.add_mul];omega
theorem InG.own {F:α->List Value}{k:Nat}{e:TypeId}{oa:Option Addr}{n c:Nat}{xs:List α}(i:Nat) (hi:L[i]?=some (RW F k e (.slice oa n c) xs)) (hF:∀ x,(F x).length=k):InG F k L oa xs:=by
 intro w' H' q x hx;obtain⟨oa',m,sp,hv,H1⟩:=H'.openRW i hi;cases hv;have hlt:q < xs.length:=(gH.1 hx).1;obtain⟨b,rfl,hsp,Hb⟩:=H1.rwb i (Za6 hi) (.inl (by omega));refine⟨⟨b,0,none⟩,rfl,λj v hj=>?_⟩
 have hjk:j < k:=by have:=(gH.1 hj).1;rw[hF] at this;exact this
 have h1:=Zdb hF xs q x hx
 have h2:(flatL F xs)[q*k+j]?=some v:=by
  have:((flatL F xs).drop (q*k)).take k=F x:=h1;rw[<-this,hI_ hjk,hH_] at hj;exact hj
 rw[Addr.add_add]
 have e1:(⟨b,0,none⟩:Addr).add (q*k+j)=⟨b,q*k+j,none⟩:=by
  unfold Addr.add;split
  ·rename_i h;rw[h]
  ·simp
 rw[e1,Hb.cell i (by rw[set_set];exact Za6 hi) (q*k+j),gM (gH.1 h2).1];exact h2
theorem Ztg {t e:TypeId}{k:Nat} [hr:RowN P t e k] (H:Holds w L){F:α->List Value}{ys:List α}{a:Option Addr}{c':Nat}{ty:TypeId}{K:KT}(hT:InG F k L a ys) (hF:∀ y,(F y).length=k) (hs:ys.length<=1000)
  (h:∀ v w',Same w w'->Holds w' (RW F k e v ys::L)->K v w'):Ap P #[t,t] ty #[.slice none 0 0,.slice a ys.length c'] w K:=by
 obtain⟨inf,z,hinf,hsz,hby,hzz,hzk⟩:=hr.inf;have hlen:=Zb9 (k:=k) hF
 by_cases hy:ys=[]
 ·subst hy
  have hsrc:Src P inf.size t (.slice a 0 c') 0 [] w:=by
   cases a with
   |none=>exact Src.ofNil w hr.und c'
   |some p=>exact Src.ofSlice w hr.und p 0 c' [] (by simp) (λj u hu=>by simp at hu) (λ_ h=>by cases h)
  exact⟨_,_,run_append_nothing w t t ty e inf hr.und hinf none 0 0 (by omega) _ hsrc,h _ _ (.refl _) (H.nilRW F k e)⟩
 have hn:0 < ys.length:=List.length_pos_iff.2 hy;obtain⟨p,rfl,_⟩:=hT w H 0 ys[0] (gA hn)
 have hnews:∀ q u,(flatL F ys)[q]?=some u->w.cell? (p.add q)=some u:=by
  intro q u hu;obtain⟨i,j,x,h1,h2,rfl⟩:=flatL_in hF ys q u hu;obtain⟨p',hp,h3⟩:=hT w H i x h1;obtain rfl:=Option.some.inj hp;rw[<-Addr.add_add];exact h3 j u h2
 have hmul:ys.length*inf.bytes<=140737488355328:=Nat.le_trans (Nat.mul_le_mul_left _ hby) (by omega);have hrun:=run_append_nil (P:=P) w t ty e inf z hr.und hinf hzz p ys.length c' (flatL F ys) (by rw[hlen,hsz]) hnews hn (by omega) (by omega);refine⟨_,_,hrun,?_⟩;have hcap:=grownCap_ge w ys.length 0 e;generalize grownCap w ys.length 0 e=cap at hcap ⊢;have H2:=(H.same (w':=w.drew) rfl).alloc (.cells ((flatL F ys).toArray++Builtin.zeroCells z.cells (cap - ys.length)) e)
 have hc:((flatL F ys).toArray++Builtin.zeroCells z.cells (cap - ys.length))=(flatL F ys++(Builtin.zeroCells z.cells (cap - ys.length)).toList).toArray:=by simp
 rw[hc] at H2 ⊢;refine h _ _ ((Same.drew w).trans (.alloc _ _)) (Holds.imp H2 λg hg=>⟨some ⟨_,0,none⟩,cap - ys.length,(Builtin.zeroCells z.cells (cap - ys.length)).toList,?_,rfl,rfl,?_,hg⟩)
 ·congr 1;omega
 ·rw[Zbs,hzk]
end
end S4r
end Go.Proofs.YthkaggnihbkmeaaGreatDoor
namespace Go.Vc
theorem Zgc {p:Nat->Prop}(h:∃ n,p n):∃ n,p n/\∀ m,p m->n<=m:=by
 obtain⟨n,hn⟩:=h
 induction n using Nat.strongRecOn with
 |_ n ih=>
  by_cases hm:∃ m,m < n/\p m
  ·obtain⟨m,h1,h2⟩:=hm;exact ih m h1 h2
  ·exact⟨n,hn,λm h2=>Nat.le_of_not_lt λh1=>hm ⟨m,h1,h2⟩⟩
end Go.Vc
namespace Go.Proofs.YthkaggnihbkmeaaGreatDoor
open Go Go.Vc Go.Proofs.Tryz
namespace S4r
variable {w:World}{L:List HProp}
theorem SLIn {α β:Type}{f:α->Value}{F:β->List Value}{e:TypeId}{oa:Option Addr}{n c:Nat}{xs:List α}{ys:List β}(g:β->α) (i:Nat) (hi:L[i]?=some (SL f e (.slice oa n c) xs)) (hxs:xs=ys.map g) (hF:∀ y,F y=[f (g y)]):InG F 1 L oa ys:=by
 intro w' H' q y hy;obtain⟨oa',sp,hv,H1⟩:=H'.open i hi;cases hv
 have hx:xs[q]?=some (g y):=by rw[hxs,hV_,hy];rfl
 cases oa with
 |none=>
  obtain⟨h,hh,_,_⟩:=H1.front i (Za6 hi);rw[hh.1] at hx;cases hx
 |some a=>
  obtain⟨h,⟨h2,h3,_⟩,_⟩:=H1.front i (Za6 hi);obtain⟨b,o,st⟩:=a;simp only at h2 h3;subst h2;subst h3;have Hb:=H1.slb i (Za6 hi);rw[set_set] at Hb;refine⟨⟨b,0,none⟩,rfl,λj v hj=>?_⟩;rw[hF] at hj
  have hj0:j=0:=by
   have:=(gH.1 hj).1;simpa using this
  subst hj0
  have hj:f (g y)=v:=by simpa using hj
  subst hj;rw[Addr.add_add]
  have e1:(⟨b,0,none⟩:Addr).add (q*1+0)=⟨b,q,none⟩:=by
   unfold Addr.add;split
   ·rename_i h;rw[show q=0 by omega]
   ·simp
  have hql:q < xs.length:=(gH.1 hx).1;rw[e1,Hb.cell i (Za6 hi) q,gM (by simpa using hql),hV_,hx];rfl
end S4r
namespace J31
set_option maxRecDepth 100000
open Go.M31
abbrev tI:Nat:=3
abbrev tT:Nat:=51
abbrev tC:Nat:=24
variable {w:World}{L:List HProp}{K:KT}
abbrev tR:Nat:=222
abbrev runeF (r:Int × Nat):List Value:=[iv r.1,nv r.2]
theorem more_spec {s:ByteArray}{i:Nat}(hi:i<=1000) (post:K (.bool (goesOn s.data.toList i)) w):Cl prog 228 #[.string s,nv i] w K:=by
 refine Tz228 ?_;unfold Vz228
 have hsz:s.size=s.data.toList.length:=by simp
 have e:goesOn s.data.toList i=decide (i < s.size/\128<=byt s.data.toList i/\byt s.data.toList i < 192):=by rw[Bool.eq_iff_iff,Zaj,decide_eq_true_iff,hsz]
 rw[e] at post;unfold byt at post
 repeat (first|refine r_nc ?_|refine r_fo0 ?_|refine r_fo ?_|refine r_ke ?_|refine r_lns ?_|refine r_lnl ?_|refine r_eql ?_|refine r_neq ?_|refine r_lss ?_|refine r_leq ?_|refine r_gtr ?_|refine r_geq ?_|refine Zad ?_|refine Zai ?_|refine r_seq ?_|refine r_sne ?_|(with_reducible first|refine Zao ?_|refine Zaq ?_)|refine r_not ?_|(with_reducible first|refine Zag ?_|refine Za2 ?_|refine Zam ?_|refine Zan ?_|refine Za4 ?_|refine Za3 ?_|refine Zae ?_|refine Zah ?_|refine Zaf ?_|refine r_vt ?_|refine r_vf ?_)|refine r_bb ?_|(with_reducible first|refine r_pkT ?_|refine r_pkF ?_|refine r_pkB ?_)|refine r_ex rfl ?_|(refine Zab (by omega) (by omega) ?_)|(refine Zac (by omega) (by omega) ?_)|(refine Za8 (by omega) (by omega) ?_)|refine r_ci ?_|(refine Za1 (by omega) ?_)|(refine Za9 (by omega) (by omega) ?_)|(refine Zaa (by omega) ?_)|(refine r_add (by omega) (by omega) ?_)|(refine Zak (by omega) ?_)|(refine Zal (by omega) ?_)|(refine r_sub (by omega) (by omega) ?_)|(refine r_mul (by omega) (by omega) ?_)|(refine r_dr H ?_;clear H;intro _ S_ H;replace S:=S.trans S_;clear S_)|refine r_ld 0 H rfl rfl ?_|refine r_ld 1 H rfl rfl ?_|refine r_ld 2 H rfl rfl ?_|refine r_ld 3 H rfl rfl ?_|refine r_ld 4 H rfl rfl ?_|((with_reducible refine r_vtD ?h ?_);(case h=>omega))|((with_reducible refine r_vfD ?h ?_);(case h=>omega))|((with_reducible refine r_vtE ?h ?_);(case h=>omega))|((with_reducible refine r_vfE ?h ?_);(case h=>omega))|((with_reducible refine r_vtN ?h ?_);(case h=>omega))|((with_reducible refine r_vfN ?h ?_);(case h=>omega)))
 refine r_ifD (λh=>?_) λh=>?_
 ·repeat (first|refine r_nc ?_|refine r_fo0 ?_|refine r_fo ?_|refine r_ke ?_|refine r_lns ?_|refine r_lnl ?_|refine r_eql ?_|refine r_neq ?_|refine r_lss ?_|refine r_leq ?_|refine r_gtr ?_|refine r_geq ?_|refine Zad ?_|refine Zai ?_|refine r_seq ?_|refine r_sne ?_|(with_reducible first|refine Zao ?_|refine Zaq ?_)|refine r_not ?_|(with_reducible first|refine Zag ?_|refine Za2 ?_|refine Zam ?_|refine Zan ?_|refine Za4 ?_|refine Za3 ?_|refine Zae ?_|refine Zah ?_|refine Zaf ?_|refine r_vt ?_|refine r_vf ?_)|refine r_bb ?_|(with_reducible first|refine r_pkT ?_|refine r_pkF ?_|refine r_pkB ?_)|refine r_ex rfl ?_|(refine Zab (by omega) (by omega) ?_)|(refine Zac (by omega) (by omega) ?_)|(refine Za8 (by omega) (by omega) ?_)|refine r_ci ?_|(refine Za1 (by omega) ?_)|(refine Za9 (by omega) (by omega) ?_)|(refine Zaa (by omega) ?_)|(refine r_add (by omega) (by omega) ?_)|(refine Zak (by omega) ?_)|(refine Zal (by omega) ?_)|(refine r_sub (by omega) (by omega) ?_)|(refine r_mul (by omega) (by omega) ?_)|(refine r_dr H ?_;clear H;intro _ S_ H;replace S:=S.trans S_;clear S_)|refine r_ld 0 H rfl rfl ?_|refine r_ld 1 H rfl rfl ?_|refine r_ld 2 H rfl rfl ?_|refine r_ld 3 H rfl rfl ?_|refine r_ld 4 H rfl rfl ?_|((with_reducible refine r_vtD ?h ?_);(case h=>omega))|((with_reducible refine r_vfD ?h ?_);(case h=>omega))|((with_reducible refine r_vtE ?h ?_);(case h=>omega))|((with_reducible refine r_vfE ?h ?_);(case h=>omega))|((with_reducible refine r_vtN ?h ?_);(case h=>omega))|((with_reducible refine r_vfN ?h ?_);(case h=>omega)))
  refine r_ifD (λh2=>?_) λh2=>?_
  ·repeat (first|refine r_nc ?_|refine r_fo0 ?_|refine r_fo ?_|refine r_ke ?_|refine r_lns ?_|refine r_lnl ?_|refine r_eql ?_|refine r_neq ?_|refine r_lss ?_|refine r_leq ?_|refine r_gtr ?_|refine r_geq ?_|refine Zad ?_|refine Zai ?_|refine r_seq ?_|refine r_sne ?_|(with_reducible first|refine Zao ?_|refine Zaq ?_)|refine r_not ?_|(with_reducible first|refine Zag ?_|refine Za2 ?_|refine Zam ?_|refine Zan ?_|refine Za4 ?_|refine Za3 ?_|refine Zae ?_|refine Zah ?_|refine Zaf ?_|refine r_vt ?_|refine r_vf ?_)|refine r_bb ?_|(with_reducible first|refine r_pkT ?_|refine r_pkF ?_|refine r_pkB ?_)|refine r_ex rfl ?_|(refine Zab (by omega) (by omega) ?_)|(refine Zac (by omega) (by omega) ?_)|(refine Za8 (by omega) (by omega) ?_)|refine r_ci ?_|(refine Za1 (by omega) ?_)|(refine Za9 (by omega) (by omega) ?_)|(refine Zaa (by omega) ?_)|(refine r_add (by omega) (by omega) ?_)|(refine Zak (by omega) ?_)|(refine Zal (by omega) ?_)|(refine r_sub (by omega) (by omega) ?_)|(refine r_mul (by omega) (by omega) ?_)|(refine r_dr H ?_;clear H;intro _ S_ H;replace S:=S.trans S_;clear S_)|refine r_ld 0 H rfl rfl ?_|refine r_ld 1 H rfl rfl ?_|refine r_ld 2 H rfl rfl ?_|refine r_ld 3 H rfl rfl ?_|refine r_ld 4 H rfl rfl ?_|((with_reducible refine r_vtD ?h ?_);(case h=>omega))|((with_reducible refine r_vfD ?h ?_);(case h=>omega))|((with_reducible refine r_vtE ?h ?_);(case h=>omega))|((with_reducible refine r_vfE ?h ?_);(case h=>omega))|((with_reducible refine r_vtN ?h ?_);(case h=>omega))|((with_reducible refine r_vfN ?h ?_);(case h=>omega)))
   rw[show decide (((s.data.toList.getD i 0).toNat:Int) < 192)=decide (i < s.size/\128<=(s.data.toList.getD i 0).toNat/\(s.data.toList.getD i 0).toNat < 192) by
    rw[Bool.eq_iff_iff,decide_eq_true_iff,decide_eq_true_iff];omega]
   exact post
  ·rw[decide_eq_false (by omega)] at post;exact post
 ·rw[decide_eq_false (by omega)] at post;exact post
theorem Zpy (l:List UInt8) (b f:Nat) (n:Int):wideN l b f b n=some n:=by
 cases f with
 |zero=>rfl
 |succ f=>rw[wideN,if_neg (by omega)]
theorem Zfx {s:ByteArray}{b:Nat}(H:Holds w L) (hb:b=2\/b=3\/b=4) (h0:0 < s.size) (post:∀ w',Same w w'->Holds w' L->K (.agg #[iv (wide s.data.toList b).1,nv (wide s.data.toList b).2]) w') :
  Cl prog 214 #[.string s,nv b] w K:=by
 refine Tz214 ?_;unfold Vz214
 have hz:(zeroP prog tR).cells.toList=[iv 0,iv 0]:=by kernel_rfl
 have hc:byt s.data.toList 0 < 256:=UInt8.toNat_lt _;have hc0:(s.data.toList.getD 0 0).toNat=byt s.data.toList 0:=rfl;refine r_new H λbx w1 S1 H1=>?_;rw[hz] at H1;have S:=S1;clear H S1;have H:=H1;clear H1;refine r_ixs (by omega) (by omega) ?_;rw[show (0:Int).toNat=0 from rfl,hc0];unfold M31.wide at post;generalize byt s.data.toList 0=c at *
 repeat (first|refine r_nc ?_|refine r_fo0 ?_|refine r_fo ?_|refine r_ke ?_|refine r_lns ?_|refine r_lnl ?_|refine r_eql ?_|refine r_neq ?_|refine r_lss ?_|refine r_leq ?_|refine r_gtr ?_|refine r_geq ?_|refine Zad ?_|refine Zai ?_|refine r_seq ?_|refine r_sne ?_|(with_reducible first|refine Zao ?_|refine Zaq ?_)|refine r_not ?_|(with_reducible first|refine Zag ?_|refine Za2 ?_|refine Zam ?_|refine Zan ?_|refine Za4 ?_|refine Za3 ?_|refine Zae ?_|refine Zah ?_|refine Zaf ?_|refine r_vt ?_|refine r_vf ?_)|refine r_bb ?_|(with_reducible first|refine r_pkT ?_|refine r_pkF ?_|refine r_pkB ?_)|refine r_ex rfl ?_|(refine Zab (by omega) (by omega) ?_)|(refine Zac (by omega) (by omega) ?_)|(refine Za8 (by omega) (by omega) ?_)|refine r_ci ?_|(refine Za1 (by omega) ?_)|(refine Za9 (by omega) (by omega) ?_)|(refine Zaa (by omega) ?_)|(refine r_add (by omega) (by omega) ?_)|(refine Zak (by omega) ?_)|(refine Zal (by omega) ?_)|(refine r_sub (by omega) (by omega) ?_)|(refine r_mul (by omega) (by omega) ?_)|(refine r_dr H ?_;clear H;intro _ S_ H;replace S:=S.trans S_;clear S_)|refine r_ld 0 H rfl rfl ?_|refine r_ld 1 H rfl rfl ?_|refine r_ld 2 H rfl rfl ?_|refine r_ld 3 H rfl rfl ?_|refine r_ld 4 H rfl rfl ?_|((with_reducible refine r_vtD ?h ?_);(case h=>omega))|((with_reducible refine r_vfD ?h ?_);(case h=>omega))|((with_reducible refine r_vtE ?h ?_);(case h=>omega))|((with_reducible refine r_vfE ?h ?_);(case h=>omega))|((with_reducible refine r_vtN ?h ?_);(case h=>omega))|((with_reducible refine r_vfN ?h ?_);(case h=>omega)))
 refine Za0 (λx w'=>w1=w'/\x=iv (if b=2 then (c:Int) - 192 else c)) ?_ ?_
 rotate_left
 ·repeat (first|refine r_nc ?_|refine r_fo0 ?_|refine r_fo ?_|refine r_ke ?_|refine r_lns ?_|refine r_lnl ?_|refine r_eql ?_|refine r_neq ?_|refine r_lss ?_|refine r_leq ?_|refine r_gtr ?_|refine r_geq ?_|refine Zad ?_|refine Zai ?_|refine r_seq ?_|refine r_sne ?_|(with_reducible first|refine Zao ?_|refine Zaq ?_)|refine r_not ?_|(with_reducible first|refine Zag ?_|refine Za2 ?_|refine Zam ?_|refine Zan ?_|refine Za4 ?_|refine Za3 ?_|refine Zae ?_|refine Zah ?_|refine Zaf ?_|refine r_vt ?_|refine r_vf ?_)|refine r_bb ?_|(with_reducible first|refine r_pkT ?_|refine r_pkF ?_|refine r_pkB ?_)|refine r_ex rfl ?_|(refine Zab (by omega) (by omega) ?_)|(refine Zac (by omega) (by omega) ?_)|(refine Za8 (by omega) (by omega) ?_)|refine r_ci ?_|(refine Za1 (by omega) ?_)|(refine Za9 (by omega) (by omega) ?_)|(refine Zaa (by omega) ?_)|(refine r_add (by omega) (by omega) ?_)|(refine Zak (by omega) ?_)|(refine Zal (by omega) ?_)|(refine r_sub (by omega) (by omega) ?_)|(refine r_mul (by omega) (by omega) ?_)|(refine r_dr H ?_;clear H;intro _ S_ H;replace S:=S.trans S_;clear S_)|refine r_ld 0 H rfl rfl ?_|refine r_ld 1 H rfl rfl ?_|refine r_ld 2 H rfl rfl ?_|refine r_ld 3 H rfl rfl ?_|refine r_ld 4 H rfl rfl ?_|((with_reducible refine r_vtD ?h ?_);(case h=>omega))|((with_reducible refine r_vfD ?h ?_);(case h=>omega))|((with_reducible refine r_vtE ?h ?_);(case h=>omega))|((with_reducible refine r_vfE ?h ?_);(case h=>omega))|((with_reducible refine r_vtN ?h ?_);(case h=>omega))|((with_reducible refine r_vfN ?h ?_);(case h=>omega)))
  refine r_ifE (λh=>?_) λh=>?_
  ·repeat (first|refine r_nc ?_|refine r_fo0 ?_|refine r_fo ?_|refine r_ke ?_|refine r_lns ?_|refine r_lnl ?_|refine r_eql ?_|refine r_neq ?_|refine r_lss ?_|refine r_leq ?_|refine r_gtr ?_|refine r_geq ?_|refine Zad ?_|refine Zai ?_|refine r_seq ?_|refine r_sne ?_|(with_reducible first|refine Zao ?_|refine Zaq ?_)|refine r_not ?_|(with_reducible first|refine Zag ?_|refine Za2 ?_|refine Zam ?_|refine Zan ?_|refine Za4 ?_|refine Za3 ?_|refine Zae ?_|refine Zah ?_|refine Zaf ?_|refine r_vt ?_|refine r_vf ?_)|refine r_bb ?_|(with_reducible first|refine r_pkT ?_|refine r_pkF ?_|refine r_pkB ?_)|refine r_ex rfl ?_|(refine Zab (by omega) (by omega) ?_)|(refine Zac (by omega) (by omega) ?_)|(refine Za8 (by omega) (by omega) ?_)|refine r_ci ?_|(refine Za1 (by omega) ?_)|(refine Za9 (by omega) (by omega) ?_)|(refine Zaa (by omega) ?_)|(refine r_add (by omega) (by omega) ?_)|(refine Zak (by omega) ?_)|(refine Zal (by omega) ?_)|(refine r_sub (by omega) (by omega) ?_)|(refine r_mul (by omega) (by omega) ?_)|(refine r_dr H ?_;clear H;intro _ S_ H;replace S:=S.trans S_;clear S_)|refine r_ld 0 H rfl rfl ?_|refine r_ld 1 H rfl rfl ?_|refine r_ld 2 H rfl rfl ?_|refine r_ld 3 H rfl rfl ?_|refine r_ld 4 H rfl rfl ?_|((with_reducible refine r_vtD ?h ?_);(case h=>omega))|((with_reducible refine r_vfD ?h ?_);(case h=>omega))|((with_reducible refine r_vtE ?h ?_);(case h=>omega))|((with_reducible refine r_vfE ?h ?_);(case h=>omega))|((with_reducible refine r_vtN ?h ?_);(case h=>omega))|((with_reducible refine r_vfN ?h ?_);(case h=>omega)))
   exact⟨rfl,by rw[if_pos (by omega)]⟩
  ·exact r_ke ⟨rfl,by rw[if_neg (by omega)]⟩
 rintro _ _ _ ⟨rfl,rfl⟩;refine Zpd (λx y w'=>w1=w'/\x=iv (if b=2 then (c:Int) - 192 else if b=3 then c - 224 else c)/\y=iv (if b=3 then 2048 else 128)) ?_ ?_
 rotate_left
 ·repeat (first|refine r_nc ?_|refine r_fo0 ?_|refine r_fo ?_|refine r_ke ?_|refine r_lns ?_|refine r_lnl ?_|refine r_eql ?_|refine r_neq ?_|refine r_lss ?_|refine r_leq ?_|refine r_gtr ?_|refine r_geq ?_|refine Zad ?_|refine Zai ?_|refine r_seq ?_|refine r_sne ?_|(with_reducible first|refine Zao ?_|refine Zaq ?_)|refine r_not ?_|(with_reducible first|refine Zag ?_|refine Za2 ?_|refine Zam ?_|refine Zan ?_|refine Za4 ?_|refine Za3 ?_|refine Zae ?_|refine Zah ?_|refine Zaf ?_|refine r_vt ?_|refine r_vf ?_)|refine r_bb ?_|(with_reducible first|refine r_pkT ?_|refine r_pkF ?_|refine r_pkB ?_)|refine r_ex rfl ?_|(refine Zab (by omega) (by omega) ?_)|(refine Zac (by omega) (by omega) ?_)|(refine Za8 (by omega) (by omega) ?_)|refine r_ci ?_|(refine Za1 (by omega) ?_)|(refine Za9 (by omega) (by omega) ?_)|(refine Zaa (by omega) ?_)|(refine r_add (by omega) (by omega) ?_)|(refine Zak (by omega) ?_)|(refine Zal (by omega) ?_)|(refine r_sub (by omega) (by omega) ?_)|(refine r_mul (by omega) (by omega) ?_)|(refine r_dr H ?_;clear H;intro _ S_ H;replace S:=S.trans S_;clear S_)|refine r_ld 0 H rfl rfl ?_|refine r_ld 1 H rfl rfl ?_|refine r_ld 2 H rfl rfl ?_|refine r_ld 3 H rfl rfl ?_|refine r_ld 4 H rfl rfl ?_|((with_reducible refine r_vtD ?h ?_);(case h=>omega))|((with_reducible refine r_vfD ?h ?_);(case h=>omega))|((with_reducible refine r_vtE ?h ?_);(case h=>omega))|((with_reducible refine r_vfE ?h ?_);(case h=>omega))|((with_reducible refine r_vtN ?h ?_);(case h=>omega))|((with_reducible refine r_vfN ?h ?_);(case h=>omega)))
  refine r_ifE (λh=>?_) λh=>?_
  ·rw[if_neg (by omega)]
   repeat (first|refine r_nc ?_|refine r_fo0 ?_|refine r_fo ?_|refine r_ke ?_|refine r_lns ?_|refine r_lnl ?_|refine r_eql ?_|refine r_neq ?_|refine r_lss ?_|refine r_leq ?_|refine r_gtr ?_|refine r_geq ?_|refine Zad ?_|refine Zai ?_|refine r_seq ?_|refine r_sne ?_|(with_reducible first|refine Zao ?_|refine Zaq ?_)|refine r_not ?_|(with_reducible first|refine Zag ?_|refine Za2 ?_|refine Zam ?_|refine Zan ?_|refine Za4 ?_|refine Za3 ?_|refine Zae ?_|refine Zah ?_|refine Zaf ?_|refine r_vt ?_|refine r_vf ?_)|refine r_bb ?_|(with_reducible first|refine r_pkT ?_|refine r_pkF ?_|refine r_pkB ?_)|refine r_ex rfl ?_|(refine Zab (by omega) (by omega) ?_)|(refine Zac (by omega) (by omega) ?_)|(refine Za8 (by omega) (by omega) ?_)|refine r_ci ?_|(refine Za1 (by omega) ?_)|(refine Za9 (by omega) (by omega) ?_)|(refine Zaa (by omega) ?_)|(refine r_add (by omega) (by omega) ?_)|(refine Zak (by omega) ?_)|(refine Zal (by omega) ?_)|(refine r_sub (by omega) (by omega) ?_)|(refine r_mul (by omega) (by omega) ?_)|(refine r_dr H ?_;clear H;intro _ S_ H;replace S:=S.trans S_;clear S_)|refine r_ld 0 H rfl rfl ?_|refine r_ld 1 H rfl rfl ?_|refine r_ld 2 H rfl rfl ?_|refine r_ld 3 H rfl rfl ?_|refine r_ld 4 H rfl rfl ?_|((with_reducible refine r_vtD ?h ?_);(case h=>omega))|((with_reducible refine r_vfD ?h ?_);(case h=>omega))|((with_reducible refine r_vtE ?h ?_);(case h=>omega))|((with_reducible refine r_vfE ?h ?_);(case h=>omega))|((with_reducible refine r_vtN ?h ?_);(case h=>omega))|((with_reducible refine r_vfN ?h ?_);(case h=>omega)))
   exact⟨rfl,by rw[if_neg (by omega),if_pos (by omega)],by rw[if_pos (by omega)]⟩
  ·refine r_ke ⟨rfl,?_,by rw[if_neg (by omega)]⟩;split
   ·rfl
   ·rw[if_neg (by omega)]
 rintro _ _ _ _ ⟨rfl,rfl,rfl⟩;refine Zpd (λx y w'=>w1=w'/\x=iv (startW c b)/\y=iv (least b)) ?_ ?_
 rotate_left
 ·unfold startW least
  repeat (first|refine r_nc ?_|refine r_fo0 ?_|refine r_fo ?_|refine r_ke ?_|refine r_lns ?_|refine r_lnl ?_|refine r_eql ?_|refine r_neq ?_|refine r_lss ?_|refine r_leq ?_|refine r_gtr ?_|refine r_geq ?_|refine Zad ?_|refine Zai ?_|refine r_seq ?_|refine r_sne ?_|(with_reducible first|refine Zao ?_|refine Zaq ?_)|refine r_not ?_|(with_reducible first|refine Zag ?_|refine Za2 ?_|refine Zam ?_|refine Zan ?_|refine Za4 ?_|refine Za3 ?_|refine Zae ?_|refine Zah ?_|refine Zaf ?_|refine r_vt ?_|refine r_vf ?_)|refine r_bb ?_|(with_reducible first|refine r_pkT ?_|refine r_pkF ?_|refine r_pkB ?_)|refine r_ex rfl ?_|(refine Zab (by omega) (by omega) ?_)|(refine Zac (by omega) (by omega) ?_)|(refine Za8 (by omega) (by omega) ?_)|refine r_ci ?_|(refine Za1 (by omega) ?_)|(refine Za9 (by omega) (by omega) ?_)|(refine Zaa (by omega) ?_)|(refine r_add (by omega) (by omega) ?_)|(refine Zak (by omega) ?_)|(refine Zal (by omega) ?_)|(refine r_sub (by omega) (by omega) ?_)|(refine r_mul (by omega) (by omega) ?_)|(refine r_dr H ?_;clear H;intro _ S_ H;replace S:=S.trans S_;clear S_)|refine r_ld 0 H rfl rfl ?_|refine r_ld 1 H rfl rfl ?_|refine r_ld 2 H rfl rfl ?_|refine r_ld 3 H rfl rfl ?_|refine r_ld 4 H rfl rfl ?_|((with_reducible refine r_vtD ?h ?_);(case h=>omega))|((with_reducible refine r_vfD ?h ?_);(case h=>omega))|((with_reducible refine r_vtE ?h ?_);(case h=>omega))|((with_reducible refine r_vfE ?h ?_);(case h=>omega))|((with_reducible refine r_vtN ?h ?_);(case h=>omega))|((with_reducible refine r_vfN ?h ?_);(case h=>omega)))
  refine r_ifE (λh=>?_) λh=>?_
  ·rw[if_neg (by omega),if_neg (by omega)]
   repeat (first|refine r_nc ?_|refine r_fo0 ?_|refine r_fo ?_|refine r_ke ?_|refine r_lns ?_|refine r_lnl ?_|refine r_eql ?_|refine r_neq ?_|refine r_lss ?_|refine r_leq ?_|refine r_gtr ?_|refine r_geq ?_|refine Zad ?_|refine Zai ?_|refine r_seq ?_|refine r_sne ?_|(with_reducible first|refine Zao ?_|refine Zaq ?_)|refine r_not ?_|(with_reducible first|refine Zag ?_|refine Za2 ?_|refine Zam ?_|refine Zan ?_|refine Za4 ?_|refine Za3 ?_|refine Zae ?_|refine Zah ?_|refine Zaf ?_|refine r_vt ?_|refine r_vf ?_)|refine r_bb ?_|(with_reducible first|refine r_pkT ?_|refine r_pkF ?_|refine r_pkB ?_)|refine r_ex rfl ?_|(refine Zab (by omega) (by omega) ?_)|(refine Zac (by omega) (by omega) ?_)|(refine Za8 (by omega) (by omega) ?_)|refine r_ci ?_|(refine Za1 (by omega) ?_)|(refine Za9 (by omega) (by omega) ?_)|(refine Zaa (by omega) ?_)|(refine r_add (by omega) (by omega) ?_)|(refine Zak (by omega) ?_)|(refine Zal (by omega) ?_)|(refine r_sub (by omega) (by omega) ?_)|(refine r_mul (by omega) (by omega) ?_)|(refine r_dr H ?_;clear H;intro _ S_ H;replace S:=S.trans S_;clear S_)|refine r_ld 0 H rfl rfl ?_|refine r_ld 1 H rfl rfl ?_|refine r_ld 2 H rfl rfl ?_|refine r_ld 3 H rfl rfl ?_|refine r_ld 4 H rfl rfl ?_|((with_reducible refine r_vtD ?h ?_);(case h=>omega))|((with_reducible refine r_vfD ?h ?_);(case h=>omega))|((with_reducible refine r_vtE ?h ?_);(case h=>omega))|((with_reducible refine r_vfE ?h ?_);(case h=>omega))|((with_reducible refine r_vtN ?h ?_);(case h=>omega))|((with_reducible refine r_vfN ?h ?_);(case h=>omega)))
   exact⟨rfl,by rw[if_neg (by omega),if_neg (by omega),if_pos (by omega)],by rw[if_neg (by omega),if_pos (by omega)]⟩
  ·refine r_ke ⟨rfl,?_,?_⟩
   ·split
    ·rfl
    ·split
     ·rfl
     ·rw[if_neg (by omega)]
   ·split
    ·rfl
    ·rw[if_neg (by omega)]
 rintro _ _ _ _ ⟨rfl,rfl,rfl⟩
 have hst:-256<=startW c b/\startW c b<=256:=by
  unfold startW
  repeat' split
  all_goals omega
 have hle:0<=least b/\least b<=65536:=by
  unfold least
  repeat' split
  all_goals omega
 refine Zb1 (λx y w'=>∃ (n:Int) (i:Nat),x=iv n/\y=nv i/\wideN s.data.toList b (5 - i) i n=wideN s.data.toList b 4 1 (startW c b)/\1<=i/\i<=b/\
   (i=1/\-256<=n/\n<=256\/i=2/\-20000<=n/\n<=20000\/i=3/\-2000000<=n/\n<=2000000\/i=4/\-200000000<=n/\n<=200000000)/\Same w w'/\Holds w' (blk bx tR [iv 0,iv 0]::L))
  (λ_ y _=>b - (intOf y).toNat) ⟨_,1,rfl,rfl,rfl,by omega,by omega,by omega,S,H⟩ ?_
 clear H S;rintro _ _ _ w2 ⟨n,i,rfl,rfl,hn,hi1,hi2,hb1,S,H⟩
 repeat (first|refine r_nc ?_|refine r_fo0 ?_|refine r_fo ?_|refine r_ke ?_|refine r_lns ?_|refine r_lnl ?_|refine r_eql ?_|refine r_neq ?_|refine r_lss ?_|refine r_leq ?_|refine r_gtr ?_|refine r_geq ?_|refine Zad ?_|refine Zai ?_|refine r_seq ?_|refine r_sne ?_|(with_reducible first|refine Zao ?_|refine Zaq ?_)|refine r_not ?_|(with_reducible first|refine Zag ?_|refine Za2 ?_|refine Zam ?_|refine Zan ?_|refine Za4 ?_|refine Za3 ?_|refine Zae ?_|refine Zah ?_|refine Zaf ?_|refine r_vt ?_|refine r_vf ?_)|refine r_bb ?_|(with_reducible first|refine r_pkT ?_|refine r_pkF ?_|refine r_pkB ?_)|refine r_ex rfl ?_|(refine Zab (by omega) (by omega) ?_)|(refine Zac (by omega) (by omega) ?_)|(refine Za8 (by omega) (by omega) ?_)|refine r_ci ?_|(refine Za1 (by omega) ?_)|(refine Za9 (by omega) (by omega) ?_)|(refine Zaa (by omega) ?_)|(refine r_add (by omega) (by omega) ?_)|(refine Zak (by omega) ?_)|(refine Zal (by omega) ?_)|(refine r_sub (by omega) (by omega) ?_)|(refine r_mul (by omega) (by omega) ?_)|(refine r_dr H ?_;clear H;intro _ S_ H;replace S:=S.trans S_;clear S_)|refine r_ld 0 H rfl rfl ?_|refine r_ld 1 H rfl rfl ?_|refine r_ld 2 H rfl rfl ?_|refine r_ld 3 H rfl rfl ?_|refine r_ld 4 H rfl rfl ?_|((with_reducible refine r_vtD ?h ?_);(case h=>omega))|((with_reducible refine r_vfD ?h ?_);(case h=>omega))|((with_reducible refine r_vtE ?h ?_);(case h=>omega))|((with_reducible refine r_vfE ?h ?_);(case h=>omega))|((with_reducible refine r_vtN ?h ?_);(case h=>omega))|((with_reducible refine r_vfN ?h ?_);(case h=>omega)))
 refine r_ifD (λh=>?_) λh=>?_
 ·rw[show 5 - i=(4 - i)+1 by omega,wideN,if_pos (by omega)] at hn;refine more_spec (by omega) ?_
  repeat (first|refine r_nc ?_|refine r_fo0 ?_|refine r_fo ?_|refine r_ke ?_|refine r_lns ?_|refine r_lnl ?_|refine r_eql ?_|refine r_neq ?_|refine r_lss ?_|refine r_leq ?_|refine r_gtr ?_|refine r_geq ?_|refine Zad ?_|refine Zai ?_|refine r_seq ?_|refine r_sne ?_|(with_reducible first|refine Zao ?_|refine Zaq ?_)|refine r_not ?_|(with_reducible first|refine Zag ?_|refine Za2 ?_|refine Zam ?_|refine Zan ?_|refine Za4 ?_|refine Za3 ?_|refine Zae ?_|refine Zah ?_|refine Zaf ?_|refine r_vt ?_|refine r_vf ?_)|refine r_bb ?_|(with_reducible first|refine r_pkT ?_|refine r_pkF ?_|refine r_pkB ?_)|refine r_ex rfl ?_|(refine Zab (by omega) (by omega) ?_)|(refine Zac (by omega) (by omega) ?_)|(refine Za8 (by omega) (by omega) ?_)|refine r_ci ?_|(refine Za1 (by omega) ?_)|(refine Za9 (by omega) (by omega) ?_)|(refine Zaa (by omega) ?_)|(refine r_add (by omega) (by omega) ?_)|(refine Zak (by omega) ?_)|(refine Zal (by omega) ?_)|(refine r_sub (by omega) (by omega) ?_)|(refine r_mul (by omega) (by omega) ?_)|(refine r_dr H ?_;clear H;intro _ S_ H;replace S:=S.trans S_;clear S_)|refine r_ld 0 H rfl rfl ?_|refine r_ld 1 H rfl rfl ?_|refine r_ld 2 H rfl rfl ?_|refine r_ld 3 H rfl rfl ?_|refine r_ld 4 H rfl rfl ?_|((with_reducible refine r_vtD ?h ?_);(case h=>omega))|((with_reducible refine r_vfD ?h ?_);(case h=>omega))|((with_reducible refine r_vtE ?h ?_);(case h=>omega))|((with_reducible refine r_vfE ?h ?_);(case h=>omega))|((with_reducible refine r_vtN ?h ?_);(case h=>omega))|((with_reducible refine r_vfN ?h ?_);(case h=>omega)))
  refine r_vif (λhg=>?_) λhg=>?_
  ·rw[if_neg (by simpa using hg)] at hn;refine r_bd (v:=.agg #[iv 0,iv 0]) (by kernel_rfl) ?_;refine r_stA 0 H (vs:=[iv 0,iv 0]) rfl (Nat.le_refl 2) rfl rfl λw3 S3 H3=>?_;replace H3:Holds w3 (blk bx tR [iv 0,iv 0]::L):=H3;refine r_ldA 0 H3 [iv 0,iv 0] rfl rfl rfl ?_;rw[<-hn] at post;exact post _ (S.trans S3) H3.drop
  ·have hg':goesOn s.data.toList i=true:=by simpa using hg
   rw[if_pos hg'] at hn;have hgi:=(Zaj _ _).1 hg'
   have hsz:s.size=s.data.toList.length:=by simp
   refine r_mul (by omega) (by omega) ?_;refine Zak (by omega) ?_;rw[show (s.data.toList.getD i 0).toNat=byt s.data.toList i from rfl];generalize byt s.data.toList i=d at *;refine Zab (by omega) (by omega) ?_;refine r_add (by omega) (by omega) ?_;refine r_sub (by omega) (by omega) ?_
   repeat (first|refine r_nc ?_|refine r_fo0 ?_|refine r_fo ?_|refine r_ke ?_|refine r_lns ?_|refine r_lnl ?_|refine r_eql ?_|refine r_neq ?_|refine r_lss ?_|refine r_leq ?_|refine r_gtr ?_|refine r_geq ?_|refine Zad ?_|refine Zai ?_|refine r_seq ?_|refine r_sne ?_|(with_reducible first|refine Zao ?_|refine Zaq ?_)|refine r_not ?_|(with_reducible first|refine Zag ?_|refine Za2 ?_|refine Zam ?_|refine Zan ?_|refine Za4 ?_|refine Za3 ?_|refine Zae ?_|refine Zah ?_|refine Zaf ?_|refine r_vt ?_|refine r_vf ?_)|refine r_bb ?_|(with_reducible first|refine r_pkT ?_|refine r_pkF ?_|refine r_pkB ?_)|refine r_ex rfl ?_|(refine Zab (by omega) (by omega) ?_)|(refine Zac (by omega) (by omega) ?_)|(refine Za8 (by omega) (by omega) ?_)|refine r_ci ?_|(refine Za1 (by omega) ?_)|(refine Za9 (by omega) (by omega) ?_)|(refine Zaa (by omega) ?_)|(refine r_add (by omega) (by omega) ?_)|(refine Zak (by omega) ?_)|(refine Zal (by omega) ?_)|(refine r_sub (by omega) (by omega) ?_)|(refine r_mul (by omega) (by omega) ?_)|(refine r_dr H ?_;clear H;intro _ S_ H;replace S:=S.trans S_;clear S_)|refine r_ld 0 H rfl rfl ?_|refine r_ld 1 H rfl rfl ?_|refine r_ld 2 H rfl rfl ?_|refine r_ld 3 H rfl rfl ?_|refine r_ld 4 H rfl rfl ?_|((with_reducible refine r_vtD ?h ?_);(case h=>omega))|((with_reducible refine r_vfD ?h ?_);(case h=>omega))|((with_reducible refine r_vtE ?h ?_);(case h=>omega))|((with_reducible refine r_vfE ?h ?_);(case h=>omega))|((with_reducible refine r_vtN ?h ?_);(case h=>omega))|((with_reducible refine r_vfN ?h ?_);(case h=>omega)))
   refine⟨⟨_,i+1,rfl,rfl,by rw[show 5 - (i+1)=4 - i by omega];exact hn,by omega,by omega,by omega,S,H⟩,?_⟩;simp[nv,intOf];omega
 ·obtain rfl:i=b:=by omega
  rw[Zpy] at hn;rw[<-hn] at post;simp only at post;unfold wideR at post;refine Za0 (λx w'=>w2=w'/\x=.bool (decide (n < least i\/1114111 < n\/(55296<=n/\n<=57343)))) ?_ ?_
  ·rintro _ _ _ ⟨rfl,rfl⟩;refine r_ifD (λh2=>?_) λh2=>?_
   ·refine r_bd (v:=.agg #[iv 0,iv 0]) (by kernel_rfl) ?_;refine r_stA 0 H (vs:=[iv 0,iv 0]) rfl (Nat.le_refl 2) rfl rfl λw3 S3 H3=>?_;replace H3:Holds w3 (blk bx tR [iv 0,iv 0]::L):=H3;refine r_ldA 0 H3 [iv 0,iv 0] rfl rfl rfl ?_;rw[if_pos h2] at post;exact post _ (S.trans S3) H3.drop
   ·refine r_bd (v:=.agg #[iv n,nv i]) (by kernel_rfl) ?_;refine r_stA 0 H (vs:=[iv n,nv i]) rfl (Nat.le_refl 2) rfl rfl λw3 S3 H3=>?_;replace H3:Holds w3 (blk bx tR [iv n,nv i]::L):=H3;refine r_ldA 0 H3 [iv n,nv i] rfl rfl rfl ?_;rw[if_neg h2] at post;exact post _ (S.trans S3) H3.drop
  ·repeat (first|refine r_nc ?_|refine r_fo0 ?_|refine r_fo ?_|refine r_ke ?_|refine r_lns ?_|refine r_lnl ?_|refine r_eql ?_|refine r_neq ?_|refine r_lss ?_|refine r_leq ?_|refine r_gtr ?_|refine r_geq ?_|refine Zad ?_|refine Zai ?_|refine r_seq ?_|refine r_sne ?_|(with_reducible first|refine Zao ?_|refine Zaq ?_)|refine r_not ?_|(with_reducible first|refine Zag ?_|refine Za2 ?_|refine Zam ?_|refine Zan ?_|refine Za4 ?_|refine Za3 ?_|refine Zae ?_|refine Zah ?_|refine Zaf ?_|refine r_vt ?_|refine r_vf ?_)|refine r_bb ?_|(with_reducible first|refine r_pkT ?_|refine r_pkF ?_|refine r_pkB ?_)|refine r_ex rfl ?_|(refine Zab (by omega) (by omega) ?_)|(refine Zac (by omega) (by omega) ?_)|(refine Za8 (by omega) (by omega) ?_)|refine r_ci ?_|(refine Za1 (by omega) ?_)|(refine Za9 (by omega) (by omega) ?_)|(refine Zaa (by omega) ?_)|(refine r_add (by omega) (by omega) ?_)|(refine Zak (by omega) ?_)|(refine Zal (by omega) ?_)|(refine r_sub (by omega) (by omega) ?_)|(refine r_mul (by omega) (by omega) ?_)|(refine r_dr H ?_;clear H;intro _ S_ H;replace S:=S.trans S_;clear S_)|refine r_ld 0 H rfl rfl ?_|refine r_ld 1 H rfl rfl ?_|refine r_ld 2 H rfl rfl ?_|refine r_ld 3 H rfl rfl ?_|refine r_ld 4 H rfl rfl ?_|((with_reducible refine r_vtD ?h ?_);(case h=>omega))|((with_reducible refine r_vfD ?h ?_);(case h=>omega))|((with_reducible refine r_vtE ?h ?_);(case h=>omega))|((with_reducible refine r_vfE ?h ?_);(case h=>omega))|((with_reducible refine r_vtN ?h ?_);(case h=>omega))|((with_reducible refine r_vfN ?h ?_);(case h=>omega)))
   refine r_ifD (λh2=>r_ke ⟨rfl,by rw[decide_eq_true (by omega)]⟩) λh2=>?_
   repeat (first|refine r_nc ?_|refine r_fo0 ?_|refine r_fo ?_|refine r_ke ?_|refine r_lns ?_|refine r_lnl ?_|refine r_eql ?_|refine r_neq ?_|refine r_lss ?_|refine r_leq ?_|refine r_gtr ?_|refine r_geq ?_|refine Zad ?_|refine Zai ?_|refine r_seq ?_|refine r_sne ?_|(with_reducible first|refine Zao ?_|refine Zaq ?_)|refine r_not ?_|(with_reducible first|refine Zag ?_|refine Za2 ?_|refine Zam ?_|refine Zan ?_|refine Za4 ?_|refine Za3 ?_|refine Zae ?_|refine Zah ?_|refine Zaf ?_|refine r_vt ?_|refine r_vf ?_)|refine r_bb ?_|(with_reducible first|refine r_pkT ?_|refine r_pkF ?_|refine r_pkB ?_)|refine r_ex rfl ?_|(refine Zab (by omega) (by omega) ?_)|(refine Zac (by omega) (by omega) ?_)|(refine Za8 (by omega) (by omega) ?_)|refine r_ci ?_|(refine Za1 (by omega) ?_)|(refine Za9 (by omega) (by omega) ?_)|(refine Zaa (by omega) ?_)|(refine r_add (by omega) (by omega) ?_)|(refine Zak (by omega) ?_)|(refine Zal (by omega) ?_)|(refine r_sub (by omega) (by omega) ?_)|(refine r_mul (by omega) (by omega) ?_)|(refine r_dr H ?_;clear H;intro _ S_ H;replace S:=S.trans S_;clear S_)|refine r_ld 0 H rfl rfl ?_|refine r_ld 1 H rfl rfl ?_|refine r_ld 2 H rfl rfl ?_|refine r_ld 3 H rfl rfl ?_|refine r_ld 4 H rfl rfl ?_|((with_reducible refine r_vtD ?h ?_);(case h=>omega))|((with_reducible refine r_vfD ?h ?_);(case h=>omega))|((with_reducible refine r_vtE ?h ?_);(case h=>omega))|((with_reducible refine r_vfE ?h ?_);(case h=>omega))|((with_reducible refine r_vtN ?h ?_);(case h=>omega))|((with_reducible refine r_vfN ?h ?_);(case h=>omega)))
   refine r_ifD (λh3=>r_ke ⟨rfl,by rw[decide_eq_true (by omega)]⟩) λh3=>?_
   repeat (first|refine r_nc ?_|refine r_fo0 ?_|refine r_fo ?_|refine r_ke ?_|refine r_lns ?_|refine r_lnl ?_|refine r_eql ?_|refine r_neq ?_|refine r_lss ?_|refine r_leq ?_|refine r_gtr ?_|refine r_geq ?_|refine Zad ?_|refine Zai ?_|refine r_seq ?_|refine r_sne ?_|(with_reducible first|refine Zao ?_|refine Zaq ?_)|refine r_not ?_|(with_reducible first|refine Zag ?_|refine Za2 ?_|refine Zam ?_|refine Zan ?_|refine Za4 ?_|refine Za3 ?_|refine Zae ?_|refine Zah ?_|refine Zaf ?_|refine r_vt ?_|refine r_vf ?_)|refine r_bb ?_|(with_reducible first|refine r_pkT ?_|refine r_pkF ?_|refine r_pkB ?_)|refine r_ex rfl ?_|(refine Zab (by omega) (by omega) ?_)|(refine Zac (by omega) (by omega) ?_)|(refine Za8 (by omega) (by omega) ?_)|refine r_ci ?_|(refine Za1 (by omega) ?_)|(refine Za9 (by omega) (by omega) ?_)|(refine Zaa (by omega) ?_)|(refine r_add (by omega) (by omega) ?_)|(refine Zak (by omega) ?_)|(refine Zal (by omega) ?_)|(refine r_sub (by omega) (by omega) ?_)|(refine r_mul (by omega) (by omega) ?_)|(refine r_dr H ?_;clear H;intro _ S_ H;replace S:=S.trans S_;clear S_)|refine r_ld 0 H rfl rfl ?_|refine r_ld 1 H rfl rfl ?_|refine r_ld 2 H rfl rfl ?_|refine r_ld 3 H rfl rfl ?_|refine r_ld 4 H rfl rfl ?_|((with_reducible refine r_vtD ?h ?_);(case h=>omega))|((with_reducible refine r_vfD ?h ?_);(case h=>omega))|((with_reducible refine r_vtE ?h ?_);(case h=>omega))|((with_reducible refine r_vfE ?h ?_);(case h=>omega))|((with_reducible refine r_vtN ?h ?_);(case h=>omega))|((with_reducible refine r_vfN ?h ?_);(case h=>omega)))
   refine r_ifD (λh4=>?_) λh4=>?_
   ·repeat (first|refine r_nc ?_|refine r_fo0 ?_|refine r_fo ?_|refine r_ke ?_|refine r_lns ?_|refine r_lnl ?_|refine r_eql ?_|refine r_neq ?_|refine r_lss ?_|refine r_leq ?_|refine r_gtr ?_|refine r_geq ?_|refine Zad ?_|refine Zai ?_|refine r_seq ?_|refine r_sne ?_|(with_reducible first|refine Zao ?_|refine Zaq ?_)|refine r_not ?_|(with_reducible first|refine Zag ?_|refine Za2 ?_|refine Zam ?_|refine Zan ?_|refine Za4 ?_|refine Za3 ?_|refine Zae ?_|refine Zah ?_|refine Zaf ?_|refine r_vt ?_|refine r_vf ?_)|refine r_bb ?_|(with_reducible first|refine r_pkT ?_|refine r_pkF ?_|refine r_pkB ?_)|refine r_ex rfl ?_|(refine Zab (by omega) (by omega) ?_)|(refine Zac (by omega) (by omega) ?_)|(refine Za8 (by omega) (by omega) ?_)|refine r_ci ?_|(refine Za1 (by omega) ?_)|(refine Za9 (by omega) (by omega) ?_)|(refine Zaa (by omega) ?_)|(refine r_add (by omega) (by omega) ?_)|(refine Zak (by omega) ?_)|(refine Zal (by omega) ?_)|(refine r_sub (by omega) (by omega) ?_)|(refine r_mul (by omega) (by omega) ?_)|(refine r_dr H ?_;clear H;intro _ S_ H;replace S:=S.trans S_;clear S_)|refine r_ld 0 H rfl rfl ?_|refine r_ld 1 H rfl rfl ?_|refine r_ld 2 H rfl rfl ?_|refine r_ld 3 H rfl rfl ?_|refine r_ld 4 H rfl rfl ?_|((with_reducible refine r_vtD ?h ?_);(case h=>omega))|((with_reducible refine r_vfD ?h ?_);(case h=>omega))|((with_reducible refine r_vtE ?h ?_);(case h=>omega))|((with_reducible refine r_vfE ?h ?_);(case h=>omega))|((with_reducible refine r_vtN ?h ?_);(case h=>omega))|((with_reducible refine r_vfN ?h ?_);(case h=>omega)))
    refine⟨rfl,congrArg Value.bool ?_⟩;rw[Bool.eq_iff_iff,decide_eq_true_iff,decide_eq_true_iff];omega
   ·exact r_ke ⟨rfl,by rw[decide_eq_false (by omega)]⟩
set_option maxRecDepth 100000 in
theorem first_spec {s:ByteArray}(H:Holds w L) (h0:0 < s.size) (post:∀ w',Same w w'->Holds w' L->K (.agg (runeF (first s.data.toList)).toArray) w') :
  Cl prog 185 #[.string s] w K:=by
 refine Tz185 ?_;unfold Vz185
 have hz:(zeroP prog tR).cells.toList=[iv 0,iv 0]:=by kernel_rfl
 have hc:byt s.data.toList 0 < 256:=UInt8.toNat_lt _;have hc0:(s.data.toList.getD 0 0).toNat=byt s.data.toList 0:=rfl;refine r_new H λbx w1 S1 H1=>?_;rw[hz] at H1;have S:=S1;clear H S1;have H:=H1;clear H1;refine r_ixs (by omega) (by omega) ?_;rw[show (0:Int).toNat=0 from rfl,hc0];unfold first firstW at post
 have post2:∀ w',Same w w'->Holds w' L->∀ r:Int × Nat,(if byt s.data.toList 0 < 128 then ((byt s.data.toList 0:Int),1) else if (firstW s.data.toList).2=0 then (-1,1) else firstW s.data.toList)=r->K (.agg #[iv r.1,nv r.2]) w':=by
  rintro w' S' H' r rfl;exact post w' S' H'
 clear post
 repeat (first|refine r_nc ?_|refine r_fo0 ?_|refine r_fo ?_|refine r_ke ?_|refine r_lns ?_|refine r_lnl ?_|refine r_eql ?_|refine r_neq ?_|refine r_lss ?_|refine r_leq ?_|refine r_gtr ?_|refine r_geq ?_|refine Zad ?_|refine Zai ?_|refine r_seq ?_|refine r_sne ?_|(with_reducible first|refine Zao ?_|refine Zaq ?_)|refine r_not ?_|(with_reducible first|refine Zag ?_|refine Za2 ?_|refine Zam ?_|refine Zan ?_|refine Za4 ?_|refine Za3 ?_|refine Zae ?_|refine Zah ?_|refine Zaf ?_|refine r_vt ?_|refine r_vf ?_)|refine r_bb ?_|(with_reducible first|refine r_pkT ?_|refine r_pkF ?_|refine r_pkB ?_)|refine r_ex rfl ?_|(refine Zab (by omega) (by omega) ?_)|(refine Zac (by omega) (by omega) ?_)|(refine Za8 (by omega) (by omega) ?_)|refine r_ci ?_|(refine Za1 (by omega) ?_)|(refine Za9 (by omega) (by omega) ?_)|(refine Zaa (by omega) ?_)|(refine r_add (by omega) (by omega) ?_)|(refine Zak (by omega) ?_)|(refine Zal (by omega) ?_)|(refine r_sub (by omega) (by omega) ?_)|(refine r_mul (by omega) (by omega) ?_)|(refine r_dr H ?_;clear H;intro _ S_ H;replace S:=S.trans S_;clear S_)|refine r_ld 0 H rfl rfl ?_|refine r_ld 1 H rfl rfl ?_|refine r_ld 2 H rfl rfl ?_|refine r_ld 3 H rfl rfl ?_|refine r_ld 4 H rfl rfl ?_|((with_reducible refine r_vtD ?h ?_);(case h=>omega))|((with_reducible refine r_vfD ?h ?_);(case h=>omega))|((with_reducible refine r_vtE ?h ?_);(case h=>omega))|((with_reducible refine r_vfE ?h ?_);(case h=>omega))|((with_reducible refine r_vtN ?h ?_);(case h=>omega))|((with_reducible refine r_vfN ?h ?_);(case h=>omega)))
 refine r_ifD (λh=>?_) λh=>?_
 ·repeat (first|refine r_nc ?_|refine r_fo0 ?_|refine r_fo ?_|refine r_ke ?_|refine r_lns ?_|refine r_lnl ?_|refine r_eql ?_|refine r_neq ?_|refine r_lss ?_|refine r_leq ?_|refine r_gtr ?_|refine r_geq ?_|refine Zad ?_|refine Zai ?_|refine r_seq ?_|refine r_sne ?_|(with_reducible first|refine Zao ?_|refine Zaq ?_)|refine r_not ?_|(with_reducible first|refine Zag ?_|refine Za2 ?_|refine Zam ?_|refine Zan ?_|refine Za4 ?_|refine Za3 ?_|refine Zae ?_|refine Zah ?_|refine Zaf ?_|refine r_vt ?_|refine r_vf ?_)|refine r_bb ?_|(with_reducible first|refine r_pkT ?_|refine r_pkF ?_|refine r_pkB ?_)|refine r_ex rfl ?_|(refine Zab (by omega) (by omega) ?_)|(refine Zac (by omega) (by omega) ?_)|(refine Za8 (by omega) (by omega) ?_)|refine r_ci ?_|(refine Za1 (by omega) ?_)|(refine Za9 (by omega) (by omega) ?_)|(refine Zaa (by omega) ?_)|(refine r_add (by omega) (by omega) ?_)|(refine Zak (by omega) ?_)|(refine Zal (by omega) ?_)|(refine r_sub (by omega) (by omega) ?_)|(refine r_mul (by omega) (by omega) ?_)|(refine r_dr H ?_;clear H;intro _ S_ H;replace S:=S.trans S_;clear S_)|refine r_ld 0 H rfl rfl ?_|refine r_ld 1 H rfl rfl ?_|refine r_ld 2 H rfl rfl ?_|refine r_ld 3 H rfl rfl ?_|refine r_ld 4 H rfl rfl ?_|((with_reducible refine r_vtD ?h ?_);(case h=>omega))|((with_reducible refine r_vfD ?h ?_);(case h=>omega))|((with_reducible refine r_vtE ?h ?_);(case h=>omega))|((with_reducible refine r_vfE ?h ?_);(case h=>omega))|((with_reducible refine r_vtN ?h ?_);(case h=>omega))|((with_reducible refine r_vfN ?h ?_);(case h=>omega)))
  refine r_bd (v:=.agg #[nv (byt s.data.toList 0),iv 1]) (by kernel_rfl) ?_;refine r_stA 0 H (vs:=[nv (byt s.data.toList 0),iv 1]) rfl (Nat.le_refl 2) rfl rfl λw3 S3 H3=>?_;replace H3:Holds w3 (blk bx tR [nv (byt s.data.toList 0),iv 1]::L):=H3;refine r_ldA 0 H3 [nv (byt s.data.toList 0),iv 1] rfl rfl rfl ?_;exact post2 _ (S.trans S3) H3.drop ((byt s.data.toList 0:Int),1) (if_pos (by omega))
 ·refine r_bd (v:=.agg #[iv 0,iv 0]) (by kernel_rfl) ?_;refine r_new H λbo w3 S3 H3=>?_;rw[hz] at H3;refine r_stA 0 H3 (vs:=[iv 0,iv 0]) rfl (Nat.le_refl 2) rfl rfl λw4 S4 H4=>?_;replace H4:Holds w4 (blk bo tR [iv 0,iv 0]::blk bx tR [iv 0,iv 0]::L):=H4;replace S:=(S.trans S3).trans S4;clear H H3 S3 S4;have H:=H4;clear H4;refine Zd8 (λw'=>∃ o:Int × Nat,o=(if 192<=byt s.data.toList 0/\byt s.data.toList 0 < 224 then wide s.data.toList 2 else (0,0))/\Same w w'/\Holds w' (blk bo tR [iv o.1,nv o.2]::blk bx tR [iv 0,iv 0]::L)) ?_ ?_
  rotate_left
  ·refine Za0 (λx w'=>w4=w'/\x=.bool (decide (192<=byt s.data.toList 0/\byt s.data.toList 0 < 224))) ?_ ?_
   ·rintro _ _ _ ⟨rfl,rfl⟩;refine r_ifD (λh2=>?_) λh2=>?_
    ·refine Zfx (b:=2) H (by omega) h0 λw5 S5 H5=>?_;refine r_stA 0 H5 (vs:=[iv (wide s.data.toList 2).1,nv (wide s.data.toList 2).2]) rfl (Nat.le_refl 2) rfl rfl λw6 S6 H6=>?_;exact r_ke ⟨_,(if_pos h2).symm,(S.trans S5).trans S6,H6⟩
    ·exact r_ke ⟨(0,0),(if_neg h2).symm,S,H⟩
   ·repeat (first|refine r_nc ?_|refine r_fo0 ?_|refine r_fo ?_|refine r_ke ?_|refine r_lns ?_|refine r_lnl ?_|refine r_eql ?_|refine r_neq ?_|refine r_lss ?_|refine r_leq ?_|refine r_gtr ?_|refine r_geq ?_|refine Zad ?_|refine Zai ?_|refine r_seq ?_|refine r_sne ?_|(with_reducible first|refine Zao ?_|refine Zaq ?_)|refine r_not ?_|(with_reducible first|refine Zag ?_|refine Za2 ?_|refine Zam ?_|refine Zan ?_|refine Za4 ?_|refine Za3 ?_|refine Zae ?_|refine Zah ?_|refine Zaf ?_|refine r_vt ?_|refine r_vf ?_)|refine r_bb ?_|(with_reducible first|refine r_pkT ?_|refine r_pkF ?_|refine r_pkB ?_)|refine r_ex rfl ?_|(refine Zab (by omega) (by omega) ?_)|(refine Zac (by omega) (by omega) ?_)|(refine Za8 (by omega) (by omega) ?_)|refine r_ci ?_|(refine Za1 (by omega) ?_)|(refine Za9 (by omega) (by omega) ?_)|(refine Zaa (by omega) ?_)|(refine r_add (by omega) (by omega) ?_)|(refine Zak (by omega) ?_)|(refine Zal (by omega) ?_)|(refine r_sub (by omega) (by omega) ?_)|(refine r_mul (by omega) (by omega) ?_)|(refine r_dr H ?_;clear H;intro _ S_ H;replace S:=S.trans S_;clear S_)|refine r_ld 0 H rfl rfl ?_|refine r_ld 1 H rfl rfl ?_|refine r_ld 2 H rfl rfl ?_|refine r_ld 3 H rfl rfl ?_|refine r_ld 4 H rfl rfl ?_|((with_reducible refine r_vtD ?h ?_);(case h=>omega))|((with_reducible refine r_vfD ?h ?_);(case h=>omega))|((with_reducible refine r_vtE ?h ?_);(case h=>omega))|((with_reducible refine r_vfE ?h ?_);(case h=>omega))|((with_reducible refine r_vtN ?h ?_);(case h=>omega))|((with_reducible refine r_vfN ?h ?_);(case h=>omega)))
    refine r_ifD (λh2=>?_) λh2=>?_
    ·repeat (first|refine r_nc ?_|refine r_fo0 ?_|refine r_fo ?_|refine r_ke ?_|refine r_lns ?_|refine r_lnl ?_|refine r_eql ?_|refine r_neq ?_|refine r_lss ?_|refine r_leq ?_|refine r_gtr ?_|refine r_geq ?_|refine Zad ?_|refine Zai ?_|refine r_seq ?_|refine r_sne ?_|(with_reducible first|refine Zao ?_|refine Zaq ?_)|refine r_not ?_|(with_reducible first|refine Zag ?_|refine Za2 ?_|refine Zam ?_|refine Zan ?_|refine Za4 ?_|refine Za3 ?_|refine Zae ?_|refine Zah ?_|refine Zaf ?_|refine r_vt ?_|refine r_vf ?_)|refine r_bb ?_|(with_reducible first|refine r_pkT ?_|refine r_pkF ?_|refine r_pkB ?_)|refine r_ex rfl ?_|(refine Zab (by omega) (by omega) ?_)|(refine Zac (by omega) (by omega) ?_)|(refine Za8 (by omega) (by omega) ?_)|refine r_ci ?_|(refine Za1 (by omega) ?_)|(refine Za9 (by omega) (by omega) ?_)|(refine Zaa (by omega) ?_)|(refine r_add (by omega) (by omega) ?_)|(refine Zak (by omega) ?_)|(refine Zal (by omega) ?_)|(refine r_sub (by omega) (by omega) ?_)|(refine r_mul (by omega) (by omega) ?_)|(refine r_dr H ?_;clear H;intro _ S_ H;replace S:=S.trans S_;clear S_)|refine r_ld 0 H rfl rfl ?_|refine r_ld 1 H rfl rfl ?_|refine r_ld 2 H rfl rfl ?_|refine r_ld 3 H rfl rfl ?_|refine r_ld 4 H rfl rfl ?_|((with_reducible refine r_vtD ?h ?_);(case h=>omega))|((with_reducible refine r_vfD ?h ?_);(case h=>omega))|((with_reducible refine r_vtE ?h ?_);(case h=>omega))|((with_reducible refine r_vfE ?h ?_);(case h=>omega))|((with_reducible refine r_vtN ?h ?_);(case h=>omega))|((with_reducible refine r_vfN ?h ?_);(case h=>omega)))
     refine⟨rfl,congrArg Value.bool ?_⟩;rw[Bool.eq_iff_iff,decide_eq_true_iff,decide_eq_true_iff];omega
    ·exact r_ke ⟨rfl,by rw[decide_eq_false (by omega)]⟩
  clear H S;rintro _ w5 ⟨o,ho,S,H⟩;refine Zd8 (λw'=>∃ o:Int × Nat,o=(if 192<=byt s.data.toList 0/\byt s.data.toList 0 < 224 then wide s.data.toList 2 else if 224<=byt s.data.toList 0/\byt s.data.toList 0 < 240 then wide s.data.toList 3 else (0,0))/\Same w w'/\Holds w' (blk bo tR [iv o.1,nv o.2]::blk bx tR [iv 0,iv 0]::L)) ?_ ?_
  rotate_left
  ·refine Za0 (λx w'=>w5=w'/\x=.bool (decide (224<=byt s.data.toList 0/\byt s.data.toList 0 < 240))) ?_ ?_
   ·rintro _ _ _ ⟨rfl,rfl⟩;refine r_ifD (λh2=>?_) λh2=>?_
    ·refine Zfx (b:=3) H (by omega) h0 λw6 S6 H6=>?_;refine r_stA 0 H6 (vs:=[iv (wide s.data.toList 3).1,nv (wide s.data.toList 3).2]) rfl (Nat.le_refl 2) rfl rfl λw7 S7 H7=>?_;exact r_ke ⟨_,by rw[if_neg (by omega),if_pos h2],(S.trans S6).trans S7,H7⟩
    ·refine r_ke ⟨o,?_,S,H⟩;rw[ho,if_neg h2]
   ·repeat (first|refine r_nc ?_|refine r_fo0 ?_|refine r_fo ?_|refine r_ke ?_|refine r_lns ?_|refine r_lnl ?_|refine r_eql ?_|refine r_neq ?_|refine r_lss ?_|refine r_leq ?_|refine r_gtr ?_|refine r_geq ?_|refine Zad ?_|refine Zai ?_|refine r_seq ?_|refine r_sne ?_|(with_reducible first|refine Zao ?_|refine Zaq ?_)|refine r_not ?_|(with_reducible first|refine Zag ?_|refine Za2 ?_|refine Zam ?_|refine Zan ?_|refine Za4 ?_|refine Za3 ?_|refine Zae ?_|refine Zah ?_|refine Zaf ?_|refine r_vt ?_|refine r_vf ?_)|refine r_bb ?_|(with_reducible first|refine r_pkT ?_|refine r_pkF ?_|refine r_pkB ?_)|refine r_ex rfl ?_|(refine Zab (by omega) (by omega) ?_)|(refine Zac (by omega) (by omega) ?_)|(refine Za8 (by omega) (by omega) ?_)|refine r_ci ?_|(refine Za1 (by omega) ?_)|(refine Za9 (by omega) (by omega) ?_)|(refine Zaa (by omega) ?_)|(refine r_add (by omega) (by omega) ?_)|(refine Zak (by omega) ?_)|(refine Zal (by omega) ?_)|(refine r_sub (by omega) (by omega) ?_)|(refine r_mul (by omega) (by omega) ?_)|(refine r_dr H ?_;clear H;intro _ S_ H;replace S:=S.trans S_;clear S_)|refine r_ld 0 H rfl rfl ?_|refine r_ld 1 H rfl rfl ?_|refine r_ld 2 H rfl rfl ?_|refine r_ld 3 H rfl rfl ?_|refine r_ld 4 H rfl rfl ?_|((with_reducible refine r_vtD ?h ?_);(case h=>omega))|((with_reducible refine r_vfD ?h ?_);(case h=>omega))|((with_reducible refine r_vtE ?h ?_);(case h=>omega))|((with_reducible refine r_vfE ?h ?_);(case h=>omega))|((with_reducible refine r_vtN ?h ?_);(case h=>omega))|((with_reducible refine r_vfN ?h ?_);(case h=>omega)))
    refine r_ifD (λh2=>?_) λh2=>?_
    ·repeat (first|refine r_nc ?_|refine r_fo0 ?_|refine r_fo ?_|refine r_ke ?_|refine r_lns ?_|refine r_lnl ?_|refine r_eql ?_|refine r_neq ?_|refine r_lss ?_|refine r_leq ?_|refine r_gtr ?_|refine r_geq ?_|refine Zad ?_|refine Zai ?_|refine r_seq ?_|refine r_sne ?_|(with_reducible first|refine Zao ?_|refine Zaq ?_)|refine r_not ?_|(with_reducible first|refine Zag ?_|refine Za2 ?_|refine Zam ?_|refine Zan ?_|refine Za4 ?_|refine Za3 ?_|refine Zae ?_|refine Zah ?_|refine Zaf ?_|refine r_vt ?_|refine r_vf ?_)|refine r_bb ?_|(with_reducible first|refine r_pkT ?_|refine r_pkF ?_|refine r_pkB ?_)|refine r_ex rfl ?_|(refine Zab (by omega) (by omega) ?_)|(refine Zac (by omega) (by omega) ?_)|(refine Za8 (by omega) (by omega) ?_)|refine r_ci ?_|(refine Za1 (by omega) ?_)|(refine Za9 (by omega) (by omega) ?_)|(refine Zaa (by omega) ?_)|(refine r_add (by omega) (by omega) ?_)|(refine Zak (by omega) ?_)|(refine Zal (by omega) ?_)|(refine r_sub (by omega) (by omega) ?_)|(refine r_mul (by omega) (by omega) ?_)|(refine r_dr H ?_;clear H;intro _ S_ H;replace S:=S.trans S_;clear S_)|refine r_ld 0 H rfl rfl ?_|refine r_ld 1 H rfl rfl ?_|refine r_ld 2 H rfl rfl ?_|refine r_ld 3 H rfl rfl ?_|refine r_ld 4 H rfl rfl ?_|((with_reducible refine r_vtD ?h ?_);(case h=>omega))|((with_reducible refine r_vfD ?h ?_);(case h=>omega))|((with_reducible refine r_vtE ?h ?_);(case h=>omega))|((with_reducible refine r_vfE ?h ?_);(case h=>omega))|((with_reducible refine r_vtN ?h ?_);(case h=>omega))|((with_reducible refine r_vfN ?h ?_);(case h=>omega)))
     refine⟨rfl,congrArg Value.bool ?_⟩;rw[Bool.eq_iff_iff,decide_eq_true_iff,decide_eq_true_iff];omega
    ·exact r_ke ⟨rfl,by rw[decide_eq_false (by omega)]⟩
  clear H S ho o;rintro _ w6 ⟨o,ho,S,H⟩;refine Zd8 (λw'=>∃ o:Int × Nat,o=firstW s.data.toList/\Same w w'/\Holds w' (blk bo tR [iv o.1,nv o.2]::blk bx tR [iv 0,iv 0]::L)) ?_ ?_
  rotate_left
  ·refine Za0 (λx w'=>w6=w'/\x=.bool (decide (240<=byt s.data.toList 0/\byt s.data.toList 0 < 248))) ?_ ?_
   ·rintro _ _ _ ⟨rfl,rfl⟩;refine r_ifD (λh2=>?_) λh2=>?_
    ·refine Zfx (b:=4) H (by omega) h0 λw7 S7 H7=>?_;refine r_stA 0 H7 (vs:=[iv (wide s.data.toList 4).1,nv (wide s.data.toList 4).2]) rfl (Nat.le_refl 2) rfl rfl λw8 S8 H8=>?_;exact r_ke ⟨_,by unfold firstW;rw[if_neg (by omega),if_neg (by omega),if_pos h2],(S.trans S7).trans S8,H8⟩
    ·refine r_ke ⟨o,?_,S,H⟩;rw[ho];unfold firstW;rw[if_neg h2]
   ·repeat (first|refine r_nc ?_|refine r_fo0 ?_|refine r_fo ?_|refine r_ke ?_|refine r_lns ?_|refine r_lnl ?_|refine r_eql ?_|refine r_neq ?_|refine r_lss ?_|refine r_leq ?_|refine r_gtr ?_|refine r_geq ?_|refine Zad ?_|refine Zai ?_|refine r_seq ?_|refine r_sne ?_|(with_reducible first|refine Zao ?_|refine Zaq ?_)|refine r_not ?_|(with_reducible first|refine Zag ?_|refine Za2 ?_|refine Zam ?_|refine Zan ?_|refine Za4 ?_|refine Za3 ?_|refine Zae ?_|refine Zah ?_|refine Zaf ?_|refine r_vt ?_|refine r_vf ?_)|refine r_bb ?_|(with_reducible first|refine r_pkT ?_|refine r_pkF ?_|refine r_pkB ?_)|refine r_ex rfl ?_|(refine Zab (by omega) (by omega) ?_)|(refine Zac (by omega) (by omega) ?_)|(refine Za8 (by omega) (by omega) ?_)|refine r_ci ?_|(refine Za1 (by omega) ?_)|(refine Za9 (by omega) (by omega) ?_)|(refine Zaa (by omega) ?_)|(refine r_add (by omega) (by omega) ?_)|(refine Zak (by omega) ?_)|(refine Zal (by omega) ?_)|(refine r_sub (by omega) (by omega) ?_)|(refine r_mul (by omega) (by omega) ?_)|(refine r_dr H ?_;clear H;intro _ S_ H;replace S:=S.trans S_;clear S_)|refine r_ld 0 H rfl rfl ?_|refine r_ld 1 H rfl rfl ?_|refine r_ld 2 H rfl rfl ?_|refine r_ld 3 H rfl rfl ?_|refine r_ld 4 H rfl rfl ?_|((with_reducible refine r_vtD ?h ?_);(case h=>omega))|((with_reducible refine r_vfD ?h ?_);(case h=>omega))|((with_reducible refine r_vtE ?h ?_);(case h=>omega))|((with_reducible refine r_vfE ?h ?_);(case h=>omega))|((with_reducible refine r_vtN ?h ?_);(case h=>omega))|((with_reducible refine r_vfN ?h ?_);(case h=>omega)))
    refine r_ifD (λh2=>?_) λh2=>?_
    ·repeat (first|refine r_nc ?_|refine r_fo0 ?_|refine r_fo ?_|refine r_ke ?_|refine r_lns ?_|refine r_lnl ?_|refine r_eql ?_|refine r_neq ?_|refine r_lss ?_|refine r_leq ?_|refine r_gtr ?_|refine r_geq ?_|refine Zad ?_|refine Zai ?_|refine r_seq ?_|refine r_sne ?_|(with_reducible first|refine Zao ?_|refine Zaq ?_)|refine r_not ?_|(with_reducible first|refine Zag ?_|refine Za2 ?_|refine Zam ?_|refine Zan ?_|refine Za4 ?_|refine Za3 ?_|refine Zae ?_|refine Zah ?_|refine Zaf ?_|refine r_vt ?_|refine r_vf ?_)|refine r_bb ?_|(with_reducible first|refine r_pkT ?_|refine r_pkF ?_|refine r_pkB ?_)|refine r_ex rfl ?_|(refine Zab (by omega) (by omega) ?_)|(refine Zac (by omega) (by omega) ?_)|(refine Za8 (by omega) (by omega) ?_)|refine r_ci ?_|(refine Za1 (by omega) ?_)|(refine Za9 (by omega) (by omega) ?_)|(refine Zaa (by omega) ?_)|(refine r_add (by omega) (by omega) ?_)|(refine Zak (by omega) ?_)|(refine Zal (by omega) ?_)|(refine r_sub (by omega) (by omega) ?_)|(refine r_mul (by omega) (by omega) ?_)|(refine r_dr H ?_;clear H;intro _ S_ H;replace S:=S.trans S_;clear S_)|refine r_ld 0 H rfl rfl ?_|refine r_ld 1 H rfl rfl ?_|refine r_ld 2 H rfl rfl ?_|refine r_ld 3 H rfl rfl ?_|refine r_ld 4 H rfl rfl ?_|((with_reducible refine r_vtD ?h ?_);(case h=>omega))|((with_reducible refine r_vfD ?h ?_);(case h=>omega))|((with_reducible refine r_vtE ?h ?_);(case h=>omega))|((with_reducible refine r_vfE ?h ?_);(case h=>omega))|((with_reducible refine r_vtN ?h ?_);(case h=>omega))|((with_reducible refine r_vfN ?h ?_);(case h=>omega)))
     refine⟨rfl,congrArg Value.bool ?_⟩;rw[Bool.eq_iff_iff,decide_eq_true_iff,decide_eq_true_iff];omega
    ·exact r_ke ⟨rfl,by rw[decide_eq_false (by omega)]⟩
  clear H S ho o;rintro _ w7 ⟨o,ho,S,H⟩
  repeat (first|refine r_nc ?_|refine r_fo0 ?_|refine r_fo ?_|refine r_ke ?_|refine r_lns ?_|refine r_lnl ?_|refine r_eql ?_|refine r_neq ?_|refine r_lss ?_|refine r_leq ?_|refine r_gtr ?_|refine r_geq ?_|refine Zad ?_|refine Zai ?_|refine r_seq ?_|refine r_sne ?_|(with_reducible first|refine Zao ?_|refine Zaq ?_)|refine r_not ?_|(with_reducible first|refine Zag ?_|refine Za2 ?_|refine Zam ?_|refine Zan ?_|refine Za4 ?_|refine Za3 ?_|refine Zae ?_|refine Zah ?_|refine Zaf ?_|refine r_vt ?_|refine r_vf ?_)|refine r_bb ?_|(with_reducible first|refine r_pkT ?_|refine r_pkF ?_|refine r_pkB ?_)|refine r_ex rfl ?_|(refine Zab (by omega) (by omega) ?_)|(refine Zac (by omega) (by omega) ?_)|(refine Za8 (by omega) (by omega) ?_)|refine r_ci ?_|(refine Za1 (by omega) ?_)|(refine Za9 (by omega) (by omega) ?_)|(refine Zaa (by omega) ?_)|(refine r_add (by omega) (by omega) ?_)|(refine Zak (by omega) ?_)|(refine Zal (by omega) ?_)|(refine r_sub (by omega) (by omega) ?_)|(refine r_mul (by omega) (by omega) ?_)|(refine r_dr H ?_;clear H;intro _ S_ H;replace S:=S.trans S_;clear S_)|refine r_ld 0 H rfl rfl ?_|refine r_ld 1 H rfl rfl ?_|refine r_ld 2 H rfl rfl ?_|refine r_ld 3 H rfl rfl ?_|refine r_ld 4 H rfl rfl ?_|((with_reducible refine r_vtD ?h ?_);(case h=>omega))|((with_reducible refine r_vfD ?h ?_);(case h=>omega))|((with_reducible refine r_vtE ?h ?_);(case h=>omega))|((with_reducible refine r_vfE ?h ?_);(case h=>omega))|((with_reducible refine r_vtN ?h ?_);(case h=>omega))|((with_reducible refine r_vfN ?h ?_);(case h=>omega)))
  refine r_ifE (λh2=>?_) λh2=>?_
  ·refine r_bd (v:=.agg #[iv (-1),iv 1]) (by kernel_rfl) ?_;refine r_stA 1 H (vs:=[iv (-1),iv 1]) rfl (Nat.le_refl 2) rfl rfl λw8 S8 H8=>?_;replace H8:Holds w8 (blk bo tR [iv o.1,nv o.2]::blk bx tR [iv (-1),iv 1]::L):=H8;refine r_ldA 1 H8 [iv (-1),iv 1] rfl rfl rfl ?_;exact post2 _ (S.trans S8) H8.drop.drop (-1,1) (by rw[if_neg (by omega),<-ho,if_pos (by omega)])
  ·refine r_ldA 0 H [iv o.1,nv o.2] rfl rfl rfl ?_;refine r_stA 1 H (vs:=[iv o.1,nv o.2]) rfl (Nat.le_refl 2) rfl rfl λw8 S8 H8=>?_;replace H8:Holds w8 (blk bo tR [iv o.1,nv o.2]::blk bx tR [iv o.1,nv o.2]::L):=H8;refine r_ldA 1 H8 [iv o.1,nv o.2] rfl rfl rfl ?_;exact post2 _ (S.trans S8) H8.drop.drop o (by rw[if_neg (by omega),<-ho,if_neg (by omega)])
set_option maxRecDepth 1000000 in
instance:RowN prog 219 tR 2:=⟨underlying219,_,_,rfl,rfl,by decide,rfl,rfl⟩
theorem Zoe {s:ByteArray}(H:Holds w L) (hs:s.size<=1000000) (post:∀ v w',Same w w'->Holds w' (RW runeF 2 tR v (runes s.data.toList)::L)->K v w') :
  Cl prog 143 #[.string s] w K:=by
 refine Tz143 ?_;unfold Vz143
 have hz:(zeroP prog tR).cells.toList=[iv 0,iv 0]:=by kernel_rfl
 have hsz:s.size=s.data.toList.length:=by simp
 refine Zb1 (λx y w'=>∃ (t:ByteArray) (R:List (Int × Nat)),x=.string t/\R++runes t.data.toList=runes s.data.toList/\R.length+t.size<=s.size/\Same w w'/\Holds w' (RW runeF 2 tR y R::L))
  (λx _ _=>match x with|.string t=>t.size|_=>0) ⟨s,[],rfl,rfl,by simp,.refl w,H.nilRW _ _ _⟩ ?_
 clear H;rintro _ _ v w2 ⟨t,R,rfl,hR,hlen,S,H⟩
 repeat (first|refine r_nc ?_|refine r_fo0 ?_|refine r_fo ?_|refine r_ke ?_|refine r_lns ?_|refine r_lnl ?_|refine r_eql ?_|refine r_neq ?_|refine r_lss ?_|refine r_leq ?_|refine r_gtr ?_|refine r_geq ?_|refine Zad ?_|refine Zai ?_|refine r_seq ?_|refine r_sne ?_|(with_reducible first|refine Zao ?_|refine Zaq ?_)|refine r_not ?_|(with_reducible first|refine Zag ?_|refine Za2 ?_|refine Zam ?_|refine Zan ?_|refine Za4 ?_|refine Za3 ?_|refine Zae ?_|refine Zah ?_|refine Zaf ?_|refine r_vt ?_|refine r_vf ?_)|refine r_bb ?_|(with_reducible first|refine r_pkT ?_|refine r_pkF ?_|refine r_pkB ?_)|refine r_ex rfl ?_|(refine Zab (by omega) (by omega) ?_)|(refine Zac (by omega) (by omega) ?_)|(refine Za8 (by omega) (by omega) ?_)|refine r_ci ?_|(refine Za1 (by omega) ?_)|(refine Za9 (by omega) (by omega) ?_)|(refine Zaa (by omega) ?_)|(refine r_add (by omega) (by omega) ?_)|(refine Zak (by omega) ?_)|(refine Zal (by omega) ?_)|(refine r_sub (by omega) (by omega) ?_)|(refine r_mul (by omega) (by omega) ?_)|(refine r_dr H ?_;clear H;intro _ S_ H;replace S:=S.trans S_;clear S_)|refine r_ld 0 H rfl rfl ?_|refine r_ld 1 H rfl rfl ?_|refine r_ld 2 H rfl rfl ?_|refine r_ld 3 H rfl rfl ?_|refine r_ld 4 H rfl rfl ?_|((with_reducible refine r_vtD ?h ?_);(case h=>omega))|((with_reducible refine r_vfD ?h ?_);(case h=>omega))|((with_reducible refine r_vtE ?h ?_);(case h=>omega))|((with_reducible refine r_vfE ?h ?_);(case h=>omega))|((with_reducible refine r_vtN ?h ?_);(case h=>omega))|((with_reducible refine r_vfN ?h ?_);(case h=>omega)))
 refine r_ifD (λh=>?_) λh=>?_
 ·have htz:t.size=t.data.toList.length:=by simp
  refine first_spec H (by omega) λw3 S3 H3=>?_;refine r_new H3 λb3 w4 S4 H4=>?_;rw[hz] at H4;refine r_stA 0 H4 (vs:=runeF (first t.data.toList)) rfl (Nat.le_refl 2) rfl rfl λw5 S5 H5=>?_;replace H5:Holds w5 (blk b3 tR (runeF (first t.data.toList))::RW runeF 2 tR v R::L):=H5;replace S:=((S.trans S3).trans S4).trans S5;clear H H3 H4 S3 S4 S5;refine r_ldA 0 H5 (runeF (first t.data.toList)) rfl rfl rfl ?_
  refine Zhz H5 1 (first t.data.toList) rfl (by kernel_rfl) (λy=>rfl) (λy u hu=>by
   simp only[runeF,List.mem_cons,List.not_mem_nil,or_false] at hu
   rcases hu with rfl|rfl <;> rfl) (by omega) (by omega) λv' w6 S6 H6=>?_
  replace H6:Holds w6 (blk b3 tR (runeF (first t.data.toList))::RW runeF 2 tR v' (R++[first t.data.toList])::L):=H6;have hf1:=Zco t.data.toList;have hf2:=Zjj t.data.toList (by omega);refine r_fo0 ?_;refine r_ld 0 H6 rfl rfl ?_;refine Zrf (by omega) ?_;refine r_ke ⟨⟨_,R++[first t.data.toList],rfl,?_,?_,S.trans S6,H6.drop⟩,?_⟩
  ·rw[gI,<-hR,Zdk (l:=t.data.toList) (by omega)];simp
  ·have hd:(⟨(t.data.toList.drop (first t.data.toList).2).toArray⟩:ByteArray).size=t.data.toList.length - (first t.data.toList).2:=by
    show Array.size _=_;rw[size_toArray,gS]
   rw[hd,gD,gQ];omega
  ·have hd:(⟨(t.data.toList.drop (first t.data.toList).2).toArray⟩:ByteArray).size=t.data.toList.length - (first t.data.toList).2:=by
    show Array.size _=_;rw[size_toArray,gS]
   show ByteArray.size _ < ByteArray.size _;rw[hd];omega
 ·have ht0:t.data.toList=[]:=List.eq_nil_of_length_eq_zero (by rw[show t.data.toList.length=t.size by simp];omega);rw[ht0,Zeh,gU] at hR;subst hR;exact post v _ S H
theorem may_spec {n:Int}(post:K (.bool (decide (mayR n))) w):Cl prog 144 #[iv n] w K:=by
 refine Tz144 ?_;unfold Vz144
 have fin:∀ b:Bool,(b=true↔mayR n)->K (.bool b) w:=λb hb=>by
  rw[show b=decide (mayR n) by rw[Bool.eq_iff_iff,hb,decide_eq_true_iff]];exact post
 clear post;unfold mayR at fin
 repeat (first|refine r_nc ?_|refine r_fo0 ?_|refine r_fo ?_|refine r_ke ?_|refine r_lns ?_|refine r_lnl ?_|refine r_eql ?_|refine r_neq ?_|refine r_lss ?_|refine r_leq ?_|refine r_gtr ?_|refine r_geq ?_|refine Zad ?_|refine Zai ?_|refine r_seq ?_|refine r_sne ?_|(with_reducible first|refine Zao ?_|refine Zaq ?_)|refine r_not ?_|(with_reducible first|refine Zag ?_|refine Za2 ?_|refine Zam ?_|refine Zan ?_|refine Za4 ?_|refine Za3 ?_|refine Zae ?_|refine Zah ?_|refine Zaf ?_|refine r_vt ?_|refine r_vf ?_)|refine r_bb ?_|(with_reducible first|refine r_pkT ?_|refine r_pkF ?_|refine r_pkB ?_)|refine r_ex rfl ?_|(refine Zab (by omega) (by omega) ?_)|(refine Zac (by omega) (by omega) ?_)|(refine Za8 (by omega) (by omega) ?_)|refine r_ci ?_|(refine Za1 (by omega) ?_)|(refine Za9 (by omega) (by omega) ?_)|(refine Zaa (by omega) ?_)|(refine r_add (by omega) (by omega) ?_)|(refine Zak (by omega) ?_)|(refine Zal (by omega) ?_)|(refine r_sub (by omega) (by omega) ?_)|(refine r_mul (by omega) (by omega) ?_)|(refine r_dr H ?_;clear H;intro _ S_ H;replace S:=S.trans S_;clear S_)|refine r_ld 0 H rfl rfl ?_|refine r_ld 1 H rfl rfl ?_|refine r_ld 2 H rfl rfl ?_|refine r_ld 3 H rfl rfl ?_|refine r_ld 4 H rfl rfl ?_|((with_reducible refine r_vtD ?h ?_);(case h=>omega))|((with_reducible refine r_vfD ?h ?_);(case h=>omega))|((with_reducible refine r_vtE ?h ?_);(case h=>omega))|((with_reducible refine r_vfE ?h ?_);(case h=>omega))|((with_reducible refine r_vtN ?h ?_);(case h=>omega))|((with_reducible refine r_vfN ?h ?_);(case h=>omega)))
 refine r_ifD (λh=>?_) λh=>fin _ (by simp;omega)
 repeat (first|refine r_nc ?_|refine r_fo0 ?_|refine r_fo ?_|refine r_ke ?_|refine r_lns ?_|refine r_lnl ?_|refine r_eql ?_|refine r_neq ?_|refine r_lss ?_|refine r_leq ?_|refine r_gtr ?_|refine r_geq ?_|refine Zad ?_|refine Zai ?_|refine r_seq ?_|refine r_sne ?_|(with_reducible first|refine Zao ?_|refine Zaq ?_)|refine r_not ?_|(with_reducible first|refine Zag ?_|refine Za2 ?_|refine Zam ?_|refine Zan ?_|refine Za4 ?_|refine Za3 ?_|refine Zae ?_|refine Zah ?_|refine Zaf ?_|refine r_vt ?_|refine r_vf ?_)|refine r_bb ?_|(with_reducible first|refine r_pkT ?_|refine r_pkF ?_|refine r_pkB ?_)|refine r_ex rfl ?_|(refine Zab (by omega) (by omega) ?_)|(refine Zac (by omega) (by omega) ?_)|(refine Za8 (by omega) (by omega) ?_)|refine r_ci ?_|(refine Za1 (by omega) ?_)|(refine Za9 (by omega) (by omega) ?_)|(refine Zaa (by omega) ?_)|(refine r_add (by omega) (by omega) ?_)|(refine Zak (by omega) ?_)|(refine Zal (by omega) ?_)|(refine r_sub (by omega) (by omega) ?_)|(refine r_mul (by omega) (by omega) ?_)|(refine r_dr H ?_;clear H;intro _ S_ H;replace S:=S.trans S_;clear S_)|refine r_ld 0 H rfl rfl ?_|refine r_ld 1 H rfl rfl ?_|refine r_ld 2 H rfl rfl ?_|refine r_ld 3 H rfl rfl ?_|refine r_ld 4 H rfl rfl ?_|((with_reducible refine r_vtD ?h ?_);(case h=>omega))|((with_reducible refine r_vfD ?h ?_);(case h=>omega))|((with_reducible refine r_vtE ?h ?_);(case h=>omega))|((with_reducible refine r_vfE ?h ?_);(case h=>omega))|((with_reducible refine r_vtN ?h ?_);(case h=>omega))|((with_reducible refine r_vfN ?h ?_);(case h=>omega)))
 refine r_ifD (λh2=>?_) λh2=>?_
 ·repeat (first|refine r_nc ?_|refine r_fo0 ?_|refine r_fo ?_|refine r_ke ?_|refine r_lns ?_|refine r_lnl ?_|refine r_eql ?_|refine r_neq ?_|refine r_lss ?_|refine r_leq ?_|refine r_gtr ?_|refine r_geq ?_|refine Zad ?_|refine Zai ?_|refine r_seq ?_|refine r_sne ?_|(with_reducible first|refine Zao ?_|refine Zaq ?_)|refine r_not ?_|(with_reducible first|refine Zag ?_|refine Za2 ?_|refine Zam ?_|refine Zan ?_|refine Za4 ?_|refine Za3 ?_|refine Zae ?_|refine Zah ?_|refine Zaf ?_|refine r_vt ?_|refine r_vf ?_)|refine r_bb ?_|(with_reducible first|refine r_pkT ?_|refine r_pkF ?_|refine r_pkB ?_)|refine r_ex rfl ?_|(refine Zab (by omega) (by omega) ?_)|(refine Zac (by omega) (by omega) ?_)|(refine Za8 (by omega) (by omega) ?_)|refine r_ci ?_|(refine Za1 (by omega) ?_)|(refine Za9 (by omega) (by omega) ?_)|(refine Zaa (by omega) ?_)|(refine r_add (by omega) (by omega) ?_)|(refine Zak (by omega) ?_)|(refine Zal (by omega) ?_)|(refine r_sub (by omega) (by omega) ?_)|(refine r_mul (by omega) (by omega) ?_)|(refine r_dr H ?_;clear H;intro _ S_ H;replace S:=S.trans S_;clear S_)|refine r_ld 0 H rfl rfl ?_|refine r_ld 1 H rfl rfl ?_|refine r_ld 2 H rfl rfl ?_|refine r_ld 3 H rfl rfl ?_|refine r_ld 4 H rfl rfl ?_|((with_reducible refine r_vtD ?h ?_);(case h=>omega))|((with_reducible refine r_vfD ?h ?_);(case h=>omega))|((with_reducible refine r_vtE ?h ?_);(case h=>omega))|((with_reducible refine r_vfE ?h ?_);(case h=>omega))|((with_reducible refine r_vtN ?h ?_);(case h=>omega))|((with_reducible refine r_vfN ?h ?_);(case h=>omega)))
  refine r_ifN (λh3=>?_) λh3=>fin _ (by simp;omega)
  repeat (first|refine r_nc ?_|refine r_fo0 ?_|refine r_fo ?_|refine r_ke ?_|refine r_lns ?_|refine r_lnl ?_|refine r_eql ?_|refine r_neq ?_|refine r_lss ?_|refine r_leq ?_|refine r_gtr ?_|refine r_geq ?_|refine Zad ?_|refine Zai ?_|refine r_seq ?_|refine r_sne ?_|(with_reducible first|refine Zao ?_|refine Zaq ?_)|refine r_not ?_|(with_reducible first|refine Zag ?_|refine Za2 ?_|refine Zam ?_|refine Zan ?_|refine Za4 ?_|refine Za3 ?_|refine Zae ?_|refine Zah ?_|refine Zaf ?_|refine r_vt ?_|refine r_vf ?_)|refine r_bb ?_|(with_reducible first|refine r_pkT ?_|refine r_pkF ?_|refine r_pkB ?_)|refine r_ex rfl ?_|(refine Zab (by omega) (by omega) ?_)|(refine Zac (by omega) (by omega) ?_)|(refine Za8 (by omega) (by omega) ?_)|refine r_ci ?_|(refine Za1 (by omega) ?_)|(refine Za9 (by omega) (by omega) ?_)|(refine Zaa (by omega) ?_)|(refine r_add (by omega) (by omega) ?_)|(refine Zak (by omega) ?_)|(refine Zal (by omega) ?_)|(refine r_sub (by omega) (by omega) ?_)|(refine r_mul (by omega) (by omega) ?_)|(refine r_dr H ?_;clear H;intro _ S_ H;replace S:=S.trans S_;clear S_)|refine r_ld 0 H rfl rfl ?_|refine r_ld 1 H rfl rfl ?_|refine r_ld 2 H rfl rfl ?_|refine r_ld 3 H rfl rfl ?_|refine r_ld 4 H rfl rfl ?_|((with_reducible refine r_vtD ?h ?_);(case h=>omega))|((with_reducible refine r_vfD ?h ?_);(case h=>omega))|((with_reducible refine r_vtE ?h ?_);(case h=>omega))|((with_reducible refine r_vfE ?h ?_);(case h=>omega))|((with_reducible refine r_vtN ?h ?_);(case h=>omega))|((with_reducible refine r_vfN ?h ?_);(case h=>omega)))
  exact fin _ (by rw[bne_iff_ne];omega)
 ·repeat (first|refine r_nc ?_|refine r_fo0 ?_|refine r_fo ?_|refine r_ke ?_|refine r_lns ?_|refine r_lnl ?_|refine r_eql ?_|refine r_neq ?_|refine r_lss ?_|refine r_leq ?_|refine r_gtr ?_|refine r_geq ?_|refine Zad ?_|refine Zai ?_|refine r_seq ?_|refine r_sne ?_|(with_reducible first|refine Zao ?_|refine Zaq ?_)|refine r_not ?_|(with_reducible first|refine Zag ?_|refine Za2 ?_|refine Zam ?_|refine Zan ?_|refine Za4 ?_|refine Za3 ?_|refine Zae ?_|refine Zah ?_|refine Zaf ?_|refine r_vt ?_|refine r_vf ?_)|refine r_bb ?_|(with_reducible first|refine r_pkT ?_|refine r_pkF ?_|refine r_pkB ?_)|refine r_ex rfl ?_|(refine Zab (by omega) (by omega) ?_)|(refine Zac (by omega) (by omega) ?_)|(refine Za8 (by omega) (by omega) ?_)|refine r_ci ?_|(refine Za1 (by omega) ?_)|(refine Za9 (by omega) (by omega) ?_)|(refine Zaa (by omega) ?_)|(refine r_add (by omega) (by omega) ?_)|(refine Zak (by omega) ?_)|(refine Zal (by omega) ?_)|(refine r_sub (by omega) (by omega) ?_)|(refine r_mul (by omega) (by omega) ?_)|(refine r_dr H ?_;clear H;intro _ S_ H;replace S:=S.trans S_;clear S_)|refine r_ld 0 H rfl rfl ?_|refine r_ld 1 H rfl rfl ?_|refine r_ld 2 H rfl rfl ?_|refine r_ld 3 H rfl rfl ?_|refine r_ld 4 H rfl rfl ?_|((with_reducible refine r_vtD ?h ?_);(case h=>omega))|((with_reducible refine r_vfD ?h ?_);(case h=>omega))|((with_reducible refine r_vtE ?h ?_);(case h=>omega))|((with_reducible refine r_vfE ?h ?_);(case h=>omega))|((with_reducible refine r_vtN ?h ?_);(case h=>omega))|((with_reducible refine r_vfN ?h ?_);(case h=>omega)))
  refine r_ifD (λh3=>?_) λh3=>fin _ (by simp;omega)
  repeat (first|refine r_nc ?_|refine r_fo0 ?_|refine r_fo ?_|refine r_ke ?_|refine r_lns ?_|refine r_lnl ?_|refine r_eql ?_|refine r_neq ?_|refine r_lss ?_|refine r_leq ?_|refine r_gtr ?_|refine r_geq ?_|refine Zad ?_|refine Zai ?_|refine r_seq ?_|refine r_sne ?_|(with_reducible first|refine Zao ?_|refine Zaq ?_)|refine r_not ?_|(with_reducible first|refine Zag ?_|refine Za2 ?_|refine Zam ?_|refine Zan ?_|refine Za4 ?_|refine Za3 ?_|refine Zae ?_|refine Zah ?_|refine Zaf ?_|refine r_vt ?_|refine r_vf ?_)|refine r_bb ?_|(with_reducible first|refine r_pkT ?_|refine r_pkF ?_|refine r_pkB ?_)|refine r_ex rfl ?_|(refine Zab (by omega) (by omega) ?_)|(refine Zac (by omega) (by omega) ?_)|(refine Za8 (by omega) (by omega) ?_)|refine r_ci ?_|(refine Za1 (by omega) ?_)|(refine Za9 (by omega) (by omega) ?_)|(refine Zaa (by omega) ?_)|(refine r_add (by omega) (by omega) ?_)|(refine Zak (by omega) ?_)|(refine Zal (by omega) ?_)|(refine r_sub (by omega) (by omega) ?_)|(refine r_mul (by omega) (by omega) ?_)|(refine r_dr H ?_;clear H;intro _ S_ H;replace S:=S.trans S_;clear S_)|refine r_ld 0 H rfl rfl ?_|refine r_ld 1 H rfl rfl ?_|refine r_ld 2 H rfl rfl ?_|refine r_ld 3 H rfl rfl ?_|refine r_ld 4 H rfl rfl ?_|((with_reducible refine r_vtD ?h ?_);(case h=>omega))|((with_reducible refine r_vfD ?h ?_);(case h=>omega))|((with_reducible refine r_vtE ?h ?_);(case h=>omega))|((with_reducible refine r_vfE ?h ?_);(case h=>omega))|((with_reducible refine r_vtN ?h ?_);(case h=>omega))|((with_reducible refine r_vfN ?h ?_);(case h=>omega)))
  exact fin _ (by rw[bne_iff_ne];omega)
theorem Zg8 {s:ByteArray}(H:Holds w L) (hs:s.size<=1000000) (post:∀ b w',Same w w'->Holds w' L->(b=true↔word s.data.toList)->K (.bool b) w') :
  Cl prog 95 #[.string s] w K:=by
 refine Tz95 ?_;unfold Vz95
 have hz:(zeroP prog tR).cells.toList=[iv 0,iv 0]:=by kernel_rfl
 refine Zoe H hs λv w1 S1 H1=>?_;have hrl:=Zgt s.data.toList
 have hsz:s.size=s.data.toList.length:=by simp
 obtain⟨oa,m,sp,rfl,H1⟩:=H1.openRW 0 rfl;replace H1:Holds w1 (rwb runeF 2 tR oa (runes s.data.toList) m sp::L):=H1;generalize hR:runes s.data.toList=R at *
 repeat (first|refine r_nc ?_|refine r_fo0 ?_|refine r_fo ?_|refine r_ke ?_|refine r_lns ?_|refine r_lnl ?_|refine r_eql ?_|refine r_neq ?_|refine r_lss ?_|refine r_leq ?_|refine r_gtr ?_|refine r_geq ?_|refine Zad ?_|refine Zai ?_|refine r_seq ?_|refine r_sne ?_|(with_reducible first|refine Zao ?_|refine Zaq ?_)|refine r_not ?_|(with_reducible first|refine Zag ?_|refine Za2 ?_|refine Zam ?_|refine Zan ?_|refine Za4 ?_|refine Za3 ?_|refine Zae ?_|refine Zah ?_|refine Zaf ?_|refine r_vt ?_|refine r_vf ?_)|refine r_bb ?_|(with_reducible first|refine r_pkT ?_|refine r_pkF ?_|refine r_pkB ?_)|refine r_ex rfl ?_|(refine Zab (by omega) (by omega) ?_)|(refine Zac (by omega) (by omega) ?_)|(refine Za8 (by omega) (by omega) ?_)|refine r_ci ?_|(refine Za1 (by omega) ?_)|(refine Za9 (by omega) (by omega) ?_)|(refine Zaa (by omega) ?_)|(refine r_add (by omega) (by omega) ?_)|(refine Zak (by omega) ?_)|(refine Zal (by omega) ?_)|(refine r_sub (by omega) (by omega) ?_)|(refine r_mul (by omega) (by omega) ?_)|(refine r_dr H ?_;clear H;intro _ S_ H;replace S:=S.trans S_;clear S_)|refine r_ld 0 H rfl rfl ?_|refine r_ld 1 H rfl rfl ?_|refine r_ld 2 H rfl rfl ?_|refine r_ld 3 H rfl rfl ?_|refine r_ld 4 H rfl rfl ?_|((with_reducible refine r_vtD ?h ?_);(case h=>omega))|((with_reducible refine r_vfD ?h ?_);(case h=>omega))|((with_reducible refine r_vtE ?h ?_);(case h=>omega))|((with_reducible refine r_vfE ?h ?_);(case h=>omega))|((with_reducible refine r_vtN ?h ?_);(case h=>omega))|((with_reducible refine r_vfN ?h ?_);(case h=>omega)))
 refine Zat (λx w'=>∃ i:Nat,i<=R.length/\x=nv i/\(∀ r∈R.take i,mayR r.1)/\Same w w'/\Holds w' (rwb runeF 2 tR oa R m sp::L)) (λx _=>R.length - (intOf x).toNat) ⟨0,by omega,rfl,by simp,S1,H1⟩ ?_;clear H H1 S1;rintro _ _ w2 ⟨i,hi,rfl,hg,S,H⟩
 repeat (first|refine r_nc ?_|refine r_fo0 ?_|refine r_fo ?_|refine r_ke ?_|refine r_lns ?_|refine r_lnl ?_|refine r_eql ?_|refine r_neq ?_|refine r_lss ?_|refine r_leq ?_|refine r_gtr ?_|refine r_geq ?_|refine Zad ?_|refine Zai ?_|refine r_seq ?_|refine r_sne ?_|(with_reducible first|refine Zao ?_|refine Zaq ?_)|refine r_not ?_|(with_reducible first|refine Zag ?_|refine Za2 ?_|refine Zam ?_|refine Zan ?_|refine Za4 ?_|refine Za3 ?_|refine Zae ?_|refine Zah ?_|refine Zaf ?_|refine r_vt ?_|refine r_vf ?_)|refine r_bb ?_|(with_reducible first|refine r_pkT ?_|refine r_pkF ?_|refine r_pkB ?_)|refine r_ex rfl ?_|(refine Zab (by omega) (by omega) ?_)|(refine Zac (by omega) (by omega) ?_)|(refine Za8 (by omega) (by omega) ?_)|refine r_ci ?_|(refine Za1 (by omega) ?_)|(refine Za9 (by omega) (by omega) ?_)|(refine Zaa (by omega) ?_)|(refine r_add (by omega) (by omega) ?_)|(refine Zak (by omega) ?_)|(refine Zal (by omega) ?_)|(refine r_sub (by omega) (by omega) ?_)|(refine r_mul (by omega) (by omega) ?_)|(refine r_dr H ?_;clear H;intro _ S_ H;replace S:=S.trans S_;clear S_)|refine r_ld 0 H rfl rfl ?_|refine r_ld 1 H rfl rfl ?_|refine r_ld 2 H rfl rfl ?_|refine r_ld 3 H rfl rfl ?_|refine r_ld 4 H rfl rfl ?_|((with_reducible refine r_vtD ?h ?_);(case h=>omega))|((with_reducible refine r_vfD ?h ?_);(case h=>omega))|((with_reducible refine r_vtE ?h ?_);(case h=>omega))|((with_reducible refine r_vfE ?h ?_);(case h=>omega))|((with_reducible refine r_vtN ?h ?_);(case h=>omega))|((with_reducible refine r_vfN ?h ?_);(case h=>omega)))
 refine r_ifD (λh=>?_) λh=>?_
 ·have hlt:i < R.length:=by omega
  obtain⟨r,hr⟩:∃ r,R[i]?=some r:=⟨_,gA hlt⟩;refine r_ldN 0 H rfl hr (λy=>rfl) hlt ?_;refine r_new H λb3 w3 S3 H3=>?_;rw[hz] at H3;refine r_stA 0 H3 (vs:=runeF r) rfl (Nat.le_refl 2) rfl rfl λw4 S4 H4=>?_;replace H4:Holds w4 (blk b3 tR (runeF r)::rwb runeF 2 tR oa R m sp::L):=H4;replace S:=(S.trans S3).trans S4;clear H H3 S3 S4;refine r_fo0 ?_;refine r_ld 0 H4 rfl rfl ?_;refine may_spec ?_
  repeat (first|refine r_nc ?_|refine r_fo0 ?_|refine r_fo ?_|refine r_ke ?_|refine r_lns ?_|refine r_lnl ?_|refine r_eql ?_|refine r_neq ?_|refine r_lss ?_|refine r_leq ?_|refine r_gtr ?_|refine r_geq ?_|refine Zad ?_|refine Zai ?_|refine r_seq ?_|refine r_sne ?_|(with_reducible first|refine Zao ?_|refine Zaq ?_)|refine r_not ?_|(with_reducible first|refine Zag ?_|refine Za2 ?_|refine Zam ?_|refine Zan ?_|refine Za4 ?_|refine Za3 ?_|refine Zae ?_|refine Zah ?_|refine Zaf ?_|refine r_vt ?_|refine r_vf ?_)|refine r_bb ?_|(with_reducible first|refine r_pkT ?_|refine r_pkF ?_|refine r_pkB ?_)|refine r_ex rfl ?_|(refine Zab (by omega) (by omega) ?_)|(refine Zac (by omega) (by omega) ?_)|(refine Za8 (by omega) (by omega) ?_)|refine r_ci ?_|(refine Za1 (by omega) ?_)|(refine Za9 (by omega) (by omega) ?_)|(refine Zaa (by omega) ?_)|(refine r_add (by omega) (by omega) ?_)|(refine Zak (by omega) ?_)|(refine Zal (by omega) ?_)|(refine r_sub (by omega) (by omega) ?_)|(refine r_mul (by omega) (by omega) ?_)|(refine r_dr H ?_;clear H;intro _ S_ H;replace S:=S.trans S_;clear S_)|refine r_ld 0 H rfl rfl ?_|refine r_ld 1 H rfl rfl ?_|refine r_ld 2 H rfl rfl ?_|refine r_ld 3 H rfl rfl ?_|refine r_ld 4 H rfl rfl ?_|((with_reducible refine r_vtD ?h ?_);(case h=>omega))|((with_reducible refine r_vfD ?h ?_);(case h=>omega))|((with_reducible refine r_vtE ?h ?_);(case h=>omega))|((with_reducible refine r_vfE ?h ?_);(case h=>omega))|((with_reducible refine r_vtN ?h ?_);(case h=>omega))|((with_reducible refine r_vfN ?h ?_);(case h=>omega)))
  refine r_vif (λhm=>?_) λhm=>?_
  ·refine post _ _ S H4.drop.drop ⟨λe=>(by cases e),λhw=>?_⟩;have:=hw.1 r (by rw[hR];exact mem_of_getElem? hr);simp[this] at hm
  ·repeat (first|refine r_nc ?_|refine r_fo0 ?_|refine r_fo ?_|refine r_ke ?_|refine r_lns ?_|refine r_lnl ?_|refine r_eql ?_|refine r_neq ?_|refine r_lss ?_|refine r_leq ?_|refine r_gtr ?_|refine r_geq ?_|refine Zad ?_|refine Zai ?_|refine r_seq ?_|refine r_sne ?_|(with_reducible first|refine Zao ?_|refine Zaq ?_)|refine r_not ?_|(with_reducible first|refine Zag ?_|refine Za2 ?_|refine Zam ?_|refine Zan ?_|refine Za4 ?_|refine Za3 ?_|refine Zae ?_|refine Zah ?_|refine Zaf ?_|refine r_vt ?_|refine r_vf ?_)|refine r_bb ?_|(with_reducible first|refine r_pkT ?_|refine r_pkF ?_|refine r_pkB ?_)|refine r_ex rfl ?_|(refine Zab (by omega) (by omega) ?_)|(refine Zac (by omega) (by omega) ?_)|(refine Za8 (by omega) (by omega) ?_)|refine r_ci ?_|(refine Za1 (by omega) ?_)|(refine Za9 (by omega) (by omega) ?_)|(refine Zaa (by omega) ?_)|(refine r_add (by omega) (by omega) ?_)|(refine Zak (by omega) ?_)|(refine Zal (by omega) ?_)|(refine r_sub (by omega) (by omega) ?_)|(refine r_mul (by omega) (by omega) ?_)|(refine r_dr H ?_;clear H;intro _ S_ H;replace S:=S.trans S_;clear S_)|refine r_ld 0 H rfl rfl ?_|refine r_ld 1 H rfl rfl ?_|refine r_ld 2 H rfl rfl ?_|refine r_ld 3 H rfl rfl ?_|refine r_ld 4 H rfl rfl ?_|((with_reducible refine r_vtD ?h ?_);(case h=>omega))|((with_reducible refine r_vfD ?h ?_);(case h=>omega))|((with_reducible refine r_vtE ?h ?_);(case h=>omega))|((with_reducible refine r_vfE ?h ?_);(case h=>omega))|((with_reducible refine r_vtN ?h ?_);(case h=>omega))|((with_reducible refine r_vfN ?h ?_);(case h=>omega)))
   refine⟨⟨i+1,by omega,rfl,λq hq=>?_,S,H4.drop⟩,?_⟩
   ·rw[gO,hr,mem_append] at hq;rcases hq with hq|hq
    ·exact hg q hq
    ·simp at hq;subst hq;simpa using hm
   ·simp[nv,intOf];omega
 ·obtain rfl:i=R.length:=by omega
  rw[hF_] at hg
  repeat (first|refine r_nc ?_|refine r_fo0 ?_|refine r_fo ?_|refine r_ke ?_|refine r_lns ?_|refine r_lnl ?_|refine r_eql ?_|refine r_neq ?_|refine r_lss ?_|refine r_leq ?_|refine r_gtr ?_|refine r_geq ?_|refine Zad ?_|refine Zai ?_|refine r_seq ?_|refine r_sne ?_|(with_reducible first|refine Zao ?_|refine Zaq ?_)|refine r_not ?_|(with_reducible first|refine Zag ?_|refine Za2 ?_|refine Zam ?_|refine Zan ?_|refine Za4 ?_|refine Za3 ?_|refine Zae ?_|refine Zah ?_|refine Zaf ?_|refine r_vt ?_|refine r_vf ?_)|refine r_bb ?_|(with_reducible first|refine r_pkT ?_|refine r_pkF ?_|refine r_pkB ?_)|refine r_ex rfl ?_|(refine Zab (by omega) (by omega) ?_)|(refine Zac (by omega) (by omega) ?_)|(refine Za8 (by omega) (by omega) ?_)|refine r_ci ?_|(refine Za1 (by omega) ?_)|(refine Za9 (by omega) (by omega) ?_)|(refine Zaa (by omega) ?_)|(refine r_add (by omega) (by omega) ?_)|(refine Zak (by omega) ?_)|(refine Zal (by omega) ?_)|(refine r_sub (by omega) (by omega) ?_)|(refine r_mul (by omega) (by omega) ?_)|(refine r_dr H ?_;clear H;intro _ S_ H;replace S:=S.trans S_;clear S_)|refine r_ld 0 H rfl rfl ?_|refine r_ld 1 H rfl rfl ?_|refine r_ld 2 H rfl rfl ?_|refine r_ld 3 H rfl rfl ?_|refine r_ld 4 H rfl rfl ?_|((with_reducible refine r_vtD ?h ?_);(case h=>omega))|((with_reducible refine r_vfD ?h ?_);(case h=>omega))|((with_reducible refine r_vtE ?h ?_);(case h=>omega))|((with_reducible refine r_vfE ?h ?_);(case h=>omega))|((with_reducible refine r_vtN ?h ?_);(case h=>omega))|((with_reducible refine r_vfN ?h ?_);(case h=>omega)))
  refine r_ifD (λh2=>?_) λh2=>?_
  ·repeat (first|refine r_nc ?_|refine r_fo0 ?_|refine r_fo ?_|refine r_ke ?_|refine r_lns ?_|refine r_lnl ?_|refine r_eql ?_|refine r_neq ?_|refine r_lss ?_|refine r_leq ?_|refine r_gtr ?_|refine r_geq ?_|refine Zad ?_|refine Zai ?_|refine r_seq ?_|refine r_sne ?_|(with_reducible first|refine Zao ?_|refine Zaq ?_)|refine r_not ?_|(with_reducible first|refine Zag ?_|refine Za2 ?_|refine Zam ?_|refine Zan ?_|refine Za4 ?_|refine Za3 ?_|refine Zae ?_|refine Zah ?_|refine Zaf ?_|refine r_vt ?_|refine r_vf ?_)|refine r_bb ?_|(with_reducible first|refine r_pkT ?_|refine r_pkF ?_|refine r_pkB ?_)|refine r_ex rfl ?_|(refine Zab (by omega) (by omega) ?_)|(refine Zac (by omega) (by omega) ?_)|(refine Za8 (by omega) (by omega) ?_)|refine r_ci ?_|(refine Za1 (by omega) ?_)|(refine Za9 (by omega) (by omega) ?_)|(refine Zaa (by omega) ?_)|(refine r_add (by omega) (by omega) ?_)|(refine Zak (by omega) ?_)|(refine Zal (by omega) ?_)|(refine r_sub (by omega) (by omega) ?_)|(refine r_mul (by omega) (by omega) ?_)|(refine r_dr H ?_;clear H;intro _ S_ H;replace S:=S.trans S_;clear S_)|refine r_ld 0 H rfl rfl ?_|refine r_ld 1 H rfl rfl ?_|refine r_ld 2 H rfl rfl ?_|refine r_ld 3 H rfl rfl ?_|refine r_ld 4 H rfl rfl ?_|((with_reducible refine r_vtD ?h ?_);(case h=>omega))|((with_reducible refine r_vfD ?h ?_);(case h=>omega))|((with_reducible refine r_vtE ?h ?_);(case h=>omega))|((with_reducible refine r_vfE ?h ?_);(case h=>omega))|((with_reducible refine r_vtN ?h ?_);(case h=>omega))|((with_reducible refine r_vfN ?h ?_);(case h=>omega)))
   refine post _ _ S H.drop ⟨λe=>?_,λhw=>?_⟩
   ·unfold word;rw[hR];exact⟨hg,by omega,by have:=of_decide_eq_true e;omega⟩
   ·unfold word at hw;rw[hR] at hw;exact decide_eq_true (by omega)
  ·refine post _ _ S H.drop ⟨λe=>(by cases e),λhw=>?_⟩;unfold word at hw;rw[hR] at hw;omega
end J31
namespace J32
open Go.M31 J31
variable {w:World}{L:List HProp}{K:KT}
structure Tn where
 nm:ByteArray
 tk:ByteArray
 me:Int
 st:Int
 qu:Int
def cellsT (t:Tn):List Value:=[.string t.nm,.string t.tk,iv t.me,iv t.st,iv t.qu]
def TsIn (L:List HProp) (a:Option Addr) (ts:List Tn):Prop:=
 ∀ w',Holds w' L->∀ i t,ts[i]?=some t->∃ p:Addr,a=some p/\∀ j v,(cellsT t)[j]?=some v->w'.cell? ((p.add (i*5)).add j)=some v
theorem TsIn.up {a:Option Addr}{ts:List Tn}{Q:HProp}(h:TsIn L a ts):TsIn (Q::L) a ts:=λw' H=>h w' H.drop
theorem r_ldT {a:Option Addr}{ts:List Tn}{t:Tn}{i l c:Nat}{k:IntKind}{K:Value->Prop}(hT:TsIn L a ts) (H:Holds w L) (ht:ts[i]?=some t) (hi:i < l) (h:K (.agg (cellsT t).toArray)) :
  Ias 5 (.slice a l c) (.int k (i:Int)) λy=>LdA 5 y w K:=by
 obtain⟨p,rfl,hc⟩:=hT w H i t ht;refine Zcj hi ?_;refine Zgm (cs:=(cellsT t).toArray) rfl (λj v hv=>hc j v (by simpa using hv)) h
theorem Zb7 (t:Tn):(cellsT t).all sg=true:=rfl
def okT (t:Tn):Prop:=word t.nm.data.toList/\word t.tk.data.toList/\0<=t.me/\t.me<=1099511627776/\1<=t.st/\t.st<=1099511627776/\1<=t.qu/\t.qu<=1099511627776
def szT (t:Tn):Prop:=t.nm.size<=1000/\t.tk.size<=1000
def apartT (t u:Tn):Prop:=¬ t.nm=u.nm/\¬ t.tk=u.tk
def goodTs (ts:List Tn):Prop:=(∀ (i:Nat) t,ts[i]?=some t->okT t)/\(∀ (i:Nat) t (j:Nat) u,ts[i]?=some t->ts[j]?=some u->j < i->apartT u t)/\0 < ts.length/\ts.length<=16
def okTo (ts:List Tn) (i:Nat):Prop:=(∀ q t,q < i->ts[q]?=some t->okT t)/\(∀ q t j u,q < i->ts[q]?=some t->ts[j]?=some u->j < q->apartT u t)
def Chk (ts:List Tn) (e:Int):Prop:=
 (ts.length=0/\e=6)\/(16 < ts.length/\e=2)\/(0 < ts.length/\ts.length<=16/\∃ i t,ts[i]?=some t/\okTo ts i/\((¬ okT t/\e=1)\/(okT t/\(∃ j u,j < i/\ts[j]?=some u/\¬ apartT u t)/\e=8)))\/(goodTs ts/\e=0)
theorem Ztp {ts:List Tn}{i i':Nat}{t t':Tn}(h1:ts[i]?=some t) (h2:ts[i']?=some t') (h3:okTo ts i') (hlt:i < i') (h4:¬ okT t\/∃ j u,j < i/\ts[j]?=some u/\¬ apartT u t):False:=by
 rcases h4 with h4|⟨j,u,hj,hu,ha⟩
 ·exact h4 (h3.1 i t hlt h1)
 ·exact ha (h3.2 i t j u hlt h1 hu hj)
theorem Zf2 {ts:List Tn}{e e':Int}(h:Chk ts e) (h':Chk ts e'):e=e':=by
 rcases h with⟨a1,a2⟩|⟨a1,a2⟩|⟨a0,a1,i,t,a2,a3,a4⟩|⟨⟨g1,g2,g3,g4⟩,a2⟩ <;>
  rcases h' with⟨b1,b2⟩|⟨b1,b2⟩|⟨b0,b1,i',t',b2,b3,b4⟩|⟨⟨k1,k2,k3,k4⟩,b2⟩ <;> try omega
 ·have w1:¬ okT t\/∃ j u,j < i/\ts[j]?=some u/\¬ apartT u t:=by
   rcases a4 with a4|a4
   ·exact .inl a4.1
   ·exact .inr a4.2.1
  have w2:¬ okT t'\/∃ j u,j < i'/\ts[j]?=some u/\¬ apartT u t':=by
   rcases b4 with b4|b4
   ·exact .inl b4.1
   ·exact .inr b4.2.1
  rcases Nat.lt_trichotomy i i' with hlt|rfl|hlt
  ·exact (Ztp a2 b2 b3 hlt w1).elim
  ·rw[a2] at b2;obtain rfl:=Option.some.inj b2
   rcases a4 with a4|a4 <;> rcases b4 with b4|b4
   ·omega
   ·exact (a4.1 b4.1).elim
   ·exact (b4.1 a4.1).elim
   ·omega
  ·exact (Ztp b2 a2 a3 hlt w2).elim
 ·rcases a4 with a4|⟨a4,⟨j,u,hj,hu,ha⟩,_⟩
  ·exact (a4.1 (k1 i t a2)).elim
  ·exact (ha (k2 i t j u a2 hu hj)).elim
 ·rcases b4 with b4|⟨b4,⟨j,u,hj,hu,ha⟩,_⟩
  ·exact (b4.1 (g1 i' t' b2)).elim
  ·exact (ha (g2 i' t' j u b2 hu hj)).elim
theorem Ze7 {n l:Int}(post:K (.bool (decide (l<=n/\n<=1099511627776))) w):Cl prog 21 #[iv n,iv l] w K:=by
 refine Tz21 ?_;unfold Vz21
 repeat (refine r_geq ?_)
 refine r_ifD (λh=>?_) λh=>?_
 ·repeat (refine r_leq ?_)
  rw[show decide (n<=1099511627776)=decide (l<=n/\n<=1099511627776) by rw[Bool.eq_iff_iff,decide_eq_true_iff,decide_eq_true_iff];omega];exact post
 ·rw[decide_eq_false (by omega)] at post;exact post
theorem Zsk {t:Tn}(H:Holds w L) (hs:szT t) (post:∀ b w',Same w w'->Holds w' L->(b=true↔okT t)->K (.bool b) w'):Cl prog 52 #[.agg (cellsT t).toArray] w K:=by
 refine Tz52 ?_;unfold Vz52;refine r_new H λbt w1 S1 H1=>?_;replace H1:Holds w1 (blk bt tT (cellsT t)::L):=H1;have S:=S1;clear H S1;have H:=H1;clear H1;unfold szT at hs
 repeat (first|refine r_fo0 ?_|refine r_ld 0 H rfl rfl ?_)
 refine Zg8 H (by omega) λb1 w2 S2 H2 h1=>?_;replace S:=S.trans S2;clear H S2;have H:=H2;clear H2;refine r_vif (λhb=>?_) λhb=>post _ _ S H.drop ⟨λe=>(by cases e),λo=>by rw[h1.2 o.1] at hb;cases hb⟩;have g1:=h1.1 hb
 repeat (first|refine r_fo0 ?_|refine r_ld 0 H rfl rfl ?_)
 refine Zg8 H (by omega) λb2 w2 S2 H2 h2=>?_;replace S:=S.trans S2;clear H S2;have H:=H2;clear H2;refine r_vif (λhb=>?_) λhb=>post _ _ S H.drop ⟨λe=>(by cases e),λo=>by rw[h2.2 o.2.1] at hb;cases hb⟩;have g2:=h2.1 hb
 repeat (first|refine r_fo0 ?_|refine r_ld 0 H rfl rfl ?_)
 refine Ze7 ?_;refine r_ifD (λh3=>?_) λh3=>post _ _ S H.drop ⟨λe=>(by cases e),λo=>absurd ⟨o.2.2.1,o.2.2.2.1⟩ h3⟩
 repeat (first|refine r_fo0 ?_|refine r_ld 0 H rfl rfl ?_)
 refine Ze7 ?_;refine r_ifD (λh4=>?_) λh4=>post _ _ S H.drop ⟨λe=>(by cases e),λo=>absurd ⟨o.2.2.2.2.1,o.2.2.2.2.2.1⟩ h4⟩
 repeat (first|refine r_fo0 ?_|refine r_ld 0 H rfl rfl ?_)
 refine Ze7 ?_;refine post _ _ S H.drop ⟨λe=>?_,λo=>decide_eq_true ⟨o.2.2.2.2.2.2.1,o.2.2.2.2.2.2.2⟩⟩;have h5:=of_decide_eq_true e;exact⟨g1,g2,h3.1,h3.2,h4.1,h4.2,h5.1,h5.2⟩
abbrev tW:Nat:=54
theorem Check_spec {a:Option Addr}{ts:List Tn}{c:Nat}(H:Holds w L) (hT:TsIn L a ts) (hs:∀ t∈ts,szT t) (hc:ts.length<=c)
  (post:∀ at_ e w',Same w w'->Holds w' L->Chk ts e->K (.agg #[iv at_,iv e]) w') :
  Cl prog 20 #[.slice a ts.length c] w K:=by
 refine Tz20 ?_;unfold Vz20
 have hz:(zeroP prog tW).cells.toList=[iv 0,iv 0]:=by kernel_rfl
 have hzT:(zeroP prog tT).cells.toList=[.string ⟨#[]⟩,.string ⟨#[]⟩,iv 0,iv 0,iv 0]:=by kernel_rfl
 refine r_new H λbx w1 S1 H1=>?_;rw[hz] at H1;have S:=S1;clear H S1;have H:=H1;clear H1
 have out:∀ (x y:Int) (w2:World),Same w w2->Holds w2 (blk bx tW [iv 0,iv 0]::L)->Chk ts y->
   Bd prog tW #[(0,iv x),(1,iv y)] w2 λv=>StA 2 (.pointer (some ⟨bx,0,none⟩)) v w2 λw3=>LdA 2 (.pointer (some ⟨bx,0,none⟩)) w3 λu=>K u w3:=by
  intro x y w2 S2 H2 hg;refine r_bd (v:=.agg #[iv x,iv y]) (by kernel_rfl) ?_;refine r_stA 0 H2 (vs:=[iv x,iv y]) rfl (Nat.le_refl 2) rfl rfl λw3 S3 H3=>?_;replace H3:Holds w3 (blk bx tW [iv x,iv y]::L):=H3;refine r_ldA 0 H3 [iv x,iv y] rfl rfl rfl ?_;exact post _ _ _ (S2.trans S3) H3.drop hg
 repeat (first|refine r_lnl ?_|refine r_eql ?_)
 refine r_ifE (λh=>?_) λh=>?_
 ·exact out (-1) 6 _ S H (.inl ⟨by omega,rfl⟩)
 repeat (first|refine r_lnl ?_|refine r_gtr ?_)
 refine r_ifD (λh2=>?_) λh2=>?_
 ·exact out 16 2 _ S H (.inr (.inl ⟨by omega,rfl⟩))
 repeat (refine r_lnl ?_)
 refine Zat (λx w'=>∃ i:Nat,i<=ts.length/\x=nv i/\okTo ts i/\Same w w'/\Holds w' (blk bx tW [iv 0,iv 0]::L))
  (λx _=>ts.length - (intOf x).toNat) ⟨0,by omega,rfl,⟨λq t hq=>by omega,λq t j u hq=>by omega⟩,S,H⟩ ?_
 clear H S;rintro _ _ w2 ⟨i,hi,rfl,g12,S,H⟩
 repeat (refine r_lss ?_)
 refine r_ifD (λh3=>?_) λh3=>?_
 ·have hlt:i < ts.length:=by omega
  obtain⟨t,ht⟩:∃ t,ts[i]?=some t:=⟨_,gA hlt⟩;have hst:=hs t (mem_of_getElem? ht);refine r_ldT hT.up H ht hlt ?_;refine r_new H λbt w3 S3 H3=>?_;rw[hzT] at H3;refine r_stA 0 H3 (vs:=cellsT t) rfl (Nat.le_refl 5) rfl (Zb7 t) λw4 S4 H4=>?_;replace H4:Holds w4 (blk bt tT (cellsT t)::blk bx tW [iv 0,iv 0]::L):=H4;replace S:=(S.trans S3).trans S4;clear H H3 S3 S4;have H:=H4;clear H4;refine r_ldA 0 H (cellsT t) rfl rfl rfl ?_;refine Zsk H hst λb w3 S3 H3 hb=>?_;replace S:=S.trans S3;clear H S3;have H:=H3;clear H3
  repeat (refine r_not ?_)
  refine r_vif (λhn=>?_) λhn=>?_
  ·have hno:¬ okT t:=λo=>by rw[hb.2 o] at hn;cases hn
   have:=out i 1 w3 S H.drop (.inr (.inr (.inl ⟨by omega,by omega,i,t,ht,g12,.inl ⟨hno,rfl⟩⟩)));exact this
  ·have okt:=hb.1 (by simpa using hn);refine Zmd (by omega) ?_
   repeat (refine r_lnl ?_)
   refine Zat (λx w'=>∃ j:Nat,j<=i/\x=nv j/\(∀ q u,q < j->ts[q]?=some u->apartT u t)/\Same w w'/\Holds w' (blk bt tT (cellsT t)::blk bx tW [iv 0,iv 0]::L))
    (λx _=>i - (intOf x).toNat) ⟨0,by omega,rfl,λq t hq=>by omega,S,H⟩ ?_
   clear H S;rintro _ _ w4 ⟨j,hj,rfl,g3,S,H⟩
   repeat (refine r_lss ?_)
   refine r_ifD (λh4=>?_) λh4=>?_
   ·have hjl:j < ts.length:=by omega
    obtain⟨u,hu⟩:∃ u,ts[j]?=some u:=⟨_,gA hjl⟩;refine r_ldT hT.up.up H hu (by omega) ?_;refine r_new H λbu w5 S5 H5=>?_;rw[hzT] at H5;refine r_stA 0 H5 (vs:=cellsT u) rfl (Nat.le_refl 5) rfl (Zb7 u) λw6 S6 H6=>?_;replace H6:Holds w6 (blk bu tT (cellsT u)::blk bt tT (cellsT t)::blk bx tW [iv 0,iv 0]::L):=H6;replace S:=(S.trans S5).trans S6;clear H H5 S5 S6;have H:=H6;clear H6;refine Za0 (λx w'=>w6=w'/\∃ b:Bool,x=.bool b/\(b=false↔apartT u t)) ?_ ?_
    ·rintro _ _ _ ⟨rfl,b,rfl,hap⟩;refine r_vif (λe=>?_) λe=>?_
     ·have:=out i 8 w6 S H.drop.drop (.inr (.inr (.inl ⟨by omega,by omega,i,t,ht,g12,.inr ⟨okt,⟨j,u,by omega,hu,λha=>by rw[hap.2 ha] at e;cases e⟩,rfl⟩⟩)));exact this
     ·repeat (first|refine r_ke ?_|(refine Za1 (by omega) ?_))
      refine⟨⟨j+1,by omega,rfl,λq v hq hv=>?_,S,H.drop⟩,?_⟩
      ·rcases hU_ q j with h5|h5
       ·exact g3 q v h5 hv
       ·obtain rfl:q=j:=by omega
        rw[hu] at hv;obtain rfl:=Option.some.inj hv;exact hap.1 e
      ·simp[nv,intOf];omega
    ·repeat (first|refine r_fo0 ?_|refine r_seq ?_|refine r_ld 0 H rfl rfl ?_|refine r_ld 1 H rfl rfl ?_)
     refine r_ifD (λh5=>r_ke ⟨rfl,true,rfl,⟨λe=>(by cases e),λha=>absurd h5 ha.1⟩⟩) λh5=>?_
     repeat (first|refine r_fo0 ?_|refine r_ke ?_|refine r_seq ?_|refine r_ld 0 H rfl rfl ?_|refine r_ld 1 H rfl rfl ?_)
     exact⟨rfl,_,rfl,⟨λe=>⟨h5,of_decide_eq_false e⟩,λha=>decide_eq_false ha.2⟩⟩
   ·obtain rfl:j=i:=by omega
    repeat (first|refine r_ke ?_|(refine Za1 (by omega) ?_))
    refine⟨⟨j+1,by omega,rfl,⟨λq v hq hv=>?_,λq v p u hq hv hu hp=>?_⟩,S,H.drop⟩,?_⟩
    ·rcases hU_ q j with h5|h5
     ·exact g12.1 q v h5 hv
     ·obtain rfl:q=j:=by omega
      rw[ht] at hv;obtain rfl:=Option.some.inj hv;exact okt
    ·rcases hU_ q j with h5|h5
     ·exact g12.2 q v p u h5 hv hu hp
     ·obtain rfl:q=j:=by omega
      rw[ht] at hv;obtain rfl:=Option.some.inj hv;exact g3 p u hp hu
    ·simp[nv,intOf];omega
 ·obtain rfl:i=ts.length:=by omega
  refine out (-1) 0 _ S H (.inr (.inr (.inr ⟨⟨λq t hq=>g12.1 q t (gH.1 hq).1 hq,λq t j u hq hu hj=>g12.2 q t j u (gH.1 hq).1 hq hu hj,by omega,by omega⟩,rfl⟩)))
structure Cn where
 un:Int
 wi:Int
 bu:Int
 sp:Int
 jo:Int
 ch:Int
def cellsC (a:Option Addr) (l c:Nat) (n:Cn):List Value:=[.slice a l c,iv n.un,iv n.wi,iv n.bu,iv n.sp,iv n.jo,iv n.ch]
def okC (n:Cn):Prop:=24<=n.un/\n.un<=100000/\64<=n.wi/\n.wi<=1048576/\1<=n.bu/\n.bu<=1099511627776/\1<=n.sp/\n.sp<=1048576/\1<=n.jo/\n.jo<=64/\1<=n.ch/\n.ch<=4096
def ChkC (ts:List Tn) (n:Cn) (e:Int):Prop:=(Chk ts e/\e≠0)\/(Chk ts 0/\¬ okC n/\e=1)\/(Chk ts 0/\okC n/\e=0)
theorem Zsq {ts:List Tn}{n:Cn}{e e':Int}(h:ChkC ts n e) (h':ChkC ts n e'):e=e':=by
 rcases h with⟨a1,a2⟩|⟨a1,a2,a3⟩|⟨a1,a2,a3⟩ <;> rcases h' with⟨b1,b2⟩|⟨b1,b2,b3⟩|⟨b1,b2,b3⟩
 ·exact Zf2 a1 b1
 ·exact (a2 (Zf2 a1 b1)).elim
 ·exact (a2 (Zf2 a1 b1)).elim
 ·exact (b2 (Zf2 b1 a1)).elim
 ·omega
 ·exact (a2 b2).elim
 ·exact (b2 (Zf2 b1 a1)).elim
 ·exact (b2 a2).elim
 ·omega
theorem Zkj {ts:List Tn}{n:Cn}(h:ChkC ts n 0):goodTs ts/\okC n:=by
 rcases h with⟨a1,a2⟩|⟨a1,a2,a3⟩|⟨a1,a2,a3⟩
 ·exact absurd rfl a2
 ·cases a3
 ·rcases a1 with⟨_,b2⟩|⟨_,b2⟩|⟨_,_,i,t,_,_,b4⟩|⟨g,_⟩
  ·cases b2
  ·cases b2
  ·rcases b4 with⟨_,b4⟩|⟨_,_,b4⟩ <;> cases b4
  ·exact⟨g,a2⟩
theorem Config_spec {a:Option Addr}{ts:List Tn}{c:Nat}{n:Cn}(H:Holds w L) (hT:TsIn L a ts) (hs:∀ t∈ts,szT t) (hc:ts.length<=c)
  (post:∀ e w',Same w w'->Holds w' L->ChkC ts n e->K (iv e) w') :
  Cl prog 5 #[.agg (cellsC a ts.length c n).toArray] w K:=by
 refine Tz5 ?_;unfold Vz5
 have hz:(zeroP prog tW).cells.toList=[iv 0,iv 0]:=by kernel_rfl
 refine r_new H λbc w1 S1 H1=>?_;replace H1:Holds w1 (blk bc tC (cellsC a ts.length c n)::L):=H1;refine r_fo0 ?_;refine r_ld 0 H1 rfl rfl ?_;refine Check_spec H1 hT.up hs hc λat_ e w2 S2 H2 hg=>?_;refine r_new H2 λbw w3 S3 H3=>?_;rw[hz] at H3;refine r_stA 0 H3 (vs:=[iv at_,iv e]) rfl (Nat.le_refl 2) rfl rfl λw4 S4 H4=>?_;replace H4:Holds w4 (blk bw tW [iv at_,iv e]::blk bc tC (cellsC a ts.length c n)::L):=H4;have S:=((S1.trans S2).trans S3).trans S4;clear H H1 H2 H3 S1 S2 S3 S4;have H:=H4;clear H4
 repeat (first|refine r_fo0 ?_|refine r_neq ?_|refine r_ld 0 H rfl rfl ?_)
 refine r_ifN (λh=>?_) λh=>?_
 ·repeat (first|refine r_fo0 ?_|refine r_ld 0 H rfl rfl ?_)
  exact post e _ S H.drop.drop (.inl ⟨hg,h⟩)
 have hg0:Chk ts 0:=by rw[<-h];exact hg
 have no:¬ okC n->K (iv 1) w4:=λhno=>post 1 w4 S H.drop.drop (.inr (.inl ⟨hg0,hno,rfl⟩));unfold okC at no
 have ld1:∀ (i:Nat) (v:Value) (X:Value->Prop),(cellsC a ts.length c n)[i]?=some v->X v->Fo i (.pointer (some ⟨bc,0,none⟩)) λy=>Ld y w4 X:=by
  intro i v X hv hx;refine r_fo0 ?_;exact r_ld 1 H rfl hv hx
 refine ld1 1 _ _ rfl ?_;refine r_lss ?_;refine r_ifD (λ_=>no (by omega)) λa1=>?_;refine ld1 1 _ _ rfl ?_;refine r_gtr ?_;refine r_ifD (λ_=>no (by omega)) λa2=>?_;refine ld1 2 _ _ rfl ?_;refine r_lss ?_;refine r_ifD (λ_=>no (by omega)) λa3=>?_;refine ld1 2 _ _ rfl ?_;refine r_gtr ?_;refine r_ifD (λ_=>no (by omega)) λa4=>?_;refine ld1 3 _ _ rfl ?_;refine Ze7 ?_;refine r_not ?_;refine r_vif (λa5=>no λo=>absurd a5 (by simp[o.2.2.2.2.1,o.2.2.2.2.2.1])) λa5=>?_
 have a5':1<=n.bu/\n.bu<=1099511627776:=by simpa using a5
 refine ld1 4 _ _ rfl ?_;refine r_lss ?_;refine r_ifD (λ_=>no (by omega)) λa6=>?_;refine ld1 4 _ _ rfl ?_;refine r_gtr ?_;refine r_ifD (λ_=>no (by omega)) λa7=>?_;refine ld1 5 _ _ rfl ?_;refine r_lss ?_;refine r_ifD (λ_=>no (by omega)) λa8=>?_;refine ld1 5 _ _ rfl ?_;refine r_gtr ?_;refine r_ifD (λ_=>no (by omega)) λa9=>?_;refine ld1 6 _ _ rfl ?_;refine r_lss ?_;refine r_ifD (λ_=>no (by omega)) λa10=>?_;refine ld1 6 _ _ rfl ?_;refine r_gtr ?_;refine r_ifD (λ_=>no (by omega)) λa11=>?_;exact post 0 _ S H.drop.drop (.inr (.inr ⟨hg0,by unfold okC;omega,rfl⟩))
end J32
namespace J33
open Go.M31 J30 J31 J32
variable {w:World}{L:List HProp}{K:KT}
theorem Zn6 {s:ByteArray}{p:Nat}(hp:p < s.size) :
  ∃ (n:Int) (k m:Nat),first (s.data.toList.drop p)=(n,k)/\Utf8.decode s p=(m,k)/\((0<=n/\n=(m:Int))\/(n=-1/\m=65533/\k=1))/\m<=2000000/\1<=k/\p+k<=s.size/\runes (s.data.toList.drop p)=(n,k)::runes (s.data.toList.drop (p+k)):=by
 have hsz:s.size=s.data.toList.length:=by simp
 have hl:0 < (s.data.toList.drop p).length:=by rw[gS];omega
 have e:=Zdk hl;have hb:=Zco (s.data.toList.drop p);have hbl:=Zjj _ hl;rw[gS] at hbl
 have hle:(first (s.data.toList.drop p)).1<=2000000/\(0<=(first (s.data.toList.drop p)).1\/first (s.data.toList.drop p)=(-1,1)):=by
  rcases first_spec (s.data.toList.drop p) with⟨h1,h2⟩|h2|⟨_,_,hz,h2⟩|⟨_,_,hz,h2⟩|⟨_,_,hz,h2⟩
  ·rw[h2];simp only;omega
  ·rw[h2];simp
  ·obtain⟨g1,m,hm1,hm2,e2⟩:=Zbx _ hz;rw[h2,e2];have:=(Zaj _ _).1 g1;have:=(Zaj _ _).1 g1;have b0:byt (s.data.toList.drop p) 0 < 256:=UInt8.toNat_lt _;simp only;omega
  ·obtain⟨_,_,m,_,hm1,hm2,_,e2⟩:=Zc0 _ hz;rw[h2,e2];simp only;omega
  ·obtain⟨_,_,_,m,_,hm1,hm2,_,e2⟩:=Zbz _ hz;rw[h2,e2];simp only;omega
 rcases hle.2 with h0|h1
 ·generalize hr:first (s.data.toList.drop p)=r at *;obtain⟨n,k⟩:=r;simp only at hb hbl hle e h0;obtain⟨m,rfl⟩:∃ m:Nat,n=m:=⟨n.toNat,by omega⟩;refine⟨m,k,m,rfl,Zd4 s p m k hr,.inl ⟨by omega,rfl⟩,by omega,by omega,by omega,?_⟩;rw[e,List.drop_drop]
 ·have hd:=Zeg s p h1;rw[h1] at e hbl;refine⟨-1,1,65533,h1,hd,.inr ⟨rfl,rfl,rfl⟩,by omega,by omega,by simp only at hbl;omega,?_⟩;rw[e,List.drop_drop]
def TabZ (z:Bool) (L:List HProp):Prop:=z=true->TabIn L
theorem TabZ.up {z:Bool}{Q:HProp}(h:TabZ z L):TabZ z (Q::L):=λhz=>(h hz).up
def Asc (z:Bool) (s:List UInt8):Prop:=z=false->∀ b∈s,b < 128
def AscT (z:Bool) (t:Tn):Prop:=Asc z t.nm.data.toList/\Asc z t.tk.data.toList
theorem Asc.yes (s:List UInt8):Asc true s:=λh=>by cases h
theorem Zp8 {l:List UInt8}(h:byt l 0 < 128):first l=((byt l 0:Int),1):=by
 unfold first;rw[if_pos h]
theorem Zoz {z:Bool}{s:ByteArray}{p k m:Nat}{n:Int}(H:Holds w L) (hT:TabZ z L) (hA:Asc z s.data.toList) (hp:p < s.size) (hs:s.size<=1000000) (hf:first (s.data.toList.drop p)=(n,k)) (hm:(0<=n/\n=(m:Int))\/(n=-1/\m=65533/\k=1)) (hm2:m<=2000000)
  (post:∀ w',Same w w'->Holds w' L->K (iv n) w'):Cl prog 217 #[.string s,nv p,.int .i32 (m:Int)] w K:=by
 refine Tz217 ?_;unfold Vz217
 repeat (refine r_eql ?_)
 refine r_ifE (λh=>?_) λh=>?_
 ·have hm':m=65533:=by omega
  subst hm';refine Zrf (by omega) ?_
  have hd:(⟨(s.data.toList.drop p).toArray⟩:ByteArray).data.toList=s.data.toList.drop p:=by simp
  have hz:(⟨(s.data.toList.drop p).toArray⟩:ByteArray).size=s.size - p:=by
   show Array.size _=_;rw[size_toArray,gS];simp
  have hdec:Utf8.decode ⟨(s.data.toList.drop p).toArray⟩ 0=(65533,k):=by
   rcases hm with⟨h0,rfl⟩|⟨rfl,_,rfl⟩
   ·exact Zd4 _ 0 65533 k (by rw[hd,drop_zero];exact hf)
   ·exact Zeg _ 0 (by rw[hd,drop_zero];exact hf)
  have hz1:z=true:=by
   cases z with
   |true=>rfl
   |false=>
    have hb:=hA rfl (s.data.toList.getD p 0) (by rw[gB,gA (by simpa using hp)];exact List.getElem_mem _)
    have hlt:(s.data.toList.getD p 0).toNat < 128:=by simpa using UInt8.lt_iff_toNat_lt.1 hb
    have h8:=Zp8 (l:=s.data.toList.drop p) (by unfold byt;rw[gB,hH_,Nat.add_zero,<-gB];exact hlt);rw[h8] at hf;have:=congrArg Prod.fst hf;simp only at this
    have h9:byt (s.data.toList.drop p) 0 < 128:=by unfold byt;rw[gB,hH_,Nat.add_zero,<-gB];exact hlt
    omega
  refine Zkx H (hT hz1) (by omega) λw2 S2 H2=>?_;rw[hdec]
  repeat (first|refine r_eql ?_|(with_reducible first|refine Za4 ?_|refine Za3 ?_))
  refine r_ifE (λh1=>?_) λh1=>?_
  ·have hk:k=1:=by omega
   rcases hm with⟨h0,rfl⟩|⟨rfl,_,_⟩
   ·have:=(repl _ _ hf).1;omega
   ·exact post _ S2 H2
  ·have hk:¬ k=1:=by omega
   rcases hm with⟨h0,rfl⟩|⟨_,_,h2⟩
   ·repeat (refine Zab (by omega) (by omega) ?_)
    exact post _ S2 H2
   ·exact (hk h2).elim
 ·rcases hm with⟨h0,rfl⟩|⟨_,h2,_⟩
  ·repeat (refine Zab (by omega) (by omega) ?_)
   exact post _ (.refl _) H
  ·omega
theorem may_spec {n:Int}(post:K (.bool (decide (mayR n))) w):Cl prog 218 #[iv n] w K:=by
 refine Tz218 ?_;unfold Vz218
 have fin:∀ b:Bool,(b=true↔mayR n)->K (.bool b) w:=λb hb=>by
  rw[show b=decide (mayR n) by rw[Bool.eq_iff_iff,hb,decide_eq_true_iff]];exact post
 clear post;unfold mayR at fin
 repeat (refine r_gtr ?_)
 refine r_ifD (λh=>?_) λh=>fin _ (by simp;omega)
 repeat (refine r_lss ?_)
 refine r_ifD (λh2=>?_) λh2=>?_
 ·repeat (refine r_neq ?_)
  refine r_ifN (λh3=>?_) λh3=>fin _ (by simp;omega)
  repeat (refine r_neq ?_)
  exact fin _ (by rw[bne_iff_ne];omega)
 ·repeat (refine r_gtr ?_)
  refine r_ifD (λh3=>?_) λh3=>fin _ (by simp;omega)
  repeat (first|refine r_neq ?_|((with_reducible refine r_vtN ?h ?_);(case h=>omega)))
  exact fin _ (by rw[bne_iff_ne];omega)
theorem Zlo {z:Bool}{s:ByteArray}(H:Holds w L) (hT:TabZ z L) (hA:Asc z s.data.toList) (hs:s.size<=1000000)
  (pn:∀ w',Same w w'->Holds w' L->(∀ r∈runes s.data.toList,mayR r.1)->K (.tuple #[iv 0,iv (-1)]) w')
  (py:∀ x (p:Nat) w',Same w w'->Holds w' L->(∃ r∈runes s.data.toList,¬ mayR r.1)->K (.tuple #[x,nv p]) w'):Cl prog 199 #[.string s] w K:=by
 refine Tz199 ?_;unfold Vz199;refine r_rg (by kernel_rfl) H λb w1 S1 H1=>?_;refine Zp7 (λw'=>∃ (p:Nat) (pre:List (Int × Nat)),p<=s.size/\runes s.data.toList=pre++runes (s.data.toList.drop p)/\(∀ r∈pre,mayR r.1)/\Same w w'/\Holds w' (blkO b (.stringIter s p)::L)) (λw'=>s.size - itPos w' b) ⟨0,[],by omega,by simp,by simp,S1,H1⟩ ?_;clear H H1 S1;rintro _ w2 ⟨p,pre,hp,hr,hg2,S,H⟩;have hit:=Zfr H 0 rfl
 by_cases h0:p < s.size
 ·obtain⟨n,k,m,h1,h4,h2,h3,h5,h6,h7⟩:=Zn6 h0;refine r_nxT H 0 rfl h0 λw3 S3 H3=>?_;rw[h4] at H3 ⊢;replace S:=S.trans S3
  repeat (first|(with_reducible first|refine Zae ?_|refine Zah ?_|refine Zaf ?_|refine r_vt ?_))
  refine Zoz H3 hT.up hA h0 hs h1 h2 h3 λw4 S4 H4=>?_;refine may_spec ?_
  repeat (refine r_not ?_)
  refine r_vif (λhv=>?_) λhv=>?_
  ·repeat (fail)
   refine py _ p _ (S.trans S4) H4.drop ⟨(n,k),?_,by simpa using hv⟩;rw[hr,h7];exact List.mem_append_right _ hJ_
  ·repeat (refine r_ke ?_)
   refine⟨⟨p+k,pre++[(n,k)],h6,by rw[hr,h7];simp,λr hr2=>?_,S.trans S4,H4⟩,?_⟩
   ·rcases mem_append.1 hr2 with h8|h8
    ·exact hg2 r h8
    ·rw[List.mem_singleton] at h8;subst h8;simpa using hv
   ·have hit3:=Zfr H4 0 rfl;omega
 ·refine r_nxE H 0 rfl h0 ?_;refine Ztj ?_
  repeat (with_reducible refine r_vf ?_)
  refine pn _ S H.drop λr hr2=>?_;rw[hr,List.drop_of_length_le (by rw[show s.data.toList.length=s.size by simp];omega),Zeh,gU] at hr2;exact hg2 r hr2
theorem Len_spec {s:ByteArray}(H:Holds w L) (hs:s.size<=1000000)
  (post:∀ w',Same w w'->Holds w' L->K (nv (runes s.data.toList).length) w'):Cl prog 200 #[.string s] w K:=by
 refine Tz200 ?_;unfold Vz200;have hrl:=Zgt s.data.toList
 have hsz:s.size=s.data.toList.length:=by simp
 refine r_rg (by kernel_rfl) H λb w1 S1 H1=>?_
 refine Zat (λx w'=>∃ p n:Nat,p<=s.size/\x=nv n/\n+(runes (s.data.toList.drop p)).length=(runes s.data.toList).length/\Same w w'/\Holds w' (blkO b (.stringIter s p)::L)) (λ_ w'=>s.size - itPos w' b)
  ⟨0,0,by omega,rfl,by simp,S1,H1⟩ ?_
 clear H H1 S1;rintro _ _ w2 ⟨p,n,hp,rfl,hlen,S,H⟩;have hit:=Zfr H 0 rfl
 by_cases h0:p < s.size
 ·obtain⟨n2,k,m,h1,h4,h2,h3,h5,h6,h7⟩:=Zn6 h0;refine r_nxT H 0 rfl h0 λw3 S3 H3=>?_;rw[h4] at H3 ⊢;rw[h7,gY] at hlen
  repeat (first|refine Zae ?_|refine r_ke ?_|(with_reducible refine r_vt ?_)|(refine Za1 (by omega) ?_))
  refine⟨⟨p+k,n+1,h6,rfl,by omega,S.trans S3,H3⟩,?_⟩;have hit3:=Zfr H3 0 rfl;omega
 ·refine r_nxE H 0 rfl h0 ?_;refine Ztj ?_
  repeat (with_reducible refine r_vf ?_)
  rw[List.drop_of_length_le (by omega),Zeh] at hlen;simp only[length_nil,Nat.add_zero] at hlen;rw[hlen];exact post _ S H.drop
theorem Zfp {z:Bool}{s:ByteArray}(H:Holds w L) (hT:TabZ z L) (hA:Asc z s.data.toList) (hs:s.size<=1000000) (post:∀ b w',Same w w'->Holds w' L->(b=true↔word s.data.toList)->K (.bool b) w'):Cl prog 162 #[.string s] w K:=by
 refine Tz162 ?_;unfold Vz162;have hrl:=Zgt s.data.toList
 have hsz:s.size=s.data.toList.length:=by simp
 have hr0:s.size=0↔(runes s.data.toList).length=0:=by
  constructor
  ·intro h;omega
  ·intro h;rcases Nat.eq_zero_or_pos s.data.toList.length with h2|h2
   ·omega
   ·rw[Zdk h2,gY] at h;omega
 refine Zlo H hT hA hs (λw2 S2 H2 g1=>?_) λx p w2 S2 H2 hb=>?_
 ·repeat (first|refine r_lss ?_|refine Zai ?_|(with_reducible first|refine Za4 ?_|refine Za3 ?_)|((with_reducible refine r_vtD ?h ?_);(case h=>omega)))
  refine r_ifD (λh0=>?_) λh0=>?_
  ·refine Len_spec H2 hs λw3 S3 H3=>?_
   repeat (refine r_leq ?_)
   refine post _ _ (S2.trans S3) H3 ⟨λe=>?_,λhw=>?_⟩
   ·have:=of_decide_eq_true e;exact⟨g1,by omega,by omega⟩
   ·exact decide_eq_true (by have:=hw.2.2;omega)
  ·refine post _ _ S2 H2 ⟨λe=>(by cases e),λhw=>?_⟩;have:=hw.2.1;omega
 ·repeat (first|refine r_lss ?_|(with_reducible first|refine Za4 ?_|refine Za3 ?_)|((with_reducible refine r_vfD ?h ?_);(case h=>omega)))
  refine post _ _ S2 H2 ⟨λe=>(by cases e),λhw=>?_⟩;obtain⟨r,hr,hn⟩:=hb;exact (hn (hw.1 r hr)).elim
theorem Zax {n a b:Int}(post:K (.bool (decide (a<=n/\n<=b))) w):Cl prog 65 #[iv n,iv a,iv b] w K:=by
 refine Tz65 ?_;unfold Vz65
 repeat (refine r_geq ?_)
 refine r_ifD (λh=>?_) λh=>?_
 ·repeat (refine r_leq ?_)
  rw[show decide (n<=b)=decide (a<=n/\n<=b) by rw[Bool.eq_iff_iff,decide_eq_true_iff,decide_eq_true_iff];omega];exact post
 ·rw[decide_eq_false (by omega)] at post;exact post
theorem Znh {z:Bool}{t:Tn}(H:Holds w L) (hT:TabZ z L) (hA:AscT z t) (hs:szT t) (post:∀ b w',Same w w'->Holds w' L->(b=true↔okT t)->K (.bool b) w'):Cl prog 116 #[.agg (cellsT t).toArray] w K:=by
 refine Tz116 ?_;unfold Vz116;refine r_new H λbt w1 S1 H1=>?_;replace H1:Holds w1 (blk bt tT (cellsT t)::L):=H1;have S:=S1;clear H S1;have H:=H1;clear H1;unfold szT at hs
 repeat (first|refine r_fo0 ?_|refine r_ld 0 H rfl rfl ?_)
 refine Zfp H hT.up hA.1 (by omega) λb1 w2 S2 H2 h1=>?_;replace S:=S.trans S2;clear H S2;have H:=H2;clear H2;refine r_vif (λhb=>?_) λhb=>post _ _ S H.drop ⟨λe=>(by cases e),λo=>by rw[h1.2 o.1] at hb;cases hb⟩;have g1:=h1.1 hb
 repeat (first|refine r_fo0 ?_|refine r_ld 0 H rfl rfl ?_)
 refine Zfp H hT.up hA.2 (by omega) λb2 w2 S2 H2 h2=>?_;replace S:=S.trans S2;clear H S2;have H:=H2;clear H2;refine r_vif (λhb=>?_) λhb=>post _ _ S H.drop ⟨λe=>(by cases e),λo=>by rw[h2.2 o.2.1] at hb;cases hb⟩;have g2:=h2.1 hb
 repeat (first|refine r_fo0 ?_|refine r_ld 0 H rfl rfl ?_)
 refine Zax ?_;refine r_ifD (λh3=>?_) λh3=>post _ _ S H.drop ⟨λe=>(by cases e),λo=>absurd ⟨o.2.2.1,o.2.2.2.1⟩ h3⟩
 repeat (first|refine r_fo0 ?_|refine r_ld 0 H rfl rfl ?_)
 refine Zax ?_;refine r_ifD (λh4=>?_) λh4=>post _ _ S H.drop ⟨λe=>(by cases e),λo=>absurd ⟨o.2.2.2.2.1,o.2.2.2.2.2.1⟩ h4⟩
 repeat (first|refine r_fo0 ?_|refine r_ld 0 H rfl rfl ?_)
 refine Zax ?_;refine post _ _ S H.drop ⟨λe=>?_,λo=>decide_eq_true ⟨o.2.2.2.2.2.2.1,o.2.2.2.2.2.2.2⟩⟩;have h5:=of_decide_eq_true e;exact⟨g1,g2,h3.1,h3.2,h4.1,h4.2,h5.1,h5.2⟩
theorem Zov {a:Option Addr}{ts:List Tn}{t:Tn}{i c:Nat}(H:Holds w L) (hT:TsIn L a ts) (hi:i<=ts.length) (hl:ts.length<=1000) (post:∀ b w',Same w w'->Holds w' L->(b=false↔∀ (j:Nat) u,j < i->ts[j]?=some u->apartT u t)->K (.bool b) w') :
  Cl prog 117 #[.slice a i c,.agg (cellsT t).toArray] w K:=by
 refine Tz117 ?_;unfold Vz117
 have hzT:(zeroP prog tT).cells.toList=[.string ⟨#[]⟩,.string ⟨#[]⟩,iv 0,iv 0,iv 0]:=by kernel_rfl
 refine r_new H λbt w1 S1 H1=>?_;replace H1:Holds w1 (blk bt tT (cellsT t)::L):=H1
 repeat (refine r_lnl ?_)
 refine Zat (λx w'=>∃ j:Nat,j<=i/\x=nv j/\(∀ (q:Nat) u,q < j->ts[q]?=some u->apartT u t)/\Same w w'/\Holds w' (blk bt tT (cellsT t)::L)) (λx _=>i - (intOf x).toNat) ⟨0,by omega,rfl,λq u hq=>by omega,S1,H1⟩ ?_;clear H H1 S1;rintro _ _ w2 ⟨j,hj,rfl,hg,S,H⟩
 repeat (refine r_lss ?_)
 refine r_ifD (λh=>?_) λh=>?_
 ·have hjl:j < ts.length:=by omega
  obtain⟨u,hu⟩:∃ u,ts[j]?=some u:=⟨_,gA hjl⟩;refine r_ldT hT.up H hu (by omega) ?_;refine r_new H λbu w3 S3 H3=>?_;rw[hzT] at H3;refine r_stA 0 H3 (vs:=cellsT u) rfl (Nat.le_refl 5) rfl (Zb7 u) λw4 S4 H4=>?_;replace H4:Holds w4 (blk bu tT (cellsT u)::blk bt tT (cellsT t)::L):=H4;replace S:=(S.trans S3).trans S4;clear H H3 S3 S4;have H:=H4;clear H4;refine Za0 (λx w'=>w4=w'/\∃ b:Bool,x=.bool b/\(b=false↔apartT u t)) ?_ ?_
  ·rintro _ _ _ ⟨rfl,b,rfl,hap⟩;refine r_vif (λe=>?_) λe=>?_
   ·refine post _ _ S H.drop.drop ⟨λe2=>(by cases e2),λha=>?_⟩;rw[hap.2 (ha j u (by omega) hu)] at e;cases e
   ·repeat (first|refine r_ke ?_|(refine Za1 (by omega) ?_))
    refine⟨⟨j+1,by omega,rfl,λq v hq hv=>?_,S,H.drop⟩,?_⟩
    ·rcases hU_ q j with h5|h5
     ·exact hg q v h5 hv
     ·obtain rfl:q=j:=by omega
      rw[hu] at hv;obtain rfl:=Option.some.inj hv;exact hap.1 e
    ·simp[nv,intOf];omega
  ·repeat (first|refine r_fo0 ?_|refine r_seq ?_|refine r_ld 0 H rfl rfl ?_|refine r_ld 1 H rfl rfl ?_)
   refine r_ifD (λh5=>r_ke ⟨rfl,true,rfl,⟨λe=>(by cases e),λha=>absurd h5 ha.1⟩⟩) λh5=>?_
   repeat (first|refine r_fo0 ?_|refine r_ke ?_|refine r_seq ?_|refine r_ld 0 H rfl rfl ?_|refine r_ld 1 H rfl rfl ?_)
   exact⟨rfl,_,rfl,⟨λe=>⟨h5,of_decide_eq_false e⟩,λha=>decide_eq_false ha.2⟩⟩
 ·obtain rfl:j=i:=by omega
  exact post _ _ S H.drop ⟨λ_=>hg,λ_=>rfl⟩
theorem Zdv {z:Bool}{a:Option Addr}{ts:List Tn}{c:Nat}(H:Holds w L) (hT:TsIn L a ts) (hU:TabZ z L) (hA:∀ t∈ts,AscT z t) (hs:∀ t∈ts,szT t) (hc:ts.length<=c)
  (post:∀ x e w',Same w w'->Holds w' L->Chk ts e->K (.tuple #[x,iv e]) w'):Cl prog 64 #[.slice a ts.length c] w K:=by
 refine Tz64 ?_;unfold Vz64
 have hzT:(zeroP prog tT).cells.toList=[.string ⟨#[]⟩,.string ⟨#[]⟩,iv 0,iv 0,iv 0]:=by kernel_rfl
 repeat (first|refine r_lnl ?_|refine r_eql ?_)
 refine r_ifE (λh1=>?_) λh1=>?_
 ·repeat (fail)
  exact post _ 6 _ (.refl w) H (.inl ⟨by omega,rfl⟩)
 repeat (first|refine r_lnl ?_|refine r_gtr ?_)
 refine r_ifD (λh2=>?_) λh2=>?_
 ·repeat (fail)
  exact post _ 2 _ (.refl w) H (.inr (.inl ⟨by omega,rfl⟩))
 repeat (refine r_lnl ?_)
 refine Zat (λx w'=>∃ i:Nat,i<=ts.length/\x=nv i/\okTo ts i/\Same w w'/\Holds w' L) (λx _=>ts.length - (intOf x).toNat) ⟨0,by omega,rfl,⟨λq t hq=>by omega,λq t j u hq=>by omega⟩,.refl w,H⟩ ?_;clear H;rintro _ _ w2 ⟨i,hi,rfl,g12,S,H⟩
 repeat (refine r_lss ?_)
 refine r_ifD (λh=>?_) λh=>?_
 ·have hlt:i < ts.length:=by omega
  obtain⟨t,ht⟩:∃ t,ts[i]?=some t:=⟨_,gA hlt⟩;have hst:=hs t (mem_of_getElem? ht);refine r_ldT hT H ht hlt ?_;refine r_new H λbt w3 S3 H3=>?_;rw[hzT] at H3;refine r_stA 0 H3 (vs:=cellsT t) rfl (Nat.le_refl 5) rfl (Zb7 t) λw4 S4 H4=>?_;replace H4:Holds w4 (blk bt tT (cellsT t)::L):=H4;replace S:=(S.trans S3).trans S4;clear H H3 S3 S4;have H:=H4;clear H4;refine r_ldA 0 H (cellsT t) rfl rfl rfl ?_;refine Znh H hU.up (hA t (mem_of_getElem? ht)) hst λb w5 S5 H5 hb=>?_;replace S:=S.trans S5;clear H S5;have H:=H5;clear H5
  repeat (refine r_not ?_)
  refine r_vif (λhn=>?_) λhn=>?_
  ·have hno:¬ okT t:=λo=>by rw[hb.2 o] at hn;cases hn
   repeat (fail)
   exact post _ 1 _ S H.drop (.inr (.inr (.inl ⟨by omega,by omega,i,t,ht,g12,.inl ⟨hno,rfl⟩⟩)))
  have okt:=hb.1 (by simpa using hn)
  repeat (first|refine Zmd (by omega) ?_|refine r_ldA 0 H (cellsT t) rfl rfl rfl ?_|(refine r_dr H ?_;clear H;intro _ S_ H;replace S:=S.trans S_;clear S_))
  refine Zov H hT.up (by omega) (by omega) λb2 w6 S6 H6 hb2=>?_;refine r_vif (λhn2=>?_) λhn2=>?_
  ·repeat (fail)
   refine post _ 8 _ (S.trans S6) H6.drop (.inr (.inr (.inl ⟨by omega,by omega,i,t,ht,g12,.inr ⟨okt,?_,rfl⟩⟩)));refine Classical.byContradiction λhno=>?_;have hall:∀ (j:Nat) u,j < i->ts[j]?=some u->apartT u t:=λj u hj hu=>Classical.byContradiction λha=>hno ⟨j,u,hj,hu,ha⟩;rw[hb2.2 hall] at hn2;cases hn2
  ·have hall:=hb2.1 hn2
   repeat (first|refine r_ke ?_|(refine Za1 (by omega) ?_))
   refine⟨⟨i+1,by omega,rfl,⟨λq v hq hv=>?_,λq v p u hq hv hu hp=>?_⟩,S.trans S6,H6.drop⟩,?_⟩
   ·rcases hU_ q i with h5|h5
    ·exact g12.1 q v h5 hv
    ·obtain rfl:q=i:=by omega
     rw[ht] at hv;obtain rfl:=Option.some.inj hv;exact okt
   ·rcases hU_ q i with h5|h5
    ·exact g12.2 q v p u h5 hv hu hp
    ·obtain rfl:q=i:=by omega
     rw[ht] at hv;obtain rfl:=Option.some.inj hv;exact hall p u hp hu
   ·simp[nv,intOf];omega
 ·obtain rfl:i=ts.length:=by omega
  repeat (fail)
  exact post _ 0 _ S H (.inr (.inr (.inr ⟨⟨λq t hq=>g12.1 q t (gH.1 hq).1 hq,λq t j u hq hu hj=>g12.2 q t j u (gH.1 hq).1 hq hu hj,by omega,by omega⟩,rfl⟩)))
theorem Zko {z:Bool}{a:Option Addr}{ts:List Tn}{c:Nat}{n:Cn}(H:Holds w L) (hT:TsIn L a ts) (hU:TabZ z L) (hA:∀ t∈ts,AscT z t) (hs:∀ t∈ts,szT t) (hc:ts.length<=c)
  (post:∀ e w',Same w w'->Holds w' L->ChkC ts n e->K (iv e) w'):Cl prog 27 #[.agg (cellsC a ts.length c n).toArray] w K:=by
 refine Tz27 ?_;unfold Vz27;refine r_new H λbc w1 S1 H1=>?_;replace H1:Holds w1 (blk bc tC (cellsC a ts.length c n)::L):=H1;refine r_fo0 ?_;refine r_ld 0 H1 rfl rfl ?_;refine Zdv H1 hT.up hU.up hA hs hc λx e w2 S2 H2 hk=>?_;have S:=S1.trans S2;clear H H1 S1 S2;have H:=H2;clear H2
 repeat (first|refine r_neq ?_|(with_reducible first|refine Za4 ?_|refine Za3 ?_))
 refine r_ifN (λh=>?_) λh=>?_
 ·repeat (fail)
  exact post e _ S H.drop (.inl ⟨hk,h⟩)
 have hg0:Chk ts 0:=by rw[<-h];exact hk
 have no:¬ okC n->K (iv 1) w2:=λhno=>post 1 w2 S H.drop (.inr (.inl ⟨hg0,hno,rfl⟩));unfold okC at no
 repeat (first|refine r_fo0 ?_|refine r_ld 0 H rfl rfl ?_)
 refine Zax ?_;refine r_ifD (λa1=>?_) λa1=>no (by omega)
 repeat (first|refine r_fo0 ?_|refine r_ld 0 H rfl rfl ?_)
 refine Zax ?_;refine r_ifD (λa2=>?_) λa2=>no (by omega)
 repeat (first|refine r_fo0 ?_|refine r_ld 0 H rfl rfl ?_)
 refine Zax ?_;refine r_ifD (λa3=>?_) λa3=>no (by omega)
 repeat (first|refine r_fo0 ?_|refine r_ld 0 H rfl rfl ?_)
 refine Zax ?_;refine r_ifD (λa4=>?_) λa4=>no (by omega)
 repeat (first|refine r_fo0 ?_|refine r_ld 0 H rfl rfl ?_)
 refine Zax ?_;refine r_ifD (λa5=>?_) λa5=>no (by omega)
 repeat (first|refine r_fo0 ?_|refine r_ld 0 H rfl rfl ?_)
 refine Zax ?_;refine r_ifD (λa6=>?_) λa6=>no (by omega);exact post 0 _ S H.drop (.inr (.inr ⟨hg0,by unfold okC;omega,rfl⟩))
theorem Check_spec {a:Option Addr}{ts:List Tn}{c:Nat}(H:Holds w L) (hT:TsIn L a ts) (hU:TabIn L) (hs:∀ t∈ts,szT t) (hc:ts.length<=c)
  (post:∀ x e w',Same w w'->Holds w' L->Chk ts e->K (.tuple #[x,iv e]) w'):Cl prog 64 #[.slice a ts.length c] w K:=Zdv (z:=true) H hT (λ_=>hU) (λt _=>⟨Asc.yes _,Asc.yes _⟩) hs hc post
theorem Config_spec {a:Option Addr}{ts:List Tn}{c:Nat}{n:Cn}(H:Holds w L) (hT:TsIn L a ts) (hU:TabIn L) (hs:∀ t∈ts,szT t) (hc:ts.length<=c)
  (post:∀ e w',Same w w'->Holds w' L->ChkC ts n e->K (iv e) w'):Cl prog 27 #[.agg (cellsC a ts.length c n).toArray] w K:=Zko (z:=true) H hT (λ_=>hU) (λt _=>⟨Asc.yes _,Asc.yes _⟩) hs hc post
end J33
namespace F33
variable {w:World}{L:List HProp}{K:KT}
abbrev pt (b:Nat):Value:=.pointer (some ⟨b,0,none⟩)
abbrev S_ (B:List UInt8):Value:=.string ⟨B.toArray⟩
abbrev tFr:Nat:=41
abbrev tPa:Nat:=151
theorem sz (t:List UInt8):(⟨t.toArray⟩:ByteArray).size=t.length:=by show t.toArray.size=_;simp
theorem dl (t:List UInt8):(⟨t.toArray⟩:ByteArray).data.toList=t:=by simp
theorem q_len {t:List UInt8}{K:Value->Prop}(h:K (nv t.length)):Lns (S_ t) K:=r_lns (by rw[sz];exact h)
theorem q_ix {t:List UInt8}{k:IntKind}{m:Nat}{K:Value->Prop}(h1:m < t.length) (h:K (.int .u8 ((t.getD m 0).toNat:Int))):Ixs (S_ t) (.int k (m:Int)) K:=Zak (by rw[sz];exact h1) (by rw[dl];exact h)
theorem ext_ {t:List UInt8}{a b:Nat}:(⟨t.toArray⟩:ByteArray).extract a b=⟨((t.take b).drop a).toArray⟩:=by
 have h1:(⟨t.toArray⟩:ByteArray).extract a b=⟨t.toArray.extract a b⟩:=by simp[ByteArray.extract,ByteArray.copySlice]
 rw[h1]
 congr 1
 apply Array.ext';simp[Array.toList_extract,List.extract_eq_take_drop,List.drop_take]
theorem q_T {t:List UInt8}{k:IntKind}{m:Nat}{K:Value->Prop}(h1:m<=t.length) (h:K (S_ (t.take m))):Sst (S_ t) none (some (.int k (m:Int))) K:=Zx2 (by rw[sz];exact h1) (by rw[dl];exact h)
theorem q_D {t:List UInt8}{k:IntKind}{m:Nat}{K:Value->Prop}(h1:m<=t.length) (h:K (S_ (t.drop m))):Sst (S_ t) (some (.int k (m:Int))) none K:=Zrf (by rw[sz];exact h1) (by rw[dl];exact h)
theorem q_DT {t:List UInt8}{k k':IntKind}{a b:Nat}{K:Value->Prop}(h1:a<=b) (h2:b<=t.length) (h:K (S_ ((t.take b).drop a))):Sst (S_ t) (some (.int k (a:Int))) (some (.int k' (b:Int))) K:=
 r_sst ⟨k,rfl⟩ ⟨k',rfl⟩ h1 (by rw[sz];exact h2) (by rw[ext_];exact h)
def num4 (s:List UInt8):Nat:=((s.getD 0 0).toNat*256+(s.getD 1 0).toNat)*65536+((s.getD 2 0).toNat*256+(s.getD 3 0).toNat)
def numK (s:List UInt8):Nat->Nat
 |0=>0
 |k+1=>numK s k*256+(s.getD k 0).toNat
theorem Zj8 (s:List UInt8):∀ k,numK s k < 256^k
 |0=>by show 0 < 1;decide
 |k+1=>by
  have h1:=Zj8 s k;have h2:=(s.getD k 0).toNat_lt;rw[numK,Nat.pow_succ];omega
theorem r_orI {a b:Nat}{K:Value->Prop}(ha:a*2^8+b < 9223372036854775808) (hb:b < 256) (h:K (nv (a*256+b))):Bp .or (nv (a*2^8)) (nv b) K:=by
 refine r_bpK (nv (a*256+b)) ?_ h;have h8:(2:Nat)^8=256:=rfl;have hbits:IntKind.i64.bits=64:=rfl;simp only[bp,if_true];rw[hbits,BitVec.toNat_or,BitVec.toNat_ofInt,BitVec.toNat_ofInt]
 have e1:(((a*2^8:Nat):Int)%((2^64:Nat):Int)).toNat=a*2^8:=by omega
 have e2:((b:Int)%((2^64:Nat):Int)).toNat=b:=by omega
 have e3:a*2^8 ||| b=a*256+b:=by
  have:=Nat.two_pow_add_eq_or_of_lt (i:=8) (b:=b) (by omega) a;rw[Nat.mul_comm a,<-this]
 rw[e1,e2,e3,wrap64 (by omega) (by omega)]
theorem Zdw {s:List UInt8}(h4:4<=s.length) (k:K (nv (numK s 4)) w):Cl prog 164 #[S_ s] w K:=by
 refine Tz164 ?_;unfold Vz164;refine Zb1 (λx y w'=>∃ i:Nat,i<=4/\x=nv (numK s i)/\y=nv i/\w=w') (λ_ y _=>4 - (intOf y).toNat) ⟨0,by omega,rfl,rfl,rfl⟩ ?_;rintro _ _ _ _ ⟨i,hi,rfl,rfl,rfl⟩;refine r_lss (r_ifD (λh=>?_) λh=>?_)
 ·have hlt:=Zj8 s i;have hle:256^i<=256^3:=Nat.pow_le_pow_right (by decide) (by omega);have h2:=(s.getD i 0).toNat_lt;refine Zwl (n:=8) (by decide) (by omega) ?_;refine q_ix (by omega) ?_;refine Zab (by omega) (by omega) ?_;refine r_orI (by omega) (by omega) ?_;refine Za1 (by omega) (r_ke ⟨⟨i+1,by omega,rfl,rfl,rfl⟩,?_⟩);simp only[intOf,gC];omega
 ·obtain rfl:i=4:=by omega
  exact k
structure Fr where
 ty:Nat
 jb:Nat
 da:List UInt8
def cellsF (f:Fr):List Value:=[nv f.ty,nv f.jb,S_ f.da]
def fr0:Fr:=⟨0,0,[]⟩
theorem Zb6:(zeroP prog tFr).cells.toList=cellsF fr0:=by kernel_rfl
def cli (t:Nat):Prop:=1<=t/\t<=7
def srv (t:Nat):Prop:=65<=t/\t<=70
instance (t:Nat):Decidable (cli t):=by unfold cli;infer_instance
instance (t:Nat):Decidable (srv t):=by unfold srv;infer_instance
theorem Zdx {s:List UInt8}(k1:s.length=4->K (.tuple #[nv (numK s 4),iv 0]) w) (k2:s.length≠4->K (.tuple #[iv 0,iv 1]) w):Cl prog 165 #[S_ s] w K:=by
 refine Tz165 ?_;unfold Vz165;refine q_len (r_neq (r_ifN (λh=>k2 (by omega)) λh=>?_));exact Zdw (by omega) (k1 (by omega))
theorem Zm0 {f:Fr}(H:Holds w L) (k:∀ w',Same w w'->Holds w' L->K (.bool (decide (cli f.ty))) w'):Cl prog 201 #[.agg (cellsF f).toArray] w K:=by
 refine Tz201 ?_;unfold Vz201;refine r_new H λb w1 S1 H1=>?_;replace H1:Holds w1 (blk b tFr (cellsF f)::L):=H1;refine r_fo0 (r_ld 0 H1 rfl rfl ?_);refine r_geq (r_ifD (λh=>?_) λh=>?_)
 ·refine r_fo0 (r_ld 0 H1 rfl rfl (r_leq ?_));have:=k _ S1 H1.drop;rw[show decide (cli f.ty)=decide ((f.ty:Int)<=7) by rw[Bool.eq_iff_iff,decide_eq_true_iff,decide_eq_true_iff];unfold cli;omega] at this;exact this
 ·have:=k _ S1 H1.drop;rw[decide_eq_false (by unfold cli;omega)] at this;exact this
theorem Zl8 {f:Fr}(H:Holds w L) (k:∀ w',Same w w'->Holds w' L->K (.bool (decide (srv f.ty))) w'):Cl prog 202 #[.agg (cellsF f).toArray] w K:=by
 refine Tz202 ?_;unfold Vz202;refine r_new H λb w1 S1 H1=>?_;replace H1:Holds w1 (blk b tFr (cellsF f)::L):=H1;refine r_fo0 (r_ld 0 H1 rfl rfl ?_);refine r_geq (r_ifD (λh=>?_) λh=>?_)
 ·refine r_fo0 (r_ld 0 H1 rfl rfl (r_leq ?_));have:=k _ S1 H1.drop;rw[show decide (srv f.ty)=decide ((f.ty:Int)<=70) by rw[Bool.eq_iff_iff,decide_eq_true_iff,decide_eq_true_iff];unfold srv;omega] at this;exact this
 ·have:=k _ S1 H1.drop;rw[decide_eq_false (by unfold srv;omega)] at this;exact this
theorem may_spec {f:Fr}(H:Holds w L) (k:∀ w',Same w w'->Holds w' L->K (.bool (decide (cli f.ty\/srv f.ty))) w'):Cl prog 163 #[.agg (cellsF f).toArray] w K:=by
 refine Tz163 ?_;unfold Vz163;refine r_new H λb w1 S1 H1=>?_;replace H1:Holds w1 (blk b tFr (cellsF f)::L):=H1;refine r_ldA 0 H1 (cellsF f) rfl rfl rfl ?_;refine Zm0 H1 λw2 S2 H2=>?_;refine r_ifD (λh=>?_) λh=>?_
 ·have:=k _ (S1.trans S2) H2.drop;rw[decide_eq_true (.inl h)] at this;exact this
 ·refine r_ldA 0 H2 (cellsF f) rfl rfl rfl ?_;refine Zl8 H2 λw3 S3 H3=>?_;have:=k _ (S1.trans (S2.trans S3)) H3.drop;rw[show decide (cli f.ty\/srv f.ty)=decide (srv f.ty) by rw[Bool.eq_iff_iff,decide_eq_true_iff,decide_eq_true_iff];exact⟨λq=>q.resolve_left h,.inr⟩] at this;exact this
inductive Dec where
 |no (e:Nat)
 |ok (f:Fr) (n:Nat)
def dec (s:List UInt8):Dec:=
 if s=[] then .no 3
 else if ¬ (cli (s.getD 0 0).toNat\/srv (s.getD 0 0).toNat) then .no 35
 else if s.length < 9 then .no 3
 else if 65536 < numK (s.drop 5) 4 then .no 2
 else if s.length - 9 < numK (s.drop 5) 4 then .no 3
 else .ok ⟨(s.getD 0 0).toNat,numK (s.drop 1) 4,(s.take (9+numK (s.drop 5) 4)).drop 9⟩ (9+numK (s.drop 5) 4)
def decV:Dec->Value
 |.no e=>.tuple #[.agg (cellsF fr0).toArray,iv 0,nv e]
 |.ok f n=>.tuple #[.agg (cellsF f).toArray,nv n,iv 0]
theorem Zla {s:List UInt8}(H:Holds w L) (hs:s.length<=1000000) (k:∀ w',Same w w'->Holds w' L->K (decV (dec s)) w'):Cl prog 121 #[S_ s] w K:=by
 refine Tz121 ?_;unfold Vz121;refine r_new H λb w1 S1 H1=>?_;rw[Zb6] at H1
 have out:∀ (e:Nat) (bs:List HProp) w',dec s=.no e->Same w w'->Holds w' (blk b tFr (cellsF fr0)::L)->Bd prog tFr #[] w' λx=>StA 3 (pt b) x w' λw2=>LdA 3 (pt b) w2 λy=>K (.tuple #[y,iv 0,nv e]) w2:=by
  intro e _ w' he Sz Hz;refine r_bd (v:=.agg (cellsF fr0).toArray) (by kernel_rfl) ?_;refine r_stA 0 Hz (vs:=cellsF fr0) rfl (Nat.le_refl 3) rfl rfl λw2 S2 H2=>?_;refine r_ldA 0 H2 (cellsF fr0) rfl rfl rfl ?_;have:=k w2 (Sz.trans S2) H2.drop;rw[he] at this;exact this
 refine Zad (r_ifD (λh=>?_) λh=>?_)
 ·have h0:s=[]:=List.eq_nil_of_length_eq_zero (by rw[sz] at h;exact h);exact out 3 [] w1 (by unfold dec;rw[if_pos h0]) S1 H1
 have h0:s≠[]:=λe=>h (by rw[e];rfl);have hp:0 < s.length:=List.length_pos_iff.2 h0;have hb0:=(s.getD 0 0).toNat_lt;refine q_ix (m:=0) hp ?_;refine Zab (by omega) (by omega) ?_;refine r_bd (v:=.agg (cellsF ⟨(s.getD 0 0).toNat,0,[]⟩).toArray) (by kernel_rfl) ?_;refine r_new H1 λfb w2 S2 H2=>?_;rw[Zb6] at H2;refine r_stA 0 H2 (vs:=cellsF ⟨(s.getD 0 0).toNat,0,[]⟩) rfl (Nat.le_refl 3) rfl rfl λw3 S3 H3=>?_;replace H3:Holds w3 (blk fb tFr (cellsF ⟨(s.getD 0 0).toNat,0,[]⟩)::blk b tFr (cellsF fr0)::L):=H3;refine r_ldA 0 H3 (cellsF ⟨(s.getD 0 0).toNat,0,[]⟩) rfl rfl rfl ?_;refine may_spec H3 λw4 S4 H4=>?_;have S:=S1.trans (S2.trans (S3.trans S4));refine r_not (r_vif (λh2=>?_) λh2=>?_)
 ·have h2':¬ (cli (s.getD 0 0).toNat\/srv (s.getD 0 0).toNat):=by simpa using h2
  exact out 35 [] w4 (by unfold dec;rw[if_neg h0,if_pos h2']) S H4.drop
 have h2':¬ ¬ (cli (s.getD 0 0).toNat\/srv (s.getD 0 0).toNat):=by simpa using h2
 refine q_len (r_lss (r_ifD (λh3=>?_) λh3=>?_))
 ·exact out 3 [] w4 (by unfold dec;rw[if_neg h0,if_neg h2',if_pos (by omega)]) S H4.drop
 refine q_D (m:=1) (by omega) ?_;refine Zdw (by rw[gS];omega) ?_;refine r_fo0 (r_st 0 H4 rfl (by simp[cellsF]) rfl λw5 S5 H5=>?_);replace H5:Holds w5 (blk fb tFr (cellsF ⟨(s.getD 0 0).toNat,numK (s.drop 1) 4,[]⟩)::blk b tFr (cellsF fr0)::L):=H5;refine q_D (m:=5) (by omega) ?_;refine Zdw (by rw[gS];omega) ?_
 have hd:dec s=if 65536 < numK (s.drop 5) 4 then .no 2 else if s.length - 9 < numK (s.drop 5) 4 then .no 3 else .ok ⟨(s.getD 0 0).toNat,numK (s.drop 1) 4,(s.take (9+numK (s.drop 5) 4)).drop 9⟩ (9+numK (s.drop 5) 4):=by
  unfold dec;rw[if_neg h0,if_neg h2',if_neg (by omega)]
 generalize hn:numK (s.drop 5) 4=n at *;refine r_gtr (r_ifD (λh4=>?_) λh4=>?_)
 ·exact out 2 [] w5 (by rw[hd,if_pos (by omega)]) (S.trans S5) H5.drop
 refine q_len (r_sub (by omega) (by omega) ?_);refine r_lss (r_ifD (λh5=>?_) λh5=>?_)
 ·exact out 3 [] w5 (by rw[hd,if_neg (by omega),if_pos (by omega)]) (S.trans S5) H5.drop
 refine Zaa (a:=9) (b:=n) (by omega) ?_;refine q_DT (a:=9) (b:=9+n) (by omega) (by omega) ?_;refine r_fo0 (r_st 0 H5 rfl (by simp[cellsF]) rfl λw6 S6 H6=>?_);replace H6:Holds w6 (blk fb tFr (cellsF ⟨(s.getD 0 0).toNat,numK (s.drop 1) 4,(s.take (9+n)).drop 9⟩)::blk b tFr (cellsF fr0)::L):=H6;refine r_ldA 0 H6 (cellsF ⟨(s.getD 0 0).toNat,numK (s.drop 1) 4,(s.take (9+n)).drop 9⟩) rfl rfl rfl ?_;refine Zaa (a:=9) (b:=n) (by omega) ?_;refine r_stA 1 H6 (vs:=cellsF ⟨(s.getD 0 0).toNat,numK (s.drop 1) 4,(s.take (9+n)).drop 9⟩) rfl (Nat.le_refl 3) rfl rfl λw7 S7 H7=>?_;refine r_ldA 1 H7 (cellsF ⟨(s.getD 0 0).toNat,numK (s.drop 1) 4,(s.take (9+n)).drop 9⟩) rfl rfl rfl ?_;have:=k w7 (S.trans (S5.trans (S6.trans S7))) H7.drop.drop;rw[hd,if_neg (by omega),if_neg (by omega)] at this;exact this
abbrev paC (B:List UInt8) (e:Nat):List Value:=[nv 65545,S_ B,nv e]
variable {p:Nat}{B s:List UInt8}
theorem Zqi (H:Holds w L) (k:∀ p w',Same w w'->Holds w' (blk p tPa (paC [] 0)::L)->K (.tuple #[pt p,iv 0]) w'):Cl prog 74 #[iv 65545] w K:=by
 refine Tz74 ?_;unfold Vz74;refine Za0 (λv w'=>w=w'/\v=.bool false) ?_ ?_
 rotate_left
 ·exact r_lss (r_vfD (by decide) (r_gtr (r_ke ⟨rfl,by rw[decide_eq_false (by decide)]⟩)))
 rintro _ _ _ ⟨rfl,rfl⟩;refine r_vf ?_;refine r_bd (v:=.agg (paC [] 0).toArray) (by kernel_rfl) ?_;refine r_new H λp w1 S1 H1=>?_;exact k p _ S1 H1
theorem Zpa (H:Holds w (blk p tPa (paC B 0)::L)) (hl:B.length+s.length<=65545) (k:∀ w',Same w w'->Holds w' (blk p tPa (paC (B++s) 0)::L)->K (nv s.length) w'):Cl prog 39 #[pt p,S_ s] w K:=by
 refine Tz39 ?_;unfold Vz39;refine Za0 (λv w'=>w=w'/\v=.bool false) ?_ ?_
 rotate_left
 ·refine Za2 (r_vf (r_nc (r_fo0 (r_ld 0 H rfl rfl (r_neq (r_ke ⟨rfl,?_⟩))))));rfl
 rintro _ _ _ ⟨rfl,rfl⟩;refine r_vf ?_;refine r_dr H λw1 S1 H1=>?_;refine q_len (r_nc (r_fo0 (r_ld 0 H1 rfl rfl (r_nc (r_fo0 (r_ld 0 H1 rfl rfl (q_len ?_)))))));refine r_sub (by omega) (by omega) ?_;refine r_min ?_;rw[show min (s.length:Int) ((65545:Nat) - (B.length:Int))=((s.length:Nat):Int) by omega];refine r_dr H1 λw2 S2 H2=>?_;refine r_nc (r_fo0 (r_ld 0 H2 rfl rfl (q_T (Nat.le_refl _) ?_)));rw[hF_];refine r_cat (by rw[sz,sz];omega) ?_
 have e:(⟨B.toArray⟩:ByteArray)++⟨s.toArray⟩=⟨(B++s).toArray⟩:=by
  apply ByteArray.ext;simp
 rw[e];refine r_nc (r_fo0 (r_st 0 H2 rfl (by simp) rfl λw3 S3 H3=>?_));exact k _ (S1.trans (S2.trans S3)) H3
theorem Zq7 {e:Nat}(H:Holds w (blk p tPa (paC B 0)::L)) (k:∀ w',Same w w'->Holds w' (blk p tPa (paC [] e)::L)->K (.tuple #[.agg (cellsF fr0).toArray,.bool false,nv e]) w'):Cl prog 122 #[pt p,nv e] w K:=by
 refine Tz122 ?_;unfold Vz122;refine r_new H λb w1 S1 H1=>?_;rw[Zb6] at H1;refine r_nc (r_fo0 (r_st 1 H1 rfl (by simp) rfl λw2 S2 H2=>?_));refine r_nc (r_fo0 (r_st 1 H2 rfl (by simp) rfl λw3 S3 H3=>?_));replace H3:Holds w3 (blk b tFr (cellsF fr0)::blk p tPa (paC [] e)::L):=H3;refine r_bd (v:=.agg (cellsF fr0).toArray) (by kernel_rfl) ?_;refine r_stA 0 H3 (vs:=cellsF fr0) rfl (Nat.le_refl 3) rfl rfl λw4 S4 H4=>?_;refine r_ldA 0 H4 (cellsF fr0) rfl rfl rfl ?_;exact k _ (S1.trans (S2.trans (S3.trans S4))) H4.drop
theorem Zf8 (H:Holds w (blk p tPa (paC B 0)::L)) (h:9<=B.length->numK (B.drop 5) 4<=65536) (k:K (.bool false) w):Cl prog 123 #[pt p] w K:=by
 refine Tz123 ?_;unfold Vz123;refine r_nc (r_fo0 (r_ld 0 H rfl rfl (q_len (r_lss (r_ifD (λh1=>k) λh1=>?_)))));refine r_nc (r_fo0 (r_ld 0 H rfl rfl (q_DT (a:=5) (b:=9) (by decide) (by omega) ?_)))
 have hl:((B.take 9).drop 5).length=4:=by rw[gS,gN];omega
 have en:numK ((B.take 9).drop 5) 4=numK (B.drop 5) 4:=by
  have g:∀ i,i < 4->((B.take 9).drop 5).getD i 0=(B.drop 5).getD i 0:=by
   intro i hi;rw[gB,gB,hH_,hH_,hI_ (by omega)]
  simp only[numK,g 0 (by decide),g 1 (by decide),g 2 (by decide),g 3 (by decide)]
 have hn:=h (by omega);refine Zdx (λ_=>?_) λe=>absurd hl e;rw[en];generalize numK (B.drop 5) 4=n at *;refine Za4 (Za3 (Zaa (a:=9) (b:=n) (by omega) (r_nc (r_fo0 (r_ld 0 H rfl rfl (r_gtr ?_))))));rw[decide_eq_false (by omega)];exact k
def nextV:Dec->Value
 |.no e=>if e=3 then .tuple #[.agg (cellsF fr0).toArray,.bool false,iv 0] else .tuple #[.agg (cellsF fr0).toArray,.bool false,nv e]
 |.ok f _=>.tuple #[.agg (cellsF f).toArray,.bool true,iv 0]
def nextB (B:List UInt8):Dec->List UInt8
 |.no e=>if e=3 then B else []
 |.ok _ n=>B.drop n
def nextE:Dec->Nat
 |.no e=>if e=3 then 0 else e
 |.ok _ _=>0
theorem Zwv {s:List UInt8}{e:Nat}(h:dec s=.no e):e=3\/e=35\/e=2:=by
 unfold dec at h;split at h
 ·cases h;exact .inl rfl
 split at h
 ·cases h;exact .inr (.inl rfl)
 split at h
 ·cases h;exact .inl rfl
 split at h
 ·cases h;exact .inr (.inr rfl)
 split at h
 ·cases h;exact .inl rfl
 ·cases h
theorem Zmb {s:List UInt8}(h2:dec s≠.no 2) (h35:dec s≠.no 35) (h9:9<=s.length):numK (s.drop 5) 4<=65536:=by
 unfold dec at h2 h35;rw[if_neg (λe=>by rw[e] at h9;simp at h9)] at h2 h35;split at h2
 ·rename_i g;rw[if_pos g] at h35;exact absurd rfl h35
 rw[if_neg (by omega)] at h2;split at h2
 ·exact absurd rfl h2
 ·omega
theorem Zxr {s:List UInt8}{f:Fr}{n:Nat}(h:dec s=.ok f n):n<=s.length/\9<=n/\f.ty < 256/\f.jb<=4294967295/\f.da.length<=65536:=by
 unfold dec at h;split at h
 ·cases h
 split at h
 ·cases h
 split at h
 ·cases h
 split at h
 ·cases h
 split at h
 ·cases h
 ·have h1:=Zj8 (s.drop 1) 4;have h3:=(s.getD 0 0).toNat_lt;cases h;refine⟨by omega,by omega,h3,by show numK (s.drop 1) 4<=4294967295;omega,?_⟩;show ((s.take _).drop 9).length<=65536;rw[gS,gN];omega
theorem Zgd (H:Holds w (blk p tPa (paC B 0)::L)) (hl:B.length<=1000000) (k:∀ w',Same w w'->Holds w' (blk p tPa (paC (nextB B (dec B)) (nextE (dec B)))::L)->K (nextV (dec B)) w'):Cl prog 76 #[pt p] w K:=by
 refine Tz76 ?_;unfold Vz76;refine r_new H λb w1 S1 H1=>?_;rw[Zb6] at H1;refine Za2 (r_vf (r_nc (r_fo0 (r_ld 1 H1 rfl rfl (r_neq (r_vfN rfl (r_nc (r_fo0 (r_ld 1 H1 rfl rfl ?_)))))))));refine Zla H1 hl λw2 S2 H2=>?_
 cases hd:dec B with
 |no e=>
  rw[hd] at k;refine Zae (Zah (Zaf ?_));refine r_new H2 λfb w3 S3 H3=>?_;rw[Zb6] at H3;refine r_stA 0 H3 (vs:=cellsF fr0) rfl (Nat.le_refl 3) rfl rfl λw4 S4 H4=>?_;replace H4:Holds w4 (blk fb tFr (cellsF fr0)::blk b tFr (cellsF fr0)::blk p tPa (paC B 0)::L):=H4;have S:=S1.trans (S2.trans (S3.trans S4));refine Za0 (λv w'=>w4=w'/\v=.bool (decide (e=35\/e=2))) ?_ ?_
  rotate_left
  ·refine r_eql (r_ifE (λh=>r_ke ⟨rfl,by rw[decide_eq_true (.inl (by omega))]⟩) λh=>r_eql (r_ke ⟨rfl,congrArg Value.bool ?_⟩));rw[Bool.eq_iff_iff,decide_eq_true_iff,beq_iff_eq];omega
  rintro _ _ _ ⟨rfl,rfl⟩;refine r_ifD (λh=>?_) λh=>?_
  ·have H5:Holds w4 (blk p tPa (paC B 0)::blk fb tFr (cellsF fr0)::blk b tFr (cellsF fr0)::L):=by have h_:=Holds.ord 3 [2,0,1] H4 rfl;exact h_
   refine Zq7 H5 λw5 S5 H6=>?_;refine Zae (Zah (Zaf ?_));refine r_stA 2 H6 (vs:=cellsF fr0) rfl (Nat.le_refl 3) rfl rfl λw6 S6 H7=>?_;refine r_ldA 2 H7 (cellsF fr0) rfl rfl rfl ?_;have:=k w6 (S.trans (S5.trans S6)) (by simp only[nextB,nextE];rw[if_neg (by omega),if_neg (by omega)];exact Holds.dropAt (Holds.dropAt H7 1) 1);simp only[nextV] at this;rw[if_neg (by omega)] at this;exact this
  ·have he:e=3:=by have:=Zwv hd;omega
   subst he
   have H5:Holds w4 (blk p tPa (paC B 0)::blk fb tFr (cellsF fr0)::blk b tFr (cellsF fr0)::L):=by have h_:=Holds.ord 3 [2,0,1] H4 rfl;exact h_
   refine Zf8 H5 (λh9=>Zmb (by rw[hd];simp) (by rw[hd];simp) h9) ?_;refine r_vf (r_eql (r_vtE rfl ?_));refine r_bd (v:=.agg (cellsF fr0).toArray) (by kernel_rfl) ?_;refine r_stA 1 H4 (vs:=cellsF fr0) rfl (Nat.le_refl 3) rfl rfl λw6 S6 H7=>?_;refine r_ldA 1 H7 (cellsF fr0) rfl rfl rfl ?_;exact k w6 (S.trans S6) H7.drop.drop
 |ok f n=>
  rw[hd] at k;obtain⟨hn,_⟩:=Zxr hd;refine Zae (Zah (Zaf ?_));refine r_new H2 λfb w3 S3 H3=>?_;rw[Zb6] at H3;refine r_stA 0 H3 (vs:=cellsF f) rfl (Nat.le_refl 3) rfl rfl λw4 S4 H4=>?_;replace H4:Holds w4 (blk fb tFr (cellsF f)::blk b tFr (cellsF fr0)::blk p tPa (paC B 0)::L):=H4;have S:=S1.trans (S2.trans (S3.trans S4));refine Za0 (λv w'=>w4=w'/\v=.bool false) ?_ ?_
  rotate_left
  ·exact r_eql (r_vfE (by decide) (r_eql (r_ke ⟨rfl,rfl⟩)))
  rintro _ _ _ ⟨rfl,rfl⟩;refine r_vf ?_
  have H5:Holds w4 (blk p tPa (paC B 0)::blk fb tFr (cellsF f)::blk b tFr (cellsF fr0)::L):=by have h_:=Holds.ord 3 [2,0,1] H4 rfl;exact h_
  refine Zf8 H5 (λh9=>Zmb (by rw[hd];simp) (by rw[hd];simp) h9) ?_;refine r_vf (r_eql (r_vfE (by decide) ?_));refine r_nc (r_fo0 (r_ld 2 H4 rfl rfl (q_D hn (r_nc (r_fo0 (r_st 2 H4 rfl (by simp) rfl λw5 S5 H6=>?_))))));replace H6:Holds w5 (blk fb tFr (cellsF f)::blk b tFr (cellsF fr0)::blk p tPa (paC (B.drop n) 0)::L):=H6;refine r_ldA 0 H6 (cellsF f) rfl rfl rfl ?_;refine r_stA 1 H6 (vs:=cellsF f) rfl (Nat.le_refl 3) rfl rfl λw6 S6 H7=>?_;refine r_ldA 1 H7 (cellsF f) rfl rfl rfl ?_;exact k w6 (S.trans (S5.trans S6)) H7.drop.drop
theorem Zdj {f:Fr}(H:Holds w L) (h1:f.jb<=4294967295) (h2:f.da.length<=65536) (k:∀ w',Same w w'->Holds w' L->K (.bool true) w'):Cl prog 168 #[.agg (cellsF f).toArray] w K:=by
 refine Tz168 ?_;unfold Vz168;refine r_new H λb w1 S1 H1=>?_;replace H1:Holds w1 (blk b tFr (cellsF f)::L):=H1;refine r_fo0 (r_ld 0 H1 rfl rfl (r_geq (r_vtD (by omega) ?_)));refine r_fo0 (r_ld 0 H1 rfl rfl (r_leq (r_vtD (by omega) ?_)));refine r_fo0 (r_ld 0 H1 rfl rfl (q_len (r_leq ?_)));rw[decide_eq_true (by omega)];exact k _ S1 H1.drop
end F33
end Go.Proofs.YthkaggnihbkmeaaGreatDoor
