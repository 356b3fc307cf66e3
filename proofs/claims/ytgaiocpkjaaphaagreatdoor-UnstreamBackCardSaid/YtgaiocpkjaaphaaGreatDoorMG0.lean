/- Several texts in one: Sl, Sq, Sr, M01, Mb, Mp, Mz, Mx, St, Su, M10, Mc, Mv, Sh, W02, Cl, Rb, P13, D11, C10, W01, Rc, M03, M3d, Me. -/
import Derived.Test.YtgaiocpkjaaphaaGreatDoorVc
import Derived.Deep.DeepAppendRoom
import Derived.Laws.RangeString
import Derived.Lib.OthersKept
import Derived.WalkKit
import Derived.Deep.Upon
import Derived.Laws.CopyRow
import Derived.Laws.IdiomCopy
import Derived.Laws.IdiomStrings
import Derived.Shelf.Strings.Repeat
import Derived.Ground.NamesProg
import Derived.Test.YtgaiocpkjaaphaaGreatDoorProg
import Derived.Test.YtgaiocpkjaaphaaGreatDoorFm
set_option linter.unusedVariables false
set_option linter.unusedSimpArgs false
open Go.RowKit (intOf)
open List (count_cons drop_append_of_le_length drop_zero ext_getElem filter_cons getD_cons_succ getElem?_range getElem_mem length_cons length_nil map_congr_left map_set mem_filter mem_range mem_singleton range_succ set_append_right set_set take_zero)
namespace Go.Vc
abbrev Hp:=Nat->Option Obj
abbrev HProp:=Hp->Prop
def Hp.sub (h g:Hp):Prop:=∀ b o,h b=some o->g b=some o
def Hp.minus (h g:Hp):Hp:=λb=>if (g b).isSome=true then none else h b
def Sat:List HProp->Hp->Prop
 |[],_=>True
 |P::L,h=>∃ g,P g/\g.sub h/\Sat L (h.minus g)
def hp (w:World):Hp:=λb=>w.heap[b]?
def Holds (w:World) (L:List HProp):Prop:=Sat L (hp w)
def blkO (b:Nat) (o:Obj):HProp:=λh=>h b=some o
def blk (b:Nat) (t:TypeId) (cs:List Value):HProp:=blkO b (.cells cs.toArray t)
def pur (p:Prop):HProp:=λ_=>p
structure Same (w w':World):Prop where
 os:w'.os=w.os
 tape:w'.tape=w.tape
 output:w'.output=w.output
 size:w.heap.size<=w'.heap.size
theorem Same.refl (w:World):Same w w:=⟨rfl,rfl,rfl,Nat.le_refl _⟩
theorem Same.trans {a b c:World}(h:Same a b) (k:Same b c):Same a c:=⟨k.os.trans h.os,k.tape.trans h.tape,k.output.trans h.output,Nat.le_trans h.size k.size⟩
theorem Sat.mono:∀ {L:List HProp}{h g:Hp},Sat L h->h.sub g->Sat L g
 |[],_,_,_,_=>trivial
 |P::L,h,g,⟨k,hp,hs,hL⟩,hg=>⟨k,hp,λb o hb=>hg b o (hs b o hb),hL.mono λb o hb=>by
  unfold Hp.minus at hb ⊢;split
  ·rename_i h1;rw[if_pos h1] at hb;cases hb
  ·rename_i h1;rw[if_neg h1] at hb;exact hg b o hb⟩
theorem Sat.swap {P Q:HProp}{L:List HProp}{h:Hp}(H:Sat (P::Q::L) h):Sat (Q::P::L) h:=by
 obtain⟨g,hg,hgs,k,hk,hks,hL⟩:=H
 have kn:∀ b o,k b=some o->g b=none/\h b=some o:=λb o hb=>by
  have:=hks b o hb;unfold Hp.minus at this;split at this
  ·cases this
  ·rename_i h1;simp at h1;exact⟨h1,this⟩
 refine⟨k,hk,λb o hb=>(kn b o hb).2,g,hg,λb o hb=>?_,hL.mono λb o hb=>?_⟩
 ·unfold Hp.minus;rw[if_neg ?_]
  ·exact hgs b o hb
  ·intro h1;obtain⟨x,hx⟩:=Option.isSome_iff_exists.1 h1;rw[(kn b x hx).1] at hb;cases hb
 ·unfold Hp.minus at hb ⊢;split at hb
  ·cases hb
  ·rename_i h1;split at hb
   ·cases hb
   ·rename_i h2;rw[if_neg h2,if_neg h1];exact hb
theorem Sat.pull:∀ {L:List HProp}{h:Hp}(i:Nat){P:HProp},Sat L h->L[i]?=some P->Sat (P::L.eraseIdx i) h
 |Q::L,h,0,P,H,hi=>by simp at hi;subst hi;exact H
 |Q::L,h,i+1,P,⟨g,hg,hs,hL⟩,hi=>Sat.swap ⟨g,hg,hs,hL.pull i (by simpa using hi)⟩
theorem Sat.push:∀ {L:List HProp}{h:Hp}(i:Nat){P Q:HProp},L[i]?=some Q->Sat (P::L.eraseIdx i) h->Sat (L.set i P) h
 |R::L,h,0,P,Q,_,H=>H
 |R::L,h,i+1,P,Q,hi,H=>by
  obtain⟨g,hg,hs,hL⟩:=Sat.swap H;exact⟨g,hg,hs,Sat.push i (by simpa using hi) hL⟩
theorem Holds.front {w:World}{L:List HProp}(H:Holds w L) (i:Nat){P:HProp}(hi:L[i]?=some P):Holds w (P::L.eraseIdx i):=Sat.pull i H hi
theorem Holds.swap {w:World}{P Q:HProp}{L:List HProp}(H:Holds w (P::Q::L)):Holds w (Q::P::L):=Sat.swap H
theorem Holds.drop {w:World}{P:HProp}{L:List HProp}(H:Holds w (P::L)):Holds w L:=by
 obtain⟨g,_,_,hL⟩:=H
 exact hL.mono λb o hb=>by
  unfold Hp.minus at hb;split at hb
  ·cases hb
  ·exact hb
theorem Holds.dropAt {w:World}{L:List HProp}(H:Holds w L) (i:Nat):Holds w (L.eraseIdx i):=by
 cases h:L[i]? with
 |none=>rw[List.eraseIdx_of_length_le (by simpa using h)];exact H
 |some P=>exact (H.front i h).drop
theorem Sat.imp {P Q:HProp}{L:List HProp}{h:Hp}(H:Sat (P::L) h) (hpq:∀ h,P h->Q h):Sat (Q::L) h:=by
 obtain⟨g,hg,hs,hL⟩:=H;exact⟨g,hpq _ hg,hs,hL⟩
theorem Holds.imp {P Q:HProp}{L:List HProp}{w:World}(H:Holds w (P::L)) (hpq:∀ h,P h->Q h):Holds w (Q::L):=Sat.imp H hpq
theorem Holds.ex {α:Type}{P:α->HProp}{L:List HProp}{w:World}(H:Holds w ((λh=>∃ x,P x h)::L)):∃ x,Holds w (P x::L):=by
 obtain⟨g,⟨x,hx⟩,hs,hL⟩:=H;exact⟨x,g,hx,hs,hL⟩
theorem Holds.pure {p:Prop}{P:HProp}{L:List HProp}{w:World}(H:Holds w ((λh=>p/\P h)::L)):p/\Holds w (P::L):=by
 obtain⟨g,⟨hp,hg⟩,hs,hL⟩:=H;exact⟨hp,g,hg,hs,hL⟩
theorem Sat.unpack:∀ {A L:List HProp}{h:Hp},Sat (Sat A::L) h->Sat (A++L) h
 |[],L,h,⟨g,_,_,hL⟩=>hL.mono λb o hb=>by
  unfold Hp.minus at hb;split at hb
  ·cases hb
  ·exact hb
 |P::A,L,h,⟨g,⟨k,hk,hks,hA⟩,hgs,hL⟩=>by
  refine⟨k,hk,λb o hb=>hgs b o (hks b o hb),Sat.unpack ⟨g.minus k,hA,λb o hb=>?_,hL.mono λb o hb=>?_⟩⟩
  ·unfold Hp.minus at hb ⊢;split at hb
   ·cases hb
   ·rename_i h1;rw[if_neg h1];exact hgs b o hb
  ·unfold Hp.minus at hb ⊢;split at hb
   ·cases hb
   ·rename_i h1
    have h1':g b=none:=by simpa using h1
    have h2:k b=none:=by
     cases hk:k b with
     |none=>rfl
     |some x=>rw[hks b x hk] at h1';cases h1'
    simp[h1',h2,hb]
theorem Sat.pack:∀ {A L:List HProp}{h:Hp},Sat (A++L) h->Sat (Sat A::L) h
 |[],L,h,H=>by
  refine⟨λ_=>none,trivial,?_,?_⟩
  ·intro b o hb;cases hb
  ·have e:h.minus (λ_=>none)=h:=by funext b;simp[Hp.minus]
   rw[e];exact H
 |P::A,L,h,⟨k,hk,hks,H⟩=>by
  obtain⟨g,hg,hgs,hL⟩:=Sat.pack H
  have gk:∀ b o,g b=some o->k b=none/\h b=some o:=λb o hb=>by
   have:=hgs b o hb;unfold Hp.minus at this;split at this
   ·cases this
   ·rename_i h1;simp at h1;exact⟨h1,this⟩
  refine⟨λb=>(k b).or (g b),⟨k,hk,λb o hb=>by simp[hb],hg.mono λb o hb=>?_⟩,λb o hb=>?_,hL.mono λb o hb=>?_⟩
  ·unfold Hp.minus;simp[(gk b o hb).1,hb]
  ·cases hkb:k b with
   |none=>simp[hkb] at hb;exact (gk b o hb).2
   |some x=>simp[hkb] at hb;subst hb;exact hks b x hkb
  ·unfold Hp.minus at hb ⊢;split at hb
   ·cases hb
   ·rename_i h1;split at hb
    ·cases hb
    ·rename_i h2;simp at h1 h2;simp[h1,h2,hb]
theorem Holds.pack {A L:List HProp}{w:World}(H:Holds w (A++L)):Holds w (Sat A::L):=Sat.pack H
theorem Holds.unpack {A L:List HProp}{w:World}(H:Holds w (Sat A::L)):Holds w (A++L):=Sat.unpack H
theorem Holds.obj {w:World}{L:List HProp}(H:Holds w L) (i:Nat){b:Nat}{o:Obj}(hi:L[i]?=some (blkO b o)):w.heap[b]?=some o:=by
 obtain⟨g,hg,hs,_⟩:=H.front i hi;exact hs b o hg
theorem Holds.upd {w w':World}{L:List HProp}(H:Holds w L) (i:Nat){b:Nat}{o o':Obj}(hi:L[i]?=some (blkO b o)) (hb:w'.heap[b]?=some o') (ho:∀ c,c≠b->w'.heap[c]?=w.heap[c]?) :
  Holds w' (L.set i (blkO b o')):=by
 obtain⟨g,hg,hs,hL⟩:=H.front i hi;refine Sat.push i hi ⟨λc=>if c=b then some o' else none,by simp[blkO],λc o hc=>?_,hL.mono λc o hc=>?_⟩
 ·by_cases e:c=b
  ·subst e;simp at hc;subst hc;exact hb
  ·simp[e] at hc
 ·unfold Hp.minus at hc ⊢
  by_cases e:c=b
  ·subst e;rw[if_pos (by rw[show g c=some _ from hg];rfl)] at hc;cases hc
  ·simp only[e,if_false,Option.isSome_none,Bool.false_eq_true];split at hc
   ·cases hc
   ·show w'.heap[c]?=_;rw[ho c e];exact hc
theorem Holds.new {w w':World}{L:List HProp}(H:Holds w L){b:Nat}{o:Obj}(hn:w.heap[b]?=none) (hb:w'.heap[b]?=some o) (ho:∀ c,c≠b->w'.heap[c]?=w.heap[c]?) :
  Holds w' (blkO b o::L):=by
 refine⟨λc=>if c=b then some o else none,by simp[blkO],λc x hc=>?_,Sat.mono H λc x hc=>?_⟩
 ·by_cases e:c=b
  ·subst e;simp at hc;subst hc;exact hb
  ·simp[e] at hc
 ·unfold Hp.minus
  by_cases e:c=b
  ·subst e;rw[show hp w c=none from hn] at hc;cases hc
  ·simp only[e,if_false,Option.isSome_none,Bool.false_eq_true];show w'.heap[c]?=_;rw[ho c e];exact hc
theorem Holds.same {w w':World}{L:List HProp}(H:Holds w L) (h:w'.heap=w.heap):Holds w' L:=by
 unfold Holds hp at *;rw[h];exact H
theorem Holds.cell {w:World}{L:List HProp}(H:Holds w L) (i:Nat){b:Nat}{t:TypeId}{cs:List Value}(hi:L[i]?=some (blk b t cs)) (o:Nat):w.cell? ⟨b,o,none⟩=cs[o]?:=by
 have:=H.obj i hi;simp[World.cell?,this]
theorem Holds.frozen {w:World}{L:List HProp}(H:Holds w L) (i:Nat){b:Nat}{t:TypeId}{cs:List Value}(hi:L[i]?=some (blk b t cs)) (o:Nat):w.frozen? ⟨b,o,none⟩=false:=by
 have:=H.obj i hi;simp[World.frozen?,this]
theorem Holds.set {w:World}{L:List HProp}(H:Holds w L) (i:Nat){b:Nat}{t:TypeId}{cs:List Value}(hi:L[i]?=some (blk b t cs)) (o:Nat) (v:Value) :
  Holds (w.setCell ⟨b,o,none⟩ v) (L.set i (blk b t (cs.set o v))):=by
 have h:=H.obj i hi;refine H.upd i hi ?_ λc hc=>?_
 ·simp[World.setCell,Array.getElem?_modify,h]
 ·simp only[World.setCell,Array.getElem?_modify];rw[if_neg (by simpa using λh=>hc h.symm)]
theorem Same.setCell (w:World) (a:Addr) (v:Value):Same w (w.setCell a v):=⟨rfl,rfl,rfl,by simp[World.setCell]⟩
theorem Same.drew (w:World):Same w w.drew:=⟨rfl,rfl,rfl,Nat.le_refl _⟩
theorem Same.alloc (w:World) (o:Obj):Same w (w.alloc o):=⟨rfl,rfl,rfl,by simp⟩
theorem Holds.alloc {w:World}{L:List HProp}(H:Holds w L) (o:Obj):Holds (w.alloc o) (blkO w.heap.size o::L):=by
 refine H.new (by simp) ?_ λc hc=>?_
 ·show (w.heap.push o)[w.heap.size]?=_;simp
 ·show (w.heap.push o)[c]?=_;rw[Array.getElem?_push,if_neg (by omega)]
def whole (w:World):HProp:=λh=>∀ b o,w.heap[b]?=some o->h b=some o
theorem holds_whole (w:World):Holds w [whole w]:=⟨hp w,λb o h=>h,λb o h=>h,trivial⟩
theorem Zp7 {w w':World}(S:Same w w'){L:List HProp}(H:Holds w' (whole w::L)):RowKit.Below w.heap.size w w':=by
 refine⟨S.os,S.tape,S.output,S.size,λk hk=>?_⟩;obtain⟨g,hg,hs,_⟩:=H;have h1:w.heap[k]?=some w.heap[k]:=Array.getElem?_eq_getElem hk;rw[h1];exact hs k _ (hg k _ h1)
theorem calls_of_law {P:Program}{f:FuncId}{args:Array Value}{w:World}(h:∀ K:Value->World->Prop,(∀ w',Same w w'->Holds w' [whole w]->K (.bool true) w')->Cl P f args w K) :
  Calls P f args w λe w'=>e=.returned (.bool true)/\RowKit.Below w.heap.size w w':=
 (h (λv w'=>v=.bool true/\RowKit.Below w.heap.size w w') λw' S H=>⟨rfl,Zp7 S H⟩).2.mono λe w' ⟨v,he,hv,hb⟩=>⟨by rw[he,hv],hb⟩
section
variable {P:Program}{w:World}{L:List HProp}
theorem r_nc {a:Addr}{A:Prop}(h:A):Nc (.pointer (some a)) A:=⟨⟨a,rfl⟩,h⟩
theorem r_fo {off b o:Nat}{K:Value->Prop}(h:K (.pointer (some ⟨b,o+off,none⟩))):Fo off (.pointer (some ⟨b,o,none⟩)) K:=by
 refine⟨_,rfl,?_⟩;unfold Addr.add;split
 ·rename_i h0;subst h0;exact h
 ·exact h
theorem r_fo0 {off b:Nat}{K:Value->Prop}(h:K (.pointer (some ⟨b,off,none⟩))):Fo off (.pointer (some ⟨b,0,none⟩)) K:=r_fo (by rw[Nat.zero_add];exact h)
theorem r_ld (i:Nat) (H:Holds w L){b o:Nat}{t:TypeId}{cs:List Value}{v:Value}{K:Value->Prop}(hi:L[i]?=some (blk b t cs)) (hc:cs[o]?=some v) (h:K v) :
  Ld (.pointer (some ⟨b,o,none⟩)) w K:=⟨_,v,rfl,(H.cell i hi o).trans hc,h⟩
theorem r_st (i:Nat) (H:Holds w L){b o:Nat}{t:TypeId}{cs:List Value}{v:Value}{K:World->Prop}(hi:L[i]?=some (blk b t cs)) (ho:o < cs.length) (hs:sg v=true)
  (h:∀ w',Same w w'->Holds w' (L.set i (blk b t (cs.set o v)))->K w'):St (.pointer (some ⟨b,o,none⟩)) v w K:=
 ⟨_,cs[o],rfl,(H.cell i hi o).trans (by simp[ho]),H.frozen i hi o,hs,h _ (.setCell _ _ _) (H.set i hi o v)⟩
theorem r_new {z:Value}{t:TypeId}(H:Holds w L){K:KT}(h:∀ b w',Same w w'->Holds w' (blk b t z.cells.toList::L)->K (.pointer (some ⟨b,0,none⟩)) w'):New z t w K:=
 h _ _ (.alloc _ _) (H.alloc _)
theorem r_dr (H:Holds w L){K:World->Prop}(h:∀ w',Same w w'->Holds w' L->K w'):Dr w K:=h _ (.drew _) (H.same rfl)
theorem r_vif {b:Bool}{A B:Prop}(h1:b=true->A) (h2:b=false->B):Vif (.bool b) A B:=by
 cases b
 ·exact h2 rfl
 ·exact h1 rfl
theorem Zdg {rest:(Nat->Value)->Cur 0}{br:Cur 0->Prop}(J:World->Prop) (hJ:∀ jb w,J w->rest jb w) (h:br J):VJoin 0 rest br:=⟨J,λjb w hw=>hJ jb w hw,h⟩
theorem Za2 {rest:(Nat->Value)->Cur 1}{br:Cur 1->Prop}(J:KT) (hJ:∀ jb x w,J x w->rest jb x w) (h:br J):VJoin 1 rest br:=⟨J,λjb x w hw=>hJ jb x w hw,h⟩
theorem Zvn {rest:(Nat->Value)->Cur 2}{br:Cur 2->Prop}(J:Value->Value->World->Prop) (hJ:∀ jb x y w,J x y w->rest jb x y w) (h:br J):VJoin 2 rest br:=⟨J,λjb x y w hw=>hJ jb x y w hw,h⟩
theorem r_ke {a:List Value}{X:Prop}(h:X):KE a a X:=⟨rfl,h⟩
theorem Zjc {w:World}{body:(Nat->Value)->Cur 0->Cur 0}(I:World->Prop) (μ:World->Nat) (h0:I w)
  (h:∀ jb w,I w->body jb (λw'=>I w'/\μ w' < μ w) w):VLoop 0 [] w body:=
 ⟨λ_ w=>I w,λ_ w=>μ w,h0,λjb us u hl hI=>match us,hl with|[],_=>h jb u hI⟩
theorem Za8 {w:World}{a:Value}{body:(Nat->Value)->Cur 1->Cur 1}(I:KT) (μ:Value->World->Nat) (h0:I a w)
  (h:∀ jb x w,I x w->body jb (λx' w'=>I x' w'/\μ x' w' < μ x w) x w):VLoop 1 [a] w body:=
 ⟨λl w=>match l with|[x]=>I x w|_=>False,λl w=>match l with|[x]=>μ x w|_=>0,h0,λjb us u hl hI=>match us,hl with|[x],_=>h jb x u hI⟩
theorem Za7 {w:World}{a b:Value}{body:(Nat->Value)->Cur 2->Cur 2}(I:Value->Value->World->Prop) (μ:Value->Value->World->Nat) (h0:I a b w)
  (h:∀ jb x y w,I x y w->body jb (λx' y' w'=>I x' y' w'/\μ x' y' w' < μ x y w) x y w):VLoop 2 [a,b] w body:=
 ⟨λl w=>match l with|[x,y]=>I x y w|_=>False,λl w=>match l with|[x,y]=>μ x y w|_=>0,h0,λjb us u hl hI=>match us,hl with|[x,y],_=>h jb x y u hI⟩
theorem Zb9 {w:World}{a b c:Value}{body:(Nat->Value)->Cur 3->Cur 3}(I:Value->Value->Value->World->Prop) (μ:Value->Value->Value->World->Nat) (h0:I a b c w)
  (h:∀ jb x y z w,I x y z w->body jb (λx' y' z' w'=>I x' y' z' w'/\μ x' y' z' w' < μ x y z w) x y z w):VLoop 3 [a,b,c] w body:=
 ⟨λl w=>match l with|[x,y,z]=>I x y z w|_=>False,λl w=>match l with|[x,y,z]=>μ x y z w|_=>0,h0,λjb us u hl hI=>match us,hl with|[x,y,z],_=>h jb x y z u hI⟩
theorem wrap64 {n:Int}(h1:-9223372036854775808<=n) (h2:n<=9223372036854775807):IntKind.i64.wrap n=n:=IntWalk.i64_in n ⟨h1,h2⟩
theorem r_add {a b:Int}{K:Value->Prop}(h1:-9223372036854775808<=a+b) (h2:a+b<=9223372036854775807) (h:K (.int .i64 (a+b))):Bp .add (.int .i64 a) (.int .i64 b) K:=
 ⟨.int .i64 (a+b),by simp only[bp,if_true];rw[wrap64 h1 h2],h⟩
theorem r_sub {a b:Int}{K:Value->Prop}(h1:-9223372036854775808<=a - b) (h2:a - b<=9223372036854775807) (h:K (.int .i64 (a - b))):Bp .sub (.int .i64 a) (.int .i64 b) K:=
 ⟨.int .i64 (a - b),by simp only[bp,if_true];rw[wrap64 h1 h2],h⟩
theorem r_mul {a b:Int}{K:Value->Prop}(h1:-9223372036854775808<=a*b) (h2:a*b<=9223372036854775807) (h:K (.int .i64 (a*b))):Bp .mul (.int .i64 a) (.int .i64 b) K:=
 ⟨.int .i64 (a*b),by simp only[bp,if_true];rw[wrap64 h1 h2],h⟩
theorem r_quo {a b:Int}{K:Value->Prop}(h0:0<=a) (hb:0 < b) (h2:a<=9223372036854775807) (h:K (.int .i64 (a/b))):Bp .quo (.int .i64 a) (.int .i64 b) K:=by
 refine⟨.int .i64 (a/b),?_,h⟩;have e:a.tdiv b=a/b:=Int.tdiv_eq_ediv_of_nonneg h0;have h3:0<=a/b:=Int.ediv_nonneg h0 (by omega);have h4:a/b<=a:=Int.ediv_le_self b h0;show (if IntKind.i64=IntKind.i64/\b≠0 then some (Value.int .i64 (IntKind.i64.wrap (a.tdiv b))) else none)=_;rw[if_pos ⟨rfl,by omega⟩,e,wrap64 (by omega) (by omega)]
theorem Zic {a b q:Int}{K:Value->Prop}(hq:a.tdiv b=q) (hb:b≠0) (h1:-9223372036854775808<=q) (h2:q<=9223372036854775807) (h:K (.int .i64 q)):Bp .quo (.int .i64 a) (.int .i64 b) K:=by
 refine⟨.int .i64 q,?_,h⟩;show (if IntKind.i64=IntKind.i64/\b≠0 then some (Value.int .i64 (IntKind.i64.wrap (a.tdiv b))) else none)=_;rw[if_pos ⟨rfl,hb⟩,hq,wrap64 h1 h2]
theorem Zff {a b r:Int}{K:Value->Prop}(hr:a.tmod b=r) (hb:b≠0) (h:K (.int .i64 r)):Bp .rem (.int .i64 a) (.int .i64 b) K:=by
 refine⟨.int .i64 r,?_,h⟩;show (if IntKind.i64=IntKind.i64/\b≠0 then some (Value.int .i64 (a.tmod b)) else none)=_;rw[if_pos ⟨rfl,hb⟩,hr]
theorem r_bp {op:BinOp}{x y v:Value}{K:Value->Prop}(hb:bp op x y=some v) (h:K v):Bp op x y K:=⟨v,hb,h⟩
theorem r_eql {k:IntKind}{a b:Int}{K:Value->Prop}(h:K (.bool (a==b))):Bp .eql (.int k a) (.int k b) K:=⟨.bool (a==b),by simp only[bp,if_true],h⟩
theorem r_neq {k:IntKind}{a b:Int}{K:Value->Prop}(h:K (.bool (a != b))):Bp .neq (.int k a) (.int k b) K:=⟨.bool (a != b),by simp only[bp,if_true],h⟩
theorem r_lss {k:IntKind}{a b:Int}{K:Value->Prop}(h:K (.bool (decide (a < b)))):Bp .lss (.int k a) (.int k b) K:=⟨.bool (decide (a < b)),by simp only[bp,if_true],h⟩
theorem r_leq {k:IntKind}{a b:Int}{K:Value->Prop}(h:K (.bool (decide (a<=b)))):Bp .leq (.int k a) (.int k b) K:=⟨.bool (decide (a<=b)),by simp only[bp,if_true],h⟩
theorem r_gtr {k:IntKind}{a b:Int}{K:Value->Prop}(h:K (.bool (decide (b < a)))):Bp .gtr (.int k a) (.int k b) K:=⟨.bool (decide (b < a)),by simp only[bp,if_true,gt_iff_lt,ge_iff_le],h⟩
theorem r_geq {k:IntKind}{a b:Int}{K:Value->Prop}(h:K (.bool (decide (b<=a)))):Bp .geq (.int k a) (.int k b) K:=⟨.bool (decide (b<=a)),by simp only[bp,if_true,gt_iff_lt,ge_iff_le],h⟩
theorem Zs0 {a b:ByteArray}(h:a.data.toList=b.data.toList):a=b:=by
 obtain⟨⟨a⟩⟩:=a;obtain⟨⟨b⟩⟩:=b;simp at h;rw[h]
theorem Zrt (a b:ByteArray):(a.toList==b.toList)=decide (a=b):=by
 rw[Bool.eq_iff_iff,beq_iff_eq,decide_eq_true_iff,ByteArray.toList_eq,ByteArray.toList_eq];exact⟨Zs0,λh=>by rw[h]⟩
theorem Ybf (a:ByteArray):a=⟨#[]⟩↔a.size=0:=by
 constructor
 ·rintro rfl;rfl
 ·intro h;apply Zs0
  have:a.data.toList.length=0:=by simpa using h
  rw[List.eq_nil_of_length_eq_zero this]
theorem Zez {a:ByteArray}{K:Value->Prop}(h:K (.bool (decide (a.size=0)))):Bp .eql (.string a) (.string ⟨#[]⟩) K:=
 ⟨_,rfl,by rw[Zrt,show decide (a=⟨#[]⟩)=decide (a.size=0) from by rw[Bool.eq_iff_iff,decide_eq_true_iff,decide_eq_true_iff,Ybf]];exact h⟩
theorem Zkp {a:ByteArray}{K:Value->Prop}(h:K (.bool (decide (¬ a.size=0)))):Bp .neq (.string a) (.string ⟨#[]⟩) K:=
 ⟨_,rfl,by rw[Zrt,show (!decide (a=⟨#[]⟩))=decide (¬ a.size=0) from by rw[Bool.eq_iff_iff,Bool.not_eq_true',decide_eq_false_iff_not,decide_eq_true_iff,Ybf]];exact h⟩
theorem r_seq {a b:ByteArray}{K:Value->Prop}(h:K (.bool (decide (a=b)))):Bp .eql (.string a) (.string b) K:=⟨_,rfl,by rw[Zrt];exact h⟩
theorem r_sne {a b:ByteArray}{K:Value->Prop}(h:K (.bool (!decide (a=b)))):Bp .neq (.string a) (.string b) K:=⟨_,rfl,by rw[Zrt];exact h⟩
theorem r_cat {a b:ByteArray}{K:Value->Prop}(hs:a.size+b.size<=9223372036854775807) (h:K (.string (a++b))):Bp .add (.string a) (.string b) K:=by
 refine⟨.string (a++b),?_,h⟩;simp only[bp];rw[if_neg (by show ¬ _ > (9223372036854775807:Int);omega)]
theorem r_not {b:Bool}{K:Value->Prop}(h:K (.bool !b)):Up .not (.bool b) K:=⟨_,rfl,h⟩
theorem r_bnS {e:TypeId}{neg:Bool}{a:Addr}{K:Value->Prop}(h:K (.bool neg)):Bn P e neg (.pointer (some a)) (.pointer none) K:=
 .inl ⟨false,rfl,by cases neg <;> exact h⟩
theorem r_bnN {e:TypeId}{neg:Bool}{K:Value->Prop}(h:K (.bool !neg)):Bn P e neg (.pointer none) (.pointer none) K:=
 .inl ⟨true,rfl,by cases neg <;> exact h⟩
theorem r_vt {A B:Prop}(h:A):Vif (.bool true) A B:=h
theorem r_vf {A B:Prop}(h:B):Vif (.bool false) A B:=h
theorem r_vtd {c:Bool}{A B:Prop}(hc:c=true) (h:A):Vif (.bool c) A B:=by subst hc;exact h
theorem r_vfd {c:Bool}{A B:Prop}(hc:c=false) (h:B):Vif (.bool c) A B:=by subst hc;exact h
theorem r_vtD {p:Prop} [Decidable p] {A B:Prop}(hc:p) (h:A):Vif (.bool (decide p)) A B:=r_vtd (decide_eq_true hc) h
theorem r_vfD {p:Prop} [Decidable p] {A B:Prop}(hc:¬ p) (h:B):Vif (.bool (decide p)) A B:=r_vfd (decide_eq_false hc) h
theorem r_vtE {a b:Int}{A B:Prop}(hc:a=b) (h:A):Vif (.bool (a==b)) A B:=r_vtd (beq_iff_eq.2 hc) h
theorem r_vfE {a b:Int}{A B:Prop}(hc:¬ a=b) (h:B):Vif (.bool (a==b)) A B:=r_vfd (beq_eq_false_iff_ne.2 hc) h
theorem r_vtN {a b:Int}{A B:Prop}(hc:¬ a=b) (h:A):Vif (.bool (a != b)) A B:=r_vtd (bne_iff_ne.2 hc) h
theorem r_vfN {a b:Int}{A B:Prop}(hc:a=b) (h:B):Vif (.bool (a != b)) A B:=r_vfd (by subst hc;simp) h
theorem r_ifD {p:Prop} [Decidable p] {A B:Prop}(h1:p->A) (h2:¬ p->B):Vif (.bool (decide p)) A B:=r_vif (λh=>h1 (of_decide_eq_true h)) λh=>h2 (of_decide_eq_false h)
theorem r_ifE {a b:Int}{A B:Prop}(h1:a=b->A) (h2:¬ a=b->B):Vif (.bool (a==b)) A B:=r_vif (λh=>h1 (beq_iff_eq.1 h)) λh=>h2 (beq_eq_false_iff_ne.1 h)
theorem r_ifN {a b:Int}{A B:Prop}(h1:¬ a=b->A) (h2:a=b->B):Vif (.bool (a != b)) A B:=r_vif (λh=>h1 (bne_iff_ne.1 h)) λh=>h2 (by simpa using h)
theorem Ye4 {a b:Int}{A B:Prop}(h1:¬ a=b->A) (h2:a=b->B):Vif (.bool (!(a==b))) A B:=r_vif (λh=>h1 (by simpa using h)) λh=>h2 (by simpa using h)
theorem r_bb {neg a b:Bool}{K:Value->Prop}(h:K (.bool (if neg then !(a==b) else a==b))):Bb neg (.bool a) (.bool b) K:=⟨a,b,rfl,rfl,h⟩
theorem r_lns {s:ByteArray}{K:Value->Prop}(h:K (.int .i64 (s.size:Int))):Lns (.string s) K:=⟨s,rfl,h⟩
theorem r_lnl {a:Option Addr}{l c:Nat}{K:Value->Prop}(h:K (.int .i64 (l:Int))):Lnl (.slice a l c) K:=⟨a,l,c,rfl,h⟩
theorem r_ixs {s:ByteArray}{k:IntKind}{n:Int}{K:Value->Prop}(h0:0<=n) (h1:n < (s.size:Int)) (h:K (.int .u8 ((s.data.toList.getD n.toNat 0).toNat:Int))):Ixs (.string s) (.int k n) K:=
 ⟨s,k,n,rfl,rfl,h0,h1,h⟩
theorem r_iaa {len size b o:Nat}{k:IntKind}{n:Int}{K:Value->Prop}(h0:0<=n) (h1:n < (len:Int)) (h:K (.pointer (some ⟨b,o+n.toNat*size,none⟩))) :
  Iaa len size (.pointer (some ⟨b,o,none⟩)) (.int k n) K:=by
 refine⟨_,k,n,rfl,rfl,h0,h1,?_⟩;unfold Addr.add;split
 ·rename_i e;rw[e] at h;exact h
 ·exact h
theorem r_ias {size b o l c:Nat}{k:IntKind}{n:Int}{K:Value->Prop}(h0:0<=n) (h1:n < (l:Int)) (h:K (.pointer (some ⟨b,o+n.toNat*size,none⟩))) :
  Ias size (.slice (some ⟨b,o,none⟩) l c) (.int k n) K:=by
 refine⟨_,l,c,k,n,rfl,rfl,h0,h1,?_⟩;unfold Addr.add;split
 ·rename_i e;rw[e] at h;exact h
 ·exact h
theorem r_ex {vs:Array Value}{i:Nat}{v:Value}{K:Value->Prop}(hv:vs[i]?=some v) (h:K v):Ex (.tuple vs) i K:=⟨vs,v,rfl,hv,h⟩
theorem Zc4 {a:Addr}{e:TypeId}{K:Value->Prop}(h:K (.bool true)):Bn P e true (.pointer (some a)) (.pointer none) K:=r_bnS h
theorem Zab {a:Addr}{e:TypeId}{K:Value->Prop}(h:K (.bool false)):Bn P e false (.pointer (some a)) (.pointer none) K:=r_bnS h
theorem Zjv {e:TypeId}{K:Value->Prop}(h:K (.bool true)):Bn P e false (.pointer none) (.pointer none) K:=r_bnN h
theorem Zud {e:TypeId}{K:Value->Prop}(h:K (.bool false)):Bn P e true (.pointer none) (.pointer none) K:=r_bnN h
theorem Zak {K:Value->Prop}(h:K (.bool false)):Up .not (.bool true) K:=r_not h
theorem Zbo {K:Value->Prop}(h:K (.bool true)):Up .not (.bool false) K:=r_not h
theorem r_pkT {a b:Value}{K:Value->Prop}(h:K a):Pk (.bool true) a b K:=h
theorem r_pkF {a b:Value}{K:Value->Prop}(h:K b):Pk (.bool false) a b K:=h
theorem r_pkB {c:Bool}{K:Value->Prop}(h:K (.bool c)):Pk (.bool c) (.bool true) (.bool false) K:=by
 cases c
 ·exact h
 ·exact h
theorem Za4 {a b:Value}{K:Value->Prop}(h:K a):Ex (.tuple #[a,b]) 0 K:=r_ex rfl h
theorem Za3 {a b:Value}{K:Value->Prop}(h:K b):Ex (.tuple #[a,b]) 1 K:=r_ex rfl h
theorem Zha {a b c:Value}{K:Value->Prop}(h:K a):Ex (.tuple #[a,b,c]) 0 K:=r_ex rfl h
theorem Zh2 {a b c:Value}{K:Value->Prop}(h:K b):Ex (.tuple #[a,b,c]) 1 K:=r_ex rfl h
theorem Zh0 {a b c:Value}{K:Value->Prop}(h:K c):Ex (.tuple #[a,b,c]) 2 K:=r_ex rfl h
theorem r_ci {k k':IntKind}{n:Int}{K:Value->Prop}(h:K (.int k (k.wrap n))):Ci k (.int k' n) K:=⟨k',n,rfl,h⟩
theorem Yep {k:IntKind}{a b:Int}{K:Value->Prop}(h0:0<=a) (hb:0 < b) (h:K (.int k (a%b))):Bp .rem (.int k a) (.int k b) K:=by
 refine⟨.int k (a%b),?_,h⟩;have e:a.tmod b=a%b:=Int.tmod_eq_emod_of_nonneg h0;show (if k=k/\b≠0 then some (Value.int k (a.tmod b)) else none)=_;rw[if_pos ⟨rfl,by omega⟩,e]
theorem Zcv {k':IntKind}{n:Int}{K:Value->Prop}(h1:-9223372036854775808<=n) (h2:n<=9223372036854775807) (h:K (.int .i64 n)):Ci .i64 (.int k' n) K:=
 ⟨k',n,rfl,by rw[wrap64 h1 h2];exact h⟩
theorem Zey {k':IntKind}{n:Int}{K:Value->Prop}(h1:0<=n) (h2:n<=255) (h:K (.int .u8 n)):Ci .u8 (.int k' n) K:=
 ⟨k',n,rfl,by rw[show IntKind.u8.wrap n=n from by show n%256=n;omega];exact h⟩
theorem Zan {k':IntKind}{n:Int}{K:Value->Prop}(h1:0<=n) (h2:n<=4294967295) (h:K (.int .u32 n)):Ci .u32 (.int k' n) K:=
 ⟨k',n,rfl,by rw[show IntKind.u32.wrap n=n from by show n%4294967296=n;omega];exact h⟩
theorem r_sst {s:ByteArray}{lo hi:Option Value}{l h:Nat}{K:Value->Prop}(hl:bnd lo 0 l) (hh:bnd hi s.size h) (h1:l<=h) (h2:h<=s.size) (hk:K (.string (s.extract l h))):Sst (.string s) lo hi K:=
 ⟨s,l,h,rfl,hl,hh,h1,h2,hk⟩
theorem r_ldA (i:Nat) (H:Holds w L){n b o:Nat}{t:TypeId}{cs:List Value}{K:Value->Prop}(sub:List Value) (hi:L[i]?=some (blk b t cs)) (hs:(cs.drop o).take n=sub) (hn:sub.length=n)
  (h:K (.agg sub.toArray)):LdA n (.pointer (some ⟨b,o,none⟩)) w K:=by
 refine⟨_,sub.toArray,rfl,by simpa using hn,λj v hv=>?_,h⟩
 have e1:(⟨b,o,none⟩:Addr).add j=⟨b,o+j,none⟩:=by
  unfold Addr.add;split
  ·rename_i h;rw[h];rfl
  ·rfl
 rw[e1,H.cell i hi]
 have hv':sub[j]?=some v:=by simpa using hv
 have hj:j < n:=by rw[<-hn];exact (gH.1 hv').1
 rw[<-hv',<-hs,hI_ hj,hH_]
theorem Zoh {len:Nat}{sub:List Value}{k:IntKind}{n:Int}{K:Value->Prop}(v:Value) (h0:0<=n) (h1:n < (len:Int)) (hv:sub[n.toNat]?=some v) (h:K v):Ixa len 1 false (.agg sub.toArray) (.int k n) K:=
 ⟨_,k,n,rfl,rfl,h0,h1,v,by simpa using hv,h⟩
theorem Zb0 {s:ByteArray}{k:IntKind}{m:Nat}{K:Value->Prop}(h1:m < s.size) (h:K (.int .u8 ((s.data.toList.getD m 0).toNat:Int))):Ixs (.string s) (.int k (m:Int)) K:=
 r_ixs (by omega) (by omega) (by rw[gC];exact h)
theorem Zal {len b o m:Nat}{k:IntKind}{K:Value->Prop}(h1:m < len) (h:K (.pointer (some ⟨b,o+m,none⟩))):Iaa len 1 (.pointer (some ⟨b,o,none⟩)) (.int k (m:Int)) K:=
 r_iaa (by omega) (by omega) (by rw[gC,Nat.mul_one];exact h)
theorem Za0 {a:Nat}{K:Value->Prop}(h2:a < 9223372036854775807) (h:K (.int .i64 ((a+1:Nat):Int))):Bp .add (.int .i64 (a:Int)) (.int .i64 1) K:=r_add (by omega) (by omega) h
theorem Zaa {a:Nat}{K:Value->Prop}(h2:1<=a) (h3:a < 9223372036854775807) (h:K (.int .i64 ((a - 1:Nat):Int))):Bp .sub (.int .i64 (a:Int)) (.int .i64 1) K:=
 r_sub (by omega) (by omega) (by rw[show (a:Int) - 1=((a - 1:Nat):Int) by omega];exact h)
theorem Zac {a b:Nat}{K:Value->Prop}(h2:a+b < 9223372036854775807) (h:K (.int .i64 ((a+b:Nat):Int))):Bp .add (.int .i64 (a:Int)) (.int .i64 (b:Int)) K:=r_add (by omega) (by omega) h
theorem r_bd {t:TypeId}{ps:Array (Nat × Value)}{v:Value}{K:Value->Prop}(h:(Instr.build t ps).run P w=.ok v w) (k:K v):Bd P t ps w K:=⟨v,h,k⟩
theorem r_be {op:BinOp}{t:TypeId}{X Y:Operand}{x y v:Value}{K:Value->Prop}(h:(do eqGuard op t X Y x y;binOp op t x y).run P w=.ok v w) (k:K v):Be P op t X Y x y w K:=⟨v,h,k⟩
theorem r_min {ats:Array TypeId}{t:TypeId}{k:IntKind}{a b:Int}{K:Value->Prop}(h:K (.int k (min a b))):Bmin P ats t #[.int k a,.int k b] w K:=by
 refine⟨.int k (if b < a then b else a),by simp[Builtin.min_,Builtin.min2,Sem.run_pure,List.foldlM],?_⟩
 have:(if b < a then b else a)=min a b:=by split <;> omega
 rw[this];exact h
theorem r_max {ats:Array TypeId}{t:TypeId}{k:IntKind}{a b:Int}{K:Value->Prop}(h:K (.int k (max a b))):Bmax P ats t #[.int k a,.int k b] w K:=by
 refine⟨.int k (if b > a then b else a),by simp[Builtin.max_,Builtin.max2,Sem.run_pure,List.foldlM],?_⟩
 have:(if b > a then b else a)=max a b:=by split <;> omega
 rw[this];exact h
theorem r_rk {N:Node}{v:Value}{A:Prop}(h:N w λu=>u=v) (hA:A):Rk N v w A:=⟨h,hA⟩
theorem r_cl {f:FuncId}{args:Array Value}{K K':KT}(h:Cl P f args w K) (hk:∀ v w',K v w'->K' v w'):Cl P f args w K':=
 ⟨h.1,h.2.mono λe w' ⟨v,he,hv⟩=>⟨v,he,hk v w' hv⟩⟩
end
end Go.Vc
namespace Go.Vc
abbrev iv (n:Int):Value:=.int .i64 n
abbrev nv (n:Nat):Value:=.int .i64 (n:Int)
abbrev bv (c:UInt8):Value:=.int .u8 (c.toNat:Int)
abbrev uv (n:Nat):Value:=.int .u32 (n:Int)
abbrev stv (s:ByteArray):Value:=.string s
theorem Sat.at:∀ {L:List HProp}{h:Hp}(i:Nat){P Q:HProp},Sat L h->L[i]?=some P->(∀ g,P g->Q g)->Sat (L.set i Q) h:=by
 intro L h i P Q H hi hpq;exact Sat.push i hi ((H.pull i hi).imp hpq)
theorem Holds.at {w:World}{L:List HProp}(H:Holds w L) (i:Nat){P Q:HProp}(hi:L[i]?=some P) (hpq:∀ g,P g->Q g):Holds w (L.set i Q):=Sat.at i H hi hpq
theorem Holds.atEx {α:Type}{w:World}{L:List HProp}(H:Holds w L) (i:Nat){P:HProp}{Q:α->HProp}(hi:L[i]?=some P) (hpq:∀ g,P g->∃ x,Q x g):∃ x,Holds w (L.set i (Q x)):=by
 obtain⟨g,hg,hs,hL⟩:=H.front i hi;obtain⟨x,hx⟩:=hpq g hg;exact⟨x,Sat.push i hi ⟨g,hx,hs,hL⟩⟩
theorem Holds.atPure {p:Prop}{w:World}{L:List HProp}(H:Holds w L) (i:Nat){P Q:HProp}(hi:L[i]?=some P) (hpq:∀ g,P g->p/\Q g):p/\Holds w (L.set i Q):=by
 obtain⟨g,hg,hs,hL⟩:=H.front i hi;exact⟨(hpq g hg).1,Sat.push i hi ⟨g,(hpq g hg).2,hs,hL⟩⟩
section
variable {α:Type}
def slb (f:α->Value) (e:TypeId) (oa:Option Addr) (xs:List α) (sp:List Value):HProp:=
 match oa with
 |none=>pur (xs=[]/\sp=[])
 |some a=>λh=>a.off=0/\a.spot=none/\blk a.block e (xs.map f++sp) h
def SL (f:α->Value) (e:TypeId) (v:Value) (xs:List α):HProp:=λh=>∃ oa sp,v=.slice oa xs.length (xs.length+sp.length)/\slb f e oa xs sp h
theorem Holds.open {w:World}{L:List HProp}(H:Holds w L) (i:Nat){f:α->Value}{e:TypeId}{v:Value}{xs:List α}(hi:L[i]?=some (SL f e v xs)) :
  ∃ oa sp,v=.slice oa xs.length (xs.length+sp.length)/\Holds w (L.set i (slb f e oa xs sp)):=by
 obtain⟨g,⟨oa,sp,hv,hg⟩,hs,hL⟩:=H.front i hi;exact⟨oa,sp,hv,Sat.push i hi ⟨g,hg,hs,hL⟩⟩
theorem Holds.close {w:World}{L:List HProp}(H:Holds w L) (i:Nat){f:α->Value}{e:TypeId}{oa:Option Addr}{xs:List α}{sp:List Value}(hi:L[i]?=some (slb f e oa xs sp)) :
  Holds w (L.set i (SL f e (.slice oa xs.length (xs.length+sp.length)) xs)):=H.at i hi λg hg=>⟨oa,sp,rfl,hg⟩
theorem Ybi (f:α->Value) (e:TypeId) (h:Hp):SL f e (.slice none 0 0) [] h:=⟨none,[],rfl,rfl,rfl⟩
theorem Holds.nilSL {w:World}{L:List HProp}(H:Holds w L) (f:α->Value) (e:TypeId):Holds w (SL f e (.slice none 0 0) []::L):=
 ⟨λ_=>none,Ybi f e _,(λb o h=>by cases h),by
  have h0:(hp w).minus (λ_=>none)=hp w:=by funext b;simp[Hp.minus]
  rw[h0];exact H⟩
theorem Holds.slb {w:World}{L:List HProp}(H:Holds w L) (i:Nat){f:α->Value}{e:TypeId}{b:Nat}{xs:List α}{sp:List Value}(hi:L[i]?=some (slb f e (some ⟨b,0,none⟩) xs sp)) :
  Holds w (L.set i (blk b e (xs.map f++sp))):=H.at i hi λg hg=>hg.2.2
theorem Holds.slb' {w:World}{L:List HProp}(H:Holds w L) (i:Nat){f:α->Value}{e:TypeId}{b:Nat}{xs:List α}{sp:List Value}(hi:L[i]?=some (blk b e (xs.map f++sp))) :
  Holds w (L.set i (Vc.slb f e (some ⟨b,0,none⟩) xs sp)):=H.at i hi λg hg=>⟨rfl,rfl,hg⟩
theorem Za5 {L:List HProp}{i:Nat}{P Q:HProp}(hi:L[i]?=some P):(L.set i Q)[i]?=some Q:=by
 have:i < L.length:=(gH.1 hi).1;simp[this]
theorem Ydm (i:Nat){w:World}{L:List HProp}(H:Holds w L){f:α->Value}{e:TypeId}{oa:Option Addr}{xs:List α}{sp:List Value}{l c:Nat}{k:IntKind}{n:Int}{K:Value->Prop}
  (hi:L[i]?=some (Vc.slb f e oa xs sp)) (h0:0<=n) (h1:n < (l:Int)) (hl:l<=xs.length) (h:∀ b,oa=some ⟨b,0,none⟩->K (.pointer (some ⟨b,n.toNat,none⟩))):Ias 1 (.slice oa l c) (.int k n) K:=by
 cases oa with
 |none=>
  obtain⟨g,⟨h2,_⟩,_⟩:=H.front i hi;subst h2;simp at hl;omega
 |some a=>
  obtain⟨g,⟨h2,h3,_⟩,_⟩:=H.front i hi;obtain⟨b,o,s⟩:=a;simp only at h2 h3;subst h2;subst h3;refine r_ias h0 h1 ?_;simpa using h b rfl
theorem Zi3 (i:Nat){w:World}{L:List HProp}(H:Holds w L){f:α->Value}{e:TypeId}{oa:Option Addr}{xs:List α}{sp:List Value}{l c:Nat}{k:IntKind}{m:Nat}{K:Value->Prop}
  (hi:L[i]?=some (Vc.slb f e oa xs sp)) (h1:m < l) (hl:l<=xs.length) (h:∀ b,oa=some ⟨b,0,none⟩->K (.pointer (some ⟨b,m,none⟩))):Ias 1 (.slice oa l c) (.int k (m:Int)) K:=
 Ydm i H hi (by omega) (by omega) hl (by rw[gC];exact h)
theorem Zmr (i:Nat){w:World}{L:List HProp}(H:Holds w L){f:α->Value}{e:TypeId}{b o:Nat}{xs:List α}{sp:List Value}{x:α}{K:Value->Prop}
  (hi:L[i]?=some (Vc.slb f e (some ⟨b,0,none⟩) xs sp)) (hx:xs[o]?=some x) (h:K (f x)):Ld (.pointer (some ⟨b,o,none⟩)) w K:=by
 have hlt:o < xs.length:=(gH.1 hx).1;refine r_ld i (H.slb i hi) (Za5 hi) (v:=f x) ?_ h;rw[gM (by simpa using hlt),hV_,hx];rfl
theorem Ybq (i:Nat){w:World}{L:List HProp}(H:Holds w L){f:α->Value}{e:TypeId}{b o:Nat}{xs:List α}{sp:List Value}{v:Value}{K:World->Prop}(x:α)
  (hi:L[i]?=some (Vc.slb f e (some ⟨b,0,none⟩) xs sp)) (ho:o < xs.length) (hv:v=f x) (hs:sg v=true) (h:∀ w',Same w w'->Holds w' (L.set i (Vc.slb f e (some ⟨b,0,none⟩) (xs.set o x) sp))->K w') :
  St (.pointer (some ⟨b,o,none⟩)) v w K:=by
 subst hv;refine r_st i (H.slb i hi) (Za5 hi) (by simp;omega) hs λw' S H'=>h w' S ?_
 have h1:=H'.slb' (f:=f) (xs:=xs.set o x) (sp:=sp) i (b:=b) (e:=e) (by
  rw[set_set,List.set_append_left _ _ (by simpa using ho)]
  rw[Za5 hi,<-map_set])
 simpa [set_set] using h1
end
theorem Zqh {size:Nat}{a:Option Addr}{n c i:Nat}{k:IntKind}{K:Value->Prop}(h1:i<=c) (h:K (.slice a i c)):Ssl size (.slice a n c) none (some (.int k (i:Int))) K:=by
 refine⟨a,n,c,0,i,rfl,rfl,⟨k,rfl⟩,hE _,h1,?_⟩
 have e:(if c=0 then a else a.map (·.add (0*size)))=a:=by
  split
  ·rfl
  ·cases a with
   |none=>rfl
   |some x=>simp[Addr.add]
 rw[e,Nat.sub_zero,Nat.sub_zero];exact h
theorem ext1 {s:ByteArray}{m:Nat}(h:m < s.size):s.extract m (m+1)=⟨[s.data.toList.getD m 0].toArray⟩:=by
 apply ByteArray.ext;apply Array.ext';rw[ByteArray.data_extract,Array.toList_extract]
 have hd:m < s.data.toList.length:=by simpa using h
 rw[List.extract_eq_take_drop,List.drop_eq_getElem_cons hd,Nat.add_sub_cancel_left,List.take_succ_cons,take_zero,gB,gA hd];rfl
theorem Ye9 {s:ByteArray}{k k':IntKind}{m:Nat}{K:Value->Prop}(h1:m < s.size) (h:K (.string ⟨[s.data.toList.getD m 0].toArray⟩)):Sst (.string s) (some (.int k (m:Int))) (some (.int k' ((m+1:Nat):Int))) K:=
 r_sst ⟨k,rfl⟩ ⟨k',rfl⟩ (by omega) (by omega) (by rw[ext1 h1];exact h)
theorem Zad {xs ys:List UInt8}{K:Value->Prop}(hs:xs.length+ys.length<=9223372036854775807) (h:K (.string ⟨(xs++ys).toArray⟩)):Bp .add (.string ⟨xs.toArray⟩) (.string ⟨ys.toArray⟩) K:=
 r_cat (by simpa [ByteArray.size] using by omega) (by
  have e:(⟨xs.toArray⟩:ByteArray)++⟨ys.toArray⟩=⟨(xs++ys).toArray⟩:=by
   apply ByteArray.ext;rw[ByteArray.data_append];simp
  rw[e];exact h)
def setL (cs:List Value) (o:Nat):List Value->List Value
 |[]=>cs
 |v::r=>setL (cs.set o v) (o+1) r
theorem Same.setCells:∀ (vs:List Value) (w:World) (a:Addr) (i:Nat),Same w (setCells w a vs i)
 |[],w,_,_=>.refl w
 |v::r,w,a,i=>(Same.setCell w _ v).trans (Same.setCells r _ a (i+1))
theorem Holds.setCells (i:Nat){b o:Nat}{t:TypeId}:∀ (vs:List Value){w:World}{L:List HProp}{cs:List Value}(k:Nat) (_:Holds w L) (_:L[i]?=some (blk b t cs)),
  Holds (Vc.setCells w ⟨b,o,none⟩ vs k) (L.set i (blk b t (setL cs (o+k) vs)))
 |[],w,L,cs,k,H,hi=>by
  rw[setL]
  have:L.set i (blk b t cs)=L:=by
   apply List.ext_getElem?;intro j;rw[List.getElem?_set];split
   ·rename_i e;subst e;rw[hi];split
    ·rfl
    ·rename_i h;rw[List.getElem?_eq_none (by omega)] at hi;cases hi
   ·rfl
  rw[this];exact H
 |v::r,w,L,cs,k,H,hi=>by
  rw[Vc.setCells,setL]
  have e1:(⟨b,o,none⟩:Addr).add k=⟨b,o+k,none⟩:=by
   unfold Addr.add;split
   ·rename_i h;rw[h];rfl
   ·rfl
  rw[e1];have H2:=H.set i hi (o+k) v;have:=Holds.setCells (o:=o) i r (k+1) H2 (Za5 hi);rw[set_set] at this;exact this
theorem r_stA (i:Nat){w:World}{L:List HProp}(H:Holds w L){n b o:Nat}{t:TypeId}{cs vs:List Value}{K:World->Prop}(hi:L[i]?=some (blk b t cs)) (ho:o+n<=cs.length) (hn:vs.length=n) (hs:vs.all sg=true)
  (h:∀ w',Same w w'->Holds w' (L.set i (blk b t (setL cs o vs)))->K w'):StA n (.pointer (some ⟨b,o,none⟩)) (.agg vs.toArray) w K:=by
 refine⟨_,vs.toArray,rfl,rfl,by simpa using hn,λj hj=>?_,by simpa using hs,?_⟩
 ·have e1:(⟨b,o,none⟩:Addr).add j=⟨b,o+j,none⟩:=by
   unfold Addr.add;split
   ·rename_i h;rw[h];rfl
   ·rfl
  rw[e1];refine⟨?_,H.frozen i hi (o+j)⟩;rw[H.cell i hi (o+j),gA (by omega)];rfl
 ·exact h _ (.setCells _ _ _ _) (Holds.setCells i vs 0 H hi)
theorem Ya0 {s:ByteArray}{m:Nat}:s.extract m s.size=⟨(s.data.toList.drop m).toArray⟩:=by
 apply ByteArray.ext;apply Array.ext';rw[ByteArray.data_extract,Array.toList_extract,List.extract_eq_take_drop];rw[gK (by simp)]
theorem Zym {s:ByteArray}{m:Nat}:s.extract 0 m=⟨(s.data.toList.take m).toArray⟩:=by
 apply ByteArray.ext;apply Array.ext';rw[ByteArray.data_extract,Array.toList_extract,List.extract_eq_take_drop,Nat.sub_zero,drop_zero]
theorem Zxe {s:ByteArray}{k:IntKind}{m:Nat}{K:Value->Prop}(h1:m<=s.size) (h:K (.string ⟨(s.data.toList.drop m).toArray⟩)):Sst (.string s) (some (.int k (m:Int))) none K:=
 r_sst ⟨k,rfl⟩ rfl h1 (Nat.le_refl _) (by rw[Ya0];exact h)
theorem Yba {s:ByteArray}{k:IntKind}{m:Nat}{K:Value->Prop}(h1:m<=s.size) (h:K (.string ⟨(s.data.toList.take m).toArray⟩)):Sst (.string s) none (some (.int k (m:Int))) K:=
 r_sst rfl ⟨k,rfl⟩ (hE _) h1 (by rw[Zym];exact h)
theorem Yeh {a b:ByteArray}{K:Value->Prop}(h:K (.bool (Op.bytesLess a.data.toList b.data.toList))):Bp .lss (.string a) (.string b) K:=
 ⟨_,rfl,by rw[ByteArray.toList_eq,ByteArray.toList_eq];exact h⟩
theorem Yei {xs ys:List UInt8}:(⟨xs.toArray⟩:ByteArray)=⟨ys.toArray⟩↔xs=ys:=by
 constructor
 ·intro h;have:=congrArg (λb:ByteArray=>b.data.toList) h;simpa using this
 ·rintro rfl;rfl
theorem Zke {xs ys:List UInt8}{K:Value->Prop}(h:K (.bool (decide (xs=ys)))):Bp .eql (.string ⟨xs.toArray⟩) (.string ⟨ys.toArray⟩) K:=
 r_seq (by rw[show decide ((⟨xs.toArray⟩:ByteArray)=⟨ys.toArray⟩)=decide (xs=ys) from by rw[Bool.eq_iff_iff,decide_eq_true_iff,decide_eq_true_iff,Yei]];exact h)
theorem Ydh {size:Nat}{p:Addr}{l c:Nat}{k:IntKind}{n:Nat}{K:Value->Prop}(h:n < l) (hk:K (.pointer (some (p.add (n*size))))):Ias size (.slice (some p) l c) (.int k (n:Int)) K:=
 ⟨p,l,c,k,n,rfl,rfl,by omega,by omega,by rw[gC];exact hk⟩
theorem Yeb {n:Nat}{p:Addr}{w:World}{cs:Array Value}{K:Value->Prop}(hn:cs.size=n) (hc:∀ (j:Nat) v,cs[j]?=some v->w.cell? (p.add j)=some v) (hk:K (.agg cs)):LdA n (.pointer (some p)) w K:=
 ⟨p,cs,rfl,hn,hc,hk⟩
theorem r_ldP {p:Addr}{w:World}{v:Value}{K:Value->Prop}(hc:w.cell? p=some v) (hk:K v):Ld (.pointer (some p)) w K:=⟨p,v,rfl,hc,hk⟩
class Row (P:Program) (t:TypeId) (e:outParam TypeId) (z:outParam Value):Prop where
 und:P.underlying t=some (.slice e)
 inf:∃ i,P.info? e=some i/\i.size=1/\i.bytes<=32/\i.zero=some z
 one:z.cells=#[z]
section
variable {α:Type}{P:Program}{w:World}{L:List HProp}
theorem r_ms {t e:TypeId}{z:Value} [hr:Row P t e z] (H:Holds w L){f:α->Value}{x:α}(hz:z=f x){k k':IntKind}{n:Int}{K:KT}(h0:0<=n) (h1:n<=1099511627776)
  (h:∀ b w',Same w w'->Holds w' (slb f e (some ⟨b,0,none⟩) (List.replicate n.toNat x) []::L)->K (.slice (some ⟨b,0,none⟩) n.toNat n.toNat) w'):Ms P t (.int k n) (.int k' n) w K:=by
 obtain⟨i,hi,hsz,hby,hzz⟩:=hr.inf
 have hrun:=run_make (P:=P) w t e i z hr.und hi hzz k k' n n h0 (Int.le_refl _) (by
  have:(i.bytes:Int)*n<=32*n:=Int.mul_le_mul_of_nonneg_right (by omega) h0
  omega) (by omega)
 refine⟨_,_,hrun,h _ _ (.alloc _ _) ?_⟩
 have hc:madeCells z.cells (n.toNat*i.size)=((List.replicate n.toNat x).map f).toArray:=by
  rw[hsz,Nat.mul_one,hr.one];apply Array.ext
  ·simp[madeCells]
  ·intro j h1 h2;simp[madeCells,hz,Nat.mod_one]
 have:=H.alloc (.cells (madeCells z.cells (n.toNat*i.size)) e);rw[hc] at this ⊢;refine Holds.imp this λg hg=>⟨rfl,rfl,?_⟩;rw[gU];exact hg
theorem r_bs1 {t e:TypeId}{z:Value} [hr:Row P t e z] (H:Holds w L){v:Value}{K:KT}(hs:sg v=true)
  (h:∀ b w',Same w w'->Holds w' (blk b e [v]::L)->K (.slice (some ⟨b,0,none⟩) 1 1) w'):Bs P t 1 #[(0,v)] w K:=by
 obtain⟨i,hi,hsz,hby,hzz⟩:=hr.inf
 have hcells:v.cells=#[v]:=by cases v <;> first|rfl|simp[sg] at hs
 refine⟨.slice (some ⟨w.heap.size,0,none⟩) 1 1,w.alloc (.cells #[v] e),?_,h _ _ (.alloc _ _) (H.alloc _)⟩
 have hc:(Array.map (λx=>[z][x%1]?.getD default) (Array.range 1)).setIfInBounds 0 v=#[v]:=by
  apply Array.ext
  ·simp
  ·intro j h1 h2
   have:j=0:=by simpa using h2
   subst this;simp
 simp[Instr.buildSlice,run_underlying hr.und,sizeOf,typeInfo,hi,hsz,zeroValue,hzz,Instr.fill,hcells,newRow,newObj,hr.one];rw[hc];rfl
theorem Zwx {v:Value}(h:sg v=true):v.oneCell'=true:=by
 cases v <;> first|rfl|simp[sg] at h
theorem r_ap {t e:TypeId}{z:Value} [hr:Row P t e z] (H:Holds w L) (i j:Nat){f:α->Value}{oa:Option Addr}{xs ys:List α}{sp:List Value}{l c m c' b2:Nat}{cs:List Value}{ty:TypeId}{K:KT}
  (hi:L[i]?=some (slb f e oa xs sp)) (hj:L[j]?=some (blk b2 e cs)) (hcs:cs.take m=ys.map f) (hm:m=ys.length) (hl:l=xs.length) (hc:c=xs.length+sp.length) (hs:∀ y,sg (f y)=true)
  (hn:xs.length+ys.length<=1099511627776) (hne:0 < ys.length)
  (h:∀ oa' sp' w',Same w w'->Holds w' (L.set i (slb f e oa' (xs++ys) sp'))->K (.slice oa' (xs.length+ys.length) (xs.length+ys.length+sp'.length)) w') :
  Ap P #[t,t] ty #[.slice oa l c,.slice (some ⟨b2,0,none⟩) m c'] w K:=by
 subst hl hc hm;obtain⟨inf,hinf,hsz,hby,hzz⟩:=hr.inf
 have hnews:∀ k u,(ys.map f)[k]?=some u->w.cell? ((⟨b2,0,none⟩:Addr).add k)=some u:=by
  intro k u hu
  have e1:(⟨b2,0,none⟩:Addr).add k=⟨b2,k,none⟩:=by
   unfold Addr.add;split
   ·rename_i h;rw[h]
   ·simp
  rw[e1,H.cell j hj k]
  have hk:k < ys.length:=by have:=(gH.1 hu).1;simpa using this
  rw[<-hu,<-hcs,hI_ hk]
 have hmul:(xs.length+ys.length)*inf.bytes<=140737488355328:=
  Nat.le_trans (Nat.mul_le_mul_left _ hby) (by omega)
 have grow:∀ (b:Addr) (olds:List Value),olds=xs.map f->(∀ k v,olds[k]?=some v->w.cell? (b.add k)=some v)->sp.length < ys.length->
   (∃ o,L[i]?=some o)->Ap P #[t,t] ty #[.slice (some b) xs.length (xs.length+sp.length),.slice (some ⟨b2,0,none⟩) ys.length c'] w K:=by
  intro b olds ho hold hg _;subst ho
  have hrun:=run_append_grow (P:=P) w t ty e inf z hr.und hinf hzz b xs.length (xs.length+sp.length) (xs.map f) (by simp[hsz]) hold
   ⟨b2,0,none⟩ ys.length c' (ys.map f) (by simp[hsz]) hnews (by omega) (by omega) (growslice_fits (by omega) hmul)
  refine⟨_,_,hrun,?_⟩;have hcap:=grownCap_ge w (xs.length+ys.length) (xs.length+sp.length) e;generalize grownCap w (xs.length+ys.length) (xs.length+sp.length) e=cap at hcap ⊢
  have hz2:Builtin.zeroCells z.cells (cap - (xs.length+ys.length))=(List.replicate (cap - (xs.length+ys.length)) z).toArray:=by
   rw[hr.one];apply Array.ext
   ·simp[Builtin.zeroCells]
   ·intro j h1 h2;simp[Builtin.zeroCells,Nat.mod_one]
  have hcells:((xs.map f).toArray++(ys.map f).toArray++Builtin.zeroCells z.cells (cap - (xs.length+ys.length)))=((xs++ys).map f++List.replicate (cap - (xs.length+ys.length)) z).toArray:=by
   rw[hz2];simp
  rw[hcells];have H1:Holds w.drew L:=H.same rfl;have H2:=H1.alloc (.cells ((xs++ys).map f++List.replicate (cap - (xs.length+ys.length)) z).toArray e)
  have H3:Holds (w.drew.alloc (.cells ((xs++ys).map f++List.replicate (cap - (xs.length+ys.length)) z).toArray e)) (L.set i (slb f e (some ⟨w.heap.size,0,none⟩) (xs++ys) (List.replicate (cap - (xs.length+ys.length)) z))):=by
   have H4:=(Holds.imp H2 (Q:=slb f e (some ⟨w.heap.size,0,none⟩) (xs++ys) (List.replicate (cap - (xs.length+ys.length)) z)) λg hg=>⟨rfl,rfl,hg⟩);have H5:=H4.dropAt (i+1);rw[List.eraseIdx_cons_succ] at H5;exact Sat.push i hi H5
  have:=h (some ⟨w.heap.size,0,none⟩) (List.replicate (cap - (xs.length+ys.length)) z) _ ((Same.drew w).trans (.alloc _ _)) H3
  have hc2:xs.length+ys.length+(List.replicate (cap - (xs.length+ys.length)) z).length=cap:=by simp;omega
  rw[hc2] at this;exact this
 cases oa with
 |none=>
  obtain⟨g,⟨h2,h3⟩,_⟩:=H.front i hi;subst h2;subst h3;simp only[length_nil,Nat.zero_add,hO_] at hn hmul h ⊢;have hrun:=run_append_nil (P:=P) w t ty e inf z hr.und hinf hzz ⟨b2,0,none⟩ ys.length c' (ys.map f) (by simp[hsz]) hnews (by omega) (by omega) (by omega);refine⟨_,_,hrun,?_⟩;have hcap:=grownCap_ge w ys.length 0 e;generalize grownCap w ys.length 0 e=cap at hcap ⊢
  have hz2:Builtin.zeroCells z.cells (cap - ys.length)=(List.replicate (cap - ys.length) z).toArray:=by
   rw[hr.one];apply Array.ext
   ·simp[Builtin.zeroCells]
   ·intro j h1 h2;simp[Builtin.zeroCells,Nat.mod_one]
  have hcells:((ys.map f).toArray++Builtin.zeroCells z.cells (cap - ys.length))=(ys.map f++List.replicate (cap - ys.length) z).toArray:=by
   rw[hz2];simp
  rw[hcells];have H2:=(H.same (w':=w.drew) rfl).alloc (.cells (ys.map f++List.replicate (cap - ys.length) z).toArray e);have H4:=(Holds.imp H2 (Q:=slb f e (some ⟨w.heap.size,0,none⟩) ys (List.replicate (cap - ys.length) z)) λg hg=>⟨rfl,rfl,hg⟩);have H5:=H4.dropAt (i+1);rw[List.eraseIdx_cons_succ] at H5;have:=h (some ⟨w.heap.size,0,none⟩) (List.replicate (cap - ys.length) z) _ ((Same.drew w).trans (.alloc _ _)) (Sat.push i hi H5)
  have hc2:ys.length+(List.replicate (cap - ys.length) z).length=cap:=by simp;omega
  rw[hc2] at this;exact this
 |some a=>
  obtain⟨g,⟨h2,h3,_⟩,_⟩:=H.front i hi;obtain⟨b,o,s⟩:=a;simp only at h2 h3;subst h2;subst h3;have Hb:=H.slb i hi;have hgi:(L.set i (blk b e (xs.map f++sp)))[i]?=some (blk b e (xs.map f++sp)):=Za5 hi
  have hold:∀ k v,(xs.map f)[k]?=some v->w.cell? ((⟨b,0,none⟩:Addr).add k)=some v:=by
   intro k v hv
   have e1:(⟨b,0,none⟩:Addr).add k=⟨b,k,none⟩:=by
    unfold Addr.add;split
    ·rename_i h;rw[h]
    ·simp
   rw[e1,Hb.cell i hgi k,gM (by simpa using (gH.1 hv).1)];exact hv
  rcases hU_ sp.length ys.length with hg|hg
  ·exact grow ⟨b,0,none⟩ _ rfl hold hg ⟨_,hi⟩
  ·have hobj:=Hb.obj i hgi
   have hrun:=run_append_room (P:=P) w t ty e inf hr.und hinf b xs.length (xs.length+sp.length) (xs.map f++sp).toArray hobj
    ⟨b2,0,none⟩ ys.length c' (ys.map f) (by simp[hsz]) hnews (by simpa using λy _=>Zwx (hs y)) (by omega) (by simp[hsz];omega)
   refine⟨_,_,hrun,?_⟩
   have hcells:(((xs.map f++sp).toArray.toList.take (xs.length*inf.size)++ys.map f++(xs.map f++sp).toArray.toList.drop (xs.length*inf.size+(ys.map f).length)).toArray)=((xs++ys).map f++sp.drop ys.length).toArray:=by
    rw[hsz];simp[List.take_append,List.drop_append]
   rw[hcells]
   have H3:Holds (w.setRow b ((xs++ys).map f++sp.drop ys.length).toArray) (L.set i (slb f e (some ⟨b,0,none⟩) (xs++ys) (sp.drop ys.length))):=by
    have:=Hb.upd (w':=w.setRow b ((xs++ys).map f++sp.drop ys.length).toArray) i hgi (o':=.cells ((xs++ys).map f++sp.drop ys.length).toArray e) (setRow_heap w b _ _ e _ hobj) λc hc=>setRow_other w b c _ hc;have h4:=Holds.slb' (f:=f) (e:=e) (b:=b) (xs:=xs++ys) (sp:=sp.drop ys.length) this i (by rw[set_set];exact Za5 hi);simpa [set_set] using h4
   have hlen:xs.length+sp.length=xs.length+ys.length+(sp.drop ys.length).length:=by simp;omega
   rw[hlen];exact h _ _ _ ⟨rfl,rfl,rfl,by simp⟩ H3
theorem Zam {t e:TypeId}{z:Value} [hr:Row P t e z] (H:Holds w L) (i:Nat){f:α->Value}{v:Value}{xs:List α}{ty:TypeId}{K:KT}
  (hi:L[i]?=some (SL f e v xs)) (x:α) (hs:∀ y,sg (f y)=true) (hn:xs.length+1<=1099511627776)
  (h:∀ v' w',Same w w'->Holds w' (L.set i (SL f e v' (xs++[x])))->K v' w'):Bs P t 1 #[(0,f x)] w λy w2=>Ap P #[t,t] ty #[v,y] w2 K:=by
 obtain⟨oa,sp,rfl,H1⟩:=H.open i hi;refine r_bs1 H1 (hs x) λb3 w3 S3 H3=>?_;refine r_ap (f:=f) (ys:=[x]) H3 (i+1) 0 (xs:=xs) (sp:=sp) (by rw[gF];exact Za5 hi) rfl rfl rfl rfl rfl hs (by rw[gQ];omega) (by simp) λoa' sp' w4 S4 H4=>?_;rw[gW,set_set] at H4;have H5:=H4.drop.close i (Za5 hi);rw[set_set] at H5
 have e:xs.length+[x].length=(xs++[x]).length:=by simp
 rw[e];exact h _ _ (S3.trans S4) H5
theorem Ztw (l:List UInt8):∀ (s:ByteArray),(l.map λc=>(c.toNat:Int)).foldl (λr n=>r.push (UInt8.ofNat n.toNat)) s=⟨(s.data.toList++l).toArray⟩:=by
 induction l with
 |nil=>intro s;simp
 |cons c l ih=>
  intro s;rw[hR_,List.foldl_cons,ih];simp[ByteArray.push]
class Bytes (P:Program) (t e d:TypeId):Prop where
 und:P.underlying t=some (.slice e)
 el:P.underlying e=some (.int .u8)
 str:P.underlying d=some .string
theorem r_cbs {t e d:TypeId} [hr:Bytes P t e d] (H:Holds w L) (i:Nat){oa:Option Addr}{xs:List UInt8}{sp:List Value}{l c:Nat}{K:KT}
  (hi:L[i]?=some (slb bv e oa xs sp)) (hl:l=xs.length) (h:K (.string ⟨xs.toArray⟩) w):Cw P t d (.slice oa l c) w K:=by
 subst hl
 cases oa with
 |none=>
  obtain⟨g,⟨h2,h3⟩,_⟩:=H.front i hi;subst h2;refine⟨.string ⟨[].toArray⟩,w,?_,h⟩;rw[run_convert_bytes_string (P:=P) w t d e none _ c hr.und hr.el hr.str];rfl
 |some a=>
  obtain⟨g,⟨h2,h3,_⟩,_⟩:=H.front i hi;obtain⟨b,o,s⟩:=a;simp only at h2 h3;subst h2;subst h3;have Hb:=H.slb i hi;refine⟨_,w,?_,h⟩;rw[run_convert_bytes_string (P:=P) w t d e _ _ c hr.und hr.el hr.str]
  have hload:(loadCells (⟨b,0,none⟩:Addr) xs.length).run P w=.ok ((xs.map λc=>(c.toNat:Int)).map (Value.int .u8)).toArray w:=by
   have hcells:((xs.map λc=>(c.toNat:Int)).map (Value.int .u8))=xs.map bv:=by rw[List.map_map];rfl
   rw[hcells]
   have:=Zdo (P:=P) (w:=w) (a:=⟨b,0,none⟩) (cs:=(xs.map bv).toArray) (λj v hv=>by
    have e1:(⟨b,0,none⟩:Addr).add j=⟨b,j,none⟩:=by
     unfold Addr.add;split
     ·rename_i h;rw[h]
     ·simp
    rw[e1,Hb.cell i (Za5 hi) j]
    have hv':(xs.map bv)[j]?=some v:=by simpa using hv
    rw[gM (gH.1 hv').1]
    exact hv')
   simpa using this
  rw[run_bytesToString (P:=P) w _ xs.length c _ hload,Ztw];simp
end
end Go.Vc
namespace Go.Vc
variable {P:Program}{w:World}{L:List HProp}
def itPos (w:World) (b:Nat):Nat:=match w.heap[b]? with
 |some (.stringIter _ p)=>p
 |_=>0
theorem r_bsK {t e:TypeId}{n:Nat}{ps:Array (Nat × Value)}{K:KT}(cells:List Value) (H:Holds w L)
  (h:(Instr.buildSlice t n ps).run P w=.ok (.slice (some ⟨w.heap.size,0,none⟩) n n) (w.alloc (.cells cells.toArray e)))
  (k:∀ b w',Same w w'->Holds w' (blk b e cells::L)->K (.slice (some ⟨b,0,none⟩) n n) w'):Bs P t n ps w K:=
 ⟨_,_,h,k _ _ (.alloc _ _) (H.alloc _)⟩
theorem Zms (i:Nat){α:Type}{f:α->Value}{e:TypeId}{b:Nat}(xs:List α) (H:Holds w L) (hi:L[i]?=some (blk b e (xs.map f))):Holds w (L.set i (SL f e (.slice (some ⟨b,0,none⟩) xs.length xs.length) xs)):=
 H.at i hi λg hg=>⟨some ⟨b,0,none⟩,[],by simp,rfl,rfl,by simpa using hg⟩
theorem Zwi {size b l c:Nat}{k:IntKind}{n:Nat}{K:Value->Prop}(h:n < l) (hk:K (.pointer (some ⟨b,n*size,none⟩))):Ias size (.slice (some ⟨b,0,none⟩) l c) (.int k (n:Int)) K:=by
 refine Ydh h ?_
 have e1:(⟨b,0,none⟩:Addr).add (n*size)=⟨b,n*size,none⟩:=by
  unfold Addr.add;split
  ·rename_i h;rw[h]
  ·simp
 rw[e1];exact hk
theorem r_inv {m:Sem Next}{f:FuncId}{args:Array Value}{K:KT}(h:m.run P w=.ok (.enter f args) w) (k:Cl P f args w K):Inv P m w K:=⟨f,args,h,k.2⟩
theorem Ydv {b:Nat}{k:IntKind}{K:Value->Prop}(hb:b<=62) (h:K (.int .i64 ((2^b:Nat):Int))):Bp .shl (.int .i64 1) (.int k (b:Int)) K:=by
 refine⟨.int .i64 ((2^b:Nat):Int),?_,h⟩;have h1:(2^b:Nat)<=2^62:=Nat.pow_le_pow_right (by omega) hb;have h2:IntKind.i64.bits=64:=rfl;simp only[bp];rw[if_neg (by omega),gC,h2,Nat.min_eq_left (by omega),Int.one_mul]
 congr 2
 have h3:((2:Int)^b)=((2^b:Nat):Int):=by simp
 rw[h3];clear h;generalize (2^b:Nat)=x at h1 ⊢;exact wrap64 (by omega) (by omega)
theorem Zlo {k':IntKind}{n:Int}{K:Value->Prop}(h1:0<=n) (h2:n < 18446744073709551616) (h:K (.int .u64 n)):Ci .u64 (.int k' n) K:=by
 have:Ci .u64 (.int k' n) K:=r_ci (by rw[show IntKind.u64.wrap n=n from by show n%18446744073709551616=n;omega];exact h);exact this
theorem wrapU32 {z:Int}(h1:0<=z) (h2:z < 4294967296):IntKind.u32.wrap z=z:=by show z%4294967296=z;omega
theorem wrapU8 {z:Int}(h1:0<=z) (h2:z < 256):IntKind.u8.wrap z=z:=by show z%256=z;omega
theorem Zex {s n:Nat}{k k':IntKind}{K:Value->Prop}(hn:n<=k.bits) (h:K (.int k ((s/2^n:Nat):Int))):Bp .shr (.int k (s:Int)) (.int k' (n:Int)) K:=by
 refine⟨_,?_,h⟩;simp only[bp]
 rw[if_neg (by omega),gC,Nat.min_eq_left hn,Int.fdiv_eq_ediv_of_nonneg _ (by
  have:(0:Int)<=((2^n:Nat):Int):=Int.natCast_nonneg _
  simpa using this)]
 simp
theorem Zcu {s n:Nat}{k':IntKind}{K:Value->Prop}(hn:n<=32) (h:K (.int .u32 ((s*2^n%4294967296:Nat):Int))):Bp .shl (.int .u32 (s:Int)) (.int k' (n:Int)) K:=by
 refine⟨_,?_,h⟩;have hb:IntKind.u32.bits=32:=rfl;simp only[bp];rw[if_neg (by omega),gC,hb,Nat.min_eq_left hn];show some (Value.int .u32 ((s:Int)*2^n%4294967296))=_;simp
theorem Zcw {s t:Nat}{K:Value->Prop}(hs:s < 4294967296) (ht:t < 4294967296) (h:K (.int .u32 ((s ^^^ t:Nat):Int))):Bp .xor (.int .u32 (s:Int)) (.int .u32 (t:Int)) K:=by
 refine⟨_,?_,h⟩;have hb:IntKind.u32.bits=32:=rfl;have hx:s ^^^ t < 2^32:=Nat.xor_lt_two_pow (by simpa using hs) (by simpa using ht);simp only[bp,if_true];rw[hb,BitVec.toNat_xor,BitVec.toNat_ofInt,BitVec.toNat_ofInt]
 have e1:((s:Int)%((2^32:Nat):Int)).toNat=s:=by omega
 have e2:((t:Int)%((2^32:Nat):Int)).toNat=t:=by omega
 rw[e1,e2,wrapU32 (by omega) (by omega)]
theorem Zfk {s t:Nat}{K:Value->Prop}(h1:s*t < 4294967296) (h:K (.int .u32 ((s*t:Nat):Int))):Bp .mul (.int .u32 (s:Int)) (.int .u32 (t:Int)) K:=by
 refine⟨_,?_,h⟩;simp only[bp,if_true];rw[<-Int.natCast_mul,wrapU32 (by omega) (by omega)]
def filled {α:Type}(xs:List α) (z:α) (n i:Nat):List α:=xs.take i++List.replicate (n - i) z
theorem Zbd {α:Type}{xs:List α}{z:α}{n i:Nat}(hi:i<=n) (hn:xs.length=n):(filled xs z n i).length=n:=by simp[filled,hn];omega
theorem Zf2 {α:Type}(xs:List α) (z:α) (n:Nat):filled xs z n 0=List.replicate n z:=by simp[filled]
theorem Zd8 {α:Type}{xs:List α}{z:α}{n:Nat}(hn:xs.length=n):filled xs z n n=xs:=by simp[filled,<-hn]
theorem Zbe {α:Type}{xs:List α}{z x:α}{n i:Nat}(hi:i < n) (hn:xs.length=n) (hx:xs[i]?=some x):(filled xs z n i).set i x=filled xs z n (i+1):=by
 unfold filled
 have hl:(xs.take i).length=i:=by simp;omega
 rw[set_append_right _ _ (by omega),hl,Nat.sub_self,gO,hx,show n - i=(n - (i+1))+1 by omega,List.replicate_succ,gJ,gI];rfl
theorem Ydu {s t:Nat}{K:Value->Prop}(hs:s < 256) (ht:t < 256) (h:K (.int .u8 ((s ||| t:Nat):Int))):Bp .or (.int .u8 (s:Int)) (.int .u8 (t:Int)) K:=by
 refine⟨_,?_,h⟩;have hb:IntKind.u8.bits=8:=rfl;have hx:s ||| t < 2^8:=Nat.or_lt_two_pow (by simpa using hs) (by simpa using ht);simp only[bp,if_true];rw[hb,BitVec.toNat_or,BitVec.toNat_ofInt,BitVec.toNat_ofInt]
 have e1:((s:Int)%((2^8:Nat):Int)).toNat=s:=by omega
 have e2:((t:Int)%((2^8:Nat):Int)).toNat=t:=by omega
 rw[e1,e2,wrapU8 (by omega) (by omega)]
theorem Zl5 {s t:Nat}{K:Value->Prop}(hs:s < 4294967296) (ht:t < 4294967296) (h:K (.int .u32 ((s &&& t:Nat):Int))):Bp .and (.int .u32 (s:Int)) (.int .u32 (t:Int)) K:=by
 refine⟨_,?_,h⟩;have hb:IntKind.u32.bits=32:=rfl;have hx:s &&& t<=s:=Nat.and_le_left;simp only[bp,if_true];rw[hb,BitVec.toNat_and,BitVec.toNat_ofInt,BitVec.toNat_ofInt]
 have e1:((s:Int)%((2^32:Nat):Int)).toNat=s:=by omega
 have e2:((t:Int)%((2^32:Nat):Int)).toNat=t:=by omega
 rw[e1,e2,wrapU32 (by omega) (by omega)]
theorem Yd3 {s n:Nat}{k':IntKind}{K:Value->Prop}(hn:n<=8) (h:K (.int .u8 ((s*2^n%256:Nat):Int))):Bp .shl (.int .u8 (s:Int)) (.int k' (n:Int)) K:=by
 refine⟨_,?_,h⟩;have hb:IntKind.u8.bits=8:=rfl;simp only[bp];rw[if_neg (by omega),gC,hb,Nat.min_eq_left hn];show some (Value.int .u8 ((s:Int)*2^n%256))=_;simp
theorem Zbc {a b:Int}(c:Int){K:Value->Prop}(hc:a*b=c) (h1:-9223372036854775808<=c) (h2:c<=9223372036854775807) (h:K (.int .i64 c)):Bp .mul (.int .i64 a) (.int .i64 b) K:=by
 subst hc;exact r_mul h1 h2 h
end Go.Vc
namespace Go.M01
def valB (l:List Bool):Nat:=l.foldl (λa b=>2*a+b.toNat) 0
theorem Zbl (l:List Bool) (b:Bool):valB (l++[b])=2*valB l+b.toNat:=by simp[valB]
theorem Zb1 (l:List Bool):valB l < 2^l.length:=by
 have h:∀ n (l:List Bool),l.length=n->valB l < 2^n:=by
  intro n
  induction n with
  |zero=>intro l hl;rw[List.length_eq_zero_iff.1 hl];decide
  |succ n ih=>
   intro l hl
   have hne:l≠[]:=by rintro rfl;simp at hl
   rw[<-List.dropLast_concat_getLast hne,Zbl,Nat.pow_succ];have h1:=ih l.dropLast (by simp[hl]);have h2:=Bool.toNat_le (l.getLast hne);omega
 exact h _ l rfl
def byteAt (bs:List Bool) (i:Nat):UInt8:=UInt8.ofNat (valB ((bs.drop (8*i)).take 8))
def wholeB (bs:List Bool):List UInt8:=(List.range (bs.length/8)).map (byteAt bs)
def restB (bs:List Bool):Nat:=valB (bs.drop (8*(bs.length/8)))*2^(8 - bs.length%8)%256
theorem Ybl:∀ r,r < 8->∀ v,v < 128->∀ b:Bool,v < 2^r->(v*2^(8 - r)%256) ||| (b.toNat*2^(7 - r)%256)=(2*v+b.toNat)*2^(7 - r):=by decide +kernel
theorem Zas (bs:List Bool):(wholeB bs).length=bs.length/8:=by simp[wholeB]
theorem Yda (bs:List Bool) (b:Bool) (h:bs.length%8 < 7) :
  wholeB (bs++[b])=wholeB bs/\restB (bs++[b])=restB bs ||| (b.toNat*2^(7 - bs.length%8)%256)/\restB (bs++[b]) < 256:=by
 have hl:(bs++[b]).length=bs.length+1:=by simp
 have hd:(bs.length+1)/8=bs.length/8:=by omega
 have hm:(bs.length+1)%8=bs.length%8+1:=by omega
 refine⟨?_,?_,?_⟩
 ·unfold wholeB;rw[hl,hd];apply map_congr_left;intro i hi;rw[mem_range] at hi;unfold byteAt;rw[drop_append_of_le_length (by omega),List.take_append_of_le_length (by rw[gS];omega)]
 ·unfold restB;rw[hl,hd,hm,drop_append_of_le_length (by omega),Zbl];have hv:=Zb1 (bs.drop (8*(bs.length/8)));rw[gS,show bs.length - 8*(bs.length/8)=bs.length%8 by omega] at hv;have h7:2^(bs.length%8)<=2^6:=Nat.pow_le_pow_right (by omega) (by omega);rw[Ybl (bs.length%8) (by omega) _ (by omega) b hv,show 8 - (bs.length%8+1)=7 - bs.length%8 by omega];refine Nat.mod_eq_of_lt ?_;have hb:=Bool.toNat_le b
  have h1:2*valB (bs.drop (8*(bs.length/8)))+b.toNat < 2^(bs.length%8+1):=by rw[Nat.pow_succ];omega
  calc _ < 2^(bs.length%8+1)*2^(7 - bs.length%8):=Nat.mul_lt_mul_of_pos_right h1 (Nat.two_pow_pos _)
   _=2^8:=by rw[<-Nat.pow_add];congr 1;omega
 ·unfold restB;exact Nat.mod_lt _ (by decide)
theorem Yas (bs:List Bool) (b:Bool) (h:bs.length%8=7) :
  wholeB (bs++[b])=wholeB bs++[UInt8.ofNat (restB bs ||| (b.toNat*2^(7 - bs.length%8)%256))]/\restB (bs++[b])=0:=by
 have hl:(bs++[b]).length=bs.length+1:=by simp
 have hd:(bs.length+1)/8=bs.length/8+1:=by omega
 have hv:=Zb1 (bs.drop (8*(bs.length/8)));rw[gS,show bs.length - 8*(bs.length/8)=7 by omega] at hv;refine⟨?_,?_⟩
 ·unfold wholeB;rw[hl,hd,range_succ,List.map_append]
  congr 1
  ·apply map_congr_left;intro i hi;rw[mem_range] at hi;unfold byteAt;rw[drop_append_of_le_length (by omega),List.take_append_of_le_length (by rw[gS];omega)]
  ·rw[List.map_singleton];unfold restB byteAt;rw[h,Ybl 7 (by omega) _ (by omega) b hv,drop_append_of_le_length (by omega),gK (by simp;omega),Zbl];simp
 ·unfold restB;rw[hl,hd,List.drop_of_length_le (by simp;omega),show valB []=0 from rfl,Nat.zero_mul]
theorem Yan (bs:List Bool):restB bs < 256:=Nat.mod_lt _ (by decide)
def bitsOf (v n:Nat):List Bool:=(List.range n).map λi=>v.testBit (n - 1 - i)
theorem Za1 (v n:Nat):(bitsOf v n).length=n:=by simp[bitsOf]
theorem bitsOf_get (v n i:Nat) (h:i < n):(bitsOf v n)[i]?=some (v.testBit (n - 1 - i)):=by simp[bitsOf,h]
theorem Znp (v j:Nat):(v/2^j) &&& 1=(v.testBit j).toNat:=by
 rw[Nat.and_one_is_mod,Nat.testBit_eq_decide_div_mod_eq]
 rcases Nat.mod_two_eq_zero_or_one (v/2^j) with h|h <;> simp[h]
theorem Zm8 (v n i:Nat) (h:i < n):(bitsOf v n).take (i+1)=(bitsOf v n).take i++[v.testBit (n - 1 - i)]:=by
 rw[gO,bitsOf_get v n i h];rfl
end Go.M01
namespace Go.Mb
open Go.M01
def bitsL:List UInt8->List Bool
 |[]=>[]
 |c::s=>bitsOf c.toNat 8++bitsL s
theorem Zgh (s:List UInt8):(bitsL s).length=8*s.length:=by
 induction s with
 |nil=>rfl
 |cons c s ih=>simp only[bitsL,gD,Za1,ih,length_cons];omega
theorem Ze5 (s t:List UInt8):bitsL (s++t)=bitsL s++bitsL t:=by
 induction s with
 |nil=>rfl
 |cons c s ih=>simp only[List.cons_append,bitsL,ih,gI]
theorem bitsOf_get (v n i:Nat) (h:i < n):(bitsOf v n)[i]?=some (v.testBit (n - 1 - i)):=by
 have:=Zm8 v n i h
 have h2:((bitsOf v n).take (i+1))[i]?=(bitsOf v n)[i]?:=by rw[hI_ (by omega)]
 rw[<-h2,this,gT (by rw[gN,Za1];omega)];rw[gN,Za1,show i - min i n=0 by omega];rfl
theorem Zn8 (s:List UInt8):∀ (i:Nat),i < 8*s.length->(bitsL s)[i]?=some ((s.getD (i/8) 0).toNat.testBit (7 - i%8)):=by
 induction s with
 |nil=>intro i h;simp at h
 |cons c s ih=>
  intro i h;rw[bitsL]
  by_cases h8:i < 8
  ·rw[gM (by rw[Za1];exact h8),bitsOf_get _ _ _ h8,show i/8=0 by omega,show i%8=i by omega];rfl
  ·rw[gT (by rw[Za1];omega),Za1,ih (i - 8) (by simp at h;omega),show i/8=(i - 8)/8+1 by omega,show (i - 8)%8=i%8 by omega];rfl
def rest (B:List UInt8) (at_:Nat):List Bool:=(bitsL B).drop at_
theorem Zbm (B:List UInt8) (at_:Nat):(rest B at_).length=8*B.length - at_:=by rw[rest,gS,Zgh]
theorem Zc3 (B:List UInt8) (at_ n:Nat):(rest B at_).drop n=rest B (at_+n):=by rw[rest,rest,List.drop_drop]
theorem Yaw (B:List UInt8) (at_ n:Nat) (h:at_+n < 8*B.length):(rest B at_)[n]?=some ((B.getD ((at_+n)/8) 0).toNat.testBit (7 - (at_+n)%8)):=by
 rw[rest,hH_,Zn8 _ _ h]
theorem Zai {α:Type}{l:List α}{n:Nat}{x:α}(h:l[n]?=some x):l.take (n+1)=l.take n++[x]:=by
 rw[gO,h];rfl
theorem Yd8 (c:UInt8) (i:Nat):c.toNat/2^i &&& 1=(c.toNat.testBit i).toNat:=Znp c.toNat i
def chr (b:Bool):UInt8:=match b with
 |true=>49
 |false=>48
def txt (l:List Bool):List UInt8:=l.map chr
theorem Za9 (l:List Bool):(txt l).length=l.length:=hS_ ..
theorem Zau (a b:List Bool):txt (a++b)=txt a++txt b:=List.map_append ..
theorem Zzn (l:List Bool) (i:Nat) (h:i < l.length):(txt l).getD i 0=chr (l.getD i false):=by
 simp[txt,List.getD,h]
theorem Yay:valB []=0:=rfl
theorem Zgb (b:Bool):valB [b]=b.toNat:=by simp[valB]
theorem Zae (l:List Bool) (n:Nat):valB (l.take n) < 2^n:=Nat.lt_of_lt_of_le (Zb1 _) (Nat.pow_le_pow_right (by decide) (by rw[gN];omega))
end Go.Mb
namespace Go.Mp
open Go.M01 Go.Mb
inductive Res (σ:Type) where
 |short
 |bad (e:Nat)
 |ok (s:σ) (k:Nat)
def lead:List Bool->Nat
 |true::l=>lead l+1
 |_=>0
theorem Zp2:∀ (l:List Bool),lead l<=l.length
 |[]=>Nat.le_refl 0
 |true::l=>by simp only[lead,length_cons];have:=Zp2 l;omega
 |false::l=>hE _
theorem Ych {l:List Bool}{i:Nat}(h1:∀ j,j < i->l[j]?=some true) (h2:l[i]?=some false):lead l=i:=by
 induction l generalizing i with
 |nil=>simp at h2
 |cons c l ih=>
  cases i with
  |zero=>
   simp at h2;subst h2;rfl
  |succ i=>
   have:=h1 0 (by omega);simp at this;subst this;simp only[lead];rw[ih (i:=i) (λj hj=>by have:=h1 (j+1) (by omega);simpa using this) (by simpa using h2)]
theorem Zwp {l:List Bool}{i:Nat}(h1:∀ j,j < i->l[j]?=some true):i<=lead l:=by
 induction l generalizing i with
 |nil=>cases i with
  |zero=>exact hE _
  |succ i=>have:=h1 0 (by omega);simp at this
 |cons c l ih=>
  cases i with
  |zero=>exact hE _
  |succ i=>
   have:=h1 0 (by omega);simp at this;subst this;simp only[lead];have:=ih (i:=i) (λj hj=>by have:=h1 (j+1) (by omega);simpa using this);omega
def front (o:List Nat) (i:Nat):List Nat:=o.getD i 0::(o.take i++o.drop (i+1))
theorem Zfj {o:List Nat}{i:Nat}(h:i < o.length):(front o i).length=o.length:=by
 simp only[front,length_cons,gD,gN,gS];omega
structure PS where
 t:Nat
 count:Nat
 order:List Nat
 picks:List Nat
def p0:PS:=⟨0,0,[0,1,2,3,4,5],[]⟩
def PS.done (p:PS):Bool:=decide (0 < p.count/\p.picks.length=p.count)
def pstep (p:PS) (l:List Bool):Res PS:=
 if p.count=0 then
  if l.length < 18 then .short
  else
   if valB (l.take 18)/32768 < 2\/6 < valB (l.take 18)/32768\/valB (l.take 18)%32768=0 then .bad 25
   else .ok ⟨valB (l.take 18)/32768,valB (l.take 18)%32768,p.order,p.picks⟩ 18
 else
  if p.t<=lead l then .bad 25
  else if lead l=l.length then .short
  else .ok ⟨p.t,p.count,front p.order (lead l),p.picks++[p.order.getD (lead l) 0]⟩ (lead l+1)
structure PS.Ok (p:PS):Prop where
 ord:p.order.length=6
 cnt:p.count<=32767
 len:p.picks.length<=p.count
 new:p.count=0->p.t=0/\p.order=[0,1,2,3,4,5]
 tbl:0 < p.count->2<=p.t/\p.t<=6
 low:∀ i,i < p.t->p.order.getD i 0 < p.t
 pks:∀ x∈p.picks,x < p.t
theorem p0_ok:p0.Ok:=⟨rfl,by decide,by decide,λ_=>⟨rfl,rfl⟩,λh=>absurd h (by decide),λi h=>absurd h (Nat.not_lt_zero i),λx h=>by cases h⟩
theorem Zsx {o:List Nat}{i j:Nat}(hi:i < o.length):(front o i).getD j 0=if j=0 then o.getD i 0 else if j<=i then o.getD (j - 1) 0 else o.getD j 0:=by
 unfold front
 cases j with
 |zero=>rfl
 |succ j=>
  rw[getD_cons_succ,if_neg (by omega)];rw[gB,gB,gB]
  have hl:(o.take i).length=i:=by simp;omega
  split
  ·rw[gM (by omega),hI_ (by omega)];rfl
  ·rw[gT (by omega),hl,hH_]
   congr 2
   omega
theorem Zhh {p p':PS}{l:List Bool}{k:Nat}(h:pstep p l=.ok p' k) (hp:p.Ok) (hd:p.done=false):p'.Ok:=by
 unfold pstep at h;split at h
 ·rename_i h0;split at h
  ·cases h
  ·split at h
   ·cases h
   ·rename_i h1;cases h;have hq:p.picks=[]:=List.eq_nil_of_length_eq_zero (by have:=hp.len;omega);have ho:=(hp.new h0).2;refine⟨hp.ord,by simp only;omega,?_,λh=>by simp only at h;omega,λ_=>by simp only;omega,?_,?_⟩
    ·simp only[hq];exact hE _
    ·intro i hi;simp only at hi ⊢;rw[ho];generalize valB (l.take 18)/32768=t at hi h1
     have:t=2\/t=3\/t=4\/t=5\/t=6:=by omega
     have h6:i=0\/i=1\/i=2\/i=3\/i=4\/i=5:=by omega
     rcases h6 with rfl|rfl|rfl|rfl|rfl|rfl <;> simp <;> omega
    ·simp only[hq];intro x hx;cases hx
 ·rename_i h0;split at h
  ·cases h
  ·split at h
   ·cases h
   ·cases h;have ht:=hp.tbl (by omega);have hlen:=hp.len
    have hnd:p.picks.length < p.count:=by
     rcases hU_ p.picks.length p.count with h|h
     ·exact h
     ·simp[PS.done] at hd;omega
    have hlt:lead l < p.t:=by omega
    have hord:=hp.ord;refine⟨by simp only;rw[Zfj (by omega)];exact hp.ord,hp.cnt,by simp;omega,λh=>absurd h h0,λ_=>ht,?_,?_⟩
    ·intro i hi;simp only at hi ⊢;rw[Zsx (by omega)];split
     ·exact hp.low _ hlt
     ·split
      ·exact hp.low _ (by omega)
      ·exact hp.low _ hi
    ·intro x hx;simp only at hx ⊢;rcases hT_.1 hx with h|h
     ·exact hp.pks x h
     ·rw[mem_singleton] at h;subst h;exact hp.low _ hlt
theorem Zmq {p:PS}{l:List Bool}{c:Nat}(h:pstep p l=.bad c):c=25:=by
 unfold pstep at h;split at h
 ·split at h
  ·cases h
  ·split at h
   ·cases h;rfl
   ·cases h
 ·split at h
  ·cases h;rfl
  ·split at h
   ·cases h
   ·cases h
structure DS where
 size:Nat
 now:Nat
 lens:List Nat
def d0 (size:Nat):DS:=⟨size,0,[]⟩
def DS.done (d:DS):Bool:=decide (d.lens.length=d.size)
def turn (d:DS) (n:Int) (k:Nat):Res DS:=if n < 1\/20 < n then .bad 22 else .ok ⟨d.size,n.toNat,d.lens⟩ k
def dstep (d:DS) (l:List Bool):Res DS:=
 if d.now=0 then if l.length < 5 then .short else turn d (valB (l.take 5)) 5
 else match l with
  |[]=>.short
  |false::_=>.ok ⟨d.size,d.now,d.lens++[d.now]⟩ 1
  |[true]=>.short
  |true::c::_=>turn d ((d.now:Int)+1 - 2*c.toNat) 2
structure DS.Ok (d:DS):Prop where
 now:d.now<=20
 len:d.lens.length<=d.size
 all:∀ x∈d.lens,1<=x/\x<=20
theorem d0_ok (n:Nat):(d0 n).Ok:=⟨by simp[d0],by simp[d0],λx h=>by cases h⟩
theorem Zfi {d d':DS}{l:List Bool}{k:Nat}(h:dstep d l=.ok d' k) (hd:d.Ok) (hn:d.done=false):d'.Ok:=by
 unfold dstep at h;have hlen:=hd.len
 have hnd:d.lens.length < d.size:=by
  rcases hU_ d.lens.length d.size with h|h
  ·exact h
  ·simp[DS.done] at hn;omega
 split at h
 ·split at h
  ·cases h
  ·unfold turn at h;split at h
   ·cases h
   ·cases h;exact⟨by simp only;omega,hd.len,hd.all⟩
 ·split at h
  ·cases h
  ·cases h;refine⟨hd.now,by simp;omega,λx hx=>?_⟩;rcases hT_.1 hx with h|h
   ·exact hd.all x h
   ·rw[mem_singleton] at h;subst h;have:=hd.now;omega
  ·cases h
  ·unfold turn at h;split at h
   ·cases h
   ·cases h;exact⟨by simp only;omega,hd.len,hd.all⟩
theorem Zj3 {d:DS}{l:List Bool}{c:Nat}(h:dstep d l=.bad c):c=22:=by
 unfold dstep turn at h;split at h
 ·split at h
  ·cases h
  ·split at h
   ·cases h;rfl
   ·cases h
 ·split at h
  ·cases h
  ·cases h
  ·cases h
  ·split at h
   ·cases h;rfl
   ·cases h
end Go.Mp
namespace Go.Mz
structure ZS where
 n:Nat
 most:Nat
 told:Nat
 zeros:Nat
 weight:Nat
 done:Bool
def z0 (n most:Nat):ZS:=⟨n,most,0,0,1,false⟩
def zput (z:ZS) (c:Nat):Option (ZS × Nat × Int):=
 if c<=1 then
  if z.most < z.told+z.zeros+z.weight*2^c then none
  else some (⟨z.n,z.most,z.told,z.zeros+z.weight*2^c,z.weight*2,false⟩,0,-1)
 else if c=z.n+1 then some (⟨z.n,z.most,z.told+z.zeros,0,1,true⟩,z.zeros,-1)
 else if z.told+z.zeros=z.most then none
 else some (⟨z.n,z.most,z.told+1+z.zeros,0,1,false⟩,z.zeros,(c:Int) - 1)
structure ZS.Ok (z:ZS):Prop where
 n1:1<=z.n
 n2:z.n<=256
 most:z.most<=900000
 sum:z.told+z.zeros<=z.most
 w1:1<=z.weight
 w2:z.weight<=z.zeros+1
theorem z0_ok {n m:Nat}(h1:1<=n) (h2:n<=256) (h3:m<=900000):(z0 n m).Ok:=⟨h1,h2,h3,hE _,Nat.le_refl _,by simp[z0]⟩
theorem Zyc {z z':ZS}{c d:Nat}{p:Int}(hz:z.Ok) (h:zput z c=some (z',d,p)):z'.Ok:=by
 obtain⟨h1,h2,h3,h4,h5,h6⟩:=hz;unfold zput at h;split at h
 ·split at h
  ·cases h
  ·cases h;rename_i hc _
   have:c=0\/c=1:=by omega
   rcases this with rfl|rfl
   ·exact⟨h1,h2,h3,by simp only at *;omega,by simp only at *;omega,by simp only at *;omega⟩
   ·exact⟨h1,h2,h3,by simp only at *;omega,by simp only at *;omega,by simp only at *;omega⟩
 ·split at h
  ·cases h;exact⟨h1,h2,h3,by simp only at *;omega,by simp only at *;omega,by simp only at *;omega⟩
  ·split at h
   ·cases h
   ·cases h;exact⟨h1,h2,h3,by simp only at *;omega,by simp only at *;omega,by simp only at *;omega⟩
def frontB (o:List UInt8) (i:Nat):List UInt8:=o.getD i 0::(o.take i++o.drop (i+1))
theorem Zgm {o:List UInt8}{i:Nat}(h:i < o.length):(frontB o i).length=o.length:=by
 simp only[frontB,length_cons,gD,gN,gS];omega
def listed (T:Nat->Bool):List UInt8:=((List.range 256).filter T).map UInt8.ofNat
theorem Zbf (T:Nat->Bool):(listed T).length<=256:=by
 rw[listed,hS_];exact Nat.le_trans (List.length_filter_le _ _) (by simp)
theorem Zy0 (T:Nat->Bool):(listed T).Pairwise λa b=>a.toNat < b.toNat:=by
 unfold listed;rw[List.pairwise_map];refine List.Pairwise.imp_of_mem (R:=λa b=>a < b) (λ{a b} ha hb h=>?_) (List.Pairwise.filter _ List.pairwise_lt_range);have h1:=mem_range.1 (mem_filter.1 ha).1;have h2:=mem_range.1 (mem_filter.1 hb).1;rw[UInt8.toNat_ofNat_of_lt' (by simpa using h1),UInt8.toNat_ofNat_of_lt' (by simpa using h2)];exact h
theorem Zqg (T:Nat->Bool) (i:Nat) (h:i+1 < (listed T).length):((listed T).getD i 0).toNat < ((listed T).getD (i+1) 0).toNat:=by
 have:=List.pairwise_iff_getElem.1 (Zy0 T) i (i+1) (by omega) h (by omega);rw[gB,gB,gA (by omega),gA h];exact this
open Go.M01 Go.Mb Go.Mp
def marksL (q:List Bool):List Nat:=(List.range 16).filter λi=>q.getD i false
def usedT:List Nat->List Bool->Nat->Bool
 |[],_,_=>false
 |i::ms,l,b=>(decide (b/16=i)&&l.getD (b%16) false)||usedT ms (l.drop 16) b
def uread (l:List Bool):Res (Nat->Bool):=
 if l.length < 16 then .short
 else if l.length < 16+16*(marksL (l.take 16)).length then .short
 else if listed (usedT (marksL (l.take 16)) (l.drop 16))=[] then .bad 25
 else .ok (usedT (marksL (l.take 16)) (l.drop 16)) (16+16*(marksL (l.take 16)).length)
theorem Zno {q:List Bool}{i:Nat}(h:i∈marksL q):i < 16:=mem_range.1 (mem_filter.1 h).1
theorem Zk3 (q:List Bool):(marksL q).length<=16:=Nat.le_trans (List.length_filter_le _ _) (by simp)
theorem Zst {q:List Bool}{i:Nat}:i∈marksL q↔i < 16/\q.getD i false=true:=by
 unfold marksL;rw[mem_filter,mem_range]
theorem Zgq (i b:Nat):∀ (ms:List Nat) (l:List Bool),usedT (ms++[i]) l b=(usedT ms l b||(decide (b/16=i)&&(l.drop (16*ms.length)).getD (b%16) false))
 |[],l=>by simp[usedT]
 |j::ms,l=>by
  rw[List.cons_append,usedT,Zgq i b ms,usedT,List.drop_drop,length_cons,show 16+16*ms.length=16*(ms.length+1) by omega,Bool.or_assoc]
theorem Zw2 {l:List Bool}{c:Nat}(h:uread l=.bad c):c=25:=by
 unfold uread at h;split at h
 ·cases h
 ·split at h
  ·cases h
  ·split at h
   ·cases h;rfl
   ·cases h
def boolsT (T:Nat->Bool):List Bool:=(List.range 256).map T
theorem Zbv (T:Nat->Bool):(boolsT T).length=256:=by simp[boolsT]
theorem Zjs (T:Nat->Bool) (x:Nat):(boolsT T).set x true=boolsT λb=>T b||decide (b=x):=by
 apply ext_getElem
 ·simp[boolsT]
 intro i h1 h2;rw[List.getElem_set];simp only[boolsT,List.getElem_map,List.getElem_range]
 by_cases h:x=i
 ·subst h;simp
 ·rw[if_neg h,decide_eq_false (λe=>h e.symm),Bool.or_false]
theorem Zth (T:Nat->Bool){i:Nat}(h:i < 256):(boolsT T)[i]?=some (T i):=by rw[boolsT,hV_,getElem?_range h];rfl
theorem Zh4:boolsT (λ_=>false)=List.replicate 256 false:=by rw[boolsT,List.map_const',hW_]
end Go.Mz
namespace Go.Mx
open Go.M01 Go.Mb Go.Mz
def bitR (T:Nat->Bool) (i:Nat):List Bool:=(List.range 16).map λk=>T (16*i+k)
def someB (T:Nat->Bool) (i:Nat):Bool:=(List.range 16).any λk=>T (16*i+k)
def whichB (T:Nat->Bool) (j:Nat):List Bool:=(List.range 16).map λi=>decide (i < j)&&someB T i
def rowsB (T:Nat->Bool):Nat->List Bool
 |0=>[]
 |j+1=>rowsB T j++if someB T j then bitR T j else []
def usedB (T:Nat->Bool):List Bool:=whichB T 16++rowsB T 16
theorem Zb6 (T:Nat->Bool) (i:Nat):(bitR T i).length=16:=by simp[bitR]
theorem Zah (T:Nat->Bool) (j:Nat):(whichB T j).length=16:=by simp[whichB]
theorem Zfx (T:Nat->Bool) (i k:Nat) (h:k < 16):(bitR T i).getD k false=T (16*i+k):=by
 rw[gB,bitR,hV_,getElem?_range h];rfl
theorem Zeu (T:Nat->Bool) (j i:Nat) (h:i < 16):(whichB T j).getD i false=(decide (i < j)&&someB T i):=by
 rw[gB,whichB,hV_,getElem?_range h];rfl
theorem Ze9:∀ {q:List Bool}{i:Nat},i < q.length->(valB q).testBit (q.length - 1 - i)=q.getD i false:=by
 intro q
 induction q with
 |nil=>intro i h;simp at h
 |cons x l ih=>
  intro i h
  have hc:valB (x::l)=2^l.length*x.toNat+valB l:=by
   have key:∀ (l:List Bool) (a:Nat),l.foldl (λa b=>2*a+b.toNat) a=a*2^l.length+valB l:=by
    intro l
    induction l with
    |nil=>intro a;simp[valB]
    |cons y l ih2=>
     intro a
     have e:valB (y::l)=y.toNat*2^l.length+valB l:=by
      have:=ih2 y.toNat;rw[<-this];simp[valB]
     rw[e,List.foldl_cons,ih2,length_cons,Nat.pow_succ,Nat.add_mul,Nat.mul_comm 2 a,Nat.mul_assoc,Nat.mul_comm 2];omega
   have:=key l x.toNat;rw[Nat.mul_comm,<-this];simp[valB]
  rw[hc,Nat.testBit_two_pow_mul_add _ (Zb1 l)];simp only[length_cons] at h ⊢
  cases i with
  |zero=>
   rw[if_neg (by omega),show l.length+1 - 1 - 0 - l.length=0 by omega]
   cases x <;> rfl
  |succ i=>
   rw[if_pos (by omega),show l.length+1 - 1 - (i+1)=l.length - 1 - i by omega,ih (by omega)];rfl
theorem Zvx {a b:List Bool}{n k:Nat}(ha:a.length=n) (hb:b.length=n) (hk:k < n) (h:∀ i,i < n->b.getD i false=(a.getD i false||decide (i=k))):valB a ||| 2^(n - 1 - k)=valB b:=by
 apply Nat.eq_of_testBit_eq;intro j;rw[Nat.testBit_or,Nat.testBit_two_pow]
 by_cases hj:j < n
 ·have h1:=Ze9 (q:=a) (i:=n - 1 - j) (by omega);have h2:=Ze9 (q:=b) (i:=n - 1 - j) (by omega);rw[ha,show n - 1 - (n - 1 - j)=j by omega] at h1;rw[hb,show n - 1 - (n - 1 - j)=j by omega] at h2;rw[h1,h2,h _ (by omega)]
  congr 1
  rw[Bool.eq_iff_iff,decide_eq_true_iff,decide_eq_true_iff];omega
 ·have h1:(valB a).testBit j=false:=Nat.testBit_lt_two_pow (Nat.lt_of_lt_of_le (by have:=Zb1 a;rwa [ha] at this) (Nat.pow_le_pow_right (by decide) (by omega)));have h2:(valB b).testBit j=false:=Nat.testBit_lt_two_pow (Nat.lt_of_lt_of_le (by have:=Zb1 b;rwa [hb] at this) (Nat.pow_le_pow_right (by decide) (by omega)));rw[h1,h2,Bool.false_or,decide_eq_false (by omega)]
theorem Zql (l:List Bool):bitsOf (valB l) l.length=l:=by
 apply ext_getElem (by rw[Za1]);intro i h1 h2;have hg:=Go.M01.bitsOf_get (valB l) l.length i h2;rw[gA h1] at hg;have:=Ze9 h2;rw[gB,gA h2] at this;rw[Option.some.inj hg,this];rfl
theorem Zhm {T:Nat->Bool}{i:Nat}:valB (bitR T i)=0↔someB T i=false:=by
 constructor
 ·intro h;unfold someB;rw[List.any_eq_false];intro k hk;have hk:=mem_range.1 hk;have:=Ze9 (q:=bitR T i) (i:=k) (by rw[Zb6];exact hk);rw[h,Nat.zero_testBit,Zfx T i k hk] at this;rw[<-this];simp
 ·intro h;unfold someB at h;rw[List.any_eq_false] at h
  have e:bitR T i=List.replicate 16 false:=by
   unfold bitR;rw[List.eq_replicate_iff];refine⟨by simp,λb hb=>?_⟩;obtain⟨k,hk,rfl⟩:=List.mem_map.1 hb;simpa using h k hk
  rw[e];decide
def upT (s:List UInt8):Nat->Bool:=λb=>decide (UInt8.ofNat b∈s)
theorem Zlk {s:List UInt8}{c:UInt8}{b:Nat}(hb:b < 256):upT (s++[c]) b=(upT s b||decide (b=c.toNat)):=by
 unfold upT;rw[Bool.eq_iff_iff,decide_eq_true_iff,Bool.or_eq_true,decide_eq_true_iff,decide_eq_true_iff,hT_,mem_singleton]
 have:UInt8.ofNat b=c↔b=c.toNat:=by
  constructor
  ·intro h;rw[<-h,UInt8.toNat_ofNat_of_lt' hb]
  ·rintro rfl;simp
 rw[this]
theorem Zok {A B:Nat->Bool}(h:∀ x,x < 256->A x=B x):boolsT A=boolsT B:=by
 unfold boolsT;exact map_congr_left λx hx=>h x (mem_range.1 hx)
theorem Ydg {s:List UInt8}{c:UInt8}:valB (bitR (upT s) (c.toNat/16)) ||| 2^(15 - c.toNat%16)=valB (bitR (upT (s++[c])) (c.toNat/16)):=by
 have hc:=c.toNat_lt;refine Zvx (n:=16) (Zb6 _ _) (Zb6 _ _) (Nat.mod_lt _ (by decide)) λk hk=>?_;rw[Zfx _ _ _ hk,Zfx _ _ _ hk,Zlk (by omega)]
 congr 1
 rw[Bool.eq_iff_iff,decide_eq_true_iff,decide_eq_true_iff];omega
theorem Zzj {s:List UInt8}{c:UInt8}{i:Nat}(hi:i < 16) (h:i≠c.toNat/16):bitR (upT (s++[c])) i=bitR (upT s) i:=by
 have hc:=c.toNat_lt;unfold bitR;apply map_congr_left;intro k hk;have hk:=mem_range.1 hk;rw[Zlk (by omega),decide_eq_false (by omega),Bool.or_false]
theorem Zis {T:Nat->Bool}{b:Nat}(hb:b < 256):upT (listed T) b=T b:=by
 unfold upT;rw[Bool.eq_iff_iff,decide_eq_true_iff];unfold listed;rw[List.mem_map]
 constructor
 ·rintro⟨a,ha,hab⟩;obtain⟨h1,h2⟩:=mem_filter.1 ha;have h1:=mem_range.1 h1
  have:a=b:=by
   have:=congrArg UInt8.toNat hab
   rwa [UInt8.toNat_ofNat_of_lt' h1,UInt8.toNat_ofNat_of_lt' hb] at this
  rw[<-this];exact h2
 ·intro h;exact⟨b,mem_filter.2 ⟨mem_range.2 hb,h⟩,rfl⟩
theorem Yc0 {T:Nat->Bool}{i:Nat}(hi:i < 16):bitR (upT (listed T)) i=bitR T i:=by
 unfold bitR;apply map_congr_left;intro k hk;have hk:=mem_range.1 hk;exact Zis (by omega)
theorem Zv9 {T:Nat->Bool}{i:Nat}(hi:i < 16):someB (upT (listed T)) i=someB T i:=by
 unfold someB;rw[Bool.eq_iff_iff,List.any_eq_true,List.any_eq_true]
 constructor
 ·rintro⟨k,hk,h⟩;have hk':=mem_range.1 hk;rw[Zis (by omega)] at h;exact⟨k,hk,h⟩
 ·rintro⟨k,hk,h⟩;have hk':=mem_range.1 hk;exact⟨k,hk,by rw[Zis (by omega)];exact h⟩
theorem Yb2 {T:Nat->Bool}{j:Nat}(hj:j < 16) (hs:someB T j=true):valB (whichB T j) ||| 2^(15 - j)=valB (whichB T (j+1)):=by
 refine Zvx (n:=16) (Zah _ _) (Zah _ _) hj λi hi=>?_;rw[Zeu _ _ _ hi,Zeu _ _ _ hi]
 by_cases h1:i=j
 ·subst h1;rw[hs,decide_eq_true (show i < i+1 by omega),decide_eq_false (Nat.lt_irrefl i)];simp
 ·by_cases h2:i < j
  ·rw[decide_eq_true (show i < j+1 by omega),decide_eq_true h2,decide_eq_false h1,Bool.or_false]
  ·rw[decide_eq_false (show ¬ i < j+1 by omega),decide_eq_false h2,decide_eq_false h1];rfl
theorem Zsi {T:Nat->Bool}{j:Nat}(hs:someB T j=false):whichB T (j+1)=whichB T j:=by
 unfold whichB;apply map_congr_left;intro i hi
 by_cases h1:i=j
 ·subst h1;rw[hs,Bool.and_false,Bool.and_false]
 ·congr 1
  rw[Bool.eq_iff_iff,decide_eq_true_iff,decide_eq_true_iff];omega
theorem Zfq (T:Nat->Bool):∀ j,(rowsB T j).length<=16*j
 |0=>Nat.le_refl _
 |j+1=>by
  have:=Zfq T j;rw[rowsB,gD];split
  ·rw[Zb6];omega
  ·simp;omega
end Go.Mx
namespace Go.Vc
class RowN (P:Program) (t:TypeId) (e:outParam TypeId) (k:outParam Nat):Prop where
 und:P.underlying t=some (.slice e)
 inf:∃ i z,P.info? e=some i/\i.size=k/\i.bytes<=256/\i.zero=some z/\z.cells.size=k
variable {α:Type}{P:Program}{w:World}{L:List HProp}
def flatL (F:α->List Value):List α->List Value
 |[]=>[]
 |x::r=>F x++flatL F r
theorem Zfy (F:α->List Value) (a b:List α):flatL F (a++b)=flatL F a++flatL F b:=by
 induction a with
 |nil=>rfl
 |cons x r ih=>simp[flatL,ih]
theorem Zdx {F:α->List Value}{k:Nat}(hF:∀ x,(F x).length=k) (xs:List α):(flatL F xs).length=xs.length*k:=by
 induction xs with
 |nil=>simp[flatL]
 |cons x r ih=>simp[flatL,ih,hF,Nat.add_mul];omega
theorem Zga {F:α->List Value}{k:Nat}(hF:∀ x,(F x).length=k):∀ (xs:List α) (i:Nat) (x:α),xs[i]?=some x->((flatL F xs).drop (i*k)).take k=F x
 |y::r,0,x,h=>by
  simp at h;subst h;have:=hF y;simp[flatL,List.take_append,this]
 |y::r,i+1,x,h=>by
  have h1:=Zga hF r i x (by simpa using h);have:=hF y;rw[flatL,List.drop_append,this,List.drop_of_length_le (by rw[this,Nat.add_mul];omega),hO_,show (i+1)*k - k=i*k by rw[Nat.add_mul];omega];exact h1
def rwb (F:α->List Value) (k:Nat) (e:TypeId) (oa:Option Addr) (xs:List α) (m:Nat) (sp:List Value):HProp:=
 match oa with
 |none=>pur (xs=[]/\m=0)
 |some a=>λh=>a.off=0/\a.spot=none/\sp.length=m*k/\blk a.block e (flatL F xs++sp) h
def RW (F:α->List Value) (k:Nat) (e:TypeId) (v:Value) (xs:List α):HProp:=λh=>∃ oa m sp,v=.slice oa xs.length (xs.length+m)/\rwb F k e oa xs m sp h
theorem Holds.openRW (H:Holds w L) (i:Nat){F:α->List Value}{k:Nat}{e:TypeId}{v:Value}{xs:List α}(hi:L[i]?=some (RW F k e v xs)) :
  ∃ oa m sp,v=.slice oa xs.length (xs.length+m)/\Holds w (L.set i (rwb F k e oa xs m sp)):=by
 obtain⟨g,⟨oa,m,sp,hv,hg⟩,hs,hL⟩:=H.front i hi;exact⟨oa,m,sp,hv,Sat.push i hi ⟨g,hg,hs,hL⟩⟩
theorem Holds.nilRW (H:Holds w L) (F:α->List Value) (k:Nat) (e:TypeId):Holds w (RW F k e (.slice none 0 0) []::L):=
 ⟨λ_=>none,⟨none,0,[],rfl,rfl,rfl⟩,(λb o h=>by cases h),by
  have h0:(hp w).minus (λ_=>none)=hp w:=by funext b;simp[Hp.minus]
  rw[h0];exact H⟩
theorem Zul (i:Nat){F:α->List Value}{k:Nat}{e:TypeId}{b:Nat}(xs:List α) (H:Holds w L) (hi:L[i]?=some (blk b e (flatL F xs))):Holds w (L.set i (RW F k e (.slice (some ⟨b,0,none⟩) xs.length xs.length) xs)):=
 H.at i hi λg hg=>⟨some ⟨b,0,none⟩,0,[],by simp,rfl,rfl,by simp,by simpa using hg⟩
theorem Holds.rwb (H:Holds w L) (i:Nat){F:α->List Value}{k:Nat}{e:TypeId}{oa:Option Addr}{xs:List α}{m:Nat}{sp:List Value}(hi:L[i]?=some (rwb F k e oa xs m sp)) (hx:0 < xs.length\/0 < m) :
  ∃ b,oa=some ⟨b,0,none⟩/\sp.length=m*k/\Holds w (L.set i (blk b e (flatL F xs++sp))):=by
 cases oa with
 |none=>
  obtain⟨g,⟨h1,h2⟩,_⟩:=H.front i hi;subst h1;subst h2;simp at hx
 |some a=>
  obtain⟨g,⟨h1,h2,h3,h4⟩,hs,hL⟩:=H.front i hi;obtain⟨b,o,s⟩:=a;simp only at h1 h2;subst h1;subst h2;exact⟨b,rfl,h3,Sat.push i hi ⟨g,h4,hs,hL⟩⟩
theorem Zg4 (z:Array Value) (n:Nat):(Builtin.zeroCells z n).toList.length=n*z.size:=by simp[Builtin.zeroCells]
theorem r_apN {t e:TypeId}{k:Nat} [hr:RowN P t e k] (H:Holds w L) (i j:Nat){F:α->List Value}{v:Value}{xs ys:List α}{m' c' b2:Nat}{cs:List Value}{ty:TypeId}{K:KT}
  (hi:L[i]?=some (RW F k e v xs)) (hj:L[j]?=some (blk b2 e cs)) (hij:j≠i) (hcs:cs.take (ys.length*k)=flatL F ys) (hm:m'=ys.length) (hF:∀ y,(F y).length=k) (hs:∀ y,∀ u∈F y,sg u=true)
  (hn:xs.length+ys.length<=68719476736) (hne:0 < ys.length) (hk:0 < k)
  (h:∀ v' w',Same w w'->Holds w' (L.set i (RW F k e v' (xs++ys)))->K v' w') :
  Ap P #[t,t] ty #[v,.slice (some ⟨b2,0,none⟩) m' c'] w K:=by
 obtain⟨oa,m,sp,rfl,H⟩:=H.openRW i hi;have hi1:(L.set i (Vc.rwb F k e oa xs m sp))[i]?=some (Vc.rwb F k e oa xs m sp):=Za5 hi
 have hj1:(L.set i (Vc.rwb F k e oa xs m sp))[j]?=some (blk b2 e cs):=by rw[hY_ (λe=>hij e.symm)];exact hj
 subst hm;obtain⟨inf,z,hinf,hsz,hby,hzz,hzk⟩:=hr.inf;have hlen:=Zdx (k:=k) hF
 have hsg:∀ u∈flatL F ys,u.oneCell'=true:=by
  intro u hu;clear hcs hne hn h
  induction ys with
  |nil=>simp[flatL] at hu
  |cons y r ih=>
   rw[flatL,hT_] at hu;rcases hu with hu|hu
   ·exact Zwx (hs y u hu)
   ·exact ih hu
 have hnews:∀ q u,(flatL F ys)[q]?=some u->w.cell? ((⟨b2,0,none⟩:Addr).add q)=some u:=by
  intro q u hu
  have e1:(⟨b2,0,none⟩:Addr).add q=⟨b2,q,none⟩:=by
   unfold Addr.add;split
   ·rename_i h;rw[h]
   ·simp
  rw[e1,H.cell j hj1 q]
  have hq:q < ys.length*k:=by have:=(gH.1 hu).1;rw[hlen] at this;exact this
  rw[<-hu,<-hcs,hI_ hq]
 have hmul:(xs.length+ys.length)*inf.bytes<=140737488355328:=
  Nat.le_trans (Nat.mul_le_mul_left _ hby) (by omega)
 have fin:∀ (b' cap:Nat) (w':World) (sp':List Value) (L':List HProp),xs.length+ys.length<=cap->sp'.length=(cap - (xs.length+ys.length))*k->Same w w'->
   Holds w' (blk b' e (flatL F (xs++ys)++sp')::L.eraseIdx i)->K (.slice (some ⟨b',0,none⟩) (xs.length+ys.length) cap) w':=by
  intro b' cap w' sp' L' hc hsp S' H'
  have H4:=Holds.imp H' (Q:=RW F k e (.slice (some ⟨b',0,none⟩) (xs.length+ys.length) cap) (xs++ys)) λg hg=>⟨some ⟨b',0,none⟩,cap - (xs.length+ys.length),sp',by
   rw[gD];congr 1;omega,rfl,rfl,hsp,hg⟩
  exact h _ _ S' (Sat.push i hi H4)
 cases oa with
 |none=>
  obtain⟨g,⟨h2,h3⟩,_⟩:=H.front i hi1;subst h2;subst h3;simp only[length_nil,Nat.zero_add,hO_] at hn hmul fin ⊢;have hrun:=run_append_nil (P:=P) w t ty e inf z hr.und hinf hzz ⟨b2,0,none⟩ ys.length c' (flatL F ys) (by rw[hlen,hsz]) hnews (by omega) (by omega) (by omega);refine⟨_,_,hrun,?_⟩;have hcap:=grownCap_ge w ys.length 0 e;generalize grownCap w ys.length 0 e=cap at hcap ⊢;have H2:=(H.same (w':=w.drew) rfl).alloc (.cells ((flatL F ys).toArray++Builtin.zeroCells z.cells (cap - ys.length)) e);have H5:=H2.dropAt (i+1);rw[List.eraseIdx_cons_succ,List.eraseIdx_set_eq] at H5;refine fin _ cap _ (Builtin.zeroCells z.cells (cap - ys.length)).toList L (by omega) (by rw[Zg4,hzk]) ((Same.drew w).trans (.alloc _ _)) ?_
  have hc:((flatL F ys).toArray++Builtin.zeroCells z.cells (cap - ys.length))=(flatL F ys++(Builtin.zeroCells z.cells (cap - ys.length)).toList).toArray:=by simp
  rw[hc] at H5 ⊢;exact H5
 |some a=>
  have h4:=H.rwb i hi1;obtain⟨g,⟨h2,h3,hspl,_⟩,_⟩:=H.front i hi1;obtain⟨b,o,s⟩:=a;simp only at h2 h3;subst h2;subst h3
  have Hb:Holds w (L.set i (blk b e (flatL F xs++sp))):=by
   have:=H.at i hi1 (Q:=blk b e (flatL F xs++sp)) λg hg=>hg.2.2.2;rw[set_set] at this;exact this
  have hgi:(L.set i (blk b e (flatL F xs++sp)))[i]?=some (blk b e (flatL F xs++sp)):=Za5 hi
  have hold:∀ q u,(flatL F xs)[q]?=some u->w.cell? ((⟨b,0,none⟩:Addr).add q)=some u:=by
   intro q u hu
   have e1:(⟨b,0,none⟩:Addr).add q=⟨b,q,none⟩:=by
    unfold Addr.add;split
    ·rename_i h;rw[h]
    ·simp
   rw[e1,Hb.cell i hgi q,gM (gH.1 hu).1];exact hu
  rcases hU_ m ys.length with hg|hg
  ·have hrun:=run_append_grow (P:=P) w t ty e inf z hr.und hinf hzz ⟨b,0,none⟩ xs.length (xs.length+m) (flatL F xs) (by rw[hlen,hsz]) hold
    ⟨b2,0,none⟩ ys.length c' (flatL F ys) (by rw[hlen,hsz]) hnews (by omega) (by omega) (growslice_fits (by omega) hmul)
   refine⟨_,_,hrun,?_⟩;have hcap:=grownCap_ge w (xs.length+ys.length) (xs.length+m) e;generalize grownCap w (xs.length+ys.length) (xs.length+m) e=cap at hcap ⊢;have H2:=(Hb.same (w':=w.drew) rfl).alloc (.cells ((flatL F xs).toArray++(flatL F ys).toArray++Builtin.zeroCells z.cells (cap - (xs.length+ys.length))) e);have H5:=H2.dropAt (i+1);rw[List.eraseIdx_cons_succ,List.eraseIdx_set_eq] at H5;refine fin _ cap _ (Builtin.zeroCells z.cells (cap - (xs.length+ys.length))).toList L (by omega) (by rw[Zg4,hzk]) ((Same.drew w).trans (.alloc _ _)) ?_
   have hc:((flatL F xs).toArray++(flatL F ys).toArray++Builtin.zeroCells z.cells (cap - (xs.length+ys.length)))=(flatL F (xs++ys)++(Builtin.zeroCells z.cells (cap - (xs.length+ys.length))).toList).toArray:=by
    rw[Zfy];simp
   rw[hc] at H5 ⊢;exact H5
  ·have hobj:=Hb.obj i hgi;have hroom:(xs.length+ys.length)*k<=(xs.length+m)*k:=Nat.mul_le_mul_right _ (by omega)
   have hrun:=run_append_room (P:=P) w t ty e inf hr.und hinf b xs.length (xs.length+m) (flatL F xs++sp).toArray hobj
    ⟨b2,0,none⟩ ys.length c' (flatL F ys) (by rw[hlen,hsz]) hnews hsg (by omega) (by
     rw[hsz,List.size_toArray,gD,hspl];have e1:=hlen xs;have e2:=hlen ys;rw[Nat.add_mul,Nat.add_mul] at hroom
     omega)
   refine⟨_,_,hrun,?_⟩
   have hcells:(((flatL F xs++sp).toArray.toList.take (xs.length*inf.size)++flatL F ys++(flatL F xs++sp).toArray.toList.drop (xs.length*inf.size+(flatL F ys).length)).toArray)=(flatL F (xs++ys)++sp.drop (ys.length*k)).toArray:=by
    rw[hsz,Zfy];simp[List.take_append,List.drop_append,hlen]
   rw[hcells]
   have H3:Holds (w.setRow b (flatL F (xs++ys)++sp.drop (ys.length*k)).toArray) (L.set i (blk b e (flatL F (xs++ys)++sp.drop (ys.length*k)))):=by
    have:=Hb.upd (w':=w.setRow b (flatL F (xs++ys)++sp.drop (ys.length*k)).toArray) i hgi (o':=.cells (flatL F (xs++ys)++sp.drop (ys.length*k)).toArray e) (setRow_heap w b _ _ e _ hobj) λc hc=>setRow_other w b c _ hc;rw[set_set] at this;exact this
   have H6:=H3.front i (Za5 hi);rw[List.eraseIdx_set_eq] at H6;refine fin b (xs.length+m) _ (sp.drop (ys.length*k)) L (by omega) ?_ ⟨rfl,rfl,rfl,by simp⟩ H6;rw[gS,hspl,show xs.length+m - (xs.length+ys.length)=m - ys.length by omega,Nat.sub_mul]
theorem Zfd {t e:TypeId}{k:Nat} [hr:RowN P t e k] (H:Holds w L) (i:Nat){F:α->List Value}{v:Value}{xs:List α}{ps:Array (Nat × Value)}{ty:TypeId}{K:KT}(x:α)
  (hi:L[i]?=some (RW F k e v xs)) (hb:(Instr.buildSlice t 1 ps).run P w=.ok (.slice (some ⟨w.heap.size,0,none⟩) 1 1) (w.alloc (.cells (F x).toArray e)))
  (hF:∀ y,(F y).length=k) (hs:∀ y,∀ u∈F y,sg u=true)
  (hn:xs.length+1<=68719476736) (hk:0 < k)
  (h:∀ v' w',Same w w'->Holds w' (L.set i (RW F k e v' (xs++[x])))->K v' w'):Bs P t 1 ps w λy w2=>Ap P #[t,t] ty #[v,y] w2 K:=by
 refine r_bsK (F x) H hb λb3 w3 S3 H3=>?_;refine r_apN (F:=F) (ys:=[x]) H3 (i+1) 0 (by rw[gF];exact hi) rfl (by omega) (by simp[flatL,gK,hF]) rfl hF hs (by simpa using hn) (by simp) hk λv' w4 S4 H4=>?_;rw[gW] at H4;exact h _ _ (S3.trans S4) H4.drop
theorem r_ldN (i:Nat) (H:Holds w L){F:α->List Value}{k:Nat}{e:TypeId}{oa:Option Addr}{xs:List α}{m:Nat}{sp:List Value}{l c q:Nat}{kk:IntKind}{x:α}{K:Value->Prop}
  (hi:L[i]?=some (rwb F k e oa xs m sp)) (hx:xs[q]?=some x) (hF:∀ y,(F y).length=k) (hl:q < l) (h:K (.agg (F x).toArray)) :
  Ias k (.slice oa l c) (.int kk (q:Int)) λy=>LdA k y w K:=by
 have hlt:q < xs.length:=(gH.1 hx).1;obtain⟨b,rfl,hsp,Hb⟩:=H.rwb i hi (.inl (by omega));refine Zwi hl ?_;refine r_ldA i Hb (F x) (Za5 hi) ?_ (hF x) h;have h1:=Zga hF xs q x hx
 have hq:q*k+k<=xs.length*k:=by
  have:(q+1)*k<=xs.length*k:=Nat.mul_le_mul_right _ (by omega);rw[Nat.add_mul,Nat.one_mul] at this;exact this
 have hlen:=Zdx (k:=k) hF xs;rw[drop_append_of_le_length (by omega),List.take_append_of_le_length (by rw[gS];omega)];exact h1
theorem r_bpK {op:BinOp}{x y:Value}{K:Value->Prop}(v:Value) (h:bp op x y=some v) (k:K v):Bp op x y K:=⟨v,h,k⟩
end Go.Vc
namespace Go.Vc
variable {P:Program}{w:World}{L:List HProp}
theorem Zop {s t:Nat}{K:Value->Prop}(hs:s < 4294967296) (ht:t < 4294967296) (h:K (.int .u32 ((s ||| t:Nat):Int))):Bp .or (.int .u32 (s:Int)) (.int .u32 (t:Int)) K:=by
 refine⟨_,?_,h⟩;have hb:IntKind.u32.bits=32:=rfl;have hx:s ||| t < 2^32:=Nat.or_lt_two_pow (by simpa using hs) (by simpa using ht);simp only[bp,if_true];rw[hb,BitVec.toNat_or,BitVec.toNat_ofInt,BitVec.toNat_ofInt]
 have e1:((s:Int)%((2^32:Nat):Int)).toNat=s:=by omega
 have e2:((t:Int)%((2^32:Nat):Int)).toNat=t:=by omega
 rw[e1,e2,wrapU32 (by omega) (by omega)]
theorem Ycd {s t:Nat}{K:Value->Prop}(hs:s < 256) (ht:t < 256) (h:K (.int .u8 ((s &&& t:Nat):Int))):Bp .and (.int .u8 (s:Int)) (.int .u8 (t:Int)) K:=by
 refine⟨_,?_,h⟩;have hb:IntKind.u8.bits=8:=rfl;have hx:s &&& t<=s:=Nat.and_le_left;simp only[bp,if_true];rw[hb,BitVec.toNat_and,BitVec.toNat_ofInt,BitVec.toNat_ofInt]
 have e1:((s:Int)%((2^8:Nat):Int)).toNat=s:=by omega
 have e2:((t:Int)%((2^8:Nat):Int)).toNat=t:=by omega
 rw[e1,e2,wrapU8 (by omega) (by omega)]
theorem Zld {s t:Nat}{K:Value->Prop}(h1:s+t < 4294967296) (h:K (.int .u32 ((s+t:Nat):Int))):Bp .add (.int .u32 (s:Int)) (.int .u32 (t:Int)) K:=by
 refine⟨_,?_,h⟩;simp only[bp,if_true];rw[<-Int.natCast_add,wrapU32 (by omega) (by omega)]
theorem Zhp {s t:Nat}{K:Value->Prop}(h0:t<=s) (h1:s < 4294967296) (h:K (.int .u32 ((s - t:Nat):Int))):Bp .sub (.int .u32 (s:Int)) (.int .u32 (t:Int)) K:=by
 refine⟨_,?_,h⟩;simp only[bp,if_true];rw[show (s:Int) - (t:Int)=((s - t:Nat):Int) by omega,wrapU32 (by omega) (by omega)]
theorem Zwc {s t:Nat}{K:Value->Prop}(h0:t<=s) (h1:s < 256) (h:K (.int .u8 ((s - t:Nat):Int))):Bp .sub (.int .u8 (s:Int)) (.int .u8 (t:Int)) K:=by
 refine⟨_,?_,h⟩;simp only[bp,if_true];rw[show (s:Int) - (t:Int)=((s - t:Nat):Int) by omega,wrapU8 (by omega) (by omega)]
theorem Zbn {P:HProp}{L L':List HProp}{h:Hp}(hL:∀ h,Sat L h->Sat L' h) (H:Sat (P::L) h):Sat (P::L') h:=by
 obtain⟨g,hg,hs,hr⟩:=H;exact⟨g,hg,hs,hL _ hr⟩
def live:List (Option HProp)->List HProp
 |[]=>[]
 |none::M=>live M
 |some P::M=>P::live M
def dead:List (Option HProp)->Nat->List (Option HProp)
 |[],_=>[]
 |_::M,0=>none::M
 |x::M,i+1=>x::dead M i
def sel:List Nat->List (Option HProp)->Option (List HProp)
 |[],_=>some []
 |i::is,M=>match M[i]? with
  |some (some P)=>(match sel is (dead M i) with
   |some R=>some (P::R)
   |none=>none)
  |_=>none
theorem Zj5:∀ (M:List (Option HProp)) (i:Nat){P:HProp}{L:List HProp}{h:Hp},M[i]?=some (some P)->Sat (live M++L) h->Sat (P::(live (dead M i)++L)) h
 |[],i,P,L,h,hi,H=>by simp at hi
 |none::M,0,P,L,h,hi,H=>by simp at hi
 |some Q::M,0,P,L,h,hi,H=>by
  simp at hi;subst hi;exact H
 |none::M,i+1,P,L,h,hi,H=>Zj5 M i (by simpa using hi) H
 |some Q::M,i+1,P,L,h,hi,H=>Sat.swap (Zbn (λh' H'=>Zj5 M i (by simpa using hi) H') H)
theorem Ziz:∀ (M:List (Option HProp)){L:List HProp}{h:Hp},Sat (live M++L) h->Sat L h
 |[],_,_,H=>H
 |none::M,_,_,H=>Ziz M H
 |some Q::M,L,h,H=>Ziz M (by
  obtain⟨g,_,_,hL⟩:=H
  exact hL.mono λb o hb=>by
   unfold Hp.minus at hb;split at hb
   ·cases hb
   ·exact hb)
theorem Zxn:∀ (is:List Nat){M:List (Option HProp)}{R L:List HProp}{h:Hp},sel is M=some R->Sat (live M++L) h->Sat (R++L) h
 |[],M,R,L,h,hR,H=>by
  cases hR;exact Ziz M H
 |i::is,M,R,L,h,hR,H=>by
  unfold sel at hR;split at hR
  ·rename_i P hP;split at hR
   ·rename_i R' hR';cases hR;exact Zbn (λh' H'=>Zxn is hR' H') (Zj5 M i hP H)
   ·cases hR
  ·cases hR
theorem Znw:∀ (F:List HProp),live (F.map some)=F
 |[]=>rfl
 |P::F=>by rw[hR_,live,Znw F]
theorem Holds.ord (n:Nat) (is:List Nat) (H:Holds w L){R:List HProp}(hR:sel is ((L.take n).map some)=some R):Holds w (R++L.drop n):=by
 refine Zxn is hR ?_;rw[Znw,hN_];exact H
theorem Yad {i j:Nat}{X Y Q:HProp}(hij:i≠j) (hj:L[j]?=some Q):((L.set j X).set i Y).set j Q=L.set i Y:=by
 have e:L.set j Q=L:=by
  have hl:j < L.length:=(gH.1 hj).1;have h2:L[j]=Q:=(gH.1 hj).2;rw[<-h2,List.set_getElem_self]
 have e1:(L.set j X).set i Y=(L.set i Y).set j X:=List.set_comm _ _ (Ne.symm hij);have e2:(L.set i Y).set j Q=(L.set j Q).set i Y:=List.set_comm _ _ hij;rw[e1,set_set,e2,e]
theorem r_apS {α:Type}{t e:TypeId}{z:Value} [hr:Row P t e z] (H:Holds w L) (i j:Nat) (hij:i≠j){f:α->Value}{v v2:Value}{xs ys:List α}{ty:TypeId}{K:KT}
  (hi:L[i]?=some (SL f e v xs)) (hj:L[j]?=some (SL f e v2 ys)) (hs:∀ y,sg (f y)=true) (hn:xs.length+ys.length<=1099511627776)
  (h:∀ v' w',Same w w'->Holds w' (L.set i (SL f e v' (xs++ys)))->K v' w'):Ap P #[t,t] ty #[v,v2] w K:=by
 obtain⟨inf,hinf,hsz,hby,hzz⟩:=hr.inf
 have nothing:ys=[]->(∃ oa c,v2=.slice oa 0 c)->Ap P #[t,t] ty #[v,v2] w K:=by
  rintro rfl ⟨oa2,c2,rfl⟩;obtain⟨oa,sp,rfl,_⟩:=H.open i hi
  have hsrc:Src P inf.size t (.slice oa2 0 c2) 0 [] w:=by
   cases oa2 with
   |none=>exact Src.ofNil w hr.und c2
   |some a=>exact Src.ofSlice w hr.und a 0 c2 [] (by simp) (λj u hu=>by simp at hu) (λ_ h=>by cases h)
  refine⟨_,_,run_append_nothing w t t ty e inf hr.und hinf oa xs.length (xs.length+sp.length) (by omega) _ hsrc,h _ _ (.refl _) ?_⟩
  rw[gU,show L.set i (SL f e (.slice oa xs.length (xs.length+sp.length)) xs)=L from by
   have hl:i < L.length:=(gH.1 hi).1;have e1:L[i]=_:=(gH.1 hi).2
   rw[<-e1,List.set_getElem_self]]
  exact H
 obtain⟨oa2,sp2,rfl,H1⟩:=H.open j hj
 cases oa2 with
 |none=>
  obtain⟨g,⟨h2,_⟩,_⟩:=H1.front j (Za5 hj);exact nothing h2 ⟨_,_,by rw[h2];rfl⟩
 |some a=>
  obtain⟨g,⟨h2,h3,_⟩,_⟩:=H1.front j (Za5 hj);obtain⟨b2,o,s⟩:=a;simp only at h2 h3;subst h2;subst h3
  by_cases hy:ys=[]
  ·exact nothing hy ⟨_,_,by rw[hy];rfl⟩
  ·have hy0:0 < ys.length:=gZ.2 hy;have H2:=H1.slb j (Za5 hj);rw[set_set] at H2
   have hi2:(L.set j (blk b2 e (ys.map f++sp2)))[i]?=some (SL f e v xs):=by rw[hY_ (Ne.symm hij)];exact hi
   obtain⟨oa,sp,rfl,H3⟩:=H2.open i hi2;refine r_ap (f:=f) (ys:=ys) H3 i j (xs:=xs) (sp:=sp) (Za5 hi2) (by rw[hY_ hij];exact Za5 hj) (by simp) rfl rfl rfl hs hn hy0 λoa' sp' w4 S4 H4=>?_;rw[set_set] at H4;have hi3:(L.set j (blk b2 e (ys.map f++sp2)))[i]?=some (SL f e (.slice oa xs.length (xs.length+sp.length)) xs):=hi2;have H5:=H4.close i (Za5 hi3);rw[set_set] at H5;have H6:=H5.at j (Q:=SL f e (.slice (some ⟨b2,0,none⟩) ys.length (ys.length+sp2.length)) ys) (by rw[hY_ hij];exact Za5 hj) λg hg=>⟨some ⟨b2,0,none⟩,sp2,rfl,rfl,rfl,hg⟩;rw[Yad hij hj] at H6
   have e1:xs.length+ys.length=(xs++ys).length:=by simp
   rw[e1];exact h _ _ S4 H6
theorem r_mf {fn:Fn}{f c:Array Value}{K:Value->Prop}(v:Value) (h:(Instr.makeFunc fn f c).run P w=.ok v w) (k:K v):Mf P fn f c w K:=⟨v,h,k⟩
theorem Zow {α:Type}{t e:TypeId}{z:Value} [hr:Row P t e z] (H:Holds w L) (i:Nat){f:α->Value}{v:Value}{xs:List α}{ty:TypeId}{N:Node}{K:KT}
  (hi:L[i]?=some (SL f e v xs)) (x:α) (hs:∀ y,sg (f y)=true) (hn:xs.length+1<=1099511627776) (hN:∀ w',Holds w' L->N w' λu=>u=v)
  (h:∀ v' w',Same w w'->Holds w' (L.set i (SL f e v' (xs++[x])))->K v' w'):Bs P t 1 #[(0,f x)] w λy w2=>Rk N v w2 (Ap P #[t,t] ty #[v,y] w2 K):=by
 refine r_bs1 H (hs x) λb3 w3 S3 H3=>r_rk (hN _ H3.drop) ?_;obtain⟨oa,sp,rfl,H4⟩:=H3.open (i+1) (by rw[gF];exact hi);rw[gW] at H4;refine r_ap (f:=f) (ys:=[x]) H4 (i+1) 0 (xs:=xs) (sp:=sp) (by rw[gF];exact Za5 hi) rfl rfl rfl rfl rfl hs (by rw[gQ];omega) (by simp) λoa' sp' w4 S4 H4=>?_;rw[gW,set_set] at H4;have H5:=H4.drop.close i (Za5 hi);rw[set_set] at H5
 have e:xs.length+[x].length=(xs++[x]).length:=by simp
 rw[e];exact h _ _ (S3.trans S4) H5
theorem Ycy {s t:Nat}{K:Value->Prop}(hs:s < 256) (ht:t < 256) (h:K (.int .u8 ((s ^^^ t:Nat):Int))):Bp .xor (.int .u8 (s:Int)) (.int .u8 (t:Int)) K:=by
 refine⟨_,?_,h⟩;have hb:IntKind.u8.bits=8:=rfl;have hx:s ^^^ t < 2^8:=Nat.xor_lt_two_pow (by simpa using hs) (by simpa using ht);simp only[bp,if_true];rw[hb,BitVec.toNat_xor,BitVec.toNat_ofInt,BitVec.toNat_ofInt]
 have e1:((s:Int)%((2^8:Nat):Int)).toNat=s:=by omega
 have e2:((t:Int)%((2^8:Nat):Int)).toNat=t:=by omega
 rw[e1,e2,wrapU8 (by omega) (by omega)]
theorem Zru {s:Nat}{K:Value->Prop}(hs:s < 4294967296) (h:K (.int .u32 ((4294967295 - s:Nat):Int))):Up .xor (.int .u32 (s:Int)) K:=by
 refine⟨_,?_,h⟩;simp only[up];have e1:(if IntKind.u32.signed=true then (-1:Int) else IntKind.u32.max)=4294967295:=rfl;have e2:BitVec.ofInt IntKind.u32.bits 4294967295=BitVec.allOnes 32:=rfl;have hb:IntKind.u32.bits=32:=rfl;rw[e1,e2];show some (Value.int .u32 (IntKind.u32.wrap (BitVec.allOnes 32 ^^^ BitVec.ofInt 32 (s:Int)).toNat))=_;rw[BitVec.allOnes_xor,BitVec.toNat_not,BitVec.toNat_ofInt]
 have e3:((s:Int)%((2^32:Nat):Int)).toNat=s:=by omega
 rw[e3,wrapU32 (by omega) (by omega)]
theorem Ydq {a n:Nat}{k':IntKind}{K:Value->Prop}(hn:n<=64) (h1:a*2^n < 9223372036854775808) (h:K (.int .i64 ((a*2^n:Nat):Int))):Bp .shl (.int .i64 (a:Int)) (.int k' (n:Int)) K:=by
 refine⟨_,?_,h⟩;have hb:IntKind.i64.bits=64:=rfl;simp only[bp];rw[if_neg (by omega),gC,hb,Nat.min_eq_left hn]
 have e:(a:Int)*2^n=((a*2^n:Nat):Int):=by simp
 rw[e,wrap64 (by omega) (by omega)]
theorem Zy3 {size:Nat}{a:Option Addr}{n c l h:Nat}{k k':IntKind}{K:Value->Prop}(h1:l<=h) (h2:h<=c) (hK:K (.slice (if c=l then a else a.map (·.add (l*size))) (h - l) (c - l))) :
  Ssl size (.slice a n c) (some (.int k (l:Int))) (some (.int k' (h:Int))) K:=⟨a,n,c,l,h,rfl,⟨k,rfl⟩,⟨k',rfl⟩,h1,h2,hK⟩
theorem r_cp {ats:Array TypeId}{t:TypeId}{args:Array Value}{K:KT}{v:Value}{w':World}(h:(Builtin.copy_ ats t args).run P w=.ok v w') (k:K v w'):Cp P ats t args w K:=⟨v,w',h,k⟩
theorem r_lnS {α:Type}(i:Nat) (H:Holds w L){f:α->Value}{e:TypeId}{v:Value}{xs:List α}{K:Value->Prop}(hi:L[i]?=some (SL f e v xs)) (h:K (nv xs.length)):Lnl v K:=by
 obtain⟨oa,sp,rfl,_⟩:=H.open i hi;exact r_lnl h
theorem Za6 {α:Type}(i:Nat) (H:Holds w L){f:α->Value}{e:TypeId}{v:Value}{xs:List α}{k:IntKind}{j:Nat}{x:α}{K:Value->Prop}(hi:L[i]?=some (SL f e v xs)) (hx:xs[j]?=some x) (h:K (f x)) :
  Ias 1 v (.int k (j:Int)) λp=>Ld p w K:=by
 obtain⟨oa,sp,rfl,H1⟩:=H.open i hi;have hj:j < xs.length:=(gH.1 hx).1;refine Zi3 i H1 (Za5 hi) hj (Nat.le_refl _) λb hb=>?_;subst hb;exact Zmr i H1 (Za5 hi) hx h
theorem Zat {α:Type}(i:Nat) (H:Holds w L){f:α->Value}{e:TypeId}{v:Value}{xs:List α}{k:IntKind}{j:Nat}(x:α){K:World->Prop}(hi:L[i]?=some (SL f e v xs)) (hj:j < xs.length) (hs:sg (f x)=true)
  (h:∀ w',Same w w'->Holds w' (L.set i (SL f e v (xs.set j x)))->K w'):Ias 1 v (.int k (j:Int)) λp=>St p (f x) w K:=by
 obtain⟨oa,sp,rfl,H1⟩:=H.open i hi;refine Zi3 i H1 (Za5 hi) hj (Nat.le_refl _) λb hb=>?_;subst hb;refine Ybq i H1 x (Za5 hi) hj rfl hs λw2 S2 H2=>?_;rw[set_set] at H2;have H3:=H2.close i (Za5 hi);rw[set_set,hX_] at H3;exact h _ S2 H3
theorem SL_sg {α:Type}{f:α->Value}{e:TypeId}{v:Value}{xs:List α}(H:Holds w L) (i:Nat) (hi:L[i]?=some (SL f e v xs)):sg v=true:=by
 obtain⟨oa,sp,rfl,_⟩:=H.open i hi;rfl
theorem Zm2 {α:Type}{f:α->Value}(pre:List Value){post:List Value}{xs:List α}{j:Nat}{x:α}(h:xs[j]?=some x):(pre++(xs.map f++post))[pre.length+j]?=some (f x):=by
 have hj:j < xs.length:=(gH.1 h).1;rw[gT (by omega),Nat.add_sub_cancel_left,gM (by simpa using hj),hV_,h];rfl
theorem Zj4 {α:Type}{f:α->Value}(pre:List Value){post:List Value}{xs:List α}{j:Nat}(x:α) (h:j < xs.length):(pre++(xs.map f++post)).set (pre.length+j) (f x)=pre++((xs.set j x).map f++post):=by
 rw[set_append_right _ _ (by omega),Nat.add_sub_cancel_left,List.set_append_left _ _ (by simpa using h),map_set]
theorem Yai {α:Type}{f:α->Value}(pre:List Value){post:List Value}{xs:List α}{n j:Nat}(hn:xs.length=n):(pre++(xs.map f++post))[pre.length+n+j]?=post[j]?:=by
 rw[gT (by omega),gT (by simp;omega)]
 congr 1
 simp;omega
theorem Zzy {α:Type}{f:α->Value}(pre:List Value){post:List Value}{xs:List α}{n j:Nat}(v:Value) (hn:xs.length=n):(pre++(xs.map f++post)).set (pre.length+n+j) v=pre++(xs.map f++post.set j v):=by
 rw[set_append_right _ _ (by omega),set_append_right _ _ (by simp;omega)]
 congr 3
 simp;omega
end Go.Vc
namespace Go.M10
open Go.M01 Go.Mb
def nx (lens:List Nat):Nat->Nat
 |0=>0
 |n+1=>2*nx lens n+lens.count (n+1)
def fst_ (lens:List Nat) (n:Nat):Nat:=2*nx lens (n - 1)
def grp (lens:List Nat) (k n:Nat):List Nat:=(List.range k).filter λi=>decide (lens.getD i 0=n)
def upto (lens:List Nat):Nat->List Nat
 |0=>[]
 |n+1=>upto lens n++grp lens lens.length (n+1)
def frm (lens:List Nat) (n:Nat):Nat:=(upto lens (n - 1)).length
def share (lens:List Nat):Nat:=(lens.map λx=>2^(20 - x)).sum
def Sized (lens:List Nat):Prop:=∀ x∈lens,1<=x/\x<=20
structure Whole (lens:List Nat):Prop where
 sized:Sized lens
 share:share lens=1048576
theorem Zos (lens:List Nat) (n:Nat):∀ k,k<=lens.length->(grp lens k n).length=(lens.take k).count n:=by
 intro k
 induction k with
 |zero=>intro _;simp[grp]
 |succ k ih=>
  intro hk;have:=ih (by omega);unfold grp at this ⊢;have hg:lens[k]?=some lens[k]:=gA (by omega);rw[range_succ,List.filter_append,gD,this,Zai hg,List.count_append]
  congr 1
  have hd:lens.getD k 0=lens[k]:=by rw[gB,hg];rfl
  rw[filter_cons,hd,List.filter_nil,count_cons,List.count_nil]
  by_cases h:lens[k]=n
  ·rw[if_pos (by simpa using h),if_pos (by simpa using h)];rfl
  ·rw[if_neg (by simpa using h),if_neg (by simpa using h)];rfl
theorem Zf8 (lens:List Nat) (n:Nat):(grp lens lens.length n).length=lens.count n:=by
 rw[Zos lens n _ (Nat.le_refl _),hF_]
theorem Ya2 (lens:List Nat) (n:Nat) (h:1<=n):frm lens (n+1)=frm lens n+lens.count n:=by
 obtain⟨m,rfl⟩:∃ m,n=m+1:=⟨n - 1,by omega⟩;unfold frm;rw[Nat.add_sub_cancel,Nat.add_sub_cancel,upto,gD,Zf8]
theorem nx_eq (lens:List Nat) (n:Nat) (h:1<=n):nx lens n=fst_ lens n+lens.count n:=by
 obtain⟨m,rfl⟩:∃ m,n=m+1:=⟨n - 1,by omega⟩;rw[nx,fst_,Nat.add_sub_cancel]
def shareTo (lens:List Nat) (n:Nat):Nat:=(lens.map λx=>if x<=n then 2^(20 - x) else 0).sum
theorem Zn6 (lens:List Nat) (n:Nat):shareTo lens (n+1)=shareTo lens n+lens.count (n+1)*2^(20 - (n+1)):=by
 induction lens with
 |nil=>simp[shareTo]
 |cons x l ih=>
  simp only[shareTo,hR_,hQ_] at ih ⊢;rw[ih,count_cons]
  by_cases h1:x<=n
  ·rw[if_pos (by omega),if_pos h1,if_neg (by simp;omega)];simp;omega
  ·by_cases h2:x=n+1
   ·subst h2;rw[if_pos (by omega),if_neg h1,if_pos (by simp),Nat.add_mul];omega
   ·rw[if_neg (by omega),if_neg h1,if_neg (by simpa using h2)];simp
theorem Yak {lens:List Nat}(hs:Sized lens):∀ n,n<=20->nx lens n*2^(20 - n)=shareTo lens n:=by
 intro n
 induction n with
 |zero=>
  intro _
  have:∀ l:List Nat,(∀ x∈l,1<=x)->shareTo l 0=0:=by
   intro l
   induction l with
   |nil=>intro _;rfl
   |cons x l ih=>
    intro h;simp only[shareTo,hR_,hQ_] at ih ⊢;rw[ih λy hy=>h y (hK_ _ hy),if_neg (by have:=h x hJ_;omega)]
  rw[this lens λx hx=>(hs x hx).1];simp[nx]
 |succ n ih=>
  intro hn;rw[Zn6,<-ih (by omega),nx,Nat.add_mul]
  congr 1
  rw[show 20 - n=(20 - (n+1))+1 by omega,Nat.pow_succ];rw[Nat.mul_comm 2,Nat.mul_assoc,Nat.mul_comm 2]
theorem Zu7 {lens:List Nat}(hs:Sized lens):shareTo lens 20=share lens:=by
 induction lens with
 |nil=>rfl
 |cons x l ih=>
  simp only[shareTo,share,hR_,hQ_] at ih ⊢;rw[ih λy hy=>hs y (hK_ _ hy),if_pos (hs x hJ_).2]
theorem nx_20 {lens:List Nat}(h:Whole lens):nx lens 20=1048576:=by
 have:=Yak h.sized 20 (by omega);rw[Zu7 h.sized,h.share] at this;omega
theorem Ycl (lens:List Nat) (n:Nat):2*nx lens n<=nx lens (n+1):=by rw[nx];omega
theorem Ybj (lens:List Nat) (n:Nat):∀ k,nx lens n*2^k<=nx lens (n+k):=by
 intro k
 induction k with
 |zero=>simp
 |succ k ih=>
  have:=Ycl lens (n+k);rw[Nat.pow_succ,<-Nat.mul_assoc,<-hG_];omega
theorem nx_le {lens:List Nat}(h:Whole lens) (n:Nat) (hn:n<=20):nx lens n<=2^n:=by
 have h1:=Ybj lens n (20 - n);rw[show n+(20 - n)=20 by omega,nx_20 h] at h1
 have h2:2^n*2^(20 - n)=1048576:=by rw[<-Nat.pow_add,show n+(20 - n)=20 by omega]
 rw[<-h2] at h1;exact Nat.le_of_mul_le_mul_right h1 (Nat.two_pow_pos _)
theorem Yby (lens:List Nat) (h:Sized lens):∀ n,n<=20->(upto lens n).length<=lens.length:=by
 have key:∀ n,(upto lens n).length=(lens.filter λx=>decide (1<=x/\x<=n)).length:=by
  intro n
  induction n with
  |zero=>
   have:∀ l:List Nat,(l.filter λx=>decide (1<=x/\x<=0))=[]:=λl=>by
    rw[List.filter_eq_nil_iff];intro x _;simp;omega
   rw[this];rfl
  |succ n ih=>
   rw[upto,gD,ih,Zf8];clear ih h
   induction lens with
   |nil=>rfl
   |cons x l ih=>
    rw[count_cons,filter_cons,filter_cons]
    by_cases h1:1<=x/\x<=n
    ·rw[if_pos (by simpa using h1),if_neg (by simp;omega),if_pos (by simp;omega)];simp only[length_cons];omega
    ·by_cases h2:x=n+1
     ·subst h2;rw[if_neg (by simp),if_pos (by simp),if_pos (by simp)];simp only[length_cons];omega
     ·rw[if_neg (by simpa using h1),if_neg (by simpa using h2),if_neg (by simp;omega)];omega
 intro n _;rw[key];exact List.length_filter_le _ _
def hit (lens:List Nat) (l:List Bool) (i:Nat):Bool:=decide (i+1<=l.length/\valB (l.take (i+1)) < nx lens (i+1))
def getC (lens:List Nat) (l:List Bool):Option (Nat × Nat):=
 ((List.range 20).find? (hit lens l)).map λi=>((upto lens 20).getD (frm lens (i+1)+(valB (l.take (i+1)) - fst_ lens (i+1))) 0,i+1)
theorem Zo4 {lens:List Nat}{l:List Bool}{i:Nat}(hi:i < 20) (h:hit lens l i=true) (hn:∀ j,j < i->hit lens l j=false) :
  getC lens l=some ((upto lens 20).getD (frm lens (i+1)+(valB (l.take (i+1)) - fst_ lens (i+1))) 0,i+1):=by
 unfold getC
 have:(List.range 20).find? (hit lens l)=some i:=by
  rw[List.find?_range_eq_some];exact⟨h,mem_range.2 hi,λj hj=>by rw[hn j hj];rfl⟩
 rw[this];rfl
theorem Zuk {lens:List Nat}{l:List Bool}(h:∀ j,j < 20->hit lens l j=false):getC lens l=none:=by
 unfold getC
 have:(List.range 20).find? (hit lens l)=none:=by
  rw[List.find?_eq_none];intro x hx;rw[h x (mem_range.1 hx)];simp
 rw[this];rfl
theorem Zd1 {l:List Bool}{n:Nat}(h:n < l.length):valB (l.take (n+1))=2*valB (l.take n)+(l.getD n false).toNat:=by
 have hg:l[n]?=some l[n]:=gA h;rw[Zai hg,Zbl,gB,hg];rfl
theorem Zy9 {lens:List Nat}{l:List Bool}{n:Nat}(h:∀ j,j < n->hit lens l j=false) (hl:n < l.length):fst_ lens (n+1)<=valB (l.take (n+1)):=by
 rw[fst_,Nat.add_sub_cancel,Zd1 hl]
 cases n with
 |zero=>rw[nx];omega
 |succ n=>
  have:=h n (by omega);simp[hit] at this;have:=this (by omega);omega
theorem Yen {lens:List Nat}{l:List Bool}(h:Whole lens) (hl:20<=l.length):hit lens l 19=true:=by
 unfold hit;rw[decide_eq_true_iff];refine⟨hl,?_⟩;rw[show 19+1=20 from rfl,nx_20 h];exact Zae l 20
theorem Zzm (lens:List Nat) (n:Nat):∀ k,∃ t,upto lens (n+k)=upto lens n++t:=by
 intro k
 induction k with
 |zero=>exact⟨[],by simp⟩
 |succ k ih=>
  obtain⟨t,ht⟩:=ih;exact⟨t++grp lens lens.length (n+k+1),by rw[<-hG_,upto,ht,gI]⟩
theorem Zln {lens:List Nat}{n k:Nat}(h1:1<=n) (h2:n<=20) (hk:k < lens.count n):(upto lens 20)[frm lens n+k]?=(grp lens lens.length n)[k]?:=by
 obtain⟨m,rfl⟩:∃ m,n=m+1:=⟨n - 1,by omega⟩;obtain⟨t,ht⟩:=Zzm lens (m+1) (20 - (m+1));rw[show m+1+(20 - (m+1))=20 by omega] at ht;rw[ht,upto,frm,Nat.add_sub_cancel,gI,gT (by omega),Nat.add_sub_cancel_left,gM (by rw[Zf8];exact hk)]
theorem Ycp {lens:List Nat}{k n i:Nat}(h:i∈grp lens k n):i < k/\lens.getD i 0=n:=by
 unfold grp at h;rw[mem_filter,mem_range] at h;exact⟨h.1,by simpa using h.2⟩
theorem Ybd {lens:List Nat}{n:Nat}:∀ (k i:Nat),k<=lens.length->i < k->lens.getD i 0=n->(grp lens k n)[(lens.take i).count n]?=some i:=by
 intro k
 induction k with
 |zero=>intro i _ hi;omega
 |succ k ih=>
  intro i hk hi hn;have hl:=Zos lens n k (by omega);unfold grp at ih hl ⊢;rw[range_succ,List.filter_append];rcases hU_ i k with h|h
  ·have:=ih i (by omega) h hn;rw[gM (gH.1 this).1];exact this
  ·have:i=k:=by omega
   subst this;rw[gT (by omega),hl,Nat.sub_self];rw[filter_cons,if_pos (by simpa using hn)];rfl
def codeN (lens:List Nat) (i:Nat):Nat:=fst_ lens (lens.getD i 0)+(lens.take i).count (lens.getD i 0)
def codeB (lens:List Nat) (i:Nat):List Bool:=bitsOf (codeN lens i) (lens.getD i 0)
theorem Zr1 {lens:List Nat}{i n:Nat}(hi:i < lens.length) (hn:lens.getD i 0=n):(lens.take i).count n < lens.count n:=by
 have hg:lens[i]?=some lens[i]:=gA hi;have h1:lens=lens.take i++lens.drop i:=(hN_ i lens).symm
 have h2:lens.count n=(lens.take i).count n+(lens.drop i).count n:=by
  conv=>lhs;rw[h1,List.count_append]
 have h3:0 < (lens.drop i).count n:=by
  rw[List.count_pos_iff]
  have:(lens.drop i)[0]?=some lens[i]:=by rw[hH_,Nat.add_zero,hg]
  have:=List.mem_of_getElem? this
  have h4:lens.getD i 0=lens[i]:=by rw[gB,hg];rfl
  rw[<-hn,h4];exact this
 omega
theorem Zhr {lens:List Nat}{i:Nat}(hi:i < lens.length) (h1:1<=lens.getD i 0):codeN lens i < nx lens (lens.getD i 0):=by
 rw[nx_eq _ _ h1,codeN];have:=Zr1 hi rfl;omega
theorem valB_bitsOf (v n:Nat) (h:v < 2^n):valB (bitsOf v n)=v:=by
 have key:∀ i,i<=n->valB ((bitsOf v n).take i)=v/2^(n - i):=by
  intro i
  induction i with
  |zero=>intro _;rw[take_zero,Yay,Nat.sub_zero,Nat.div_eq_of_lt h]
  |succ i ih=>
   intro hi;rw[Zm8 v n i (by omega),Zbl,ih (by omega)];have h2:=Znp v (n - (i+1));rw[Nat.and_one_is_mod] at h2;rw[show n - 1 - i=n - (i+1) by omega,<-h2,show n - i=(n - (i+1))+1 by omega,Nat.pow_succ,<-Nat.div_div_eq_div_mul];omega
 have:=key n (Nat.le_refl _);rw[gK (by rw[Za1];omega),Nat.sub_self] at this;simpa using this
theorem valB_inj:∀ {n:Nat}{a b:List Bool},a.length=n->b.length=n->valB a=valB b->a=b:=by
 intro n
 induction n with
 |zero=>intro a b ha hb _;rw[List.length_eq_zero_iff.1 ha,List.length_eq_zero_iff.1 hb]
 |succ n ih=>
  intro a b ha hb h
  have hane:a≠[]:=by rintro rfl;simp at ha
  have hbne:b≠[]:=by rintro rfl;simp at hb
  rw[<-List.dropLast_concat_getLast hane,<-List.dropLast_concat_getLast hbne] at h ⊢;rw[Zbl,Zbl] at h;have h1:=Bool.toNat_le (a.getLast hane);have h2:=Bool.toNat_le (b.getLast hbne);rw[ih (a:=a.dropLast) (b:=b.dropLast) (by simp[ha]) (by simp[hb]) (by omega)]
  have h3:(a.getLast hane).toNat=(b.getLast hbne).toNat:=by omega
  generalize a.getLast hane=x at *;generalize b.getLast hbne=y at *
  cases x <;> cases y <;> simp_all
theorem Zl8 {l:List Bool}{n:Nat}(h:n<=l.length):∀ k,k<=n->valB (l.take (n - k))=valB (l.take n)/2^k:=by
 intro k
 induction k with
 |zero=>intro _;simp
 |succ k ih=>
  intro hk;have h1:=ih (by omega);have h2:=Zd1 (l:=l) (n:=n - (k+1)) (by omega);rw[show n - (k+1)+1=n - k by omega] at h2;have hb:=Bool.toNat_le (l.getD (n - (k+1)) false);rw[Nat.pow_succ,<-Nat.div_div_eq_div_mul,<-h1,h2];omega
theorem Yaa {lens:List Nat}{l:List Bool}{i:Nat}(hw:Whole lens) (hi:i < lens.length) (hl:lens.getD i 0<=l.length) (h:l.take (lens.getD i 0)=codeB lens i):getC lens l=some (i,lens.getD i 0):=by
 have hx:1<=lens.getD i 0/\lens.getD i 0<=20:=by
  rw[gB,gA hi];exact hw.sized _ (getElem_mem hi)
 have hc:=Zhr hi hx.1;have hle:=nx_le hw _ hx.2
 have hv:valB (l.take (lens.getD i 0))=codeN lens i:=by rw[h,codeB,valB_bitsOf _ _ (by omega)]
 obtain⟨n,hn⟩:∃ n,lens.getD i 0=n+1:=⟨lens.getD i 0 - 1,by omega⟩
 have hcn:codeN lens i=fst_ lens (n+1)+(lens.take i).count (n+1):=by rw[codeN,hn]
 rw[hn] at hx hc hle hv hl ⊢
 have hfst:fst_ lens (n+1)=2*nx lens n:=by rw[fst_,Nat.add_sub_cancel]
 have:=Zo4 (lens:=lens) (l:=l) (i:=n) (by omega) (by unfold hit;rw[decide_eq_true_iff];exact⟨hl,by omega⟩) (λj hj=>by
  unfold hit;rw[decide_eq_false_iff_not];rintro⟨h1,h2⟩;have h3:=Zl8 hl (n - j) (by omega);rw[show n+1 - (n - j)=j+1 by omega,hv] at h3;have h4:=Ybj lens (j+1) (n - 1 - j);rw[show j+1+(n - 1 - j)=n by omega] at h4
  have h5:nx lens (j+1)*2^(n - j)<=codeN lens i:=by
   rw[show n - j=(n - 1 - j)+1 by omega,Nat.pow_succ,<-Nat.mul_assoc];omega
  have h6:nx lens (j+1)<=codeN lens i/2^(n - j):=(Nat.le_div_iff_mul_le (Nat.two_pow_pos _)).2 h5
  omega)
 rw[this,hv,hcn,Nat.add_sub_cancel_left];have hcount:=Zr1 hi hn;rw[gB,Zln (by omega) hx.2 hcount,Ybd _ i (Nat.le_refl _) hi hn];rfl
theorem Zs6 {lens:List Nat}{l:List Bool}{i n:Nat}(hw:Whole lens) (h:getC lens l=some (i,n)):i < lens.length/\lens.getD i 0=n/\1<=n/\n<=20/\n<=l.length/\l.take n=codeB lens i:=by
 unfold getC at h;rw[Option.map_eq_some_iff] at h;obtain⟨m,hm,he⟩:=h;rw[List.find?_range_eq_some] at hm;obtain⟨h1,h2,h3⟩:=hm;rw[mem_range] at h2
 have hmiss:∀ j,j < m->hit lens l j=false:=λj hj=>by have:=h3 j hj;simpa using this
 unfold hit at h1;rw[decide_eq_true_iff] at h1;have hge:=Zy9 hmiss (by omega);have hnx:=nx_eq lens (m+1) (by omega)
 have hk:valB (l.take (m+1)) - fst_ lens (m+1) < lens.count (m+1):=by omega
 have hg:=Zln (lens:=lens) (by omega) (by omega) hk
 have hkl:valB (l.take (m+1)) - fst_ lens (m+1) < (grp lens lens.length (m+1)).length:=by rw[Zf8];exact hk
 simp only[Prod.mk.injEq] at he;obtain⟨he1,he2⟩:=he;rw[gB,hg,gA hkl,Option.getD_some] at he1;have hmem:=Ycp (he1▸getElem_mem hkl);have hat:=Ybd _ i (Nat.le_refl _) hmem.1 hmem.2
 have hnd:(grp lens lens.length (m+1)).Nodup:=List.Pairwise.filter _ List.nodup_range
 have hplace:(lens.take i).count (m+1)=valB (l.take (m+1)) - fst_ lens (m+1):=by
  have h4:=(gH.1 hat);obtain⟨h5,h6⟩:=h4;exact (List.getElem_inj hnd).1 (h6.trans he1.symm)
 subst he2;refine⟨hmem.1,hmem.2,by omega,by omega,h1.1,?_⟩;refine valB_inj (n:=m+1) (by rw[gN];omega) (by rw[codeB,Za1,hmem.2]) ?_;rw[codeB,hmem.2,valB_bitsOf]
 ·rw[codeN,hmem.2];omega
 ·have:=Zhr hmem.1 (by rw[hmem.2];omega);rw[hmem.2] at this;exact Nat.lt_of_lt_of_le this (nx_le hw _ (by omega))
end Go.M10
namespace Go.Mc
open Go.M01 Go.Mb Go.Mp Go.M10
structure CS where
 size:Nat
 picks:PS
 lens:DS
 codes:List (List Nat)
 count:Nat
 done:Bool
def c0 (size:Nat):CS:=⟨size,p0,d0 size,[],0,false⟩
def withPicks (c:CS):Res PS->Res (CS × Option Nat)
 |.short=>.short
 |.bad e=>.bad e
 |.ok p k=>.ok (⟨c.size,p,c.lens,c.codes,c.count,c.done⟩,none) k
def withLens (c:CS):Res DS->Res (CS × Option Nat)
 |.short=>.short
 |.bad e=>.bad e
 |.ok d k=>if d.done=true then
   if share d.lens=1048576 then .ok (⟨c.size,c.picks,d0 c.size,c.codes++[d.lens],c.count,c.done⟩,none) k else .bad 22
  else .ok (⟨c.size,c.picks,d,c.codes,c.count,c.done⟩,none) k
def withSymbol (c:CS):Option (Nat × Nat)->Res (CS × Option Nat)
 |none=>.short
 |some (s,k)=>.ok (⟨c.size,c.picks,c.lens,c.codes,c.count+1,decide (s=c.size - 1)⟩,some s) k
def CS.table (c:CS):List Nat:=c.codes.getD (c.picks.picks.getD (c.count/50) 0) []
def cstep (c:CS) (l:List Bool):Res (CS × Option Nat):=
 if c.picks.done=false then withPicks c (pstep c.picks l)
 else if c.codes.length < c.picks.t then withLens c (dstep c.lens l)
 else if c.picks.picks.length<=c.count/50 then .bad 25
 else withSymbol c (getC c.table l)
structure CS.Ok (c:CS):Prop where
 pk:c.picks.Ok
 dl:c.lens.Ok
 s1:3<=c.size
 s2:c.size<=258
 ds:c.lens.size=c.size
 dd:c.lens.done=false
 cl:c.codes.length<=c.picks.t
 cw:∀ l∈c.codes,Whole l/\l.length=c.size
 ct:c.count<=2000000
 cn:c.picks.done=false->c.codes=[]
theorem d0_nd {n:Nat}(h:3<=n):(d0 n).done=false:=by unfold DS.done;exact decide_eq_false (by show ¬ 0=n;omega)
theorem c0_ok {n:Nat}(h1:3<=n) (h2:n<=258):(c0 n).Ok:=⟨p0_ok,d0_ok n,h1,h2,rfl,d0_nd h1,hE _,λl h=>(List.not_mem_nil h).elim,by simp[c0],λ_=>rfl⟩
theorem Zq6 {c:CS}(h:c.Ok) (hd:c.picks.done=true) (hc:¬ c.codes.length < c.picks.t) (hg:¬ c.picks.picks.length<=c.count/50) :
  ∃ x,c.picks.picks[c.count/50]?=some x/\x < c.codes.length/\c.codes[x]?=some c.table/\Whole c.table/\c.table.length=c.size:=by
 have hlt:c.count/50 < c.picks.picks.length:=by omega
 have hg:c.picks.picks[c.count/50]?=some c.picks.picks[c.count/50]:=gA hlt;have hx:=h.pk.pks _ (getElem_mem hlt);have hcl:=h.cl
 have hxl:c.picks.picks[c.count/50] < c.codes.length:=by omega
 have ht:c.table=c.codes[c.picks.picks[c.count/50]]:=by
  unfold CS.table;rw[gB (l:=c.picks.picks),hg,Option.getD_some,gB,gA hxl];rfl
 have hw:=h.cw _ (getElem_mem hxl);refine⟨_,hg,hxl,?_,?_⟩
 ·rw[ht];exact gA hxl
 ·rw[ht];exact hw
theorem Zdr {c c':CS}{l:List Bool}{k:Nat}{o:Option Nat}(h:cstep c l=.ok (c',o) k) (hc:c.Ok):c'.Ok/\c'.size=c.size/\(∀ s,o=some s->s < c.size):=by
 unfold cstep at h;split at h
 ·rename_i hd;unfold withPicks at h;split at h
  ·cases h
  ·cases h
  ·rename_i p k' hp;cases h;refine⟨⟨Zhh hp hc.pk hd,hc.dl,hc.s1,hc.s2,hc.ds,hc.dd,?_,hc.cw,hc.ct,λ_=>hc.cn hd⟩,rfl,λs h=>by cases h⟩;have:=hc.cn hd;simp only[this];exact hE _
 ·rename_i hd;split at h
  ·rename_i hlt;unfold withLens at h;split at h
   ·cases h
   ·cases h
   ·rename_i d' k' hdl;have hdo:=Zfi hdl hc.dl hc.dd
    have hsz:d'.size=c.size:=by
     rw[<-hc.ds];unfold dstep turn at hdl
     repeat' split at hdl
     all_goals first
      |(cases hdl;rfl)
      |cases hdl
    split at h
    ·rename_i hdn;split at h
     ·rename_i hsh;cases h;refine⟨⟨hc.pk,d0_ok _,hc.s1,hc.s2,rfl,d0_nd hc.s1,by simp;omega,?_,hc.ct,λh=>absurd h hd⟩,rfl,λs h=>by cases h⟩;intro x hx;rcases hT_.1 hx with h|h
      ·exact hc.cw x h
      ·rw[mem_singleton] at h;subst h;refine⟨⟨hdo.all,hsh⟩,?_⟩;unfold DS.done at hdn;rw[decide_eq_true_iff] at hdn;rw[hdn,hsz]
     ·cases h
    ·rename_i hdn;cases h;exact⟨⟨hc.pk,hdo,hc.s1,hc.s2,hsz,by simpa using hdn,hc.cl,hc.cw,hc.ct,hc.cn⟩,rfl,λs h=>by cases h⟩
  ·rename_i hlt;split at h
   ·cases h
   ·rename_i hg;unfold withSymbol at h;split at h
    ·cases h
    ·rename_i s k' hs;cases h;obtain⟨x,h1,h2,h3,h4,h5⟩:=Zq6 hc (by simpa using hd) hlt hg;have h6:=Zs6 h4 hs;have h7:=hc.pk.cnt;have h8:=hc.pk.len;have h9:=hc.ct;refine⟨⟨hc.pk,hc.dl,hc.s1,hc.s2,hc.ds,hc.dd,hc.cl,hc.cw,by simp only;omega,hc.cn⟩,rfl,λs' h=>by cases h;rw[<-h5];exact h6.1⟩
theorem Zjd {c:CS}{l:List Bool}{e:Nat}(h:cstep c l=.bad e):e=22\/e=25:=by
 unfold cstep at h;split at h
 ·unfold withPicks at h;split at h
  ·cases h
  ·rename_i hp;cases h;exact .inr (Zmq hp)
  ·cases h
 ·split at h
  ·unfold withLens at h;split at h
   ·cases h
   ·rename_i hp;cases h;exact .inl (Zj3 hp)
   ·split at h
    ·split at h
     ·cases h
     ·cases h;exact .inl rfl
    ·cases h
  ·split at h
   ·cases h;exact .inr rfl
   ·unfold withSymbol at h;split at h
    ·cases h
    ·cases h
end Go.Mc
namespace Go.Mv
open Go.M01 Go.Mb Go.Mp Go.M10 Go.Mx
def moves (a b:Nat):List Bool:=(List.replicate (b - a) [true,false]).flatten++(List.replicate (a - b) [true,true]).flatten
def stepsB:Nat->List Nat->List Bool
 |_,[]=>[]
 |a,b::l=>moves a b++[false]++stepsB b l
def lensB (l:List Nat):List Bool:=bitsOf (l.getD 0 0) 5++stepsB (l.getD 0 0) l
def lastB (a:Nat) (l:List Nat):Nat:=l.getLastD a
theorem Zbr:∀ (l:List Nat) (a b:Nat),stepsB a (l++[b])=stepsB a l++(moves (lastB a l) b++[false])
 |[],a,b=>by simp[stepsB,lastB]
 |c::l,a,b=>by
  rw[List.cons_append,stepsB,stepsB,Zbr l c b]
  have:lastB a (c::l)=lastB c l:=by
   unfold lastB
   cases l with
   |nil=>rfl
   |cons d l=>simp[List.getLastD]
  rw[this];simp only[gI]
theorem lastB_snoc (a b:Nat) (l:List Nat):lastB a (l++[b])=b:=by simp[lastB]
theorem Ziv (a b:Nat) (ha:a<=20) (hb:b<=20):(moves a b).length<=40:=by
 unfold moves;simp;omega
def pE (x:List Nat × List Nat) (p:Nat):List Nat × List Nat:=(front x.1 (x.1.idxOf p),x.2++[x.1.idxOf p])
def pickE (o l:List Nat):List Nat × List Nat:=l.foldl pE (o,[])
theorem Zck (o l:List Nat) (p:Nat):pickE o (l++[p])=pE (pickE o l) p:=by simp[pickE]
def onesB (l:List Nat):List Bool:=l.flatMap λat_=>List.replicate at_ true++[false]
theorem Zgu (l:List Nat) (a:Nat):onesB (l++[a])=onesB l++(List.replicate a true++[false]):=by simp[onesB]
def picksB (l:List Nat) (t:Nat):List Bool:=bitsOf t 3++bitsOf l.length 15++onesB (pickE [0,1,2,3,4,5] l).2
theorem Ztf {o:List Nat}{i:Nat}(hi:i < o.length) (x:Nat):x∈front o i↔x∈o:=by
 unfold front
 have e:o=o.take i++o.getD i 0::o.drop (i+1):=by
  conv=>lhs;rw[<-hN_ i o]
  rw[List.drop_eq_getElem_cons hi,gB,gA hi];rfl
 conv=>rhs;rw[e]
 simp only[List.mem_cons,hT_]
 constructor
 ·rintro (h|h|h)
  ·exact .inr (.inl h)
  ·exact .inl h
  ·exact .inr (.inr h)
 ·rintro (h|h|h)
  ·exact .inr (.inl h)
  ·exact .inl h
  ·exact .inr (.inr h)
theorem Zlz {o:List Nat}{c:Nat}(h:c∈o):o.idxOf c < o.length:=List.idxOf_lt_length_of_mem h
theorem Zvd {o:List Nat}{c:Nat}(h:c∈o):o.getD (o.idxOf c) 0=c:=by
 rw[gB,gA (Zlz h)];simp
theorem Zdd {o l:List Nat}(h:∀ c∈l,c∈o):(∀ x,x∈(pickE o l).1↔x∈o)/\(pickE o l).1.length=o.length/\(pickE o l).2.length=l.length/\∀ p∈(pickE o l).2,p < o.length:=by
 have key:∀ i,i<=l.length->(∀ x,x∈(pickE o (l.take i)).1↔x∈o)/\(pickE o (l.take i)).1.length=o.length/\(pickE o (l.take i)).2.length=i/\∀ p∈(pickE o (l.take i)).2,p < o.length:=by
  intro i
  induction i with
  |zero=>intro _;exact⟨λx=>Iff.rfl,rfl,rfl,λp hp=>by simp[pickE] at hp⟩
  |succ i ih=>
   intro hi;obtain⟨h1,h2,h3,h4⟩:=ih (by omega)
   have hg:l.take (i+1)=l.take i++[l[i]]:=by rw[gO,gA (by omega)];rfl
   have hm:l[i]∈(pickE o (l.take i)).1:=(h1 _).2 (h _ (getElem_mem _));have hlt:=Zlz hm;rw[hg,Zck];unfold pE;refine⟨λx=>by rw[Ztf hlt];exact h1 x,by rw[Zfj hlt];exact h2,by rw[gD,h3];rfl,λp hp=>?_⟩;rcases hT_.1 hp with hp|hp
   ·exact h4 p hp
   ·rw[mem_singleton.1 hp];omega
 have:=key l.length (Nat.le_refl _)
 rwa [hF_] at this
theorem Zfg:∀ {l:List Nat}{m:Nat},(∀ p∈l,p < m)->(onesB l).length<=m*l.length
 |[],m,h=>by simp[onesB]
 |a::l,m,h=>by
  have h1:=Zfg (l:=l) (m:=m) λp hp=>h p (hK_ _ hp);have h2:=h a (hJ_ ..);unfold onesB at h1 ⊢;rw[hM_,gD,gD,gP,gQ,length_cons,Nat.mul_add];omega
theorem Zvt (a:Nat):bitsOf (2^(a+1) - 2) (a+1)=List.replicate a true++[false]:=by
 apply ext_getElem (by rw[Za1];simp);intro i h1 h2;rw[Za1] at h1;have hg:=Go.M01.bitsOf_get (2^(a+1) - 2) (a+1) i h1;rw[gA (by rw[Za1];exact h1)] at hg;rw[Option.some.inj hg]
 have e:2^(a+1) - 2=2*(2^a - 1):=by rw[Nat.pow_succ];omega
 rw[e]
 by_cases hi:i < a
 ·rw[List.getElem_append_left (by simpa using hi),List.getElem_replicate];rw[show a+1 - 1 - i=(a - 1 - i)+1 by omega,Nat.testBit_succ,Nat.mul_div_cancel_left _ (by decide),Nat.testBit_two_pow_sub_one];simp;omega
 ·have:i=a:=by omega
  subst this;rw[show i+1 - 1 - i=0 by omega,Nat.testBit_zero,Nat.mul_mod_right];simp
end Go.Mv
/-
 DERIVED: THE SHELF's CONTRACTS AT THIS DUMP,IN PLAIN WORDS (tools/lay-plain.mjs out of 'YtgaiocpkjaaphaaGreatDoorShx.lean',which tools/lay-shelf.mjs wrote): THE SAME DECLARATIONS UNDER THE SAME NAMES: 'import','namespace','open','def','theorem' AND NOTHING ELSE: no command of the shelf's: FOR A HAND-IN. Each laying: the table of numbers ('.._ren') and one theorem,a field a fact of the dump's own or the kernel's comparison;each contract: ONE APPLICATION.
-/
namespace Go.Proofs
open Go.Shelf
def Tryz.lays105_ren:Go.Shelf.Ren:=⟨fun|105=>277|212=>283|99=>284|165=>285|166=>78|170=>286|169=>75|263=>289|264=>290|206=>291|240=>129|241=>292|276=>176|277=>295|n=>n,fun|9=>9|3=>3|4=>4|20=>20|0=>0|46=>192|109=>320|5=>5|72=>114|76=>120|51=>22|146=>324|53=>126|148=>326|70=>112|37=>54|75=>119|127=>190|164=>234|80=>29|n=>n,fun|n=>n⟩
theorem Tryz.lays105:Go.Proofs.Lays.n105 Tryz.prog Tryz.lays105_ren:={
 mixed:=by kernel_rfl
 f99:=Tryz.func284.trans (congrArg some (by kernel_rfl))
 f105:=Tryz.func277.trans (congrArg some (by kernel_rfl))
 f165:=Tryz.func285.trans (congrArg some (by kernel_rfl))
 f166:=Tryz.func78.trans (congrArg some (by kernel_rfl))
 f169:=Tryz.func75.trans (congrArg some (by kernel_rfl))
 f170:=Tryz.func286.trans (congrArg some (by kernel_rfl))
 f206:=Tryz.func291.trans (congrArg some (by kernel_rfl))
 f212:=Tryz.func283.trans (congrArg some (by kernel_rfl))
 f240:=Tryz.func129.trans (congrArg some (by kernel_rfl))
 f241:=Tryz.func292.trans (congrArg some (by kernel_rfl))
 f263:=Tryz.func289.trans (congrArg some (by kernel_rfl))
 f264:=Tryz.func290.trans (congrArg some (by kernel_rfl))
 f276:=Tryz.func176.trans (congrArg some (by kernel_rfl))
 f277:=Tryz.func295.trans (congrArg some (by kernel_rfl))
 t0:=Tryz.underlying0
 a0:=Tryz.isAgg0
 z0:=Tryz.sizeOf0
 v0:=Tryz.zeroValue0
 t3:=Tryz.underlying3
 a3:=Tryz.isAgg3
 z3:=Tryz.sizeOf3
 v3:=Tryz.zeroValue3
 t4:=Tryz.underlying4
 a4:=Tryz.isAgg4
 z4:=Tryz.sizeOf4
 v4:=Tryz.zeroValue4
 t5:=Tryz.underlying5
 a5:=Tryz.isAgg5
 z5:=Tryz.sizeOf5
 v5:=Tryz.zeroValue5
 t9:=Tryz.underlying9
 a9:=Tryz.isAgg9
 z9:=Tryz.sizeOf9
 v9:=Tryz.zeroValue9
 t20:=Tryz.underlying20
 a20:=Tryz.isAgg20
 z20:=Tryz.sizeOf20
 v20:=Tryz.zeroValue20
 t37:=Tryz.underlying54
 a37:=Tryz.isAgg54
 z37:=Tryz.sizeOf54
 v37:=Tryz.zeroValue54
 t46:=Tryz.underlying192
 a46:=Tryz.isAgg192
 z46:=Tryz.sizeOf192
 v46:=Tryz.zeroValue192
 t51:=Tryz.underlying22
 a51:=Tryz.isAgg22
 z51:=Tryz.sizeOf22
 v51:=Tryz.zeroValue22
 t53:=Tryz.underlying126
 a53:=Tryz.isAgg126
 z53:=Tryz.sizeOf126
 v53:=Tryz.zeroValue126
 t70:=Tryz.underlying112
 a70:=Tryz.isAgg112
 z70:=Tryz.sizeOf112
 v70:=Tryz.zeroValue112
 t72:=Tryz.underlying114
 a72:=Tryz.isAgg114
 z72:=Tryz.sizeOf114
 v72:=Tryz.zeroValue114
 t75:=Tryz.underlying119
 a75:=Tryz.isAgg119
 z75:=Tryz.sizeOf119
 v75:=Tryz.zeroValue119
 t76:=Tryz.underlying120
 a76:=Tryz.isAgg120
 z76:=Tryz.sizeOf120
 v76:=Tryz.zeroValue120
 t109:=Tryz.underlying320
 a109:=Tryz.isAgg320
 z109:=Tryz.sizeOf320
 v109:=Tryz.zeroValue320
 t127:=Tryz.underlying190
 a127:=Tryz.isAgg190
 z127:=Tryz.sizeOf190
 v127:=Tryz.zeroValue190
 t146:=Tryz.underlying324
 a146:=Tryz.isAgg324
 z146:=Tryz.sizeOf324
 v146:=Tryz.zeroValue324
 t148:=Tryz.underlying326
 a148:=Tryz.isAgg326
 z148:=Tryz.sizeOf326
 v148:=Tryz.zeroValue326
 t164:=Tryz.underlying234
 a164:=Tryz.isAgg234
 z164:=Tryz.sizeOf234
 v164:=Tryz.zeroValue234 }
end Go.Proofs
namespace Go.M02
def crcStep (s:Nat):Nat:=(s*2%4294967296) ^^^ (s/2147483648*79764919)
def crcN (s:Nat):Nat->Nat
 |0=>s
 |k+1=>crcStep (crcN s k)
def crcTab (b:Nat):Nat:=crcN (b*16777216) 8
def tabL:List Nat:=(List.range 256).map crcTab
theorem crcStep_lt (s:Nat) (h:s < 4294967296):crcStep s < 4294967296:=by
 unfold crcStep
 have h1:s/2147483648<=1:=by omega
 have h2:s/2147483648*79764919<=1*79764919:=Nat.mul_le_mul_right _ h1;exact Nat.xor_lt_two_pow (n:=32) (by omega) (by omega)
theorem crcN_lt (s:Nat) (h:s < 4294967296):∀ k,crcN s k < 4294967296
 |0=>h
 |k+1=>crcStep_lt _ (crcN_lt s h k)
theorem Zdk:tabL.length=256:=by simp[tabL]
theorem Zs9 (i:Nat) (h:i < 256):tabL[i]?=some (crcTab i):=by simp[tabL,h]
end Go.M02
namespace Go.Proofs.YtgaiocpkjaaphaaGreatDoor
open Go Go.Vc Go.Proofs.Tryz
attribute [local irreducible] Vc.Nc Vc.Ld Vc.LdA Vc.St Vc.StA Vc.Fo Vc.Iaa Vc.Ias Vc.Ixs Vc.Ixa Vc.Fd Vc.FdA Vc.Bp Vc.Bb Vc.Bn Vc.Up Vc.Ci Vc.Lns Vc.Lnl Vc.Ex Vc.Sst Vc.Ssl Vc.New Vc.Vif Vc.VJoin Vc.VLoop Vc.KE Vc.Dr Vc.Rk Vc.Cl Vc.Cx Vc.Inv Vc.Be Vc.Cv Vc.Cw Vc.Mf Vc.Sl Vc.Lk Vc.Bd Vc.Bs Vc.Ms Vc.Mm Vc.Mu Vc.Me Vc.Es Vc.Rg Vc.Nx Vc.Ta Vc.Ap Vc.Usd Vc.Ust Vc.Cp Vc.Ln Vc.Bc Vc.Bmin Vc.Bmax Vc.Bdel Vc.Bclr Vc.Pk
namespace W02
open Go.M02
variable {w:World}{L:List HProp}{K:KT}
abbrev tTab:Nat:=230
theorem Zta (H:Holds w L) (post:∀ w',Same w w'->Holds w' L->K (.agg (tabL.map uv).toArray) w'):Cl prog 169 #[] w K:=by
 refine Tz169 ?_;unfold Vz169
 have hz:(zeroP prog tTab).cells.toList=(List.replicate 256 0).map uv:=by kernel_rfl
 refine r_new H λb1 w1 S1 H1=>?_;rw[hz] at H1;refine r_new H1 λb2 w2 S2 H2=>?_;rw[hz] at H2
 refine Za8 (λx w'=>∃ i:Nat,i<=256/\x=nv i/\Same w w'/\Holds w' (blk b2 tTab ((filled tabL 0 256 i).map uv)::blk b1 tTab ((List.replicate 256 0).map uv)::L))
  (λx _=>256 - (intOf x).toNat) ⟨0,by omega,rfl,S1.trans S2,by rw[Zf2];exact H2⟩ ?_
 clear H H1 H2 S1 S2;rintro _ _ w3 ⟨i,hi,rfl,S,H⟩
 repeat (refine r_lss ?_)
 refine r_ifD (λh=>?_) λh=>?_
 ·have hlt:i < 256:=by omega
  refine Zan (by omega) (by omega) ?_;refine Zcu (n:=24) (by omega) ?_;rw[show i*2^24%4294967296=crcN (i*16777216) 0 by show _=i*16777216;omega];refine Za7 (λs x w'=>w3=w'/\∃ j:Nat,j<=8/\x=nv j/\s=uv (crcN (i*16777216) j)) (λ_ x _=>8 - (intOf x).toNat) ⟨rfl,0,by omega,rfl,rfl⟩ ?_;rintro _ _ _ _ ⟨rfl,j,hj,rfl,rfl⟩;have hc:=crcN_lt (i*16777216) (by omega) j
  repeat (refine r_lss ?_)
  refine r_ifD (λh2=>?_) λh2=>?_
  ·have h3:crcN (i*16777216) j/2147483648<=1:=by omega
   have h4:crcN (i*16777216) j/2147483648*79764919<=1*79764919:=Nat.mul_le_mul_right _ h3;refine Zex (n:=31) (by decide) ?_;refine Zcu (n:=1) (by omega) ?_;refine Zfk (t:=79764919) (by omega) ?_;refine Zcw (by omega) (by omega) ?_
   repeat (first|refine r_ke ?_|(refine Za0 (by omega) ?_))
   refine⟨⟨rfl,j+1,by omega,rfl,rfl⟩,?_⟩;simp[nv,intOf];omega
  ·obtain rfl:j=8:=by omega
   repeat (refine Zal (by omega) ?_)
   refine r_st 0 H rfl (by rw[hS_,Zbd (by omega) Zdk];omega) rfl λw4 S4 H4=>?_
   have hset:((filled tabL 0 256 i).map uv).set (0+i) (uv (crcN (i*16777216) 8))=(filled tabL 0 256 (i+1)).map uv:=by
    rw[Nat.zero_add,<-map_set];exact congrArg (List.map uv) (Zbe (z:=0) hlt Zdk (Zs9 i hlt))
   rw[gJ,hset] at H4
   repeat (first|refine r_ke ?_|(refine Za0 (by omega) ?_))
   refine⟨⟨i+1,by omega,rfl,S.trans S4,H4⟩,?_⟩;simp[nv,intOf];omega
 ·obtain rfl:i=256:=by omega
  rw[Zd8 Zdk] at H
  have hl:(tabL.map uv).length=256:=by simp[Zdk]
  refine r_ldA 0 H (tabL.map uv) rfl (by rw[drop_zero,gK (by omega)]) hl ?_;refine r_stA 1 H (vs:=tabL.map uv) rfl (Nat.le_of_eq (by rw[hS_,gP])) hl (by kernel_rfl) λw4 S4 H4=>?_
  have hset:setL ((List.replicate 256 0).map uv) 0 (tabL.map uv)=tabL.map uv:=by kernel_rfl
  rw[gW,gJ,hset] at H4;refine r_ldA 1 H4 (tabL.map uv) rfl (by rw[drop_zero,gK (by omega)]) hl ?_;exact post _ (S.trans S4) H4.drop.drop
end W02
instance rowI:Row prog 69 3 (.int .i64 0):=⟨by kernel_rfl,⟨t3,by kernel_rfl,by kernel_rfl,by decide,by kernel_rfl⟩,rfl⟩
instance rowB:Row prog 54 5 (.int .u8 0):=⟨by kernel_rfl,⟨t5,by kernel_rfl,by kernel_rfl,by decide,by kernel_rfl⟩,rfl⟩
instance bytesB:Bytes prog 54 5 9:=⟨by kernel_rfl,by kernel_rfl,by kernel_rfl⟩
abbrev tI:Nat:=3
abbrev tB:Nat:=5
abbrev pt (b:Nat):Value:=.pointer (some ⟨b,0,none⟩)
section
variable {w:World}{L:List HProp}{K:KT}
theorem sg_nv (n:Nat):sg (nv n)=true:=rfl
theorem Zuf (oa:Option Addr) (l c:Nat){K:Value->Prop}(k:K (.bool oa.isNone)):Be prog .eql 69 (.tmp 3) (.const (.slice none 0 0)) (.slice oa l c) (.slice none 0 0) w K:=by
 cases oa with
 |none=>exact r_be (v:=.bool true) (by kernel_rfl) k
 |some a=>exact r_be (v:=.bool false) (by kernel_rfl) k
theorem Zbt (H:Holds w L) (j:Nat){v:Value}{xs:List Nat}(hj:L[j]?=some (SL nv tI v xs)) (hn:xs.length<=1000000000) (k:∀ v' w',Same w w'->Holds w' (SL nv tI v' xs::L)->K v' w'):Cl prog 153 #[v] w K:=by
 refine Tz153 ?_;unfold Vz153;have H0:=H;obtain⟨oa,sp,rfl,H1⟩:=H0.open j hj;refine Zuf _ _ _ ?_
 cases oa with
 |none=>
  obtain⟨g,⟨h2,_⟩,_⟩:=H1.front j (Za5 hj);subst h2;exact r_vt (k _ _ (.refl _) (H.nilSL nv tI))
 |some a=>
  refine r_vf ?_;refine r_bsK (e:=tI) [] H (by kernel_rfl) λb w1 S1 H1=>?_;have H2:=Zms (f:=nv) 0 [] H1 rfl;rw[gJ] at H2;refine r_apS (xs:=[]) H2 0 (j+1) (by omega) rfl (by rw[gF];exact hj) sg_nv (by simp only[length_nil];omega) λv' w2 S2 H3=>?_;rw[gJ,hO_] at H3;exact k _ _ (S1.trans S2) H3
end
namespace Rb
open Go.M01 Go.Mb
variable {w:World}{L:List HProp}{K:KT}{b:Nat}{B:List UInt8}{d at_ n:Nat}
abbrev tR:Nat:=90
abbrev S_ (s:List UInt8):Value:=.string ⟨s.toArray⟩
def RdR (b:Nat) (B:List UInt8) (d at_:Nat):HProp:=λh=>(8*d<=at_/\at_<=8*B.length/\B.length<=1000000000)/\blk b tR [S_ (B.drop d),nv d,nv at_] h
theorem Zag (H:Holds w (RdR b B d at_::L)):(8*d<=at_/\at_<=8*B.length/\B.length<=1000000000)/\Holds w (blk b tR [S_ (B.drop d),nv d,nv at_]::L):=Holds.pure H
theorem Zc7 (h:8*d<=at_/\at_<=8*B.length/\B.length<=1000000000) (H:Holds w (blk b tR [S_ (B.drop d),nv d,nv at_]::L)):Holds w (RdR b B d at_::L):=Holds.imp H λ_ hh=>⟨h,hh⟩
theorem NewReader_spec (H:Holds w L) (hB:B.length<=1000000000) (k:∀ b w',Same w w'->Holds w' (RdR b B 0 0::L)->K (.pointer (some ⟨b,0,none⟩)) w'):Cl prog 21 #[S_ B] w K:=by
 refine Tz21 ?_;unfold Vz21;refine r_bd (v:=.agg #[S_ B,nv 0,nv 0]) (by kernel_rfl) ?_;refine r_new H λb w1 S1 H1=>?_;exact k b _ S1 (Zc7 ⟨by omega,by omega,hB⟩ (by rw[drop_zero];exact H1))
theorem At_spec (H:Holds w (RdR b B d at_::L)) (k:K (nv at_) w):Cl prog 25 #[.pointer (some ⟨b,0,none⟩)] w K:=by
 refine Tz25 ?_;unfold Vz25;obtain⟨hf,H⟩:=Zag H
 repeat (first|refine r_nc ?_|refine r_fo0 ?_|(with_reducible first|refine Zab ?_|refine r_vf ?_)|refine r_ld 0 H rfl rfl ?_)
 exact k
theorem end_spec (H:Holds w (RdR b B d at_::L)) (k:∀ w',Same w w'->Holds w' (RdR b B d at_::L)->K (nv (8*B.length)) w'):Cl prog 116 #[.pointer (some ⟨b,0,none⟩)] w K:=by
 refine Tz116 ?_;unfold Vz116;obtain⟨hf,H⟩:=Zag H;have S:=Same.refl w
 have hs:(⟨(B.drop d).toArray⟩:ByteArray).size=B.length - d:=by show (B.drop d).toArray.size=_;simp
 repeat (first|refine Zbc (8*B.length) (by omega) (by omega) (by omega) ?_|refine r_nc ?_|refine r_fo0 ?_|refine r_lns ?_|(refine Zac (by omega) ?_)|(refine r_dr H ?_;clear H;intro _ S_ H;replace S:=S.trans S_;clear S_)|refine r_ld 0 H rfl rfl ?_)
 exact k _ S (Zc7 hf H)
theorem Zg3 (H:Holds w (RdR b B d at_::L)) (k:∀ w',Same w w'->Holds w' (RdR b B d at_::L)->K (nv (rest B at_).length) w'):Cl prog 74 #[.pointer (some ⟨b,0,none⟩)] w K:=by
 refine Tz74 ?_;unfold Vz74;have S:=Same.refl w
 repeat (first|(with_reducible first|refine Zab ?_|refine r_vf ?_)|(refine r_dr H ?_;clear H;intro _ S_ H;replace S:=S.trans S_;clear S_))
 rename_i w1;have H0:=H;refine end_spec H λw2 S2 H2=>?_;replace S:=S.trans S2;clear H;have H:=H2;clear H2;obtain⟨hf,H⟩:=Zag H;obtain⟨_,H0⟩:=Zag H0
 repeat (first|refine r_rk (r_ld 0 H0 rfl rfl rfl) ?_|refine r_nc ?_|refine r_fo0 ?_|(refine r_sub (by omega) (by omega) ?_)|refine r_ld 0 H rfl rfl ?_)
 rw[show ((8*B.length:Nat):Int) - (at_:Int)=((rest B at_).length:Int) by rw[Zbm];omega];exact k _ S (Zc7 hf H)
theorem bit_spec (H:Holds w (RdR b B d at_::L)) (h:at_ < 8*B.length) (k:∀ w',Same w w'->Holds w' (RdR b B d at_::L)->K (uv ((rest B at_).getD 0 false).toNat) w'):Cl prog 239 #[.pointer (some ⟨b,0,none⟩),nv at_] w K:=by
 refine Tz239 ?_;unfold Vz239;obtain⟨hf,H⟩:=Zag H;have S:=Same.refl w
 have hs:(⟨(B.drop d).toArray⟩:ByteArray).size=B.length - d:=by show (B.drop d).toArray.size=_;simp
 have hq:((at_:Nat):Int).tdiv 8=((at_/8:Nat):Int):=by rw[Int.tdiv_eq_ediv_of_nonneg (by omega)];simp
 have hr:((at_:Nat):Int).tmod 8=((at_%8:Nat):Int):=by rw[Int.tmod_eq_emod_of_nonneg (by omega)];simp
 repeat (first|refine Zic hq (by omega) (by omega) (by omega) ?_|refine r_nc ?_|refine r_fo0 ?_|(refine r_sub (by omega) (by omega) ?_)|(refine r_dr H ?_;clear H;intro _ S_ H;replace S:=S.trans S_;clear S_)|refine r_ld 0 H rfl rfl ?_)
 rw[show ((at_/8:Nat):Int) - (d:Int)=((at_/8 - d:Nat):Int) by omega]
 repeat (first|refine Zff hr (by omega) ?_|(refine Zb0 (by omega) ?_)|(refine r_sub (by omega) (by omega) ?_))
 rw[show (7:Int) - ((at_%8:Nat):Int)=((7 - at_%8:Nat):Int) by omega];refine Zex (show 7 - at_%8<=8 by omega) ?_;refine Ycd (t:=1) (Nat.lt_of_le_of_lt (Nat.div_le_self _ _) (UInt8.toNat_lt _)) (by omega) ?_;rw[Yd8]
 have e:((⟨(B.drop d).toArray⟩:ByteArray).data.toList.getD (at_/8 - d) 0).toNat.testBit (7 - at_%8)=(rest B at_).getD 0 false:=by
  have:=Yaw B at_ 0 (by omega);rw[gB (l:=rest B at_),this];simp only[Nat.add_zero,Option.getD_some,List.toList_toArray]
  congr 2
  rw[gB,gB,hH_,show d+(at_/8 - d)=at_/8 by omega]
 rw[e];have hb:=Bool.toNat_le ((rest B at_).getD 0 false)
 repeat (refine Zan (by omega) (by omega) ?_)
 exact k _ S (Zc7 hf H)
theorem Get_spec (H:Holds w (RdR b B d at_::L)) (hn:n<=32)
  (ks:(rest B at_).length < n->∀ w',Same w w'->Holds w' (RdR b B d at_::L)->K (.tuple #[uv 0,iv 3]) w')
  (k:n<=(rest B at_).length->∀ w',Same w w'->Holds w' (RdR b B d (at_+n)::L)->K (.tuple #[uv (valB ((rest B at_).take n)),iv 0]) w'):Cl prog 209 #[.pointer (some ⟨b,0,none⟩),nv n] w K:=by
 refine Tz209 ?_;unfold Vz209;have S:=Same.refl w;have hf:=(Zag H).1
 repeat (first|(with_reducible first|refine Zab ?_|refine r_vf ?_))
 refine Za2 (λx w'=>w=w'/\x=.bool false) ?_ ?_
 ·rintro _ _ _ ⟨rfl,rfl⟩
  repeat (with_reducible refine r_vf ?_)
  refine Zg3 H λw2 S2 H2=>?_;replace S:=S.trans S2;clear H;have H:=H2;clear H2
  repeat (refine r_lss ?_)
  refine r_ifD (λh=>?_) λh=>?_
  ·exact ks (by omega) _ S H
  have hlen:=Zbm B at_;refine Za7 (λv x w'=>∃ i:Nat,i<=n/\x=nv i/\v=uv (valB ((rest B at_).take i))/\Same w w'/\Holds w' (RdR b B d (at_+i)::L)) (λ_ x _=>n - (intOf x).toNat) ⟨0,by omega,rfl,rfl,S,H⟩ ?_;clear H S;rintro _ _ _ w3 ⟨i,hi,rfl,rfl,S,H⟩
  repeat (refine r_lss ?_)
  refine r_ifD (λhi2=>?_) λhi2=>?_
  ·have hlt:i < n:=by omega
   have hv:=Zae (rest B at_) i;have hp:(2:Nat)^i<=2^31:=Nat.pow_le_pow_right (by omega) (by omega)
   have hget:(rest B at_)[i]?=some ((rest B (at_+i)).getD 0 false):=by
    rw[<-Zc3,gB,hH_,Nat.add_zero];rw[gA (show i < (rest B at_).length by omega)];rfl
   have hv2:=Zai hget;refine Zcu (n:=1) (by omega) ?_;have H0:=H;obtain⟨_,H0⟩:=Zag H0;refine r_nc (r_fo0 (r_ld 0 H0 rfl rfl ?_));clear H0
   (refine bit_spec H (by omega) λw2 S2 H2=>?_;replace S:=S.trans S2;clear H S2;have H:=H2;clear H2)
   generalize (rest B (at_+i)).getD 0 false=c at *;have hc:=Bool.toNat_le c;refine Zop (by omega) (by omega) ?_
   have ev:valB ((rest B at_).take i)*2^1%4294967296 ||| c.toNat=valB ((rest B at_).take (i+1)):=by
    rw[hv2,Zbl,Nat.mod_eq_of_lt (by omega),Nat.mul_comm];rw[<-Nat.two_pow_add_eq_or_of_lt (i:=1) (by omega)]
   rw[ev];obtain⟨hf2,H⟩:=Zag H
   repeat (first|refine r_nc ?_|refine r_fo0 ?_|(refine Za0 (by omega) ?_)|refine r_ld 0 H rfl rfl ?_)
   refine r_st 0 H rfl (by simp) rfl λw4 S4 H4=>?_;replace H4:Holds w4 (blk b tR [S_ (B.drop d),nv d,nv (at_+i+1)]::L):=H4;replace S:=S.trans S4;clear H
   repeat (first|refine r_ke ?_|(refine Za0 (by omega) ?_))
   refine⟨⟨i+1,by omega,rfl,rfl,S,Zc7 ⟨by omega,by omega,hf.2.2⟩ H4⟩,?_⟩;simp[nv,intOf];omega
  ·obtain rfl:i=n:=by omega
   exact k (by omega) _ S H
 ·repeat (first|refine r_ke ?_|refine r_lss ?_|refine r_gtr ?_|((with_reducible refine r_vfD ?h ?_);(case h=>omega)))
  rw[decide_eq_false (by omega)]
  repeat (fail)
  exact⟨rfl,rfl⟩
theorem Zdt {p:Nat}(H:Holds w (RdR b B d at_::L)) (h1:8*d<=p) (h2:p<=8*B.length) (k:∀ w',Same w w'->Holds w' (RdR b B d p::L)->K (iv 0) w'):Cl prog 60 #[.pointer (some ⟨b,0,none⟩),nv p] w K:=by
 refine Tz60 ?_;unfold Vz60;have S:=Same.refl w;have hf:=(Zag H).1
 repeat (first|(with_reducible first|refine Zab ?_|refine r_vf ?_))
 refine Za2 (λx w'=>x=.bool false/\Same w w'/\Holds w' (RdR b B d at_::L)) ?_ ?_
 ·rintro _ _ w1 ⟨rfl,S,H⟩;obtain⟨_,H⟩:=Zag H
  repeat (first|refine r_nc ?_|refine r_fo0 ?_|(with_reducible refine r_vf ?_))
  refine r_st 0 H rfl (by simp) rfl λw4 S4 H4=>?_;replace H4:Holds w4 (blk b tR [S_ (B.drop d),nv d,nv p]::L):=H4;exact k _ (S.trans S4) (Zc7 ⟨h1,h2,hf.2.2⟩ H4)
 ·have H0:=H;obtain⟨_,H0⟩:=Zag H0
  repeat (first|refine r_ld 0 H0 rfl rfl ?_|refine Zbc (8*d) (by omega) (by omega) (by omega) ?_|refine r_nc ?_|refine r_fo0 ?_|refine r_lss ?_|((with_reducible refine r_vfD ?h ?_);(case h=>omega)))
  refine end_spec H λw2 S2 H2=>?_
  repeat (first|refine r_ke ?_|refine r_gtr ?_)
  refine⟨by rw[decide_eq_false (by omega)],S.trans S2,H2⟩
theorem Zel (B:List UInt8) (a i:Nat):(rest B (a+i))[0]?=(rest B a)[i]?:=by rw[<-Zc3,hH_,Nat.add_zero]
theorem Ze7 (H:Holds w (RdR b B d at_::L))
  (ks:(rest B at_)[0]?=none->∀ w',Same w w'->Holds w' (RdR b B d at_::L)->K (.tuple #[uv 0,iv 3]) w')
  (k:∀ c,(rest B at_)[0]?=some c->∀ w',Same w w'->Holds w' (RdR b B d (at_+1)::L)->K (.tuple #[uv c.toNat,iv 0]) w'):Cl prog 209 #[.pointer (some ⟨b,0,none⟩),iv 1] w K:=by
 refine Get_spec (n:=1) H (by omega) (λh w' S' H'=>ks (List.getElem?_eq_none (by omega)) w' S' H') λh w' S' H'=>?_;have hg:(rest B at_)[0]?=some (rest B at_)[0]:=gA (by omega);have:=k _ hg w' S' H';rw[Zai hg,take_zero,hO_,Zgb];exact this
end Rb
def After {σ:Type}(x:Mp.Res σ) (rep:σ->HProp) (same:HProp) (r:Nat) (B:List UInt8) (d at_:Nat) (L:List HProp) (e:Int) (w:World):Prop:=
 match x with
 |.short=>e=3/\Holds w (same::Rb.RdR r B d at_::L)
 |.bad c=>e=(c:Int)/\∃ p,Holds w (Rb.RdR r B d p::L)
 |.ok s n=>e=0/\Holds w (rep s::Rb.RdR r B d (at_+n)::L)
def AfterS {σ:Type}(x:Mp.Res σ) (rep:σ->HProp) (same:HProp) (r:Nat) (B:List UInt8) (d at_:Nat) (L:List HProp) (e:Int) (w:World):Prop:=
 match x with
 |.short=>e=3/\∃ q,Holds w (same::Rb.RdR r B d q::L)
 |.bad c=>e=(c:Int)/\∃ p,Holds w (Rb.RdR r B d p::L)
 |.ok s n=>e=0/\Holds w (rep s::Rb.RdR r B d (at_+n)::L)
namespace P13
open Go.M01 Go.Mb Go.Mp Rb
variable {w:World}{L:List HProp}{K:KT}{b r:Nat}{B:List UInt8}{d at_ n:Nat}{p:PS}
abbrev tO:Nat:=256
abbrev tP:Nat:=311
def pkC (t c:Nat) (o:List Nat) (pv:Value):List Value:=[nv t,nv c]++(o.map nv++[pv,.bool false])
section
variable {t c:Nat}{o:List Nat}{pv:Value}(ho:o.length=6)
include ho
theorem c8:(pkC t c o pv)[8]?=some pv:=by simp[pkC,ho]
theorem c9:(pkC t c o pv)[9]?=some (.bool false):=by simp[pkC,ho]
theorem clen:(pkC t c o pv).length=10:=by simp[pkC,ho]
theorem s8 (v:Value):(pkC t c o pv).set 8 v=pkC t c o v:=by simp[pkC,ho,List.set_append]
end
theorem c0 {t c:Nat}{o:List Nat}{pv:Value}:(pkC t c o pv)[0]?=some (nv t):=rfl
theorem c1 {t c:Nat}{o:List Nat}{pv:Value}:(pkC t c o pv)[1]?=some (nv c):=rfl
def PkR (b:Nat) (p:PS):HProp:=λh=>p.Ok/\∃ pv,Sat [blk b tP (pkC p.t p.count p.order pv),SL nv tI pv p.picks] h
theorem Zce (H:Holds w (PkR b p::L)):p.Ok/\∃ pv,Holds w (blk b tP (pkC p.t p.count p.order pv)::SL nv tI pv p.picks::L):=by
 obtain⟨h,H⟩:=Holds.pure H;obtain⟨pv,H⟩:=Holds.ex H;exact⟨h,pv,Holds.unpack H⟩
theorem Zef {pv:Value}(h:p.Ok) (H:Holds w (blk b tP (pkC p.t p.count p.order pv)::SL nv tI pv p.picks::L)):Holds w (PkR b p::L):=
 Holds.imp (Holds.pack (A:=[_,_]) H) λ_ hh=>⟨h,pv,hh⟩
def PkW (b:Nat) (p:PS):HProp:=λh=>p.Ok/\∃ pv,Sat [blk b tP ((pkC p.t p.count p.order pv).set 9 (.bool true)),SL nv tI pv p.picks] h
theorem Zg6 {pv:Value}(h:p.Ok) (H:Holds w (blk b tP ((pkC p.t p.count p.order pv).set 9 (.bool true))::SL nv tI pv p.picks::L)):Holds w (PkW b p::L):=
 Holds.imp (Holds.pack (A:=[_,_]) H) λ_ hh=>⟨h,pv,hh⟩
theorem Zys (H:Holds w (PkW b p::L)):p.Ok/\∃ pv,Holds w (blk b tP ((pkC p.t p.count p.order pv).set 9 (.bool true))::SL nv tI pv p.picks::L):=by
 obtain⟨h,H⟩:=Holds.pure H;obtain⟨pv,H⟩:=Holds.ex H;exact⟨h,pv,Holds.unpack H⟩
def AfterP (x:Res PS) (b:Nat) (p:PS) (r:Nat) (B:List UInt8) (d at_:Nat) (L:List HProp) (e:Int) (w:World):Prop:=
 match x with
 |.short=>e=3/\Holds w (PkR b p::RdR r B d at_::L)
 |.bad c=>e=(c:Int)/\∃ q,Holds w (PkW b p::RdR r B d q::L)
 |.ok s n=>e=0/\Holds w (PkR b s::RdR r B d (at_+n)::L)
def AfterPS (x:Res PS) (b:Nat) (p:PS) (r:Nat) (B:List UInt8) (d at_:Nat) (L:List HProp) (e:Int) (w:World):Prop:=
 match x with
 |.short=>e=3/\∃ q,Holds w (PkR b p::RdR r B d q::L)
 |.bad c=>e=(c:Int)/\∃ q,Holds w (PkW b p::RdR r B d q::L)
 |.ok s n=>e=0/\Holds w (PkR b s::RdR r B d (at_+n)::L)
theorem Zju (H:Holds w L) (k:∀ w',Same w w'->Holds w' L->K (.agg #[nv 0,nv 1,nv 2,nv 3,nv 4,nv 5]) w'):Cl prog 193 #[] w K:=by
 refine Tz193 ?_;unfold Vz193;have S:=Same.refl w
 have hz:(zeroP prog tO).cells.toList=[nv 0,nv 0,nv 0,nv 0,nv 0,nv 0]:=by kernel_rfl
 refine r_new H λb1 w1 S1 H1=>?_;rw[hz] at H1;refine r_new H1 λb2 w2 S2 H2=>?_;rw[hz] at H2;replace S:=(S.trans S1).trans S2;clear H H1;refine Za8 (λx w'=>∃ i:Nat,i<=6/\x=nv i/\Same w w'/\Holds w' (blk b2 tO ([]++((filled [0,1,2,3,4,5] 0 6 i).map nv++[]))::blk b1 tO [nv 0,nv 0,nv 0,nv 0,nv 0,nv 0]::L)) (λx _=>6 - (intOf x).toNat) ⟨0,by omega,rfl,S,H2⟩ ?_;clear S H2;rintro _ _ w3 ⟨i,hi,rfl,S,H⟩
 repeat (refine r_lss ?_)
 refine r_ifD (λh=>?_) λh=>?_
 ·have hlt:i < 6:=by omega
  have hl:(filled [0,1,2,3,4,5] 0 6 i).length=6:=Zbd (by omega) rfl
  repeat (refine Zal (by omega) ?_)
  refine r_st 0 H rfl (by simp[hl];omega) rfl λw4 S4 H4=>?_;have e:=Zj4 (f:=nv) (xs:=filled [0,1,2,3,4,5] 0 6 i) (post:=[]) (j:=i) [] i (by omega)
  rw[Zbe hlt rfl (show[0,1,2,3,4,5][i]?=some i by
   have h6:i=0\/i=1\/i=2\/i=3\/i=4\/i=5:=by omega
   rcases h6 with rfl|rfl|rfl|rfl|rfl|rfl <;> rfl)] at e
  rw[length_nil] at e;rw[gJ,e] at H4
  repeat (first|refine r_ke ?_|(refine Za0 (by omega) ?_))
  refine⟨⟨i+1,by omega,rfl,S.trans S4,H4⟩,?_⟩;simp[nv,intOf];omega
 ·obtain rfl:i=6:=by omega
  replace H:Holds w3 (blk b2 tO [nv 0,nv 1,nv 2,nv 3,nv 4,nv 5]::blk b1 tO [nv 0,nv 0,nv 0,nv 0,nv 0,nv 0]::L):=H;refine r_ldA 0 H [nv 0,nv 1,nv 2,nv 3,nv 4,nv 5] rfl rfl rfl ?_;refine r_stA 1 H (vs:=[nv 0,nv 1,nv 2,nv 3,nv 4,nv 5]) rfl (by simp) rfl rfl λw4 S4 H4=>?_;replace H4:Holds w4 (blk b2 tO [nv 0,nv 1,nv 2,nv 3,nv 4,nv 5]::blk b1 tO [nv 0,nv 1,nv 2,nv 3,nv 4,nv 5]::L):=H4;refine r_ldA 1 H4 [nv 0,nv 1,nv 2,nv 3,nv 4,nv 5] rfl rfl rfl ?_;exact k _ (S.trans S4) H4.drop.drop
theorem NewReader_spec (H:Holds w L) (k:∀ b w',Same w w'->Holds w' (PkR b p0::L)->K (pt b) w'):Cl prog 259 #[] w K:=by
 refine Tz259 ?_;unfold Vz259;refine Zju H λw1 S1 H1=>?_;refine r_bd (v:=.agg #[nv 0,nv 0,nv 0,nv 1,nv 2,nv 3,nv 4,nv 5,.slice none 0 0,.bool false]) (by kernel_rfl) ?_;refine r_new H1 λb w2 S2 H2=>?_;refine k b _ (S1.trans S2) (Zef (pv:=.slice none 0 0) p0_ok ?_);exact ((H2.nilSL nv tI).swap)
theorem Done_spec (H:Holds w (PkR b p::L)) (k:∀ w',Same w w'->Holds w' (PkR b p::L)->K (.bool p.done) w'):Cl prog 244 #[pt b] w K:=by
 refine Tz244 ?_;unfold Vz244;obtain⟨hp,pv,H⟩:=Zce H;obtain⟨oa,sp,rfl,H⟩:=H.open 1 rfl;have S:=Same.refl w;have ho:=hp.ord;rw[gW,gJ] at H
 repeat (first|((with_reducible apply r_ld 0 H);(exact rfl);(with_reducible exact (c1)))|refine r_nc ?_|refine r_fo0 ?_|refine r_gtr ?_|(with_reducible first|refine Zc4 ?_|refine r_vt ?_)|(refine r_dr H ?_;clear H;intro _ S_ H;replace S:=S.trans S_;clear S_))
 have fin:∀ w',Holds w' (blk b tP (pkC p.t p.count p.order (.slice oa p.picks.length (p.picks.length+sp.length)))::slb nv tI oa p.picks sp::L)->Holds w' (PkR b p::L):=λw' H=>by
  have H2:=H.close 1 rfl;exact Zef hp H2
 refine r_ifD (λh=>?_) λh=>?_
 ·repeat (first|((with_reducible apply r_ld 0 H);(exact rfl);(with_reducible exact (c1)))|((with_reducible apply r_ld 0 H);(exact rfl);(with_reducible exact ((c8 ho))))|refine r_nc ?_|refine r_fo0 ?_|refine r_lnl ?_|refine r_eql ?_)
  have:=k _ S (fin _ H)
  have e:p.done=((p.picks.length:Int)==(p.count:Int)):=by
   unfold PS.done;rw[Bool.eq_iff_iff,decide_eq_true_iff,beq_iff_eq];omega
  rw[e] at this;exact this
 ·have:=k _ S (fin _ H)
  have e:p.done=false:=by
   unfold PS.done;rw[decide_eq_false_iff_not];omega
  rw[e] at this;exact this
theorem Ztc (H:Holds w (PkW b p::L)) (hd:p.done=false) (k:∀ w',Same w w'->Holds w' (PkW b p::L)->K (.bool false) w'):Cl prog 244 #[pt b] w K:=by
 refine Tz244 ?_;unfold Vz244;obtain⟨hp,pv,H⟩:=Zys H;obtain⟨oa,sp,rfl,H⟩:=H.open 1 rfl;have S:=Same.refl w;have ho:=hp.ord;rw[gW,gJ] at H;have c1':∀ pv,((pkC p.t p.count p.order pv).set 9 (.bool true))[1]?=some (nv p.count):=λpv=>rfl
 have c8':∀ pv,((pkC p.t p.count p.order pv).set 9 (.bool true))[8]?=some pv:=λpv=>by rw[hY_ (by omega)];exact c8 ho
 repeat (first|refine r_ld 0 H rfl (c1' _) ?_|refine r_nc ?_|refine r_fo0 ?_|refine r_gtr ?_|(with_reducible first|refine Zc4 ?_|refine r_vt ?_)|(refine r_dr H ?_;clear H;intro _ S_ H;replace S:=S.trans S_;clear S_))
 unfold PS.done at hd;rw[decide_eq_false_iff_not] at hd;refine r_ifD (λh=>?_) λh=>?_
 ·repeat (first|refine r_ld 0 H rfl (c1' _) ?_|refine r_ld 0 H rfl (c8' _) ?_|refine r_nc ?_|refine r_fo0 ?_|refine r_lnl ?_|refine r_eql ?_)
  have:=k _ S (Zg6 hp (H.close 1 rfl));rw[show ((p.picks.length:Int)==(p.count:Int))=false from beq_eq_false_iff_ne.2 (by omega)];exact this
 ·exact k _ S (Zg6 hp (H.close 1 rfl))
theorem Zpv (H:Holds w (PkR b p::L)) (k:K (nv p.t) w):Cl prog 246 #[pt b] w K:=by
 refine Tz246 ?_;unfold Vz246;obtain⟨hp,pv,H⟩:=Zce H
 repeat (first|((with_reducible apply r_ld 0 H);(exact rfl);(with_reducible exact (c0)))|refine r_nc ?_|refine r_fo0 ?_|(with_reducible first|refine Zab ?_|refine r_vf ?_))
 exact k
theorem Zss (H:Holds w (PkR b p::L)) (k:∀ v w',Same w w'->Holds w' (SL nv tI v p.picks::PkR b p::L)->K v w'):Cl prog 262 #[pt b] w K:=by
 refine Tz262 ?_;unfold Vz262;obtain⟨hp,pv,H⟩:=Zce H;have ho:=hp.ord;have hl:=hp.len;have hc:=hp.cnt
 repeat (first|((with_reducible apply r_ld 0 H);(exact rfl);(with_reducible exact ((c8 ho))))|refine r_nc ?_|refine r_fo0 ?_|(with_reducible first|refine Zab ?_|refine r_vf ?_))
 refine Zbt H 1 rfl (by omega) λv w1 S1 H1=>?_;refine k v w1 S1 ?_;have H2:=H1.swap;have:=Holds.front H1 2 rfl;have H3:Holds w1 (blk b tP (pkC p.t p.count p.order pv)::SL nv tI pv p.picks::SL nv tI v p.picks::L):=(Holds.front H1 2 rfl).front 2 rfl;exact (Zef hp H3).swap
theorem touch_spec {t c i:Nat}{o:List Nat}{pv:Value}(ho:o.length=6) (H:Holds w (blk b tP (pkC t c o pv)::L)) (hi:i < 6)
  (k:∀ w',Same w w'->Holds w' (blk b tP (pkC t c (front o i) pv)::L)->K (nv (o.getD i 0)) w'):Cl prog 232 #[.pointer (some ⟨b,2,none⟩),nv i] w K:=by
 refine Tz232 ?_;unfold Vz232;have S:=Same.refl w
 have hget:∀ {o':List Nat} {j:Nat},o'.length=6->j < 6->(pkC t c o' pv)[2+j]?=some (nv (o'.getD j 0)):=λ{o' j} h6 hj=>by
  refine Zm2 (f:=nv) (xs:=o') [nv t,nv c] ?_;rw[gB,gA (by omega)];rfl
 have hset:∀ {o':List Nat} {j:Nat} (x:Nat),o'.length=6->j < 6->(pkC t c o' pv).set (2+j) (nv x)=pkC t c (o'.set j x) pv:=λ{o' j} x h6 hj=>by
  exact Zj4 (f:=nv) (xs:=o') [nv t,nv c] x (by omega)
 repeat (first|((with_reducible apply r_ld 0 H);(exact rfl);(with_reducible exact ((hget ho hi))))|refine r_nc ?_|(refine Zal (by omega) ?_))
 have hlen:∀ j,j<=i->(o.take (j+1)++((o.drop j).take (i - j)++o.drop (i+1))).length=6:=λj hj=>by
  simp;omega
 refine Za8 (λx w'=>∃ j:Nat,j<=i/\x=nv j/\Same w w'/\Holds w' (blk b tP (pkC t c (o.take (j+1)++((o.drop j).take (i - j)++o.drop (i+1))) pv)::L)) (λx _=>(intOf x).toNat) ⟨i,by omega,rfl,S,?_⟩ ?_
 ·rw[Nat.sub_self,take_zero,hO_,hN_];exact H
 clear H S;rintro _ _ w1 ⟨j,hj,rfl,S,H⟩;have h6:=hlen j hj
 repeat (refine r_gtr ?_)
 refine r_ifD (λh=>?_) λh=>?_
 ·have hj1:j - 1 < 6:=by omega
  repeat (first|((with_reducible apply r_ld 0 H);(exact rfl);(with_reducible exact ((hget h6 hj1))))|refine r_nc ?_|(refine Zaa (by omega) (by omega) ?_)|(refine Zal (by omega) ?_)|(refine r_dr H ?_;clear H;intro _ S_ H;replace S:=S.trans S_;clear S_))
  refine r_st 0 H rfl (by rw[clen h6];omega) rfl λw2 S2 H2=>?_;rw[gJ,hset _ h6 (by omega)] at H2
  have e:(o.take (j+1)++((o.drop j).take (i - j)++o.drop (i+1))).set j ((o.take (j+1)++((o.drop j).take (i - j)++o.drop (i+1))).getD (j - 1) 0)=o.take (j - 1+1)++((o.drop (j - 1)).take (i - (j - 1))++o.drop (i+1)):=by
   have hx:(o.take (j+1)++((o.drop j).take (i - j)++o.drop (i+1))).getD (j - 1) 0=o.getD (j - 1) 0:=by
    rw[gB,gB,gM (by simp;omega),hI_ (by omega)]
   rw[hx];obtain⟨m,rfl⟩:∃ m,j=m+1:=⟨j - 1,by omega⟩;rw[Nat.add_sub_cancel]
   have h1:o.drop m=o.getD m 0::o.drop (m+1):=by
    rw[gB,gA (by omega)];exact (List.getElem_cons_drop (by omega)).symm
   have h2:o.take (m+1+1)=o.take (m+1)++[o.getD (m+1) 0]:=by
    refine Zai ?_;rw[gB,gA (by omega)];rfl
   rw[h1,show i - m=(i - (m+1))+1 by omega,List.take_succ_cons,h2,gI,set_append_right _ _ (by simp;omega)]
   have h3:(o.take (m+1)).length=m+1:=by simp;omega
   rw[h3,Nat.sub_self];rfl
  rw[e] at H2
  repeat (first|refine r_ke ?_|(refine Zaa (by omega) (by omega) ?_))
  refine⟨⟨j - 1,by omega,rfl,S.trans S2,H2⟩,?_⟩;simp[nv,intOf];omega
 ·obtain rfl:j=0:=by omega
  repeat (first|refine Zal (m:=0) (by omega) ?_|refine r_nc ?_)
  refine r_st 0 H rfl (by rw[clen h6];omega) rfl λw2 S2 H2=>?_;rw[gJ,hset (j:=0) _ h6 (by omega)] at H2
  have e:(o.take (0+1)++((o.drop 0).take (i - 0)++o.drop (i+1))).set 0 (o.getD i 0)=front o i:=by
   unfold front
   cases o with
   |nil=>simp at ho
   |cons x o=>rfl
  rw[e] at H2;exact k _ (S.trans S2) H2
theorem Zwe (H:Holds w (PkR b p::RdR r B d at_::L)) (h0:p.count=0) (post:∀ e w',Same w w'->AfterPS (pstep p (rest B at_)) b p r B d at_ L e w'->K (iv e) w') :
  Cl prog 275 #[pt b,pt r] w K:=by
 refine Tz275 ?_;unfold Vz275;refine Get_spec (n:=18) H.swap (by omega) (λhs w2 S H=>?_) λhs w2 S H=>?_
 ·repeat (first|refine r_neq ?_|(with_reducible first|refine Za4 ?_|refine Za3 ?_)|((with_reducible refine r_vtN ?h ?_);(case h=>omega)))
  refine post 3 _ S ?_;unfold pstep;rw[if_pos h0,if_pos hs];exact⟨rfl,_,H.swap⟩
 ·have hv:=Zae (rest B at_) 18
  have e0:pstep p (rest B at_)=if valB ((rest B at_).take 18)/32768 < 2\/6 < valB ((rest B at_).take 18)/32768\/valB ((rest B at_).take 18)%32768=0 then .bad 25
   else .ok ⟨valB ((rest B at_).take 18)/32768,valB ((rest B at_).take 18)%32768,p.order,p.picks⟩ 18:=by
   unfold pstep;rw[if_pos h0,if_neg (by omega)]
  have hok:=λp' k (h:pstep p (rest B at_)=.ok p' k) (hp:p.Ok)=>Zhh h hp (by simp[PS.done,h0]);rw[e0] at post hok;generalize valB ((rest B at_).take 18)=v at *
  repeat (first|refine Zex (n:=15) (by decide) ?_|refine r_neq ?_|(with_reducible first|refine Za4 ?_|refine Za3 ?_)|(refine Zcv (by omega) (by omega) ?_)|((with_reducible refine r_vfN ?h ?_);(case h=>omega)))
  have h15:v/2^15=v/32768:=rfl;rw[h15]
  repeat (fail)
  refine Zl5 (t:=32767) (by omega) (by omega) ?_;rw[show v &&& 32767=v%32768 from Nat.and_two_pow_sub_one_eq_mod v 15]
  repeat (refine Zcv (by omega) (by omega) ?_)
  refine Za2 (λx w'=>w2=w'/\x=.bool (decide (v/32768 < 2\/6 < v/32768\/v%32768=0))) ?_ ?_
  ·rintro _ _ _ ⟨rfl,rfl⟩;replace H:=H.swap;obtain⟨hp,pv,H⟩:=Zce H;have ho:=hp.ord;refine r_ifD (λh=>?_) λh=>?_
   ·rw[if_pos h] at post;refine Tz281 ?_;unfold Vz281
    repeat (first|refine r_nc ?_|refine r_fo0 ?_)
    refine r_st 0 H rfl (by rw[clen ho];omega) rfl λw3 S3 H3=>?_;refine post 25 _ (S.trans S3) ⟨rfl,at_+18,?_⟩;rw[gJ] at H3;exact Zg6 hp H3
   ·rw[if_neg h] at post hok
    repeat (first|refine r_nc ?_|refine r_fo0 ?_)
    refine r_st 0 H rfl (by rw[clen ho];omega) rfl λw3 S3 H3=>?_;replace H3:Holds w3 (blk b tP (pkC (v/32768) p.count p.order pv)::SL nv tI pv p.picks::RdR r B d (at_+18)::L):=H3
    repeat (first|refine r_nc ?_|refine r_fo0 ?_)
    refine r_st 0 H3 rfl (by rw[clen ho];omega) rfl λw4 S4 H4=>?_;replace H4:Holds w4 (blk b tP (pkC (v/32768) (v%32768) p.order pv)::SL nv tI pv p.picks::RdR r B d (at_+18)::L):=H4;exact post 0 _ ((S.trans S3).trans S4) ⟨rfl,Zef (p:=⟨v/32768,v%32768,p.order,p.picks⟩) (hok _ _ rfl hp) H4⟩
  ·refine Tz190 ?_;unfold Vz190
   repeat (refine r_geq ?_)
   refine r_ifD (λh=>?_) λh=>?_
   ·repeat (first|refine r_leq ?_|refine r_not ?_)
    rcases hU_ 6 (v/32768) with h6|h6
    ·rw[decide_eq_false (by omega),Bool.not_false]
     repeat (first|refine r_ke ?_|(with_reducible refine r_vt ?_))
     exact⟨rfl,by rw[decide_eq_true (by omega)]⟩
    ·rw[decide_eq_true (by omega),Bool.not_true]
     repeat (first|refine r_ke ?_|refine r_eql ?_|(with_reducible refine r_vf ?_))
     refine⟨rfl,?_⟩
     congr 1
     rw[Bool.eq_iff_iff,decide_eq_true_iff,beq_iff_eq];omega
   ·repeat (first|refine r_ke ?_|(with_reducible first|refine Zbo ?_|refine r_vt ?_))
    exact⟨rfl,by rw[decide_eq_true (by omega)]⟩
theorem pick_spec (H:Holds w (PkR b p::RdR r B d at_::L)) (h0:p.count≠0) (hd:p.done=false) (post:∀ e w',Same w w'->AfterPS (pstep p (rest B at_)) b p r B d at_ L e w'->K (iv e) w') :
  Cl prog 274 #[pt b,pt r] w K:=by
 refine Tz274 ?_;unfold Vz274;have S:=Same.refl w;have hp:=(Zce H).1;have ht:=hp.tbl (by omega);have ho:=hp.ord;have hpl:=hp.len;have hpc:=hp.cnt;have H0:=(Zce H).2.choose_spec
 repeat (first|refine r_ld 0 H0 rfl c0 ?_|refine r_nc ?_|refine r_fo0 ?_)
 clear H0;refine Za8 (λx w'=>∃ i:Nat,i<=p.t/\x=nv i/\(∀ j,j < i->(rest B at_)[j]?=some true)/\Same w w'/\Holds w' (PkR b p::RdR r B d (at_+i)::L)) (λx _=>p.t - (intOf x).toNat) ⟨0,by omega,rfl,λj hj=>absurd hj (Nat.not_lt_zero j),S,H⟩ ?_;clear H S;rintro _ _ w1 ⟨i,hi,rfl,hl,S,H⟩
 repeat (refine r_lss ?_)
 refine r_ifD (λh=>?_) λh=>?_
 ·have hlt:i < p.t:=by omega
  refine Ze7 H.swap (λhs w2 S2 H2=>?_) λc hc w2 S2 H2=>?_
  ·rw[Zel] at hs
   repeat (first|refine r_neq ?_|(with_reducible first|refine Za4 ?_|refine Za3 ?_)|((with_reducible refine r_vtN ?h ?_);(case h=>omega)))
   have e:lead (rest B at_)=i:=by
    have h1:=Zwp hl;have h2:=Zp2 (rest B at_)
    have h3:(rest B at_).length<=i:=by simpa using hs
    omega
   have e2:(rest B at_).length=i:=by
    have h2:=Zp2 (rest B at_)
    have h3:(rest B at_).length<=i:=by simpa using hs
    omega
   refine post 3 _ (S.trans S2) ?_;unfold pstep;rw[if_neg h0,e,if_neg (by omega),if_pos e2.symm];exact⟨rfl,_,H2.swap⟩
  ·rw[Zel] at hc
   repeat (first|refine r_eql ?_|refine r_neq ?_|(with_reducible first|refine Za4 ?_|refine Za3 ?_)|((with_reducible refine r_vfN ?h ?_);(case h=>omega)))
   cases c with
   |true=>
    refine r_vfE (by decide) ?_
    repeat (first|refine r_ke ?_|(refine Za0 (by omega) ?_))
    refine⟨⟨i+1,by omega,rfl,λj hj=>?_,S.trans S2,H2.swap⟩,?_⟩
    ·rcases hU_ j i with h1|h1
     ·exact hl j h1
     ·obtain rfl:j=i:=by omega
      exact hc
    ·simp[nv,intOf];omega
   |false=>
    have e:lead (rest B at_)=i:=Ych hl hc;have hlen:i < (rest B at_).length:=(gH.1 hc).1
    have e0:pstep p (rest B at_)=.ok ⟨p.t,p.count,front p.order i,p.picks++[p.order.getD i 0]⟩ (i+1):=by
     unfold pstep;rw[if_neg h0,e,if_neg (by omega),if_neg (by omega)]
    rw[e0] at post;have hok:=Zhh e0 hp hd;replace S:=S.trans S2;replace H:=H2.swap;clear H2;obtain⟨_,pv,H⟩:=Zce H;refine r_vtE rfl ?_
    repeat (first|((with_reducible apply r_ld 0 H);(exact rfl);(with_reducible exact ((c8 ho))))|refine r_nc ?_|refine r_fo0 ?_|(refine r_dr H ?_;clear H;intro _ S_ H;replace S:=S.trans S_;clear S_))
    have H0:=H;refine touch_spec (i:=i) ho H (by omega) λw3 S3 H3=>?_;replace S:=S.trans S3
    have hfl:(front p.order i).length=6:=by rw[Zfj (by omega)];exact ho
    refine r_rk (r_ld 0 H3 rfl (c8 hfl) rfl) ?_;obtain⟨oa,sp,rfl,H4⟩:=H3.open 1 rfl;rw[gW,gJ] at H4;refine r_bs1 H4 rfl λb3 w4 S4 H5=>?_;replace S:=S.trans S4;refine r_rk (r_ld 1 H5 rfl (c8 hfl) rfl) ?_;refine r_ap (f:=nv) (ys:=[p.order.getD i 0]) H5 2 0 (xs:=p.picks) (sp:=sp) rfl rfl rfl rfl rfl rfl sg_nv (by rw[gQ];omega) (by simp) λoa' sp' w5 S5 H6=>?_;replace S:=S.trans S5;rw[gW,gW,gJ] at H6;replace H6:=H6.drop;clear H H0 H3 H4 H5;have H:=H6;clear H6
    repeat (first|refine r_nc ?_|refine r_fo0 ?_)
    refine r_st 0 H rfl (by rw[clen hfl];omega) rfl λw6 S6 H7=>?_;rw[gJ,s8 hfl] at H7;have H8:=H7.close 1 rfl;rw[gW,gJ] at H8
    have hln:p.picks.length+[p.order.getD i 0].length=(p.picks++[p.order.getD i 0]).length:=by simp
    refine post 0 _ (S.trans S6) ⟨rfl,Zef (p:=⟨p.t,p.count,front p.order i,p.picks++[p.order.getD i 0]⟩) (pv:=.slice oa' (p.picks++[p.order.getD i 0]).length ((p.picks++[p.order.getD i 0]).length+sp'.length)) hok ?_⟩;rw[hln] at H8;rw[hG_] at H8;exact H8
 ·obtain rfl:i=p.t:=by omega
  obtain⟨_,pv,H⟩:=Zce H;refine Tz281 ?_;unfold Vz281
  repeat (first|refine r_nc ?_|refine r_fo0 ?_)
  refine r_st 0 H rfl (by rw[clen ho];omega) rfl λw3 S3 H3=>?_;refine post 25 _ (S.trans S3) ?_;unfold pstep;rw[if_neg h0,if_pos (Zwp hl)];rw[gJ] at H3;exact⟨rfl,_,Zg6 hp H3⟩
theorem Ziq {same:HProp}{q:Nat}(H:Holds w (same::RdR r B d q::L)) (h:8*d<=at_/\at_<=8*B.length) (k:∀ w',Same w w'->Holds w' (same::RdR r B d at_::L)->K (iv 0) w'):Cl prog 60 #[pt r,nv at_] w K:=
 Zdt H.swap h.1 h.2 λw' S' H'=>k w' S' H'.swap
theorem Step_spec (H:Holds w (PkR b p::RdR r B d at_::L)) (hd:p.done=false) (post:∀ e w',Same w w'->AfterP (pstep p (rest B at_)) b p r B d at_ L e w'->K (iv e) w') :
  Cl prog 261 #[pt b,pt r] w K:=by
 refine Tz261 ?_;unfold Vz261;have S:=Same.refl w;have hf:=(Zag H.swap).1
 have fin:∀ e w',Same w w'->AfterPS (pstep p (rest B at_)) b p r B d at_ L e w'->Bp .eql (iv e) (.int .i64 3) λx_8=>Vif x_8 (Cl prog 60 #[pt r,nv at_] w' λx_9 w5=>K (iv e) w5) (K (iv e) w'):=by
  intro e w' S' hA;refine r_eql ?_
  cases hx:pstep p (rest B at_) with
  |short=>
   rw[hx] at hA post;obtain⟨rfl,q,H'⟩:=hA;refine r_vtE rfl ?_;exact Ziq H' ⟨hf.1,hf.2.1⟩ λw2 S2 H2=>post 3 _ (S'.trans S2) ⟨rfl,H2⟩
  |bad c=>
   rw[hx] at hA post;refine r_vfE ?_ (post e w' S' hA);rw[hA.1,Zmq hx];decide
  |ok s n=>
   rw[hx] at hA post;refine r_vfE ?_ (post e w' S' hA);rw[hA.1];decide
 repeat (fail)
 refine Za2 (λx w'=>x=.bool false/\Same w w'/\Holds w' (PkR b p::RdR r B d at_::L)) ?_ ?_
 ·clear H S;rintro _ _ w1 ⟨rfl,S,H⟩;have H0:=H;obtain⟨hp,pv,H0⟩:=Zce H0;have ho:=hp.ord
  repeat (first|refine r_ld 0 H0 rfl (c9 ho) ?_|refine r_nc ?_|refine r_fo0 ?_|(with_reducible refine r_vf ?_))
  refine At_spec H.swap ?_;refine r_mf (.func (.func 274) #[pt b] #[]) (by kernel_rfl) ?_;refine Za2 (λx w'=>w1=w'/\((p.count=0/\x=.func (.func 275) #[pt b] #[])\/(p.count≠0/\x=.func (.func 274) #[pt b] #[]))) ?_ ?_
  ·rintro _ _ _ ⟨rfl,⟨h0,rfl⟩|⟨h0,rfl⟩⟩
   ·refine r_inv (f:=275) (args:=#[pt b,pt r]) (by kernel_rfl) ?_;exact Zwe H h0 λe w' S' hA=>fin e w' (S.trans S') hA
   ·refine r_inv (f:=274) (args:=#[pt b,pt r]) (by kernel_rfl) ?_;exact pick_spec H h0 hd λe w' S' hA=>fin e w' (S.trans S') hA
  ·repeat (first|refine r_ld 0 H0 rfl c1 ?_|refine r_nc ?_|refine r_fo0 ?_|refine r_eql ?_)
   refine r_ifE (λh=>?_) λh=>?_
   ·refine r_mf (.func (.func 275) #[pt b] #[]) (by kernel_rfl) ?_
    repeat (refine r_ke ?_)
    exact⟨rfl,.inl ⟨by omega,rfl⟩⟩
   ·repeat (refine r_ke ?_)
    exact⟨rfl,.inr ⟨by omega,rfl⟩⟩
 ·repeat (first|(with_reducible first|refine Zab ?_|refine r_vf ?_))
  refine Done_spec H λw2 S2 H2=>?_;rw[hd]
  repeat (refine r_ke ?_)
  exact⟨rfl,S2,H2⟩
end P13
namespace D11
open Go.M01 Go.Mb Go.Mp Rb
variable {w:World}{L:List HProp}{K:KT}{b r:Nat}{B:List UInt8}{d at_ n:Nat}{p:DS}
abbrev tD:Nat:=318
def DlR (b:Nat) (p:DS):HProp:=λh=>(p.Ok/\p.size<=258)/\∃ pv,Sat [blk b tD [nv p.size,nv p.now,pv,.bool false],SL nv tI pv p.lens] h
theorem Zcs (H:Holds w (DlR b p::L)):(p.Ok/\p.size<=258)/\∃ pv,Holds w (blk b tD [nv p.size,nv p.now,pv,.bool false]::SL nv tI pv p.lens::L):=by
 obtain⟨h,H⟩:=Holds.pure H;obtain⟨pv,H⟩:=Holds.ex H;exact⟨h,pv,Holds.unpack H⟩
theorem Zdu {pv:Value}(h:p.Ok/\p.size<=258) (H:Holds w (blk b tD [nv p.size,nv p.now,pv,.bool false]::SL nv tI pv p.lens::L)):Holds w (DlR b p::L):=
 Holds.imp (Holds.pack (A:=[_,_]) H) λ_ hh=>⟨h,pv,hh⟩
theorem NewReader_spec {n:Nat}(H:Holds w L) (h1:3<=n) (h2:n<=258) (k:∀ b w',Same w w'->Holds w' (DlR b (d0 n)::L)->K (.tuple #[pt b,iv 0]) w'):Cl prog 258 #[nv n] w K:=by
 refine Tz258 ?_;unfold Vz258;refine Tz195 ?_;unfold Vz195
 repeat (first|refine r_leq ?_|refine r_geq ?_|refine r_not ?_|((with_reducible refine r_vtD ?h ?_);(case h=>omega)))
 rw[decide_eq_true (show (n:Int)<=258 by omega),Bool.not_true]
 repeat (with_reducible refine r_vf ?_)
 refine r_bd (v:=.agg #[nv n,nv 0,.slice none 0 0,.bool false]) (by kernel_rfl) ?_;refine r_new H λb w2 S2 H2=>?_;exact k b _ S2 (Zdu (pv:=.slice none 0 0) ⟨d0_ok n,h2⟩ (H2.nilSL nv tI).swap)
theorem Done_spec (H:Holds w (DlR b p::L)) (k:∀ w',Same w w'->Holds w' (DlR b p::L)->K (.bool p.done) w'):Cl prog 264 #[pt b] w K:=by
 refine Tz264 ?_;unfold Vz264;obtain⟨hp,pv,H⟩:=Zcs H;obtain⟨oa,sp,rfl,H⟩:=H.open 1 rfl;have S:=Same.refl w;rw[gW,gJ] at H
 repeat (first|refine r_nc ?_|refine r_fo0 ?_|refine r_lnl ?_|refine r_eql ?_|(with_reducible first|refine Zc4 ?_|refine r_vt ?_)|(refine r_dr H ?_;clear H;intro _ S_ H;replace S:=S.trans S_;clear S_)|refine r_ld 0 H rfl rfl ?_)
 have:=k _ S (Zdu hp (H.close 1 rfl))
 have e:p.done=((p.lens.length:Int)==(p.size:Int)):=by
  unfold DS.done;rw[Bool.eq_iff_iff,decide_eq_true_iff,beq_iff_eq];omega
 rw[e] at this;exact this
theorem Zuh (H:Holds w (DlR b p::L)) (k:∀ v w',Same w w'->Holds w' (SL nv tI v p.lens::DlR b p::L)->K v w'):Cl prog 265 #[pt b] w K:=by
 refine Tz265 ?_;unfold Vz265;obtain⟨hp,pv,H⟩:=Zcs H;have hl:=hp.1.len
 repeat (first|refine r_nc ?_|refine r_fo0 ?_|(with_reducible first|refine Zab ?_|refine r_vf ?_)|refine r_ld 0 H rfl rfl ?_)
 refine Zbt H 1 rfl (by omega) λv w1 S1 H1=>?_;refine k v w1 S1 ?_;have H3:Holds w1 (blk b tD [nv p.size,nv p.now,pv,.bool false]::SL nv tI pv p.lens::SL nv tI v p.lens::L):=(Holds.front H1 2 rfl).front 2 rfl;exact (Zdu hp H3).swap
theorem Zjg {n:Int}{k0:Nat}(H:Holds w (DlR b p::RdR r B d (at_+k0)::L)) (ht:dstep p (rest B at_)=turn p n k0) (hd:p.done=false) (hn:-1000<=n) (hn2:n<=1000) (post:∀ e w',Same w w'->AfterS (dstep p (rest B at_)) (DlR b) (DlR b p) r B d at_ L e w'->K (iv e) w') :
  Cl prog 282 #[pt b,iv n] w K:=by
 refine Tz282 ?_;unfold Vz282;have S:=Same.refl w;refine r_cl (K:=λx w'=>w=w'/\x=.bool (decide (¬ (n < 1\/20 < n)))) ?_ ?_
 ·refine Tz197 ?_;unfold Vz197
  repeat (refine r_geq ?_)
  refine r_ifD (λh=>?_) λh=>?_
  ·repeat (refine r_leq ?_)
   refine⟨rfl,?_⟩
   congr 1
   rw[Bool.eq_iff_iff,decide_eq_true_iff,decide_eq_true_iff];omega
  ·exact⟨rfl,by rw[decide_eq_false (by omega)]⟩
 rintro _ _ ⟨rfl,rfl⟩;obtain⟨hp,pv,H⟩:=Zcs H;have hok:=λp' k (h:dstep p (rest B at_)=.ok p' k)=>Zfi h hp.1 hd;rw[ht] at post hok;unfold turn at post hok
 by_cases hc:n < 1\/20 < n
 ·rw[if_pos hc] at post;rw[decide_eq_false (by omega)]
  repeat (first|refine r_nc ?_|refine r_fo0 ?_|(with_reducible first|refine Zbo ?_|refine r_vt ?_))
  refine r_st 0 H rfl (by simp) rfl λw3 S3 H3=>?_;refine post 22 _ S3 ⟨rfl,at_+k0,?_⟩;rw[gJ] at H3;exact H3.drop.drop
 ·rw[if_neg hc] at post hok;rw[decide_eq_true (by omega)]
  repeat (first|refine r_nc ?_|refine r_fo0 ?_|(with_reducible first|refine Zak ?_|refine r_vf ?_))
  refine r_st 0 H rfl (by simp) rfl λw3 S3 H3=>?_;rw[show n=((n.toNat:Nat):Int) by omega] at H3;replace H3:Holds w3 (blk b tD [nv p.size,nv n.toNat,pv,.bool false]::SL nv tI pv p.lens::RdR r B d (at_+k0)::L):=H3;exact post 0 _ S3 ⟨rfl,Zdu (p:=⟨p.size,n.toNat,p.lens⟩) ⟨hok _ _ rfl,hp.2⟩ H3⟩
theorem step_spec (H:Holds w (DlR b p::RdR r B d at_::L)) (hd:p.done=false) (post:∀ e w',Same w w'->AfterS (dstep p (rest B at_)) (DlR b) (DlR b p) r B d at_ L e w'->K (iv e) w') :
  Cl prog 276 #[pt b,pt r] w K:=by
 refine Tz276 ?_;unfold Vz276;have S:=Same.refl w;have H0:=H;obtain⟨hp,pv0,H0⟩:=Zcs H0;have hnow:=hp.1.now;have hlen:=hp.1.len
 repeat (first|refine r_ld 0 H0 rfl rfl ?_|refine r_nc ?_|refine r_fo0 ?_|refine r_eql ?_)
 clear H0;refine r_ifE (λh=>?_) λh=>?_
 ·have h0:p.now=0:=by omega
  refine Get_spec (n:=5) H.swap (by omega) (λhs w2 S2 H2=>?_) λhs w2 S2 H2=>?_
  ·repeat (first|refine r_neq ?_|(with_reducible first|refine Za4 ?_|refine Za3 ?_)|((with_reducible refine r_vtN ?h ?_);(case h=>omega)))
   refine post 3 _ S2 ?_;unfold dstep;rw[if_pos h0,if_pos hs];exact⟨rfl,_,H2.swap⟩
  ·have hv:=Zae (rest B at_) 5
   have e0:dstep p (rest B at_)=turn p (valB ((rest B at_).take 5)) 5:=by
    unfold dstep;rw[if_pos h0,if_neg (by omega)]
   generalize valB ((rest B at_).take 5)=v at *
   repeat (first|refine r_neq ?_|(with_reducible first|refine Za4 ?_|refine Za3 ?_)|(refine Zcv (by omega) (by omega) ?_)|((with_reducible refine r_vfN ?h ?_);(case h=>omega)))
   exact Zjg (n:=(v:Int)) H2.swap e0 hd (by omega) (by omega) λe w' S' hA=>post e w' (S2.trans S') hA
 ·have h0:p.now≠0:=by omega
  refine Ze7 H.swap (λhs w2 S2 H2=>?_) λc hc w2 S2 H2=>?_
  ·repeat (first|refine r_neq ?_|(with_reducible first|refine Za4 ?_|refine Za3 ?_)|((with_reducible refine r_vtN ?h ?_);(case h=>omega)))
   refine post 3 _ S2 ?_;unfold dstep;rw[if_neg h0]
   have:rest B at_=[]:=by cases hr:rest B at_ with
    |nil=>rfl
    |cons x l=>rw[hr] at hs;cases hs
   rw[this];exact⟨rfl,_,H2.swap⟩
  ·repeat (first|refine r_eql ?_|refine r_neq ?_|(with_reducible first|refine Za4 ?_|refine Za3 ?_)|((with_reducible refine r_vfN ?h ?_);(case h=>omega)))
   cases c with
   |false=>
    refine r_vtE rfl ?_
    have e0:dstep p (rest B at_)=.ok ⟨p.size,p.now,p.lens++[p.now]⟩ 1:=by
     unfold dstep;rw[if_neg h0]
     cases hr:rest B at_ with
     |nil=>rw[hr] at hc;cases hc
     |cons x l=>rw[hr] at hc;cases hc;rfl
    have hok:=Zfi e0 hp.1 hd;rw[e0] at post;obtain⟨_,pv,H⟩:=Zcs H2.swap;replace S:=S.trans S2;clear S2 H2
    repeat (first|refine r_nc ?_|refine r_fo0 ?_|(refine r_dr H ?_;clear H;intro _ S_ H;replace S:=S.trans S_;clear S_)|refine r_ld 0 H rfl rfl ?_)
    refine Zow H 1 (f:=nv) (xs:=p.lens) rfl p.now sg_nv (by omega) (λw' H'=>r_ld 0 H' rfl rfl rfl) λv' w3 S3 H3=>?_;rw[gW,gJ] at H3;replace S:=S.trans S3;clear H;have H:=H3;clear H3
    repeat (first|refine r_nc ?_|refine r_fo0 ?_)
    refine r_st 0 H rfl (by simp) (SL_sg H 1 rfl) λw4 S4 H4=>?_;replace H4:Holds w4 (blk b tD [nv p.size,nv p.now,v',.bool false]::SL nv tI v' (p.lens++[p.now])::RdR r B d (at_+1)::L):=H4;exact post 0 _ (S.trans S4) ⟨rfl,Zdu (p:=⟨p.size,p.now,p.lens++[p.now]⟩) ⟨hok,hp.2⟩ H4⟩
   |true=>
    refine r_vfE (by decide) ?_;refine Ze7 H2 (λhs w3 S3 H3=>?_) λc hc2 w3 S3 H3=>?_
    ·repeat (first|refine r_neq ?_|(with_reducible first|refine Za4 ?_|refine Za3 ?_)|((with_reducible refine r_vtN ?h ?_);(case h=>omega)))
     refine post 3 _ (S2.trans S3) ?_;unfold dstep;rw[if_neg h0];rw[Zel] at hs
     cases hr:rest B at_ with
     |nil=>rw[hr] at hc;cases hc
     |cons x l=>
      rw[hr] at hc hs;cases hc
      cases l with
      |nil=>exact⟨rfl,_,H3.swap⟩
      |cons y l=>cases hs
    ·have e0:dstep p (rest B at_)=turn p ((p.now:Int)+1 - 2*c.toNat) 2:=by
      unfold dstep;rw[if_neg h0];rw[Zel] at hc2
      cases hr:rest B at_ with
      |nil=>rw[hr] at hc;cases hc
      |cons x l=>
       rw[hr] at hc hc2;cases hc
       cases l with
       |nil=>cases hc2
       |cons y l=>cases hc2;rfl
     have hcl:=Bool.toNat_le c;obtain⟨_,pv,H4⟩:=Zcs H3.swap
     repeat (first|refine r_ld 0 H4 rfl rfl ?_|refine Zbc (2*(c.toNat:Int)) rfl (by omega) (by omega) ?_|refine r_nc ?_|refine r_fo0 ?_|refine r_neq ?_|(with_reducible first|refine Za4 ?_|refine Za3 ?_)|(refine Zcv (by omega) (by omega) ?_)|(refine Za0 (by omega) ?_)|(refine r_sub (by omega) (by omega) ?_)|((with_reducible refine r_vfN ?h ?_);(case h=>omega)))
     clear H4;refine Zjg (k0:=2) (n:=(p.now:Int)+1 - 2*c.toNat) H3.swap e0 hd (by omega) (by omega) λe w' S' hA=>post e w' ((S2.trans S3).trans S') hA
theorem Step_spec (H:Holds w (DlR b p::RdR r B d at_::L)) (hd:p.done=false) (post:∀ e w',Same w w'->After (dstep p (rest B at_)) (DlR b) (DlR b p) r B d at_ L e w'->K (iv e) w') :
  Cl prog 263 #[pt b,pt r] w K:=by
 refine Tz263 ?_;unfold Vz263;have S:=Same.refl w;have hf:=(Zag H.swap).1
 repeat (fail)
 refine Za2 (λx w'=>x=.bool false/\Same w w'/\Holds w' (DlR b p::RdR r B d at_::L)) ?_ ?_
 ·clear H S;rintro _ _ w1 ⟨rfl,S,H⟩;have H0:=H;obtain⟨hp,pv,H0⟩:=Zcs H0
  repeat (first|refine r_ld 0 H0 rfl rfl ?_|refine r_nc ?_|refine r_fo0 ?_|(with_reducible refine r_vf ?_))
  clear H0;refine At_spec H.swap ?_;refine step_spec H hd λe w' S' hA=>?_;replace S':=S.trans S';refine r_eql ?_
  cases hx:dstep p (rest B at_) with
  |short=>
   rw[hx] at hA post;obtain⟨rfl,q,H'⟩:=hA;refine r_vtE rfl ?_;exact P13.Ziq H' ⟨hf.1,hf.2.1⟩ λw2 S2 H2=>post 3 _ (S'.trans S2) ⟨rfl,H2⟩
  |bad c=>
   rw[hx] at hA post;refine r_vfE ?_ (post e w' S' hA);rw[hA.1,Zj3 hx];decide
  |ok s n=>
   rw[hx] at hA post;refine r_vfE ?_ (post e w' S' hA);rw[hA.1];decide
 ·repeat (first|(with_reducible first|refine Zab ?_|refine r_vf ?_))
  refine Done_spec H λw2 S2 H2=>?_;rw[hd]
  repeat (refine r_ke ?_)
  exact⟨rfl,S2,H2⟩
end D11
instance rowU:Row prog 102 22 (.int .u32 0):=⟨by kernel_rfl,⟨t22,by kernel_rfl,by kernel_rfl,by decide,by kernel_rfl⟩,rfl⟩
abbrev tU:Nat:=22
namespace C10
open Go.M01 Go.Mb Go.Mp Go.M10 Rb
variable {w:World}{L:List HProp}{K:KT}{b r:Nat}{B:List UInt8}{d at_ n:Nat}{lens:List Nat}
abbrev tC:Nat:=219
theorem getD_some {l:List Nat}{i:Nat}(h:i < l.length):l[i]?=some (l.getD i 0):=by
 rw[gB,gA h];rfl
theorem Zca (hs:Sized lens){i:Nat}(h:i < lens.length):1<=lens.getD i 0/\lens.getD i 0<=20:=hs _ (List.mem_of_getElem? (getD_some h))
theorem Zu0 {x:Nat}(j:Nat){v:Value}(H:Holds w L) (hj:L[j]?=some (SL nv tI v lens)) (hn:lens.length<=1000000000) (hx:∀ y∈lens,y≠x) (k:K (iv (-1)) w) :
  Cl prog 141 #[v,nv x] w K:=by
 refine Tz141 ?_;unfold Vz141;refine r_lnS j H hj ?_;refine Za8 (λy w'=>∃ i:Nat,i<=lens.length/\y=nv i/\w=w') (λy _=>lens.length - (intOf y).toNat) ⟨0,by omega,rfl,rfl⟩ ?_;rintro _ _ _ ⟨i,hi,rfl,rfl⟩
 repeat (refine r_lss ?_)
 refine r_ifD (λh=>?_) λh=>?_
 ·have hlt:i < lens.length:=by omega
  refine Za6 j H hj (getD_some hlt) ?_;have:=hx _ (List.mem_of_getElem? (getD_some hlt))
  repeat (first|refine r_ke ?_|refine r_eql ?_|(refine Za0 (by omega) ?_)|((with_reducible refine r_vfE ?h ?_);(case h=>omega)))
  refine⟨⟨i+1,by omega,rfl,rfl⟩,?_⟩;simp[nv,intOf];omega
 ·exact k
theorem Zoa (j:Nat){v:Value}(H:Holds w L) (hj:L[j]?=some (SL nv tI v lens)) (hn:lens.length<=1000000000) (hs:Sized lens) (k:∀ w',Same w w'->Holds w' L->K (.bool true) w') :
  Cl prog 235 #[v,iv 0,iv 20] w K:=by
 refine Tz235 ?_;unfold Vz235;refine r_new H λb1 w1 S1 H1=>?_;refine r_new H1 λb2 w2 S2 H2=>?_;replace H2:Holds w2 (blk b2 3 [iv 20]::blk b1 3 [iv 0]::L):=H2;refine r_mf (.func (.func 255) #[] #[pt b1,pt b2]) (by kernel_rfl) ?_;refine r_cl (K:=λx w'=>w2=w'/\x=.bool false) ?_ ?_
 ·refine Tz191 ?_;unfold Vz191;refine Tz231 ?_;unfold Vz231;have hj2:(blk b2 3 [iv 20]::blk b1 3 [iv 0]::L)[j+2]?=some (SL nv tI v lens):=hj;refine r_lnS (j+2) H2 hj2 ?_;refine Za8 (λy w'=>∃ i:Nat,i<=lens.length/\y=nv i/\w2=w') (λy _=>lens.length - (intOf y).toNat) ⟨0,by omega,rfl,rfl⟩ ?_;rintro _ _ _ ⟨i,hi,rfl,rfl⟩
  repeat (refine r_lss ?_)
  refine r_ifD (λh=>?_) λh=>?_
  ·have hlt:i < lens.length:=by omega
   refine Za6 (j+2) H2 hj2 (getD_some hlt) ?_;have hb:=Zca hs hlt;refine r_inv (f:=255) (args:=#[nv (lens.getD i 0),pt b1,pt b2]) (by kernel_rfl) ?_;refine Tz255 ?_;unfold Vz255
   repeat (first|refine r_ld 0 H2 rfl rfl ?_|refine r_ld 1 H2 rfl rfl ?_|refine r_ke ?_|refine r_lss ?_|refine r_gtr ?_|(refine Za0 (by omega) ?_)|((with_reducible refine r_vfD ?h ?_);(case h=>omega)))
   refine⟨⟨i+1,by omega,rfl,rfl⟩,?_⟩;simp[nv,intOf];omega
  ·repeat (refine r_geq ?_)
   exact⟨rfl,by rw[decide_eq_false (by omega)]⟩
 rintro _ _ ⟨rfl,rfl⟩
 repeat (with_reducible refine Zbo ?_)
 exact k _ (S1.trans S2) H2.drop.drop
theorem Zk7 (lens:List Nat) (i:Nat) (h:i < lens.length):share (lens.take (i+1))=share (lens.take i)+2^(20 - lens.getD i 0):=by
 rw[Zai (getD_some h)];simp[share]
theorem share_le (hs:Sized lens):∀ i,i<=lens.length->share (lens.take i)<=i*524288:=by
 intro i
 induction i with
 |zero=>intro _;simp[share]
 |succ i ih=>
  intro hi;rw[Zk7 _ _ (by omega)];have h1:=ih (by omega);have h2:2^(20 - lens.getD i 0)<=2^19:=Nat.pow_le_pow_right (by decide) (by have:=Zca hs (show i < lens.length by omega);omega);omega
theorem Zt3 (j:Nat){v:Value}(H:Holds w L) (hj:L[j]?=some (SL nv tI v lens)) (hn:lens.length<=258) (hs:Sized lens) (k:∀ w',Same w w'->Holds w' L->K (.tuple #[nv (share lens),iv 0]) w') :
  Cl prog 201 #[v] w K:=by
 refine Tz201 ?_;unfold Vz201;refine Za2 (λx w'=>x=.bool false/\Same w w'/\Holds w' L) ?_ ?_
 ·clear H;rintro _ _ w1 ⟨rfl,S,H⟩
  repeat (with_reducible refine r_vf ?_)
  refine r_lnS j H hj ?_;refine Za7 (λn y w'=>∃ i:Nat,i<=lens.length/\y=nv i/\n=nv (share (lens.take i))/\w1=w') (λ_ y _=>lens.length - (intOf y).toNat) ⟨0,by omega,rfl,rfl,rfl⟩ ?_;rintro _ _ _ _ ⟨i,hi,rfl,rfl,rfl⟩
  repeat (refine r_lss ?_)
  refine r_ifD (λh=>?_) λh=>?_
  ·have hlt:i < lens.length:=by omega
   refine Za6 j H hj (getD_some hlt) ?_;have hb:=Zca hs hlt;have hsl:=share_le hs i hi;have e:=Zk7 lens i hlt;have h2:2^(20 - lens.getD i 0)<=2^19:=Nat.pow_le_pow_right (by decide) (by omega)
   repeat (refine r_sub (by omega) (by omega) ?_)
   rw[show (20:Int) - (lens.getD i 0:Nat)=((20 - lens.getD i 0:Nat):Int) by omega];refine Ydv (by omega) ?_;generalize 2^(20 - lens.getD i 0)=q at *
   repeat (first|refine r_ke ?_|(refine Za0 (by omega) ?_)|(refine Zac (by omega) ?_))
   refine⟨⟨i+1,by omega,rfl,by rw[e],rfl⟩,?_⟩;simp[nv,intOf];omega
  ·obtain rfl:i=lens.length:=by omega
   rw[hF_];exact k _ S H
 ·refine r_lnS j H hj ?_
  repeat (first|refine r_gtr ?_|((with_reducible refine r_vfD ?h ?_);(case h=>omega)))
  refine Zoa j H hj (by omega) hs λw2 S2 H2=>?_
  repeat (first|refine r_ke ?_|(with_reducible refine Zak ?_))
  exact⟨rfl,S2,H2⟩
theorem Zt0 (j:Nat){v:Value}(H:Holds w L) (hj:L[j]?=some (SL nv tI v lens)) (hn:lens.length<=258) (hs:Sized lens) (k:∀ w',Same w w'->Holds w' L->K (.bool (decide (share lens=1048576))) w') :
  Cl prog 152 #[v] w K:=by
 refine Tz152 ?_;unfold Vz152;refine Zt3 j H hj hn hs λw2 S2 H2=>?_
 repeat (first|refine r_eql ?_|(with_reducible first|refine Za4 ?_|refine Za3 ?_)|((with_reducible refine r_vtE ?h ?_);(case h=>omega)))
 refine r_ifE (λh=>?_) λh=>?_
 ·refine Tz202 ?_;unfold Vz202;refine Zu0 (x:=0) j H2 hj (by omega) (λy hy=>by have:=hs y hy;omega) ?_
  repeat (first|refine r_geq ?_|refine r_not ?_)
  have:=k _ S2 H2;rw[decide_eq_true (by omega)] at this;exact this
 ·have:=k _ S2 H2;rw[decide_eq_false (by omega)] at this;exact this
def cdC (lv cv ov:Value) (F G:List Nat):List Value:=[lv,cv,ov]++(F.map nv++(G.map nv++[]))
section
variable {lv cv ov:Value}{F G:List Nat}
theorem cF {n x:Nat}(h:F[n]?=some x):(cdC lv cv ov F G)[3+n]?=some (nv x):=Zm2 [lv,cv,ov] h
theorem Zxi:cdC lv cv ov F G=([lv,cv,ov]++F.map nv)++(G.map nv++[]):=by rw[cdC,gI]
theorem cG {n x:Nat}(hF:F.length=21) (h:G[n]?=some x):(cdC lv cv ov F G)[24+n]?=some (nv x):=by
 have:=Zm2 (f:=nv) (post:=[]) ([lv,cv,ov]++F.map nv) h;rw[show ([lv,cv,ov]++F.map nv).length=24 by simp[hF]] at this;rw[Zxi];exact this
theorem sF {n:Nat}(x:Nat) (h:n < F.length):(cdC lv cv ov F G).set (3+n) (nv x)=cdC lv cv ov (F.set n x) G:=Zj4 [lv,cv,ov] x h
theorem sG {n:Nat}(x:Nat) (hF:F.length=21) (h:n < G.length):(cdC lv cv ov F G).set (24+n) (nv x)=cdC lv cv ov F (G.set n x):=by
 have:=Zj4 (f:=nv) (post:=[]) ([lv,cv,ov]++F.map nv) x h;rw[show ([lv,cv,ov]++F.map nv).length=24 by simp[hF]] at this;rw[Zxi,Zxi];exact this
theorem cd1:(cdC lv cv ov F G)[1]?=some cv:=rfl
theorem cd2:(cdC lv cv ov F G)[2]?=some ov:=rfl
theorem sd2 (v:Value):(cdC lv cv ov F G).set 2 v=cdC lv cv v F G:=rfl
theorem cdlen (hF:F.length=21) (hG:G.length=22):(cdC lv cv ov F G).length=46:=by simp[cdC,hF,hG]
end
def fL (lens:List Nat):List Nat:=(List.range 21).map (fst_ lens)
def gL (lens:List Nat):List Nat:=(List.range 22).map (frm lens)
def codesAt (lens:List Nat) (n j:Nat):List Nat:=(List.range lens.length).map λi=>if lens.getD i 0 < n\/(lens.getD i 0=n/\i < j) then codeN lens i else 0
theorem Zpd (lens:List Nat) (n j:Nat):(codesAt lens n j).length=lens.length:=by simp[codesAt]
theorem Zp8 {n j:Nat}(hj:j < lens.length) (hn:lens.getD j 0=n):(codesAt lens n j).set j (fst_ lens n+(lens.take j).count n)=codesAt lens n (j+1):=by
 apply ext_getElem
 ·simp[codesAt]
 intro i h1 h2
 have hi:i < lens.length:=by simpa [codesAt] using h2
 rw[List.getElem_set];simp only[codesAt,List.getElem_map,List.getElem_range]
 by_cases h:j=i
 ·subst h;rw[if_pos rfl,if_pos (.inr ⟨hn,by omega⟩),codeN,hn]
 ·rw[if_neg h]
  by_cases h3:lens.getD i 0 < n\/(lens.getD i 0=n/\i < j)
  ·rw[if_pos h3,if_pos (by omega)]
  ·rw[if_neg h3,if_neg (by omega)]
theorem Zmj {n j:Nat}(hn:lens.getD j 0≠n):codesAt lens n (j+1)=codesAt lens n j:=by
 apply map_congr_left;intro i hi
 by_cases h:j=i
 ·subst h
  by_cases h3:lens.getD j 0 < n
  ·rw[if_pos (.inl h3),if_pos (.inl h3)]
  ·rw[if_neg (by omega),if_neg (by omega)]
 ·by_cases h3:lens.getD i 0 < n\/(lens.getD i 0=n/\i < j)
  ·rw[if_pos h3,if_pos (by omega)]
  ·rw[if_neg h3,if_neg (by omega)]
theorem Zn0 (n:Nat):codesAt lens n lens.length=codesAt lens (n+1) 0:=by
 apply map_congr_left;intro i hi;rw[mem_range] at hi
 by_cases h3:lens.getD i 0 < n+1
 ·rw[if_pos (by omega),if_pos (.inl h3)]
 ·rw[if_neg (by omega),if_neg (by omega)]
theorem Zwh (hs:Sized lens):codesAt lens 1 0=List.replicate lens.length 0:=by
 rw[codesAt,show (List.replicate lens.length 0:List Nat)=(List.range lens.length).map λ_=>0 by rw[List.map_const',hW_]];apply map_congr_left;intro i hi;rw[mem_range] at hi;have:=Zca hs hi;rw[if_neg (by omega)]
theorem Zqu {n j:Nat}:grp lens (j+1) n=grp lens j n++if lens.getD j 0=n then [j] else []:=by
 unfold grp;rw[range_succ,List.filter_append]
 congr 1
 rw[filter_cons,List.filter_nil]
 by_cases h:lens.getD j 0=n
 ·rw[if_pos (by simpa using h),if_pos h]
 ·rw[if_neg (by simpa using h),if_neg h]
def CodeR (b:Nat) (lens:List Nat):HProp:=λh=>(Whole lens/\lens.length<=258)/\∃ lv cv ov,Sat [blk b tC (cdC lv cv ov (fL lens) (gL lens)),SL nv tI ov (upto lens 20),SL uv tU cv (codesAt lens 21 0),SL nv tI lv lens] h
theorem Zew (H:Holds w (CodeR b lens::L)):(Whole lens/\lens.length<=258)/\∃ lv cv ov,Holds w (blk b tC (cdC lv cv ov (fL lens) (gL lens))::SL nv tI ov (upto lens 20)::SL uv tU cv (codesAt lens 21 0)::SL nv tI lv lens::L):=by
 obtain⟨h,H⟩:=Holds.pure H;obtain⟨lv,H⟩:=Holds.ex H;obtain⟨cv,H⟩:=Holds.ex H;obtain⟨ov,H⟩:=Holds.ex H;exact⟨h,lv,cv,ov,Holds.unpack H⟩
theorem Zdm {lv cv ov:Value}(h:Whole lens/\lens.length<=258) (H:Holds w (blk b tC (cdC lv cv ov (fL lens) (gL lens))::SL nv tI ov (upto lens 20)::SL uv tU cv (codesAt lens 21 0)::SL nv tI lv lens::L)):Holds w (CodeR b lens::L):=
 Holds.imp (Holds.pack (A:=[_,_,_,_]) H) λ_ hh=>⟨h,lv,cv,ov,hh⟩
theorem Ybo {n:Nat}(h:n < 21):(fL lens)[n]?=some (fst_ lens n):=by rw[fL,hV_,getElem?_range h];rfl
theorem Zxt {n:Nat}(h:n < 22):(gL lens)[n]?=some (frm lens n):=by rw[gL,hV_,getElem?_range h];rfl
theorem Znl:(fL lens).length=21:=by simp[fL]
theorem Zo0:(gL lens).length=22:=by simp[gL]
theorem New_spec {j:Nat}{v:Value}(H:Holds w L) (hj:L[j]?=some (SL nv tI v lens)) (h3:3<=lens.length) (hn:lens.length<=258) (hs:Sized lens)
  (kb:share lens≠1048576->∀ w',Same w w'->Holds w' L->K (.tuple #[.pointer none,iv 22]) w')
  (k:Whole lens->∀ b w',Same w w'->Holds w' (CodeR b lens::L)->K (.tuple #[pt b,iv 0]) w'):Cl prog 102 #[v] w K:=by
 refine Tz102 ?_;unfold Vz102;refine Za2 (λx w'=>w=w'/\x=.bool false) ?_ ?_
 rotate_left
 ·refine r_lnS j H hj ?_
  repeat (first|refine r_lss ?_|((with_reducible refine r_vfD ?h ?_);(case h=>omega)))
  refine r_lnS j H hj ?_
  repeat (first|refine r_ke ?_|refine r_gtr ?_)
  exact⟨rfl,by rw[decide_eq_false (by omega)]⟩
 rintro _ _ _ ⟨rfl,rfl⟩
 repeat (with_reducible refine r_vf ?_)
 refine Zt0 j H hj hn hs λw1 S1 H1=>?_;clear H;have S:=S1;have H:=H1;clear S1 H1
 repeat (refine r_not ?_)
 by_cases hwh:share lens=1048576
 rotate_left
 ·rw[decide_eq_false hwh];exact r_vt (kb hwh _ S H)
 have hW:Whole lens:=⟨hs,hwh⟩;rw[decide_eq_true hwh,Bool.not_true]
 repeat (with_reducible refine r_vf ?_)
 refine Za2 (λx w'=>∃ b lv cv,x=pt b/\Same w w'/\Holds w' (blk b tC (cdC lv cv (.slice none 0 0) (List.replicate 21 0) (List.replicate 22 0))::SL uv tU cv (List.replicate lens.length 0)::SL nv tI lv lens::L)) ?_ ?_
 rotate_left
 ·repeat (refine r_dr H ?_;clear H;intro _ S_ H;replace S:=S.trans S_;clear S_)
  rename_i w2;have hto:((lens.length:Nat):Int).toNat=lens.length:=gC _;refine⟨?_,?_⟩
  ·refine Zbt H j hj (by omega) λv1 w3 S3 H3=>?_;refine r_lnS (j+1) H3 (by rw[gF];exact hj) ?_;refine r_rk (r_lnS j H hj rfl) ?_;refine r_ms (e:=tU) (f:=uv) (x:=0) H3 rfl (by omega) (by omega) λb4 w4 S4 H4=>?_;rw[hto] at H4 ⊢;have H5:=H4.close 0 rfl;rw[gJ] at H5;obtain⟨oa,sp,rfl,H6⟩:=H5.open 1 rfl;refine r_bd (v:=.agg #[.slice oa lens.length (lens.length+sp.length),.slice (some ⟨b4,0,none⟩) lens.length lens.length,.slice none 0 0,nv 0,nv 0,nv 0,nv 0,nv 0,nv 0,nv 0,nv 0,nv 0,nv 0,nv 0,nv 0,nv 0,nv 0,nv 0,nv 0,nv 0,nv 0,nv 0,nv 0,nv 0,nv 0,nv 0,nv 0,nv 0,nv 0,nv 0,nv 0,nv 0,nv 0,nv 0,nv 0,nv 0,nv 0,nv 0,nv 0,nv 0,nv 0,nv 0,nv 0,nv 0,nv 0,nv 0]) (by kernel_rfl) ?_;refine r_new H5 λb w5 S5 H7=>?_
   repeat (refine r_ke ?_)
   refine⟨b,.slice oa lens.length (lens.length+sp.length),.slice (some ⟨b4,0,none⟩) lens.length lens.length,rfl,((S.trans S3).trans S4).trans S5,?_⟩;rw[gP] at H7;exact H7
  ·refine r_lnS j H hj ?_;refine r_ms (e:=tU) (f:=uv) (x:=0) H rfl (by omega) (by omega) λb4 w4 S4 H4=>?_;rw[hto] at H4 ⊢;have H5:=H4.close 0 rfl;rw[gJ] at H5;refine Zbt H5 (j+1) (by rw[gF];exact hj) (by omega) λv1 w3 S3 H3=>?_;refine r_rk (r_lnS (j+2) H3 (by rw[gF,gF];exact hj) rfl) ?_;obtain⟨oa,sp,rfl,H6⟩:=H3.open 0 rfl;refine r_bd (v:=.agg #[.slice oa lens.length (lens.length+sp.length),.slice (some ⟨b4,0,none⟩) lens.length lens.length,.slice none 0 0,nv 0,nv 0,nv 0,nv 0,nv 0,nv 0,nv 0,nv 0,nv 0,nv 0,nv 0,nv 0,nv 0,nv 0,nv 0,nv 0,nv 0,nv 0,nv 0,nv 0,nv 0,nv 0,nv 0,nv 0,nv 0,nv 0,nv 0,nv 0,nv 0,nv 0,nv 0,nv 0,nv 0,nv 0,nv 0,nv 0,nv 0,nv 0,nv 0,nv 0,nv 0,nv 0,nv 0]) (by kernel_rfl) ?_;refine r_new H3 λb w5 S5 H7=>?_
   repeat (refine r_ke ?_)
   refine⟨b,.slice oa lens.length (lens.length+sp.length),.slice (some ⟨b4,0,none⟩) lens.length lens.length,rfl,((S.trans S4).trans S3).trans S5,?_⟩;rw[gP] at H7;exact (Holds.front H7 2 rfl).swap
 rintro _ _ w2 ⟨b,lv,cv,rfl,S2,H2⟩;clear S H;have hl20:=λn (h:n<=20)=>Yby lens hs n h;have hcl:=λn=>List.count_le_length (a:=n) (l:=lens)
 refine Za7 (λx y w'=>∃ n ov,1<=n/\n<=21/\y=nv n/\x=nv (nx lens (n - 1))/\Same w w'/\Holds w' (blk b tC (cdC lv cv ov (filled (fL lens) 0 21 n) (filled (gL lens) 0 22 n))::SL nv tI ov (upto lens (n - 1))::SL uv tU cv (codesAt lens n 0)::SL nv tI lv lens::L))
  (λ_ y _=>21 - (intOf y).toNat) ⟨1,.slice none 0 0,by omega,by omega,rfl,rfl,S2,?_⟩ ?_
 ·rw[Zwh hs];have e1:filled (fL lens) 0 21 1=List.replicate 21 0:=rfl;have e2:filled (gL lens) 0 22 1=List.replicate 22 0:=rfl;rw[e1,e2];exact (H2.nilSL nv tI).swap
 clear S2 H2;rintro _ _ _ w3 ⟨n,ov,h1,h21,rfl,rfl,S,H⟩;have lF:(filled (fL lens) 0 21 n).length=21:=Zbd (by omega) Znl;have lG:(filled (gL lens) 0 22 n).length=22:=Zbd (by omega) Zo0
 repeat (refine r_leq ?_)
 refine r_ifD (λh=>?_) λh=>?_
 ·have hn20:n<=20:=by omega
  have hnl:=nx_le hW (n - 1) (by omega);have hp:2^(n - 1)<=2^19:=Nat.pow_le_pow_right (by decide) (by omega)
  repeat (first|refine Zbc ((2*nx lens (n - 1):Nat):Int) (by omega) (by omega) (by omega) ?_|refine r_nc ?_|refine r_fo0 ?_|(refine Zal (by omega) ?_))
  refine r_st 0 H rfl (by rw[cdlen lF lG];omega) rfl λw4 S4 H4=>?_;rw[gJ,sF _ (by omega),Zbe (x:=2*nx lens (n - 1)) (by omega) Znl (Ybo (by omega))] at H4;replace S:=S.trans S4;clear H;have H:=H4;clear H4 S4;have lF1:(filled (fL lens) 0 21 (n+1)).length=21:=Zbd (by omega) Znl
  repeat (first|((with_reducible apply r_ld 0 H);(exact rfl);(with_reducible exact (cd2)))|refine r_nc ?_|refine r_fo0 ?_|(refine r_dr H ?_;clear H;intro _ S_ H;replace S:=S.trans S_;clear S_))
  refine r_lnS 1 H rfl ?_
  repeat (first|refine r_nc ?_|refine r_fo0 ?_|(refine Zal (by omega) ?_))
  refine r_st 0 H rfl (by rw[cdlen lF1 lG];omega) rfl λw4 S4 H4=>?_;rw[gJ,sG _ lF1 (by omega),Zbe (x:=(upto lens (n - 1)).length) (by omega) Zo0 (Zxt (by omega))] at H4;replace S:=S.trans S4;clear H;have H:=H4;clear H4 S4;refine r_lnS (j+4) H (by rw[gF,gF,gF,gF];exact hj) ?_
  refine Za7 (λx y w'=>∃ i ov,i<=lens.length/\y=nv i/\x=nv (fst_ lens n+(lens.take i).count n)/\Same w w'/\Holds w' (blk b tC (cdC lv cv ov (filled (fL lens) 0 21 (n+1)) (filled (gL lens) 0 22 (n+1)))::SL nv tI ov (upto lens (n - 1)++grp lens i n)::SL uv tU cv (codesAt lens n i)::SL nv tI lv lens::L))
   (λ_ y _=>lens.length - (intOf y).toNat) ⟨0,ov,by omega,rfl,rfl,S,?_⟩ ?_
  ·have e1:grp lens 0 n=[]:=rfl;rw[e1,gU];exact H
  clear H S;rintro _ _ _ w5 ⟨i,ov,hi,rfl,rfl,S,H⟩;have lG1:(filled (gL lens) 0 22 (n+1)).length=22:=Zbd (by omega) Zo0;have hci:(lens.take i).count n<=258:=Nat.le_trans (List.count_le_length ..) (by rw[gN];omega)
  have hfs:fst_ lens n<=2^20:=by rw[fst_];omega
  repeat (refine r_lss ?_)
  refine r_ifD (λh=>?_) λh=>?_
  ·have hlt:i < lens.length:=by omega
   refine Za6 (j+4) H (by rw[gF,gF,gF,gF];exact hj) (getD_some hlt) ?_;have hb:=Zca hs hlt
   have etk:(lens.take (i+1)).count n=(lens.take i).count n+if lens.getD i 0=n then 1 else 0:=by
    rw[Zai (getD_some hlt),List.count_append,count_cons,List.count_nil]
    by_cases hx:lens.getD i 0=n
    ·rw[if_pos hx,if_pos (by simpa using hx)]
    ·rw[if_neg hx,if_neg (by simpa using hx)]
   repeat (refine r_eql ?_)
   refine r_ifE (λhx=>?_) λhx=>?_
   ·have hx':lens.getD i 0=n:=by omega
    rw[if_pos hx'] at etk
    repeat (first|((with_reducible apply r_ld 0 H);(exact rfl);(with_reducible exact (cd1)))|refine r_nc ?_|refine r_fo0 ?_|(refine Zan (by omega) (by omega) ?_))
    refine Zat 2 H (f:=uv) (fst_ lens n+(lens.take i).count n) rfl (by rw[Zpd];exact hlt) rfl λw6 S6 H6=>?_;rw[gW,gW,gJ,Zp8 hlt hx'] at H6;replace S:=S.trans S6;clear H;have H:=H6;clear H6 S6
    repeat (first|((with_reducible apply r_ld 0 H);(exact rfl);(with_reducible exact (cd2)))|refine r_nc ?_|refine r_fo0 ?_)
    have hul:(upto lens (n - 1)++grp lens i n).length<=600:=by
     rw[gD,Zos lens n i hi];have:=hl20 (n - 1) (by omega);omega
    refine Zam H 1 rfl i sg_nv (by omega) λv' w6 S6 H6=>?_;rw[gW,gJ] at H6;replace S:=S.trans S6;clear H;have H:=H6;clear H6 S6
    repeat (first|refine r_nc ?_|refine r_fo0 ?_)
    refine r_st 0 H rfl (by rw[cdlen lF1 lG1];omega) (SL_sg H 1 rfl) λw6 S6 H6=>?_;rw[gJ,sd2] at H6
    repeat (first|refine r_ke ?_|(refine Za0 (by omega) ?_))
    refine⟨⟨i+1,v',by omega,rfl,by rw[etk];rfl,S.trans S6,?_⟩,?_⟩
    ·rw[Zqu,if_pos hx',<-gI];exact H6
    ·simp[nv,intOf];omega
   ·have hx':lens.getD i 0≠n:=by omega
    rw[if_neg hx'] at etk
    repeat (first|refine r_ke ?_|(refine Za0 (by omega) ?_))
    refine⟨⟨i+1,ov,by omega,rfl,by rw[etk];rfl,S,?_⟩,?_⟩
    ·rw[Zqu,if_neg hx',gU,Zmj hx'];exact H
    ·simp[nv,intOf];omega
  ·obtain rfl:i=lens.length:=by omega
   repeat (first|refine r_ke ?_|(refine Za0 (by omega) ?_))
   obtain⟨m,rfl⟩:∃ m,n=m+1:=⟨n - 1,by omega⟩;refine⟨⟨m+1+1,ov,by omega,by omega,rfl,?_,S,?_⟩,?_⟩
   ·rw[hF_,Nat.add_sub_cancel,nx_eq lens (m+1) (by omega)]
   ·rw[Zn0] at H;exact H
   ·simp[nv,intOf];omega
 ·obtain rfl:n=21:=by omega
  repeat (first|((with_reducible apply r_ld 0 H);(exact rfl);(with_reducible exact (cd2)))|refine r_nc ?_|refine r_fo0 ?_|(refine r_dr H ?_;clear H;intro _ S_ H;replace S:=S.trans S_;clear S_))
  refine r_lnS 1 H rfl ?_;have hr:(blk b tC (cdC lv cv ov (filled (fL lens) 0 21 21) (filled (gL lens) 0 22 21))::SL nv tI ov (upto lens (21 - 1))::SL uv tU cv (codesAt lens 21 0)::SL nv tI lv lens::L).length=L.length+4:=rfl
  repeat (first|refine Zal (m:=21) (by omega) ?_|refine r_nc ?_|refine r_fo0 ?_)
  refine r_st 0 H rfl (by rw[cdlen lF lG];omega) rfl λw4 S4 H4=>?_;rw[gJ,sG (n:=21) _ lF (by omega),Zbe (x:=(upto lens (21 - 1)).length) (by omega) Zo0 (Zxt (by omega)),Zd8 Znl,Zd8 Zo0] at H4;exact k hW b _ (S.trans S4) (Zdm ⟨hW,hn⟩ H4)
theorem Zzc (H:Holds w (CodeR b lens::RdR r B d at_::L))
  (ks:getC lens (rest B at_)=none->∀ q w',Same w w'->Holds w' (CodeR b lens::RdR r B d q::L)->K (.tuple #[iv 0,iv 3]) w')
  (k:∀ s n,getC lens (rest B at_)=some (s,n)->∀ w',Same w w'->Holds w' (CodeR b lens::RdR r B d (at_+n)::L)->K (.tuple #[nv s,iv 0]) w'):Cl prog 273 #[pt b,pt r] w K:=by
 refine Tz273 ?_;unfold Vz273;obtain⟨⟨hW,hn⟩,_⟩:=Zew H
 refine Za7 (λx y w'=>∃ n:Nat,n<=20/\n<=(rest B at_).length/\y=nv (n+1)/\x=nv (valB ((rest B at_).take n))/\(∀ j,j < n->hit lens (rest B at_) j=false)/\Same w w'/\Holds w' (CodeR b lens::RdR r B d (at_+n)::L))
  (λ_ y _=>21 - (intOf y).toNat) ⟨0,by omega,by omega,rfl,rfl,λj hj=>absurd hj (Nat.not_lt_zero j),.refl w,H⟩ ?_
 clear H;rintro _ _ _ w1 ⟨n,h20,hlen,rfl,rfl,hmiss,S,H⟩
 repeat (refine r_leq ?_)
 refine r_ifD (λh=>?_) λh=>?_
 ·refine Ze7 H.swap (λhs w2 S2 H2=>?_) λc hc w2 S2 H2=>?_
  ·rw[Zel] at hs
   have hl:(rest B at_).length<=n:=by simpa using hs
   repeat (first|refine r_neq ?_|(with_reducible first|refine Za4 ?_|refine Za3 ?_)|((with_reducible refine r_vtN ?h ?_);(case h=>omega)))
   refine ks (Zuk λj hj=>?_) _ _ (S.trans S2) H2.swap;rcases hU_ j n with h1|h1
   ·exact hmiss j h1
   ·unfold hit;rw[decide_eq_false_iff_not];rintro⟨h2,_⟩;omega
  ·rw[Zel] at hc;have hl:n < (rest B at_).length:=(gH.1 hc).1;have hv:=Zae (rest B at_) n;have hp:2^n<=2^20:=Nat.pow_le_pow_right (by decide) h20;have hge:=Zy9 hmiss hl
   have ev:valB ((rest B at_).take (n+1))=2*valB ((rest B at_).take n)+c.toNat:=by
    rw[Zai hc,Zbl]
   have hcb:=Bool.toNat_le c
   have h19:n < 20:=by omega
   have hnx:=nx_eq lens (n+1) (by omega);have hfr:=Ya2 lens (n+1) (by omega);have hul:=Yby lens hW.sized (n+1) (by omega)
   have hfr2:frm lens (n+1+1)=(upto lens (n+1)).length:=by rw[frm,Nat.add_sub_cancel]
   replace S:=S.trans S2;replace H:=H2.swap;clear H2 S2;obtain⟨hWn,lv,cv,ov,H⟩:=Zew H
   repeat (first|refine Zbc ((2*valB ((rest B at_).take n):Nat):Int) (by omega) (by omega) (by omega) ?_|refine r_nc ?_|refine r_fo0 ?_|refine r_neq ?_|(with_reducible first|refine Za4 ?_|refine Za3 ?_)|(refine Zcv (by omega) (by omega) ?_)|(refine Zac (by omega) ?_)|(refine Zal (by omega) ?_)|(refine r_dr H ?_;clear H;intro _ S_ H;replace S:=S.trans S_;clear S_)|((with_reducible refine r_vfN ?h ?_);(case h=>omega)))
   rw[<-ev]
   repeat (first|((with_reducible apply r_ld 0 H);(exact rfl);(with_reducible exact ((cG Znl (Zxt (by omega))))))|((with_reducible apply r_ld 0 H);(exact rfl);(with_reducible exact ((cF (Ybo (by omega))))))|refine r_nc ?_|refine r_fo0 ?_|refine r_lss ?_|(refine Za0 (by omega) ?_)|(refine Zac (by omega) ?_)|(refine Zal (by omega) ?_)|(refine r_sub (by omega) (by omega) ?_))
   rw[show ((frm lens (n+1)+valB ((rest B at_).take (n+1)):Nat):Int) - (fst_ lens (n+1):Nat)=((frm lens (n+1)+(valB ((rest B at_).take (n+1)) - fst_ lens (n+1)):Nat):Int) by omega]
   repeat (fail)
   refine r_ifD (λhh=>?_) λhh=>?_
   ·have hhit:hit lens (rest B at_) n=true:=by
     unfold hit;rw[decide_eq_true_iff];omega
    have hC:=Zo4 h19 hhit hmiss
    have hlt:valB ((rest B at_).take (n+1)) - fst_ lens (n+1) < lens.count (n+1):=by omega
    have hu:=Zln (lens:=lens) (n:=n+1) (by omega) (by omega) hlt;obtain⟨x,hx⟩:∃ x,(grp lens lens.length (n+1))[valB ((rest B at_).take (n+1)) - fst_ lens (n+1)]?=some x:=⟨_,gA (by rw[Zf8];exact hlt)⟩;rw[hx] at hu
    repeat (first|((with_reducible apply r_ld 0 H);(exact rfl);(with_reducible exact (cd2)))|refine r_nc ?_|refine r_fo0 ?_)
    refine Za6 1 H rfl hu ?_;rw[gB,hu] at hC;exact k _ _ hC _ S (by rw[<-hG_];exact Zdm hWn H)
   ·repeat (first|refine r_ke ?_|(refine Za0 (by omega) ?_))
    refine⟨⟨n+1,by omega,by omega,rfl,rfl,λj hj=>?_,S,by rw[<-hG_];exact Zdm hWn H⟩,?_⟩
    ·rcases hU_ j n with h1|h1
     ·exact hmiss j h1
     ·obtain rfl:j=n:=by omega
      unfold hit;rw[decide_eq_false_iff_not];rintro⟨_,h2⟩;omega
    ·simp[nv,intOf];omega
 ·obtain rfl:n=20:=by omega
  have:=hmiss 19 (by omega);rw[Yen hW hlen] at this;cases this
theorem Get_spec (H:Holds w (CodeR b lens::RdR r B d at_::L))
  (ks:getC lens (rest B at_)=none->∀ w',Same w w'->Holds w' (CodeR b lens::RdR r B d at_::L)->K (.tuple #[iv 0,iv 3]) w')
  (k:∀ s n,getC lens (rest B at_)=some (s,n)->∀ w',Same w w'->Holds w' (CodeR b lens::RdR r B d (at_+n)::L)->K (.tuple #[nv s,iv 0]) w'):Cl prog 260 #[pt b,pt r] w K:=by
 refine Tz260 ?_;unfold Vz260;have hf:=(Zag H.swap).1;refine Za2 (λx w'=>w=w'/\x=.bool false) ?_ ?_
 ·rintro _ _ _ ⟨rfl,rfl⟩
  repeat (with_reducible refine r_vf ?_)
  refine At_spec H.swap ?_;refine Zzc H (λhs q w2 S2 H2=>?_) λs n hg w2 S2 H2=>?_
  ·repeat (first|refine r_neq ?_|(with_reducible first|refine Za4 ?_|refine Za3 ?_)|((with_reducible refine r_vtN ?h ?_);(case h=>omega)))
   refine P13.Ziq H2 ⟨hf.1,hf.2.1⟩ λw3 S3 H3=>?_;exact ks hs _ (S2.trans S3) H3
  ·repeat (first|refine r_neq ?_|(with_reducible first|refine Za4 ?_|refine Za3 ?_)|((with_reducible refine r_vfN ?h ?_);(case h=>omega)))
   exact k s n hg _ S2 H2
 ·repeat (first|refine r_ke ?_|(with_reducible first|refine Zab ?_|refine r_vf ?_))
  exact⟨rfl,rfl⟩
end C10
instance:Row prog 54 5 (.int .u8 0):=⟨by kernel_rfl,⟨t5,by kernel_rfl,by kernel_rfl,by decide,by kernel_rfl⟩,rfl⟩
instance:Bytes prog 54 5 9:=⟨by kernel_rfl,by kernel_rfl,by kernel_rfl⟩
namespace W01
open Go.M01
variable {w:World}{L:List HProp}{K:KT}{b:Nat}
abbrev tB:Nat:=5
abbrev tW:Nat:=65
def WrR (b:Nat) (bs:List Bool) (k:Nat):HProp:=λh=>∃ wv,Sat [blk b tW [wv,.int .u8 (restB bs:Nat),nv bs.length],SL bv tB wv ((wholeB bs).drop k)] h
theorem Zl7 {bs:List Bool}{k:Nat}(H:Holds w (WrR b bs k::L)):∃ wv,Holds w (blk b tW [wv,.int .u8 (restB bs:Nat),nv bs.length]::SL bv tB wv ((wholeB bs).drop k)::L):=by
 obtain⟨wv,H⟩:=Holds.ex H;exact⟨wv,Holds.unpack H⟩
theorem Zf9 {bs:List Bool}{k:Nat}{wv:Value}(H:Holds w (blk b tW [wv,.int .u8 (restB bs:Nat),nv bs.length]::SL bv tB wv ((wholeB bs).drop k)::L)):Holds w (WrR b bs k::L):=
 Holds.imp (Holds.pack (A:=[_,_]) H) λh hh=>⟨wv,hh⟩
theorem Zjr (H:Holds w L) (post:∀ b w',Same w w'->Holds w' (WrR b [] 0::L)->K (.pointer (some ⟨b,0,none⟩)) w'):Cl prog 9 #[] w K:=by
 refine Tz9 ?_;unfold Vz9;refine r_bd (v:=.agg #[.slice none 0 0,.int .u8 0,nv 0]) (by kernel_rfl) ?_;refine r_new H λb w1 S1 H1=>?_;replace H1:Holds w1 (blk b tW [.slice none 0 0,.int .u8 0,nv 0]::L):=H1;exact post b _ S1 (Zf9 ((H1.nilSL bv tB).swap))
theorem bit_spec {bs:List Bool}{k:Nat}{c:Bool}(H:Holds w (WrR b bs k::L)) (hn:bs.length<=1000000000000) (hk:k<=bs.length/8)
  (post:∀ w',Same w w'->Holds w' (WrR b (bs++[c]) k::L)->K (.tuple #[]) w'):Cl prog 39 #[.pointer (some ⟨b,0,none⟩),.int .u8 (c.toNat:Int)] w K:=by
 refine Tz39 ?_;unfold Vz39;obtain⟨wv,H⟩:=Zl7 H;have S:=Same.refl w;have hc:=Bool.toNat_le c;have hr:=Yan bs
 have hR:((bs.length:Int)).tmod 8=((bs.length%8:Nat):Int):=by
  rw[Int.tmod_eq_emod_of_nonneg (by omega)];simp
 have hm:bs.length%8 < 8:=Nat.mod_lt _ (by decide);have hsh:c.toNat*2^(7 - bs.length%8)%256 < 256:=Nat.mod_lt _ (by decide)
 have hls:(bs++[c]).length=bs.length+1:=by simp
 repeat (first|refine Zff hR (by omega) ?_|refine r_nc ?_|refine r_fo0 ?_|(refine r_sub (by omega) (by omega) ?_)|(refine r_dr H ?_;clear H;intro _ S_ H;replace S:=S.trans S_;clear S_)|refine r_ld 0 H rfl rfl ?_)
 rw[show (7:Int) - ((bs.length%8:Nat):Int)=((7 - bs.length%8:Nat):Int) by omega];refine Yd3 (by omega) ?_;refine Ydu hr hsh ?_
 repeat (first|refine r_nc ?_|refine r_fo0 ?_)
 refine r_st 0 H rfl (by simp) rfl λw2 S2 H2=>?_;replace H2:Holds w2 (blk b tW [wv,.int .u8 ((restB bs ||| (c.toNat*2^(7 - bs.length%8)%256):Nat):Int),nv bs.length]::SL bv tB wv ((wholeB bs).drop k)::L):=H2;replace S:=S.trans S2;clear H S2;have H:=H2;clear H2
 repeat (first|refine r_nc ?_|refine r_fo0 ?_|(refine Za0 (by omega) ?_)|refine r_ld 0 H rfl rfl ?_)
 refine r_st 0 H rfl (by simp) rfl λw2 S2 H2=>?_;replace H2:Holds w2 (blk b tW [wv,.int .u8 ((restB bs ||| (c.toNat*2^(7 - bs.length%8)%256):Nat):Int),nv (bs.length+1)]::SL bv tB wv ((wholeB bs).drop k)::L):=H2;replace S:=S.trans S2;clear H S2;have H:=H2;clear H2
 repeat (refine r_eql ?_)
 refine r_ifE (λh=>?_) λh=>?_
 ·obtain⟨p1,p2⟩:=Yas bs c (by omega);have hx:restB bs ||| (c.toNat*2^(7 - bs.length%8)%256) < 2^8:=Nat.or_lt_two_pow (by simpa using hr) (by simpa using hsh);generalize restB bs ||| (c.toNat*2^(7 - bs.length%8)%256)=x at *
  have e:(Value.int .u8 (x:Int))=bv (UInt8.ofNat x):=by
   unfold bv;rw[UInt8.toNat_ofNat_of_lt' hx]
  rw[e] at H;obtain⟨oa,sp,rfl,H⟩:=H.open 1 rfl;rw[gW,gJ] at H
  repeat (first|refine r_nc ?_|refine r_fo0 ?_|(refine r_dr H ?_;clear H;intro _ S_ H;replace S:=S.trans S_;clear S_)|refine r_ld 0 H rfl rfl ?_)
  refine r_bs1 H rfl λb3 w3 S3 H3=>?_;replace S:=S.trans S3;refine r_rk (r_ld 1 H3 rfl rfl rfl) ?_;have hwl:=Zas bs;refine r_ap (f:=bv) (ys:=[UInt8.ofNat x]) H3 2 0 rfl rfl rfl rfl rfl rfl (λ_=>rfl) (by rw[gS,gQ];omega) (by simp) λoa' sp' w4 S4 H4=>?_;replace S:=S.trans S4
  have hout:(wholeB bs).drop k++[UInt8.ofNat x]=(wholeB (bs++[c])).drop k:=by
   rw[p1,drop_append_of_le_length (by omega)]
  rw[hout,gW,gW,gJ] at H4
  have hlen:((wholeB bs).drop k).length+[UInt8.ofNat x].length=((wholeB (bs++[c])).drop k).length:=by
   rw[<-hout,gD]
  rw[hlen];clear H H3;have H:=H4.drop;clear H4
  repeat (first|refine r_nc ?_|refine r_fo0 ?_)
  refine r_st 0 H rfl (by simp) rfl λw5 S5 H5=>?_;replace S:=S.trans S5;clear H;have H:=H5;clear H5;rw[gJ,gJ] at H
  repeat (first|refine r_nc ?_|refine r_fo0 ?_)
  refine r_st 0 H rfl (by simp) rfl λw6 S6 H6=>?_;rw[gJ,gW,gJ] at H6;have H7:=H6.close 1 rfl;rw[gW,gJ] at H7;refine post _ (S.trans S6) (Zf9 (wv:=.slice oa' ((wholeB (bs++[c])).drop k).length (((wholeB (bs++[c])).drop k).length+sp'.length)) ?_);rw[p2,hls];exact H7
 ·obtain⟨p1,p2,p3⟩:=Yda bs c (by omega);rw[<-p2] at H;refine post _ S (Zf9 (wv:=wv) ?_);rw[p1,hls];exact H
theorem Put_spec {bs:List Bool}{k v n:Nat}(H:Holds w (WrR b bs k::L)) (hl:bs.length<=100000000000) (hk:k<=bs.length/8) (hn:n<=32) (hv:v < 2^n)
  (post:∀ w',Same w w'->Holds w' (WrR b (bs++bitsOf v n) k::L)->K (iv 0) w'):Cl prog 45 #[.pointer (some ⟨b,0,none⟩),uv v,nv n] w K:=by
 refine Tz45 ?_;unfold Vz45;have hp:(2:Nat)^n<=2^32:=Nat.pow_le_pow_right (by omega) hn
 repeat (first|(with_reducible first|refine Zab ?_|refine r_vf ?_))
 refine r_cl (K:=λx w'=>w=w'/\x=.bool true) ?_ ?_
 ·refine Tz97 ?_;unfold Vz97
  repeat (first|refine Zlo (by omega) (by omega) ?_|refine Zex (show n<=IntKind.u64.bits by show n<=64;omega) ?_|refine r_eql ?_|refine r_leq ?_|refine r_geq ?_|((with_reducible refine r_vtD ?h ?_);(case h=>omega)))
  exact⟨rfl,by rw[Nat.div_eq_of_lt hv];rfl⟩
 rintro _ _ ⟨rfl,rfl⟩
 repeat (first|(with_reducible first|refine Zak ?_|refine r_vf ?_))
 refine Za8 (λx w'=>∃ i:Nat,i<=n/\x=nv i/\Same w w'/\Holds w' (WrR b (bs++(bitsOf v n).take i) k::L)) (λx _=>n - (intOf x).toNat) ⟨0,by omega,rfl,.refl w,by rw[take_zero,gU];exact H⟩ ?_;clear H;rintro _ _ w2 ⟨i,hi,rfl,S,H⟩
 repeat (refine r_lss ?_)
 refine r_ifD (λh=>?_) λh=>?_
 ·have hlt:i < n:=by omega
  repeat (first|(refine Zaa (by omega) (by omega) ?_)|(refine r_sub (by omega) (by omega) ?_))
  rw[show ((n - 1:Nat):Int) - (i:Int)=((n - 1 - i:Nat):Int) by omega];refine Zex (show n - 1 - i<=IntKind.u32.bits by show n - 1 - i<=32;omega) ?_;have hd:v/2^(n - 1 - i)<=v:=Nat.div_le_self _ _;refine Zl5 (t:=1) (by omega) (by omega) ?_;rw[Znp];have hb:=Bool.toNat_le (v.testBit (n - 1 - i))
  repeat (refine Zey (by omega) (by omega) ?_)
  have hlen:(bs++(bitsOf v n).take i).length<=bs.length+32:=by
   rw[gD,gN,Za1];omega
  have hlen2:bs.length<=(bs++(bitsOf v n).take i).length:=by rw[gD];omega
  refine bit_spec H (by omega) (by omega) λw3 S3 H3=>?_;rw[gI,<-Zm8 v n i hlt] at H3
  repeat (first|refine r_ke ?_|(refine Za0 (by omega) ?_))
  refine⟨⟨i+1,by omega,rfl,S.trans S3,H3⟩,?_⟩;simp[nv,intOf];omega
 ·obtain rfl:i=n:=by omega
  rw[gK (by rw[Za1];omega)] at H;exact post _ S H
theorem Take_spec {bs:List Bool}{k:Nat}(H:Holds w (WrR b bs k::L)) (post:∀ w',Same w w'->Holds w' (WrR b bs (bs.length/8)::L)->K (.string ⟨((wholeB bs).drop k).toArray⟩) w') :
  Cl prog 13 #[.pointer (some ⟨b,0,none⟩)] w K:=by
 refine Tz13 ?_;unfold Vz13;obtain⟨wv,H⟩:=Zl7 H;have S:=Same.refl w;obtain⟨oa,sp,rfl,H⟩:=H.open 1 rfl;rw[gW,gJ] at H
 repeat (first|refine r_cbs H 1 rfl rfl ?_|refine r_nc ?_|refine r_fo0 ?_|(with_reducible first|refine Zab ?_|refine r_vf ?_)|refine r_ld 0 H rfl rfl ?_)
 refine r_st 0 H rfl (by simp) rfl λw2 S2 H2=>?_;rw[gJ,gJ] at H2;refine post w2 S2 (Zf9 (wv:=.slice none 0 0) ?_);rw[List.drop_of_length_le (Nat.le_of_eq (Zas bs))];exact ((H2.dropAt 1).nilSL bv tB).swap
end W01
namespace Rb
open Go.M01 Go.Mb
variable {w:World}{L:List HProp}{K:KT}{b:Nat}{B:List UInt8}{d at_ n:Nat}
end Rb
end Go.Proofs.YtgaiocpkjaaphaaGreatDoor
namespace Go.M02
theorem Yco {p q k:Nat}(hp:p<=1) (hq:q<=1):(p ^^^ q)*k=p*k ^^^ q*k:=by
 have h1:p=0\/p=1:=by omega
 have h2:q=0\/q=1:=by omega
 rcases h1 with rfl|rfl <;> rcases h2 with rfl|rfl <;> simp
theorem xor4 (w x y z:Nat):(w ^^^ x) ^^^ (y ^^^ z)=(w ^^^ y) ^^^ (x ^^^ z):=by
 rw[Nat.xor_assoc,Nat.xor_assoc];refine congrArg (λq=>w ^^^ q) ?_;rw[<-Nat.xor_assoc,Nat.xor_comm x y,Nat.xor_assoc]
theorem Zqf {a b:Nat}(ha:a < 4294967296) (hb:b < 4294967296):crcStep (a ^^^ b)=crcStep a ^^^ crcStep b:=by
 have h1:(a ^^^ b)*2%4294967296=(a*2%4294967296) ^^^ (b*2%4294967296):=by
  have e1:(a ^^^ b)*2=(a*2) ^^^ (b*2):=by
   have:=Nat.shiftLeft_xor_distrib (i:=1) (a:=a) (b:=b);simpa [Nat.shiftLeft_eq] using this
  rw[e1];exact Nat.xor_mod_two_pow (n:=32)
 have h2:(a ^^^ b)/2147483648=(a/2147483648) ^^^ (b/2147483648):=Nat.xor_div_two_pow (n:=31);unfold crcStep;rw[h1,h2,Yco (by omega) (by omega)];exact xor4 _ _ _ _
theorem Zqr {a b:Nat}(ha:a < 4294967296) (hb:b < 4294967296):∀ k,crcN (a ^^^ b) k=crcN a k ^^^ crcN b k
 |0=>rfl
 |k+1=>by rw[crcN,Zqr ha hb k,Zqf (crcN_lt a ha k) (crcN_lt b hb k)];rfl
theorem Zrg {a:Nat}(ha:a < 16777216):∀ k,k<=8->crcN a k=a*2^k
 |0,_=>by simp[crcN]
 |k+1,hk=>by
  have h2:2^k<=2^7:=Nat.pow_le_pow_right (by decide) (by omega);have h3:a*2^k<=16777215*128:=Nat.mul_le_mul (by omega) h2;rw[crcN,Zrg ha k (by omega),Nat.pow_succ,<-Nat.mul_assoc];generalize a*2^k=y at *;unfold crcStep;rw[Nat.div_eq_of_lt (by omega),Nat.zero_mul,Nat.xor_zero,Nat.mod_eq_of_lt (by omega)]
theorem split24 (x:Nat):x=(x%16777216) ^^^ (x/16777216*16777216):=by
 apply Nat.eq_of_testBit_eq;intro i;rw[Nat.testBit_xor];have h1:(x%16777216).testBit i=(decide (i < 24)&&x.testBit i):=Nat.testBit_mod_two_pow x 24 i
 have h2:(x/16777216*16777216).testBit i=(decide (24<=i)&&x.testBit i):=by
  have h3:x/16777216*16777216=(x >>> 24) <<< 24:=by rw[Nat.shiftLeft_eq,Nat.shiftRight_eq_div_pow]
  rw[h3,Nat.testBit_shiftLeft,Nat.testBit_shiftRight]
  by_cases h:24<=i
  ·simp[h]
  ·simp[h]
 rw[h1,h2]
 by_cases h:i < 24
 ·simp[h,show ¬ 24<=i by omega]
 ·simp[h,show 24<=i by omega]
def crcB (s:Nat) (c:UInt8):Nat:=crcN (s ^^^ c.toNat*16777216) 8
theorem Zvb {s:Nat}(h:s < 4294967296) (c:UInt8):crcB s c < 4294967296:=by
 have hc:=c.toNat_lt;exact crcN_lt _ (Nat.xor_lt_two_pow (n:=32) (by omega) (by omega)) 8
theorem Zzx {s:Nat}(h:s < 4294967296) (c:UInt8):(s*2^8%4294967296) ^^^ crcTab (s/16777216 ^^^ c.toNat)=crcB s c:=by
 have hc:=c.toNat_lt;have hx:s ^^^ c.toNat*16777216 < 4294967296:=Nat.xor_lt_two_pow (n:=32) (by omega) (by omega)
 have hlo:(s ^^^ c.toNat*16777216)%16777216=s%16777216:=by
  have:=Nat.xor_mod_two_pow (a:=s) (b:=c.toNat*16777216) (n:=24);rw[show (2:Nat)^24=16777216 from rfl] at this;rw[this,Nat.mul_mod_left,Nat.xor_zero]
 have hhi:(s ^^^ c.toNat*16777216)/16777216=s/16777216 ^^^ c.toNat:=by
  have:=Nat.xor_div_two_pow (a:=s) (b:=c.toNat*16777216) (n:=24);rw[show (2:Nat)^24=16777216 from rfl] at this;rw[this,Nat.mul_div_cancel _ (by decide)]
 have hh:s/16777216 ^^^ c.toNat < 256:=Nat.xor_lt_two_pow (n:=8) (by omega) (by omega);unfold crcB;rw[split24 (s ^^^ c.toNat*16777216),hlo,hhi,Zqr (by omega) (by omega),Zrg (by omega) 8 (by omega),crcTab];refine congrArg (λq=>q ^^^ crcN ((s/16777216 ^^^ c.toNat)*16777216) 8) ?_;omega
def crcF (s:Nat) (l:List UInt8):Nat:=l.foldl crcB s
theorem Zi2 (s:Nat) (l:List UInt8) (c:UInt8):crcF s (l++[c])=crcB (crcF s l) c:=by simp[crcF]
theorem Zvr:∀ (l:List UInt8){s:Nat},s < 4294967296->crcF s l < 4294967296
 |[],_,h=>h
 |c::l,_,h=>Zvr l (Zvb h c)
def crcOf (l:List UInt8):Nat:=4294967295 - crcF 4294967295 l
theorem Zgc (l:List UInt8):crcOf l < 4294967296:=by unfold crcOf;omega
def comb (t b:Nat):Nat:=(t*2%4294967296) ^^^ (t/2147483648) ^^^ b
theorem comb_lt {t b:Nat}(ht:t < 4294967296) (hb:b < 4294967296):comb t b < 4294967296:=by
 unfold comb;exact Nat.xor_lt_two_pow (n:=32) (Nat.xor_lt_two_pow (n:=32) (by omega) (by omega)) (by omega)
end Go.M02
namespace Go.M03
def rleA:List UInt8->Nat->UInt8->List UInt8->Option (List UInt8)
 |out,run,p,[]=>if run=4 then none else some out
 |out,run,p,c::s=>
  if run=4 then
   if 251 < c.toNat then none else rleA (out++List.replicate c.toNat p) 0 c s
  else if 0 < run/\c=p then rleA (out++[c]) (run+1) c s
  else rleA (out++[c]) 1 c s
theorem Zfb:∀ (s out:List UInt8) (run:Nat) (p:UInt8) (t:List UInt8),rleA out run p s=some t->t.length<=out.length+255*s.length
 |[],out,run,p,t,h=>by
  unfold rleA at h;split at h
  ·cases h
  ·cases h;simp
 |c::s,out,run,p,t,h=>by
  unfold rleA at h;rw[length_cons];split at h
  ·split at h
   ·cases h
   ·have:=Zfb s _ _ _ _ h;rw[gD,gP] at this;omega
  ·split at h
   ·have:=Zfb s _ _ _ _ h;rw[gD,gQ] at this;omega
   ·have:=Zfb s _ _ _ _ h;rw[gD,gQ] at this;omega
def rle (s:List UInt8):Option (List UInt8):=rleA [] 0 0 s
end Go.M03
namespace Go.M3d
open Go.M02 Go.M03
theorem Yef (out s:List UInt8) (p q:UInt8):rleA out 0 p s=rleA out 0 q s:=by
 cases s <;> simp[rleA]
theorem Ycm (o:List UInt8) (a:UInt8) (u:List UInt8) (h:¬ (1<=u.length/\u.getD 0 0=a)):rleA o 3 a u=rleA o 2 a u:=by
 cases u with
 |nil=>simp[rleA]
 |cons d v=>
  have hd:¬ d=a:=λe=>h ⟨by simp,e⟩;simp[rleA,hd]
theorem Yd1 (o:List UInt8) (a:UInt8) (u:List UInt8) (h:¬ (2<=u.length/\u.getD 0 0=a/\u.getD 1 0=a)):rleA o 2 a u=rleA o 1 a u:=by
 cases u with
 |nil=>simp[rleA]
 |cons d v=>
  by_cases hd:d=a
  ·subst hd;simp only[rleA];simp only[show ¬ (2:Nat)=4 by omega,show ¬ (1:Nat)=4 by omega,if_false,show (0:Nat) < 2 by omega,show (0:Nat) < 1 by omega,true_and,if_true];exact Ycm _ _ _ λhv=>h ⟨by rw[length_cons];omega,rfl,hv.2⟩
  ·simp[rleA,hd]
theorem Zzv (out:List UInt8) (a p:UInt8) (s:List UInt8) (h:¬ (3<=s.length/\s.getD 0 0=a/\s.getD 1 0=a/\s.getD 2 0=a)):rleA out 0 p (a::s)=rleA (out++[a]) 0 p s:=by
 have e:rleA out 0 p (a::s)=rleA (out++[a]) 1 a s:=by simp[rleA]
 rw[e]
 cases s with
 |nil=>simp[rleA]
 |cons b t=>
  by_cases hd:b=a
  ·subst hd
   have e2:rleA (out++[b]) 0 p (b::t)=rleA (out++[b]++[b]) 1 b t:=by simp[rleA]
   have e1:rleA (out++[b]) 1 b (b::t)=rleA (out++[b]++[b]) 2 b t:=by simp[rleA]
   rw[e1,e2];exact Yd1 _ _ _ λhv=>h ⟨by rw[length_cons];omega,rfl,hv.2.1,hv.2.2⟩
  ·simp[rleA,hd]
theorem Zur (out:List UInt8) (a p:UInt8) (r:List UInt8):rleA out 0 p (a::a::a::a::r)=rleA (out++[a]++[a]++[a]++[a]) 4 a r:=by
 simp[rleA]
theorem Yae (out:List UInt8) (a c p:UInt8) (r:List UInt8) (h:¬ 251 < c.toNat):rleA out 0 p (a::a::a::a::c::r)=rleA (out++List.replicate (4+c.toNat) a) 0 p r:=by
 rw[Zur]
 have e:rleA (out++[a]++[a]++[a]++[a]) 4 a (c::r)=rleA (out++[a]++[a]++[a]++[a]++List.replicate c.toNat a) 0 c r:=by
  simp only[rleA,if_true,if_neg h]
 rw[e,Yef _ _ c p]
 congr 1
 rw[Nat.add_comm,show List.replicate (c.toNat+4) a=[a,a,a,a]++List.replicate c.toNat a from rfl];simp
def four (s:List UInt8):Prop:=4<=s.length/\s.getD 0 0=s.getD 1 0/\s.getD 1 0=s.getD 2 0/\s.getD 2 0=s.getD 3 0
theorem Zdb {out:List UInt8}{p a:UInt8}{s:List UInt8}(h:¬ four (a::s)):rleA out 0 p (a::s)=rleA (out++[a]) 0 p s:=by
 refine Zzv _ _ _ _ λ⟨h0,h1,h2,h3⟩=>h ⟨by rw[length_cons];omega,?_,?_,?_⟩
 ·simp only[List.getD_cons_zero,getD_cons_succ];exact h1.symm
 ·simp only[getD_cons_succ];rw[h1,h2]
 ·simp only[getD_cons_succ];rw[h2,h3]
theorem Zmu {x:Nat}(h:2147483648<=x) (hx:x < 4294967296):((x - 2147483648)*2) ^^^ 79764919=crcStep x:=by
 unfold crcStep;rw[show x/2147483648=1 by omega,Nat.one_mul,show x*2%4294967296=(x - 2147483648)*2 by omega]
theorem Zp3 {x:Nat}(h:x < 2147483648):x*2=crcStep x:=by
 unfold crcStep;rw[show x/2147483648=0 by omega,Nat.zero_mul,Nat.xor_zero,show x*2%4294967296=x*2 by omega]
theorem crcStep_lt {x:Nat}:crcStep x < 4294967296\/4294967296<=x:=by
 by_cases h:x < 4294967296
 ·left;unfold crcStep;refine Nat.xor_lt_two_pow (n:=32) (by omega) ?_
  have:x/2147483648 < 2:=by omega
  have:x/2147483648*79764919<=1*79764919:=Nat.mul_le_mul_right _ (by omega);omega
 ·right;omega
theorem Zjh (s k:Nat):crcN s (k+1)=crcStep (crcN s k):=rfl
theorem crcN_lt {s:Nat}(h:s < 4294967296):∀ k,crcN s k < 4294967296
 |0=>h
 |k+1=>by
  rw[Zjh];rcases crcStep_lt (x:=crcN s k) with h1|h1
  ·exact h1
  ·have:=crcN_lt h k;omega
end Go.M3d
namespace Go.Me
open Go.M01 Go.Mb Go.M03 Go.M3d Go.Mx
theorem Zbq {l:List Bool}(h:l.length%8=0):bitsL (wholeB l)=l:=by
 apply List.ext_getElem?;intro i;rcases hU_ i l.length with q|q
 ·rw[Zn8 _ _ (by rw[Zas];omega)]
  have hi:i/8 < l.length/8:=by omega
  have e1:(wholeB l).getD (i/8) 0=byteAt l (i/8):=by
   unfold wholeB;rw[gB,hV_,getElem?_range hi];rfl
  have hq:((l.drop (8*(i/8))).take 8).length=8:=by rw[gN,gS];omega
  have hv:=Zb1 ((l.drop (8*(i/8))).take 8);rw[hq] at hv
  have e2:(byteAt l (i/8)).toNat=valB ((l.drop (8*(i/8))).take 8):=by
   unfold byteAt;simp only[UInt8.toNat_ofNat'];exact Nat.mod_eq_of_lt hv
  have e3:=Ze9 (q:=(l.drop (8*(i/8))).take 8) (i:=i%8) (by rw[hq];omega);rw[hq] at e3;rw[e1,e2,show 7 - i%8=8 - 1 - i%8 by omega,e3,gB,hI_ (by omega),hH_,show 8*(i/8)+i%8=i by omega,gA q];rfl
 ·rw[List.getElem?_eq_none q,List.getElem?_eq_none (by rw[Zgh,Zas];omega)]
structure RunIs (s:List UInt8) (n:Nat):Prop where
 pos:1<=n
 le:n<=s.length
 n255:n<=255
 same:s.take n=List.replicate n (s.getD 0 0)
 fin:n < 4->s.drop n=[]\/(s.drop n).getD 0 0≠s.getD 0 0
def pieceB (x:UInt8 × Nat):List UInt8:=List.replicate (min x.2 4) x.1++if 4<=x.2 then [UInt8.ofNat (x.2 - 4)] else []
theorem Zei (x:UInt8 × Nat):(pieceB x).length<=5:=by
 unfold pieceB;rw[gD,gP];split
 ·simp;omega
 ·simp;omega
theorem Zer {a:UInt8}{u rest:List UInt8}(hu:u=[]\/u=[a]\/u=[a,a]) (hne:rest=[]\/rest.getD 0 0≠a):¬ four (a::(u++rest)):=by
 rintro⟨h0,h1,h2,h3⟩;rcases hu with rfl|rfl|rfl
 ·rcases hne with rfl|hne
  ·simp at h0
  ·exact hne h1.symm
 ·rcases hne with rfl|hne
  ·simp at h0
  ·exact hne h2.symm
 ·rcases hne with rfl|hne
  ·simp at h0
  ·exact hne h3.symm
theorem Zn9 {out rest:List UInt8}{a p:UInt8}{n:Nat}(h1:1<=n) (h2:n<=255) (hne:n < 4->rest=[]\/rest.getD 0 0≠a):rleA out 0 p (pieceB (a,n)++rest)=rleA (out++List.replicate n a) 0 p rest:=by
 unfold pieceB;simp only
 by_cases h4:4<=n
 ·rw[if_pos h4,show min n 4=4 by omega]
  have hc:(UInt8.ofNat (n - 4)).toNat=n - 4:=by
   simp only[UInt8.toNat_ofNat'];exact Nat.mod_eq_of_lt (by omega)
  have:=Yae out a (UInt8.ofNat (n - 4)) p rest (by rw[hc];omega);rw[hc,show 4+(n - 4)=n by omega] at this;exact this
 ·have hnx:=hne (by omega);clear hne;rw[if_neg h4,show min n 4=n by omega,gU];rcases (show n=1\/n=2\/n=3 by omega) with rfl|rfl|rfl
  ·have:=Zdb (out:=out) (p:=p) (Zer (u:=[]) (.inl rfl) hnx);exact this
  ·have e1:=Zdb (out:=out) (p:=p) (Zer (u:=[a]) (.inr (.inl rfl)) hnx);have e2:=Zdb (out:=out++[a]) (p:=p) (Zer (u:=[]) (.inl rfl) hnx);rw[gI] at e2;exact e1.trans e2
  ·have e1:=Zdb (out:=out) (p:=p) (Zer (u:=[a,a]) (.inr (.inr rfl)) hnx);have e2:=Zdb (out:=out++[a]) (p:=p) (Zer (u:=[a]) (.inr (.inl rfl)) hnx);have e3:=Zdb (out:=out++[a]++[a]) (p:=p) (Zer (u:=[]) (.inl rfl) hnx);rw[show out++[a]++[a]++[a]=out++List.replicate 3 a by simp[List.replicate]] at e3;exact e1.trans (e2.trans e3)
inductive Pcs:List UInt8->List (UInt8 × Nat)->Prop
 |nil:Pcs [] []
 |cons {s:List UInt8} {n:Nat} {ps:List (UInt8 × Nat)} (h:RunIs s n) (r:Pcs (s.drop n) ps):Pcs s ((s.getD 0 0,n)::ps)
def encB (ps:List (UInt8 × Nat)):List UInt8:=ps.flatMap pieceB
theorem Znm (ps:List (UInt8 × Nat)) (x:UInt8 × Nat):encB (ps++[x])=encB ps++pieceB x:=by simp[encB]
theorem Pcs.len {s:List UInt8}{ps:List (UInt8 × Nat)}(h:Pcs s ps):ps.length<=s.length:=by
 induction h with
 |nil=>exact Nat.le_refl _
 |cons h r ih=>
  rw[gS] at ih;have:=h.pos;have:=h.le;rw[length_cons];omega
theorem Pcs.ok {s:List UInt8}{ps:List (UInt8 × Nat)}(h:Pcs s ps):∀ x∈ps,1<=x.2/\x.2<=255:=by
 induction h with
 |nil=>intro x hx;cases hx
 |cons h r ih=>
  intro x hx;rcases List.mem_cons.1 hx with rfl|hx
  ·exact⟨h.pos,h.n255⟩
  ·exact ih x hx
theorem Pcs.head {s:List UInt8}{ps:List (UInt8 × Nat)}(h:Pcs s ps):(s=[]/\encB ps=[])\/(s≠[]/\encB ps≠[]/\(encB ps).getD 0 0=s.getD 0 0):=by
 cases h with
 |nil=>exact .inl ⟨rfl,rfl⟩
 |cons h r=>
  rename_i n ps;have h1:=h.pos;have h2:=h.le
  have e:encB ((s.getD 0 0,n)::ps)=s.getD 0 0::(List.replicate (min n 4 - 1) (s.getD 0 0)++(if 4<=n then [UInt8.ofNat (n - 4)] else [])++encB ps):=by
   unfold encB;rw[hM_]
   have e2:pieceB (s.getD 0 0,n)=s.getD 0 0::(List.replicate (min n 4 - 1) (s.getD 0 0)++(if 4<=n then [UInt8.ofNat (n - 4)] else [])):=by
    unfold pieceB;simp only;rw[show min n 4=(min n 4 - 1)+1 by omega,List.replicate_succ,Nat.add_sub_cancel];rfl
   rw[e2];simp
  refine .inr ⟨λe=>by rw[e] at h2;simp at h2;omega,by rw[e];simp,by rw[e];rfl⟩
theorem Pcs.rle_ {s:List UInt8}{ps:List (UInt8 × Nat)}(h:Pcs s ps):∀ out p,rleA out 0 p (encB ps)=some (out++s):=by
 induction h with
 |nil=>intro out p;simp[encB,rleA]
 |cons h r ih=>
  rename_i s n ps;intro out p
  have e:encB ((s.getD 0 0,n)::ps)=pieceB (s.getD 0 0,n)++encB ps:=by unfold encB;rw[hM_]
  rw[e,Zn9 h.pos h.n255 λh4=>?_,ih,gI,<-h.same,hN_];rcases r.head with⟨h5,h6⟩|⟨h5,h6,h7⟩
  ·exact .inl h6
  ·right;rw[h7];exact (h.fin h4).resolve_left h5
theorem Pcs.back {s:List UInt8}{ps:List (UInt8 × Nat)}(h:Pcs s ps):Go.M03.rle (encB ps)=some s:=h.rle_ [] 0
end Go.Me
