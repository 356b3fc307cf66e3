/- Several texts in one: Sl, Sq, Sr, St, Su, M01, Mb, P18, Mr, Mt, Mu, My, Mq, M10, Mh, Mz, Rb, Rc, Rd, Cl, P13, C10, C14, Rn, W16. -/
import Derived.Test.YtieneaffjelhhaaGreatVc
import Derived.Deep.DeepAppendRoom
import Derived.Laws.RangeString
import Derived.Lib.OthersKept
import Derived.Deep.Upon
import Derived.Laws.CopyRow
import Derived.Laws.IdiomCopy
import Derived.Laws.IdiomStrings
import Derived.WalkKit
import Derived.Test.YtieneaffjelhhaaGreatFm
set_option linter.unusedVariables false
set_option linter.unusedSimpArgs false
set_option linter.unusedSectionVars false
open Go.RowKit (intOf)
open List (count_cons drop_append_of_le_length drop_drop drop_of_length_le drop_zero filter_cons getElem?_set getElem_range length_cons length_nil map_congr_left mem_cons mem_filter mem_of_mem_erase mem_range mem_singleton nodup_range pairwise_cons pairwise_iff_getElem range_succ set_set take_zero)
namespace Go.Vc
abbrev Hp:=Nat->Option Obj
abbrev HProp:=Hp->Prop
def Hp.sub (h g:Hp):Prop:=∀ b o,h b=some o->g b=some o
def Hp.minus (h g:Hp):Hp:=λb=>if (g b).isSome=true then none else h b
def Sat:List HProp->Hp->Prop
 |[],_=>True
 |P::L,h=>∃ g,P g/\g.sub h/\Sat L (h.minus g)
def hp (w:World):Hp:=λb=>w.heap[b]?
def Holds (w:World) (L:List HProp):Prop:=Sat L (hp w)
def blkO (b:Nat) (o:Obj):HProp:=λh=>h b=some o
def blk (b:Nat) (t:TypeId) (cs:List Value):HProp:=blkO b (.cells cs.toArray t)
def pur (p:Prop):HProp:=λ_=>p
structure Same (w w':World):Prop where
 os:w'.os=w.os
 tape:w'.tape=w.tape
 output:w'.output=w.output
 size:w.heap.size<=w'.heap.size
theorem Same.refl (w:World):Same w w:=⟨rfl,rfl,rfl,Nat.le_refl _⟩
theorem Same.trans {a b c:World}(h:Same a b) (k:Same b c):Same a c:=⟨k.os.trans h.os,k.tape.trans h.tape,k.output.trans h.output,Nat.le_trans h.size k.size⟩
theorem Sat.mono:∀ {L:List HProp}{h g:Hp},Sat L h->h.sub g->Sat L g
 |[],_,_,_,_=>trivial
 |P::L,h,g,⟨k,hp,hs,hL⟩,hg=>⟨k,hp,λb o hb=>hg b o (hs b o hb),hL.mono λb o hb=>by
  unfold Hp.minus at hb ⊢;split
  ·rename_i h1;rw[if_pos h1] at hb;cases hb
  ·rename_i h1;rw[if_neg h1] at hb;exact hg b o hb⟩
theorem Sat.swap {P Q:HProp}{L:List HProp}{h:Hp}(H:Sat (P::Q::L) h):Sat (Q::P::L) h:=by
 obtain⟨g,hg,hgs,k,hk,hks,hL⟩:=H
 have kn:∀ b o,k b=some o->g b=none/\h b=some o:=λb o hb=>by
  have:=hks b o hb;unfold Hp.minus at this;split at this
  ·cases this
  ·rename_i h1;simp at h1;exact⟨h1,this⟩
 refine⟨k,hk,λb o hb=>(kn b o hb).2,g,hg,λb o hb=>?_,hL.mono λb o hb=>?_⟩
 ·unfold Hp.minus;rw[if_neg ?_]
  ·exact hgs b o hb
  ·intro h1;obtain⟨x,hx⟩:=Option.isSome_iff_exists.1 h1;rw[(kn b x hx).1] at hb;cases hb
 ·unfold Hp.minus at hb ⊢;split at hb
  ·cases hb
  ·rename_i h1;split at hb
   ·cases hb
   ·rename_i h2;rw[if_neg h2,if_neg h1];exact hb
theorem Sat.pull:∀ {L:List HProp}{h:Hp}(i:Nat){P:HProp},Sat L h->L[i]?=some P->Sat (P::L.eraseIdx i) h
 |Q::L,h,0,P,H,hi=>by simp at hi;subst hi;exact H
 |Q::L,h,i+1,P,⟨g,hg,hs,hL⟩,hi=>Sat.swap ⟨g,hg,hs,hL.pull i (by simpa using hi)⟩
theorem Sat.push:∀ {L:List HProp}{h:Hp}(i:Nat){P Q:HProp},L[i]?=some Q->Sat (P::L.eraseIdx i) h->Sat (L.set i P) h
 |R::L,h,0,P,Q,_,H=>H
 |R::L,h,i+1,P,Q,hi,H=>by
  obtain⟨g,hg,hs,hL⟩:=Sat.swap H;exact⟨g,hg,hs,Sat.push i (by simpa using hi) hL⟩
theorem Holds.front {w:World}{L:List HProp}(H:Holds w L) (i:Nat){P:HProp}(hi:L[i]?=some P):Holds w (P::L.eraseIdx i):=Sat.pull i H hi
theorem Holds.swap {w:World}{P Q:HProp}{L:List HProp}(H:Holds w (P::Q::L)):Holds w (Q::P::L):=Sat.swap H
theorem Holds.drop {w:World}{P:HProp}{L:List HProp}(H:Holds w (P::L)):Holds w L:=by
 obtain⟨g,_,_,hL⟩:=H
 exact hL.mono λb o hb=>by
  unfold Hp.minus at hb;split at hb
  ·cases hb
  ·exact hb
theorem Holds.dropAt {w:World}{L:List HProp}(H:Holds w L) (i:Nat):Holds w (L.eraseIdx i):=by
 cases h:L[i]? with
 |none=>rw[List.eraseIdx_of_length_le (by simpa using h)];exact H
 |some P=>exact (H.front i h).drop
theorem Sat.imp {P Q:HProp}{L:List HProp}{h:Hp}(H:Sat (P::L) h) (hpq:∀ h,P h->Q h):Sat (Q::L) h:=by
 obtain⟨g,hg,hs,hL⟩:=H;exact⟨g,hpq _ hg,hs,hL⟩
theorem Holds.imp {P Q:HProp}{L:List HProp}{w:World}(H:Holds w (P::L)) (hpq:∀ h,P h->Q h):Holds w (Q::L):=Sat.imp H hpq
theorem Holds.ex {α:Type}{P:α->HProp}{L:List HProp}{w:World}(H:Holds w ((λh=>∃ x,P x h)::L)):∃ x,Holds w (P x::L):=by
 obtain⟨g,⟨x,hx⟩,hs,hL⟩:=H;exact⟨x,g,hx,hs,hL⟩
theorem Holds.pure {p:Prop}{P:HProp}{L:List HProp}{w:World}(H:Holds w ((λh=>p/\P h)::L)):p/\Holds w (P::L):=by
 obtain⟨g,⟨hp,hg⟩,hs,hL⟩:=H;exact⟨hp,g,hg,hs,hL⟩
theorem Sat.unpack:∀ {A L:List HProp}{h:Hp},Sat (Sat A::L) h->Sat (A++L) h
 |[],L,h,⟨g,_,_,hL⟩=>hL.mono λb o hb=>by
  unfold Hp.minus at hb;split at hb
  ·cases hb
  ·exact hb
 |P::A,L,h,⟨g,⟨k,hk,hks,hA⟩,hgs,hL⟩=>by
  refine⟨k,hk,λb o hb=>hgs b o (hks b o hb),Sat.unpack ⟨g.minus k,hA,λb o hb=>?_,hL.mono λb o hb=>?_⟩⟩
  ·unfold Hp.minus at hb ⊢;split at hb
   ·cases hb
   ·rename_i h1;rw[if_neg h1];exact hgs b o hb
  ·unfold Hp.minus at hb ⊢;split at hb
   ·cases hb
   ·rename_i h1
    have h1':g b=none:=by simpa using h1
    have h2:k b=none:=by
     cases hk:k b with
     |none=>rfl
     |some x=>rw[hks b x hk] at h1';cases h1'
    simp[h1',h2,hb]
theorem Sat.pack:∀ {A L:List HProp}{h:Hp},Sat (A++L) h->Sat (Sat A::L) h
 |[],L,h,H=>by
  refine⟨λ_=>none,trivial,?_,?_⟩
  ·intro b o hb;cases hb
  ·have e:h.minus (λ_=>none)=h:=by funext b;simp[Hp.minus]
   rw[e];exact H
 |P::A,L,h,⟨k,hk,hks,H⟩=>by
  obtain⟨g,hg,hgs,hL⟩:=Sat.pack H
  have gk:∀ b o,g b=some o->k b=none/\h b=some o:=λb o hb=>by
   have:=hgs b o hb;unfold Hp.minus at this;split at this
   ·cases this
   ·rename_i h1;simp at h1;exact⟨h1,this⟩
  refine⟨λb=>(k b).or (g b),⟨k,hk,λb o hb=>by simp[hb],hg.mono λb o hb=>?_⟩,λb o hb=>?_,hL.mono λb o hb=>?_⟩
  ·unfold Hp.minus;simp[(gk b o hb).1,hb]
  ·cases hkb:k b with
   |none=>simp[hkb] at hb;exact (gk b o hb).2
   |some x=>simp[hkb] at hb;subst hb;exact hks b x hkb
  ·unfold Hp.minus at hb ⊢;split at hb
   ·cases hb
   ·rename_i h1;split at hb
    ·cases hb
    ·rename_i h2;simp at h1 h2;simp[h1,h2,hb]
theorem Holds.pack {A L:List HProp}{w:World}(H:Holds w (A++L)):Holds w (Sat A::L):=Sat.pack H
theorem Holds.unpack {A L:List HProp}{w:World}(H:Holds w (Sat A::L)):Holds w (A++L):=Sat.unpack H
theorem Holds.obj {w:World}{L:List HProp}(H:Holds w L) (i:Nat){b:Nat}{o:Obj}(hi:L[i]?=some (blkO b o)):w.heap[b]?=some o:=by
 obtain⟨g,hg,hs,_⟩:=H.front i hi;exact hs b o hg
theorem Holds.upd {w w':World}{L:List HProp}(H:Holds w L) (i:Nat){b:Nat}{o o':Obj}(hi:L[i]?=some (blkO b o)) (hb:w'.heap[b]?=some o') (ho:∀ c,c≠b->w'.heap[c]?=w.heap[c]?) :
  Holds w' (L.set i (blkO b o')):=by
 obtain⟨g,hg,hs,hL⟩:=H.front i hi;refine Sat.push i hi ⟨λc=>if c=b then some o' else none,by simp[blkO],λc o hc=>?_,hL.mono λc o hc=>?_⟩
 ·by_cases e:c=b
  ·subst e;simp at hc;subst hc;exact hb
  ·simp[e] at hc
 ·unfold Hp.minus at hc ⊢
  by_cases e:c=b
  ·subst e;rw[if_pos (by rw[show g c=some _ from hg];rfl)] at hc;cases hc
  ·simp only[e,if_false,Option.isSome_none,Bool.false_eq_true];split at hc
   ·cases hc
   ·show w'.heap[c]?=_;rw[ho c e];exact hc
theorem Holds.new {w w':World}{L:List HProp}(H:Holds w L){b:Nat}{o:Obj}(hn:w.heap[b]?=none) (hb:w'.heap[b]?=some o) (ho:∀ c,c≠b->w'.heap[c]?=w.heap[c]?) :
  Holds w' (blkO b o::L):=by
 refine⟨λc=>if c=b then some o else none,by simp[blkO],λc x hc=>?_,Sat.mono H λc x hc=>?_⟩
 ·by_cases e:c=b
  ·subst e;simp at hc;subst hc;exact hb
  ·simp[e] at hc
 ·unfold Hp.minus
  by_cases e:c=b
  ·subst e;rw[show hp w c=none from hn] at hc;cases hc
  ·simp only[e,if_false,Option.isSome_none,Bool.false_eq_true];show w'.heap[c]?=_;rw[ho c e];exact hc
theorem Holds.same {w w':World}{L:List HProp}(H:Holds w L) (h:w'.heap=w.heap):Holds w' L:=by
 unfold Holds hp at *;rw[h];exact H
theorem Holds.cell {w:World}{L:List HProp}(H:Holds w L) (i:Nat){b:Nat}{t:TypeId}{cs:List Value}(hi:L[i]?=some (blk b t cs)) (o:Nat):w.cell? ⟨b,o,none⟩=cs[o]?:=by
 have:=H.obj i hi;simp[World.cell?,this]
theorem Holds.frozen {w:World}{L:List HProp}(H:Holds w L) (i:Nat){b:Nat}{t:TypeId}{cs:List Value}(hi:L[i]?=some (blk b t cs)) (o:Nat):w.frozen? ⟨b,o,none⟩=false:=by
 have:=H.obj i hi;simp[World.frozen?,this]
theorem Holds.set {w:World}{L:List HProp}(H:Holds w L) (i:Nat){b:Nat}{t:TypeId}{cs:List Value}(hi:L[i]?=some (blk b t cs)) (o:Nat) (v:Value) :
  Holds (w.setCell ⟨b,o,none⟩ v) (L.set i (blk b t (cs.set o v))):=by
 have h:=H.obj i hi;refine H.upd i hi ?_ λc hc=>?_
 ·simp[World.setCell,Array.getElem?_modify,h]
 ·simp only[World.setCell,Array.getElem?_modify];rw[if_neg (by simpa using λh=>hc h.symm)]
theorem Same.setCell (w:World) (a:Addr) (v:Value):Same w (w.setCell a v):=⟨rfl,rfl,rfl,by simp[World.setCell]⟩
theorem Same.drew (w:World):Same w w.drew:=⟨rfl,rfl,rfl,Nat.le_refl _⟩
theorem Same.alloc (w:World) (o:Obj):Same w (w.alloc o):=⟨rfl,rfl,rfl,by simp⟩
theorem Holds.alloc {w:World}{L:List HProp}(H:Holds w L) (o:Obj):Holds (w.alloc o) (blkO w.heap.size o::L):=by
 refine H.new (by simp) ?_ λc hc=>?_
 ·show (w.heap.push o)[w.heap.size]?=_;simp
 ·show (w.heap.push o)[c]?=_;rw[Array.getElem?_push,if_neg (by omega)]
def whole (w:World):HProp:=λh=>∀ b o,w.heap[b]?=some o->h b=some o
theorem holds_whole (w:World):Holds w [whole w]:=⟨hp w,λb o h=>h,λb o h=>h,trivial⟩
theorem Zmo {w w':World}(S:Same w w'){L:List HProp}(H:Holds w' (whole w::L)):RowKit.Below w.heap.size w w':=by
 refine⟨S.os,S.tape,S.output,S.size,λk hk=>?_⟩;obtain⟨g,hg,hs,_⟩:=H;have h1:w.heap[k]?=some w.heap[k]:=Array.getElem?_eq_getElem hk;rw[h1];exact hs k _ (hg k _ h1)
theorem calls_of_law {P:Program}{f:FuncId}{args:Array Value}{w:World}(h:∀ K:Value->World->Prop,(∀ w',Same w w'->Holds w' [whole w]->K (.bool true) w')->Cl P f args w K) :
  Calls P f args w λe w'=>e=.returned (.bool true)/\RowKit.Below w.heap.size w w':=
 (h (λv w'=>v=.bool true/\RowKit.Below w.heap.size w w') λw' S H=>⟨rfl,Zmo S H⟩).2.mono λe w' ⟨v,he,hv,hb⟩=>⟨by rw[he,hv],hb⟩
section
variable {P:Program}{w:World}{L:List HProp}
theorem r_nc {a:Addr}{A:Prop}(h:A):Nc (.pointer (some a)) A:=⟨⟨a,rfl⟩,h⟩
theorem r_fo {off b o:Nat}{K:Value->Prop}(h:K (.pointer (some ⟨b,o+off,none⟩))):Fo off (.pointer (some ⟨b,o,none⟩)) K:=by
 refine⟨_,rfl,?_⟩;unfold Addr.add;split
 ·rename_i h0;subst h0;exact h
 ·exact h
theorem r_fo0 {off b:Nat}{K:Value->Prop}(h:K (.pointer (some ⟨b,off,none⟩))):Fo off (.pointer (some ⟨b,0,none⟩)) K:=r_fo (by rw[Nat.zero_add];exact h)
theorem r_ld (i:Nat) (H:Holds w L){b o:Nat}{t:TypeId}{cs:List Value}{v:Value}{K:Value->Prop}(hi:L[i]?=some (blk b t cs)) (hc:cs[o]?=some v) (h:K v) :
  Ld (.pointer (some ⟨b,o,none⟩)) w K:=⟨_,v,rfl,(H.cell i hi o).trans hc,h⟩
theorem r_st (i:Nat) (H:Holds w L){b o:Nat}{t:TypeId}{cs:List Value}{v:Value}{K:World->Prop}(hi:L[i]?=some (blk b t cs)) (ho:o < cs.length) (hs:sg v=true)
  (h:∀ w',Same w w'->Holds w' (L.set i (blk b t (cs.set o v)))->K w'):St (.pointer (some ⟨b,o,none⟩)) v w K:=
 ⟨_,cs[o],rfl,(H.cell i hi o).trans (by simp[ho]),H.frozen i hi o,hs,h _ (.setCell _ _ _) (H.set i hi o v)⟩
theorem r_new {z:Value}{t:TypeId}(H:Holds w L){K:KT}(h:∀ b w',Same w w'->Holds w' (blk b t z.cells.toList::L)->K (.pointer (some ⟨b,0,none⟩)) w'):New z t w K:=
 h _ _ (.alloc _ _) (H.alloc _)
theorem r_dr (H:Holds w L){K:World->Prop}(h:∀ w',Same w w'->Holds w' L->K w'):Dr w K:=h _ (.drew _) (H.same rfl)
theorem r_vif {b:Bool}{A B:Prop}(h1:b=true->A) (h2:b=false->B):Vif (.bool b) A B:=by
 cases b
 ·exact h2 rfl
 ·exact h1 rfl
theorem Zbh {rest:(Nat->Value)->Cur 0}{br:Cur 0->Prop}(J:World->Prop) (hJ:∀ jb w,J w->rest jb w) (h:br J):VJoin 0 rest br:=⟨J,λjb w hw=>hJ jb w hw,h⟩
theorem Za2 {rest:(Nat->Value)->Cur 1}{br:Cur 1->Prop}(J:KT) (hJ:∀ jb x w,J x w->rest jb x w) (h:br J):VJoin 1 rest br:=⟨J,λjb x w hw=>hJ jb x w hw,h⟩
theorem Zmu {rest:(Nat->Value)->Cur 2}{br:Cur 2->Prop}(J:Value->Value->World->Prop) (hJ:∀ jb x y w,J x y w->rest jb x y w) (h:br J):VJoin 2 rest br:=⟨J,λjb x y w hw=>hJ jb x y w hw,h⟩
theorem r_ke {a:List Value}{X:Prop}(h:X):KE a a X:=⟨rfl,h⟩
theorem Zu7 {w:World}{body:(Nat->Value)->Cur 0->Cur 0}(I:World->Prop) (μ:World->Nat) (h0:I w)
  (h:∀ jb w,I w->body jb (λw'=>I w'/\μ w' < μ w) w):VLoop 0 [] w body:=
 ⟨λ_ w=>I w,λ_ w=>μ w,h0,λjb us u hl hI=>match us,hl with|[],_=>h jb u hI⟩
theorem Zac {w:World}{a:Value}{body:(Nat->Value)->Cur 1->Cur 1}(I:KT) (μ:Value->World->Nat) (h0:I a w)
  (h:∀ jb x w,I x w->body jb (λx' w'=>I x' w'/\μ x' w' < μ x w) x w):VLoop 1 [a] w body:=
 ⟨λl w=>match l with|[x]=>I x w|_=>False,λl w=>match l with|[x]=>μ x w|_=>0,h0,λjb us u hl hI=>match us,hl with|[x],_=>h jb x u hI⟩
theorem Zag {w:World}{a b:Value}{body:(Nat->Value)->Cur 2->Cur 2}(I:Value->Value->World->Prop) (μ:Value->Value->World->Nat) (h0:I a b w)
  (h:∀ jb x y w,I x y w->body jb (λx' y' w'=>I x' y' w'/\μ x' y' w' < μ x y w) x y w):VLoop 2 [a,b] w body:=
 ⟨λl w=>match l with|[x,y]=>I x y w|_=>False,λl w=>match l with|[x,y]=>μ x y w|_=>0,h0,λjb us u hl hI=>match us,hl with|[x,y],_=>h jb x y u hI⟩
theorem Znp {w:World}{a b c:Value}{body:(Nat->Value)->Cur 3->Cur 3}(I:Value->Value->Value->World->Prop) (μ:Value->Value->Value->World->Nat) (h0:I a b c w)
  (h:∀ jb x y z w,I x y z w->body jb (λx' y' z' w'=>I x' y' z' w'/\μ x' y' z' w' < μ x y z w) x y z w):VLoop 3 [a,b,c] w body:=
 ⟨λl w=>match l with|[x,y,z]=>I x y z w|_=>False,λl w=>match l with|[x,y,z]=>μ x y z w|_=>0,h0,λjb us u hl hI=>match us,hl with|[x,y,z],_=>h jb x y z u hI⟩
theorem wrap64 {n:Int}(h1:-9223372036854775808<=n) (h2:n<=9223372036854775807):IntKind.i64.wrap n=n:=IntWalk.i64_in n ⟨h1,h2⟩
theorem r_add {a b:Int}{K:Value->Prop}(h1:-9223372036854775808<=a+b) (h2:a+b<=9223372036854775807) (h:K (.int .i64 (a+b))):Bp .add (.int .i64 a) (.int .i64 b) K:=
 ⟨.int .i64 (a+b),by simp only[bp,if_true];rw[wrap64 h1 h2],h⟩
theorem r_sub {a b:Int}{K:Value->Prop}(h1:-9223372036854775808<=a - b) (h2:a - b<=9223372036854775807) (h:K (.int .i64 (a - b))):Bp .sub (.int .i64 a) (.int .i64 b) K:=
 ⟨.int .i64 (a - b),by simp only[bp,if_true];rw[wrap64 h1 h2],h⟩
theorem r_mul {a b:Int}{K:Value->Prop}(h1:-9223372036854775808<=a*b) (h2:a*b<=9223372036854775807) (h:K (.int .i64 (a*b))):Bp .mul (.int .i64 a) (.int .i64 b) K:=
 ⟨.int .i64 (a*b),by simp only[bp,if_true];rw[wrap64 h1 h2],h⟩
theorem r_quo {a b:Int}{K:Value->Prop}(h0:0<=a) (hb:0 < b) (h2:a<=9223372036854775807) (h:K (.int .i64 (a/b))):Bp .quo (.int .i64 a) (.int .i64 b) K:=by
 refine⟨.int .i64 (a/b),?_,h⟩;have e:a.tdiv b=a/b:=Int.tdiv_eq_ediv_of_nonneg h0;have h3:0<=a/b:=Int.ediv_nonneg h0 (by omega);have h4:a/b<=a:=Int.ediv_le_self b h0;show (if IntKind.i64=IntKind.i64/\b≠0 then some (Value.int .i64 (IntKind.i64.wrap (a.tdiv b))) else none)=_;rw[if_pos ⟨rfl,by omega⟩,e,wrap64 (by omega) (by omega)]
theorem Zor {a b q:Int}{K:Value->Prop}(hq:a.tdiv b=q) (hb:b≠0) (h1:-9223372036854775808<=q) (h2:q<=9223372036854775807) (h:K (.int .i64 q)):Bp .quo (.int .i64 a) (.int .i64 b) K:=by
 refine⟨.int .i64 q,?_,h⟩;show (if IntKind.i64=IntKind.i64/\b≠0 then some (Value.int .i64 (IntKind.i64.wrap (a.tdiv b))) else none)=_;rw[if_pos ⟨rfl,hb⟩,hq,wrap64 h1 h2]
theorem Zi6 {a b r:Int}{K:Value->Prop}(hr:a.tmod b=r) (hb:b≠0) (h:K (.int .i64 r)):Bp .rem (.int .i64 a) (.int .i64 b) K:=by
 refine⟨.int .i64 r,?_,h⟩;show (if IntKind.i64=IntKind.i64/\b≠0 then some (Value.int .i64 (a.tmod b)) else none)=_;rw[if_pos ⟨rfl,hb⟩,hr]
theorem r_eql {k:IntKind}{a b:Int}{K:Value->Prop}(h:K (.bool (a==b))):Bp .eql (.int k a) (.int k b) K:=⟨.bool (a==b),by simp only[bp,if_true],h⟩
theorem r_neq {k:IntKind}{a b:Int}{K:Value->Prop}(h:K (.bool (a != b))):Bp .neq (.int k a) (.int k b) K:=⟨.bool (a != b),by simp only[bp,if_true],h⟩
theorem r_lss {k:IntKind}{a b:Int}{K:Value->Prop}(h:K (.bool (decide (a < b)))):Bp .lss (.int k a) (.int k b) K:=⟨.bool (decide (a < b)),by simp only[bp,if_true],h⟩
theorem r_leq {k:IntKind}{a b:Int}{K:Value->Prop}(h:K (.bool (decide (a<=b)))):Bp .leq (.int k a) (.int k b) K:=⟨.bool (decide (a<=b)),by simp only[bp,if_true],h⟩
theorem r_gtr {k:IntKind}{a b:Int}{K:Value->Prop}(h:K (.bool (decide (b < a)))):Bp .gtr (.int k a) (.int k b) K:=⟨.bool (decide (b < a)),by simp only[bp,if_true,gt_iff_lt,ge_iff_le],h⟩
theorem r_geq {k:IntKind}{a b:Int}{K:Value->Prop}(h:K (.bool (decide (b<=a)))):Bp .geq (.int k a) (.int k b) K:=⟨.bool (decide (b<=a)),by simp only[bp,if_true,gt_iff_lt,ge_iff_le],h⟩
theorem Ze4 {a b:ByteArray}(h:a.data.toList=b.data.toList):a=b:=by
 obtain⟨⟨a⟩⟩:=a;obtain⟨⟨b⟩⟩:=b;simp at h;rw[h]
theorem Zfp (a b:ByteArray):(a.toList==b.toList)=decide (a=b):=by
 rw[Bool.eq_iff_iff,beq_iff_eq,decide_eq_true_iff,ByteArray.toList_eq,ByteArray.toList_eq];exact⟨Ze4,λh=>by rw[h]⟩
theorem Zyv (a:ByteArray):a=⟨#[]⟩↔a.size=0:=by
 constructor
 ·rintro rfl;rfl
 ·intro h;apply Ze4
  have:a.data.toList.length=0:=by simpa using h
  rw[List.eq_nil_of_length_eq_zero this]
theorem Zm7 {a:ByteArray}{K:Value->Prop}(h:K (.bool (decide (a.size=0)))):Bp .eql (.string a) (.string ⟨#[]⟩) K:=
 ⟨_,rfl,by rw[Zfp,show decide (a=⟨#[]⟩)=decide (a.size=0) from by rw[Bool.eq_iff_iff,decide_eq_true_iff,decide_eq_true_iff,Zyv]];exact h⟩
theorem Zsw {a:ByteArray}{K:Value->Prop}(h:K (.bool (decide (¬ a.size=0)))):Bp .neq (.string a) (.string ⟨#[]⟩) K:=
 ⟨_,rfl,by rw[Zfp,show (!decide (a=⟨#[]⟩))=decide (¬ a.size=0) from by rw[Bool.eq_iff_iff,Bool.not_eq_true',decide_eq_false_iff_not,decide_eq_true_iff,Zyv]];exact h⟩
theorem r_seq {a b:ByteArray}{K:Value->Prop}(h:K (.bool (decide (a=b)))):Bp .eql (.string a) (.string b) K:=⟨_,rfl,by rw[Zfp];exact h⟩
theorem r_sne {a b:ByteArray}{K:Value->Prop}(h:K (.bool (!decide (a=b)))):Bp .neq (.string a) (.string b) K:=⟨_,rfl,by rw[Zfp];exact h⟩
theorem r_cat {a b:ByteArray}{K:Value->Prop}(hs:a.size+b.size<=9223372036854775807) (h:K (.string (a++b))):Bp .add (.string a) (.string b) K:=by
 refine⟨.string (a++b),?_,h⟩;simp only[bp];rw[if_neg (by show ¬ _ > (9223372036854775807:Int);omega)]
theorem r_not {b:Bool}{K:Value->Prop}(h:K (.bool !b)):Up .not (.bool b) K:=⟨_,rfl,h⟩
theorem r_bnS {e:TypeId}{neg:Bool}{a:Addr}{K:Value->Prop}(h:K (.bool neg)):Bn P e neg (.pointer (some a)) (.pointer none) K:=
 .inl ⟨false,rfl,by cases neg <;> exact h⟩
theorem r_bnN {e:TypeId}{neg:Bool}{K:Value->Prop}(h:K (.bool !neg)):Bn P e neg (.pointer none) (.pointer none) K:=
 .inl ⟨true,rfl,by cases neg <;> exact h⟩
theorem r_vt {A B:Prop}(h:A):Vif (.bool true) A B:=h
theorem r_vf {A B:Prop}(h:B):Vif (.bool false) A B:=h
theorem r_vtd {c:Bool}{A B:Prop}(hc:c=true) (h:A):Vif (.bool c) A B:=by subst hc;exact h
theorem r_vfd {c:Bool}{A B:Prop}(hc:c=false) (h:B):Vif (.bool c) A B:=by subst hc;exact h
theorem r_vtD {p:Prop} [Decidable p] {A B:Prop}(hc:p) (h:A):Vif (.bool (decide p)) A B:=r_vtd (decide_eq_true hc) h
theorem r_vfD {p:Prop} [Decidable p] {A B:Prop}(hc:¬ p) (h:B):Vif (.bool (decide p)) A B:=r_vfd (decide_eq_false hc) h
theorem r_vtE {a b:Int}{A B:Prop}(hc:a=b) (h:A):Vif (.bool (a==b)) A B:=r_vtd (beq_iff_eq.2 hc) h
theorem r_vfE {a b:Int}{A B:Prop}(hc:¬ a=b) (h:B):Vif (.bool (a==b)) A B:=r_vfd (beq_eq_false_iff_ne.2 hc) h
theorem r_vtN {a b:Int}{A B:Prop}(hc:¬ a=b) (h:A):Vif (.bool (a != b)) A B:=r_vtd (bne_iff_ne.2 hc) h
theorem r_vfN {a b:Int}{A B:Prop}(hc:a=b) (h:B):Vif (.bool (a != b)) A B:=r_vfd (by subst hc;simp) h
theorem r_ifD {p:Prop} [Decidable p] {A B:Prop}(h1:p->A) (h2:¬ p->B):Vif (.bool (decide p)) A B:=r_vif (λh=>h1 (of_decide_eq_true h)) λh=>h2 (of_decide_eq_false h)
theorem r_ifE {a b:Int}{A B:Prop}(h1:a=b->A) (h2:¬ a=b->B):Vif (.bool (a==b)) A B:=r_vif (λh=>h1 (beq_iff_eq.1 h)) λh=>h2 (beq_eq_false_iff_ne.1 h)
theorem r_ifN {a b:Int}{A B:Prop}(h1:¬ a=b->A) (h2:a=b->B):Vif (.bool (a != b)) A B:=r_vif (λh=>h1 (bne_iff_ne.1 h)) λh=>h2 (by simpa using h)
theorem r_bb {neg a b:Bool}{K:Value->Prop}(h:K (.bool (if neg then !(a==b) else a==b))):Bb neg (.bool a) (.bool b) K:=⟨a,b,rfl,rfl,h⟩
theorem r_lns {s:ByteArray}{K:Value->Prop}(h:K (.int .i64 (s.size:Int))):Lns (.string s) K:=⟨s,rfl,h⟩
theorem r_lnl {a:Option Addr}{l c:Nat}{K:Value->Prop}(h:K (.int .i64 (l:Int))):Lnl (.slice a l c) K:=⟨a,l,c,rfl,h⟩
theorem r_ixs {s:ByteArray}{k:IntKind}{n:Int}{K:Value->Prop}(h0:0<=n) (h1:n < (s.size:Int)) (h:K (.int .u8 ((s.data.toList.getD n.toNat 0).toNat:Int))):Ixs (.string s) (.int k n) K:=
 ⟨s,k,n,rfl,rfl,h0,h1,h⟩
theorem r_iaa {len size b o:Nat}{k:IntKind}{n:Int}{K:Value->Prop}(h0:0<=n) (h1:n < (len:Int)) (h:K (.pointer (some ⟨b,o+n.toNat*size,none⟩))) :
  Iaa len size (.pointer (some ⟨b,o,none⟩)) (.int k n) K:=by
 refine⟨_,k,n,rfl,rfl,h0,h1,?_⟩;unfold Addr.add;split
 ·rename_i e;rw[e] at h;exact h
 ·exact h
theorem r_ias {size b o l c:Nat}{k:IntKind}{n:Int}{K:Value->Prop}(h0:0<=n) (h1:n < (l:Int)) (h:K (.pointer (some ⟨b,o+n.toNat*size,none⟩))) :
  Ias size (.slice (some ⟨b,o,none⟩) l c) (.int k n) K:=by
 refine⟨_,l,c,k,n,rfl,rfl,h0,h1,?_⟩;unfold Addr.add;split
 ·rename_i e;rw[e] at h;exact h
 ·exact h
theorem r_ex {vs:Array Value}{i:Nat}{v:Value}{K:Value->Prop}(hv:vs[i]?=some v) (h:K v):Ex (.tuple vs) i K:=⟨vs,v,rfl,hv,h⟩
theorem Zca {a:Addr}{e:TypeId}{K:Value->Prop}(h:K (.bool true)):Bn P e true (.pointer (some a)) (.pointer none) K:=r_bnS h
theorem Zab {a:Addr}{e:TypeId}{K:Value->Prop}(h:K (.bool false)):Bn P e false (.pointer (some a)) (.pointer none) K:=r_bnS h
theorem Zll {e:TypeId}{K:Value->Prop}(h:K (.bool true)):Bn P e false (.pointer none) (.pointer none) K:=r_bnN h
theorem Zuf {e:TypeId}{K:Value->Prop}(h:K (.bool false)):Bn P e true (.pointer none) (.pointer none) K:=r_bnN h
theorem Zal {K:Value->Prop}(h:K (.bool false)):Up .not (.bool true) K:=r_not h
theorem Zci {K:Value->Prop}(h:K (.bool true)):Up .not (.bool false) K:=r_not h
theorem Za8 {a b:Value}{K:Value->Prop}(h:K a):Ex (.tuple #[a,b]) 0 K:=r_ex rfl h
theorem Za9 {a b:Value}{K:Value->Prop}(h:K b):Ex (.tuple #[a,b]) 1 K:=r_ex rfl h
theorem Ycn {a b c:Value}{K:Value->Prop}(h:K a):Ex (.tuple #[a,b,c]) 0 K:=r_ex rfl h
theorem Yd1 {a b c:Value}{K:Value->Prop}(h:K b):Ex (.tuple #[a,b,c]) 1 K:=r_ex rfl h
theorem Ycy {a b c:Value}{K:Value->Prop}(h:K c):Ex (.tuple #[a,b,c]) 2 K:=r_ex rfl h
theorem r_ci {k k':IntKind}{n:Int}{K:Value->Prop}(h:K (.int k (k.wrap n))):Ci k (.int k' n) K:=⟨k',n,rfl,h⟩
theorem Yc9 {k:IntKind}{a b:Int}{K:Value->Prop}(h0:0<=a) (hb:0 < b) (h:K (.int k (a%b))):Bp .rem (.int k a) (.int k b) K:=by
 refine⟨.int k (a%b),?_,h⟩;have e:a.tmod b=a%b:=Int.tmod_eq_emod_of_nonneg h0;show (if k=k/\b≠0 then some (Value.int k (a.tmod b)) else none)=_;rw[if_pos ⟨rfl,by omega⟩,e]
theorem Zsp {k':IntKind}{n:Int}{K:Value->Prop}(h1:-9223372036854775808<=n) (h2:n<=9223372036854775807) (h:K (.int .i64 n)):Ci .i64 (.int k' n) K:=
 ⟨k',n,rfl,by rw[wrap64 h1 h2];exact h⟩
theorem Zld {k':IntKind}{n:Int}{K:Value->Prop}(h1:0<=n) (h2:n<=255) (h:K (.int .u8 n)):Ci .u8 (.int k' n) K:=
 ⟨k',n,rfl,by rw[show IntKind.u8.wrap n=n from by show n%256=n;omega];exact h⟩
theorem Zav {k':IntKind}{n:Int}{K:Value->Prop}(h1:0<=n) (h2:n<=4294967295) (h:K (.int .u32 n)):Ci .u32 (.int k' n) K:=
 ⟨k',n,rfl,by rw[show IntKind.u32.wrap n=n from by show n%4294967296=n;omega];exact h⟩
theorem r_sst {s:ByteArray}{lo hi:Option Value}{l h:Nat}{K:Value->Prop}(hl:bnd lo 0 l) (hh:bnd hi s.size h) (h1:l<=h) (h2:h<=s.size) (hk:K (.string (s.extract l h))):Sst (.string s) lo hi K:=
 ⟨s,l,h,rfl,hl,hh,h1,h2,hk⟩
theorem r_ldA (i:Nat) (H:Holds w L){n b o:Nat}{t:TypeId}{cs:List Value}{K:Value->Prop}(sub:List Value) (hi:L[i]?=some (blk b t cs)) (hs:(cs.drop o).take n=sub) (hn:sub.length=n)
  (h:K (.agg sub.toArray)):LdA n (.pointer (some ⟨b,o,none⟩)) w K:=by
 refine⟨_,sub.toArray,rfl,by simpa using hn,λj v hv=>?_,h⟩
 have e1:(⟨b,o,none⟩:Addr).add j=⟨b,o+j,none⟩:=by
  unfold Addr.add;split
  ·rename_i h;rw[h];rfl
  ·rfl
 rw[e1,H.cell i hi]
 have hv':sub[j]?=some v:=by simpa using hv
 have hj:j < n:=by rw[<-hn];exact (gH.1 hv').1
 rw[<-hv',<-hs,hI_ hj,hH_]
theorem Znw {len:Nat}{sub:List Value}{k:IntKind}{n:Int}{K:Value->Prop}(v:Value) (h0:0<=n) (h1:n < (len:Int)) (hv:sub[n.toNat]?=some v) (h:K v):Ixa len 1 false (.agg sub.toArray) (.int k n) K:=
 ⟨_,k,n,rfl,rfl,h0,h1,v,by simpa using hv,h⟩
theorem Ze6 {s:ByteArray}{k:IntKind}{m:Nat}{K:Value->Prop}(h1:m < s.size) (h:K (.int .u8 ((s.data.toList.getD m 0).toNat:Int))):Ixs (.string s) (.int k (m:Int)) K:=
 r_ixs (by omega) (by omega) (by rw[gC];exact h)
theorem Zb4 {len b o m:Nat}{k:IntKind}{K:Value->Prop}(h1:m < len) (h:K (.pointer (some ⟨b,o+m,none⟩))):Iaa len 1 (.pointer (some ⟨b,o,none⟩)) (.int k (m:Int)) K:=
 r_iaa (by omega) (by omega) (by rw[gC,Nat.mul_one];exact h)
theorem Za0 {a:Nat}{K:Value->Prop}(h2:a < 9223372036854775807) (h:K (.int .i64 ((a+1:Nat):Int))):Bp .add (.int .i64 (a:Int)) (.int .i64 1) K:=r_add (by omega) (by omega) h
theorem Zah {a:Nat}{K:Value->Prop}(h2:1<=a) (h3:a < 9223372036854775807) (h:K (.int .i64 ((a - 1:Nat):Int))):Bp .sub (.int .i64 (a:Int)) (.int .i64 1) K:=
 r_sub (by omega) (by omega) (by rw[show (a:Int) - 1=((a - 1:Nat):Int) by omega];exact h)
theorem Zad {a b:Nat}{K:Value->Prop}(h2:a+b < 9223372036854775807) (h:K (.int .i64 ((a+b:Nat):Int))):Bp .add (.int .i64 (a:Int)) (.int .i64 (b:Int)) K:=r_add (by omega) (by omega) h
theorem r_bd {t:TypeId}{ps:Array (Nat × Value)}{v:Value}{K:Value->Prop}(h:(Instr.build t ps).run P w=.ok v w) (k:K v):Bd P t ps w K:=⟨v,h,k⟩
theorem r_be {op:BinOp}{t:TypeId}{X Y:Operand}{x y v:Value}{K:Value->Prop}(h:(do eqGuard op t X Y x y;binOp op t x y).run P w=.ok v w) (k:K v):Be P op t X Y x y w K:=⟨v,h,k⟩
theorem r_min {ats:Array TypeId}{t:TypeId}{k:IntKind}{a b:Int}{K:Value->Prop}(h:K (.int k (min a b))):Bmin P ats t #[.int k a,.int k b] w K:=by
 refine⟨.int k (if b < a then b else a),by simp[Builtin.min_,Builtin.min2,Sem.run_pure,List.foldlM],?_⟩
 have:(if b < a then b else a)=min a b:=by split <;> omega
 rw[this];exact h
theorem r_max {ats:Array TypeId}{t:TypeId}{k:IntKind}{a b:Int}{K:Value->Prop}(h:K (.int k (max a b))):Bmax P ats t #[.int k a,.int k b] w K:=by
 refine⟨.int k (if b > a then b else a),by simp[Builtin.max_,Builtin.max2,Sem.run_pure,List.foldlM],?_⟩
 have:(if b > a then b else a)=max a b:=by split <;> omega
 rw[this];exact h
theorem r_rk {N:Node}{v:Value}{A:Prop}(h:N w λu=>u=v) (hA:A):Rk N v w A:=⟨h,hA⟩
theorem r_cl {f:FuncId}{args:Array Value}{K K':KT}(h:Cl P f args w K) (hk:∀ v w',K v w'->K' v w'):Cl P f args w K':=
 ⟨h.1,h.2.mono λe w' ⟨v,he,hv⟩=>⟨v,he,hk v w' hv⟩⟩
end
end Go.Vc
namespace Go.Vc
abbrev iv (n:Int):Value:=.int .i64 n
abbrev nv (n:Nat):Value:=.int .i64 (n:Int)
abbrev bv (c:UInt8):Value:=.int .u8 (c.toNat:Int)
abbrev uv (n:Nat):Value:=.int .u32 (n:Int)
theorem Sat.at:∀ {L:List HProp}{h:Hp}(i:Nat){P Q:HProp},Sat L h->L[i]?=some P->(∀ g,P g->Q g)->Sat (L.set i Q) h:=by
 intro L h i P Q H hi hpq;exact Sat.push i hi ((H.pull i hi).imp hpq)
theorem Holds.at {w:World}{L:List HProp}(H:Holds w L) (i:Nat){P Q:HProp}(hi:L[i]?=some P) (hpq:∀ g,P g->Q g):Holds w (L.set i Q):=Sat.at i H hi hpq
theorem Holds.atEx {α:Type}{w:World}{L:List HProp}(H:Holds w L) (i:Nat){P:HProp}{Q:α->HProp}(hi:L[i]?=some P) (hpq:∀ g,P g->∃ x,Q x g):∃ x,Holds w (L.set i (Q x)):=by
 obtain⟨g,hg,hs,hL⟩:=H.front i hi;obtain⟨x,hx⟩:=hpq g hg;exact⟨x,Sat.push i hi ⟨g,hx,hs,hL⟩⟩
theorem Holds.atPure {p:Prop}{w:World}{L:List HProp}(H:Holds w L) (i:Nat){P Q:HProp}(hi:L[i]?=some P) (hpq:∀ g,P g->p/\Q g):p/\Holds w (L.set i Q):=by
 obtain⟨g,hg,hs,hL⟩:=H.front i hi;exact⟨(hpq g hg).1,Sat.push i hi ⟨g,(hpq g hg).2,hs,hL⟩⟩
section
variable {α:Type}
def slb (f:α->Value) (e:TypeId) (oa:Option Addr) (xs:List α) (sp:List Value):HProp:=
 match oa with
 |none=>pur (xs=[]/\sp=[])
 |some a=>λh=>a.off=0/\a.spot=none/\blk a.block e (xs.map f++sp) h
def SL (f:α->Value) (e:TypeId) (v:Value) (xs:List α):HProp:=λh=>∃ oa sp,v=.slice oa xs.length (xs.length+sp.length)/\slb f e oa xs sp h
theorem Holds.open {w:World}{L:List HProp}(H:Holds w L) (i:Nat){f:α->Value}{e:TypeId}{v:Value}{xs:List α}(hi:L[i]?=some (SL f e v xs)) :
  ∃ oa sp,v=.slice oa xs.length (xs.length+sp.length)/\Holds w (L.set i (slb f e oa xs sp)):=by
 obtain⟨g,⟨oa,sp,hv,hg⟩,hs,hL⟩:=H.front i hi;exact⟨oa,sp,hv,Sat.push i hi ⟨g,hg,hs,hL⟩⟩
theorem Holds.close {w:World}{L:List HProp}(H:Holds w L) (i:Nat){f:α->Value}{e:TypeId}{oa:Option Addr}{xs:List α}{sp:List Value}(hi:L[i]?=some (slb f e oa xs sp)) :
  Holds w (L.set i (SL f e (.slice oa xs.length (xs.length+sp.length)) xs)):=H.at i hi λg hg=>⟨oa,sp,rfl,hg⟩
theorem Zyf (f:α->Value) (e:TypeId) (h:Hp):SL f e (.slice none 0 0) [] h:=⟨none,[],rfl,rfl,rfl⟩
theorem Holds.nilSL {w:World}{L:List HProp}(H:Holds w L) (f:α->Value) (e:TypeId):Holds w (SL f e (.slice none 0 0) []::L):=
 ⟨λ_=>none,Zyf f e _,(λb o h=>by cases h),by
  have h0:(hp w).minus (λ_=>none)=hp w:=by funext b;simp[Hp.minus]
  rw[h0];exact H⟩
theorem Holds.slb {w:World}{L:List HProp}(H:Holds w L) (i:Nat){f:α->Value}{e:TypeId}{b:Nat}{xs:List α}{sp:List Value}(hi:L[i]?=some (slb f e (some ⟨b,0,none⟩) xs sp)) :
  Holds w (L.set i (blk b e (xs.map f++sp))):=H.at i hi λg hg=>hg.2.2
theorem Holds.slb' {w:World}{L:List HProp}(H:Holds w L) (i:Nat){f:α->Value}{e:TypeId}{b:Nat}{xs:List α}{sp:List Value}(hi:L[i]?=some (blk b e (xs.map f++sp))) :
  Holds w (L.set i (Vc.slb f e (some ⟨b,0,none⟩) xs sp)):=H.at i hi λg hg=>⟨rfl,rfl,hg⟩
theorem Za1 {L:List HProp}{i:Nat}{P Q:HProp}(hi:L[i]?=some P):(L.set i Q)[i]?=some Q:=by
 have:i < L.length:=(gH.1 hi).1;simp[this]
theorem Ycj (i:Nat){w:World}{L:List HProp}(H:Holds w L){f:α->Value}{e:TypeId}{oa:Option Addr}{xs:List α}{sp:List Value}{l c:Nat}{k:IntKind}{n:Int}{K:Value->Prop}
  (hi:L[i]?=some (Vc.slb f e oa xs sp)) (h0:0<=n) (h1:n < (l:Int)) (hl:l<=xs.length) (h:∀ b,oa=some ⟨b,0,none⟩->K (.pointer (some ⟨b,n.toNat,none⟩))):Ias 1 (.slice oa l c) (.int k n) K:=by
 cases oa with
 |none=>
  obtain⟨g,⟨h2,_⟩,_⟩:=H.front i hi;subst h2;simp at hl;omega
 |some a=>
  obtain⟨g,⟨h2,h3,_⟩,_⟩:=H.front i hi;obtain⟨b,o,s⟩:=a;simp only at h2 h3;subst h2;subst h3;refine r_ias h0 h1 ?_;simpa using h b rfl
theorem Zul (i:Nat){w:World}{L:List HProp}(H:Holds w L){f:α->Value}{e:TypeId}{oa:Option Addr}{xs:List α}{sp:List Value}{l c:Nat}{k:IntKind}{m:Nat}{K:Value->Prop}
  (hi:L[i]?=some (Vc.slb f e oa xs sp)) (h1:m < l) (hl:l<=xs.length) (h:∀ b,oa=some ⟨b,0,none⟩->K (.pointer (some ⟨b,m,none⟩))):Ias 1 (.slice oa l c) (.int k (m:Int)) K:=
 Ycj i H hi (by omega) (by omega) hl (by rw[gC];exact h)
theorem Zyn (i:Nat){w:World}{L:List HProp}(H:Holds w L){f:α->Value}{e:TypeId}{b o:Nat}{xs:List α}{sp:List Value}{x:α}{K:Value->Prop}
  (hi:L[i]?=some (Vc.slb f e (some ⟨b,0,none⟩) xs sp)) (hx:xs[o]?=some x) (h:K (f x)):Ld (.pointer (some ⟨b,o,none⟩)) w K:=by
 have hlt:o < xs.length:=(gH.1 hx).1;refine r_ld i (H.slb i hi) (Za1 hi) (v:=f x) ?_ h;rw[gM (by simpa using hlt),hV_,hx];rfl
theorem Ycz (i:Nat){w:World}{L:List HProp}(H:Holds w L){f:α->Value}{e:TypeId}{b o:Nat}{xs:List α}{sp:List Value}{v:Value}{K:World->Prop}(x:α)
  (hi:L[i]?=some (Vc.slb f e (some ⟨b,0,none⟩) xs sp)) (ho:o < xs.length) (hv:v=f x) (hs:sg v=true) (h:∀ w',Same w w'->Holds w' (L.set i (Vc.slb f e (some ⟨b,0,none⟩) (xs.set o x) sp))->K w') :
  St (.pointer (some ⟨b,o,none⟩)) v w K:=by
 subst hv;refine r_st i (H.slb i hi) (Za1 hi) (by simp;omega) hs λw' S H'=>h w' S ?_
 have h1:=H'.slb' (f:=f) (xs:=xs.set o x) (sp:=sp) i (b:=b) (e:=e) (by
  rw[set_set,List.set_append_left _ _ (by simpa using ho)]
  rw[Za1 hi,<-List.map_set])
 simpa [set_set] using h1
end
theorem Zp2 {size:Nat}{a:Option Addr}{n c i:Nat}{k:IntKind}{K:Value->Prop}(h1:i<=c) (h:K (.slice a i c)):Ssl size (.slice a n c) none (some (.int k (i:Int))) K:=by
 refine⟨a,n,c,0,i,rfl,rfl,⟨k,rfl⟩,Nat.zero_le _,h1,?_⟩
 have e:(if c=0 then a else a.map (·.add (0*size)))=a:=by
  split
  ·rfl
  ·cases a with
   |none=>rfl
   |some x=>simp[Addr.add]
 rw[e,Nat.sub_zero,Nat.sub_zero];exact h
theorem Zgn {xs ys:List UInt8}{K:Value->Prop}(hs:xs.length+ys.length<=9223372036854775807) (h:K (.string ⟨(xs++ys).toArray⟩)):Bp .add (.string ⟨xs.toArray⟩) (.string ⟨ys.toArray⟩) K:=
 r_cat (by simpa [ByteArray.size] using by omega) (by
  have e:(⟨xs.toArray⟩:ByteArray)++⟨ys.toArray⟩=⟨(xs++ys).toArray⟩:=by
   apply ByteArray.ext;rw[ByteArray.data_append];simp
  rw[e];exact h)
def setL (cs:List Value) (o:Nat):List Value->List Value
 |[]=>cs
 |v::r=>setL (cs.set o v) (o+1) r
theorem Zok:∀ (vs cs:List Value) (o:Nat),(setL cs o vs).length=cs.length
 |[],_,_=>rfl
 |v::r,cs,o=>by rw[setL,Zok r,hX_]
theorem Same.setCells:∀ (vs:List Value) (w:World) (a:Addr) (i:Nat),Same w (setCells w a vs i)
 |[],w,_,_=>.refl w
 |v::r,w,a,i=>(Same.setCell w _ v).trans (Same.setCells r _ a (i+1))
theorem Holds.setCells (i:Nat){b o:Nat}{t:TypeId}:∀ (vs:List Value){w:World}{L:List HProp}{cs:List Value}(k:Nat) (_:Holds w L) (_:L[i]?=some (blk b t cs)),
  Holds (Vc.setCells w ⟨b,o,none⟩ vs k) (L.set i (blk b t (setL cs (o+k) vs)))
 |[],w,L,cs,k,H,hi=>by
  rw[setL]
  have:L.set i (blk b t cs)=L:=by
   apply List.ext_getElem?;intro j;rw[getElem?_set];split
   ·rename_i e;subst e;rw[hi];split
    ·rfl
    ·rename_i h;rw[List.getElem?_eq_none (by omega)] at hi;cases hi
   ·rfl
  rw[this];exact H
 |v::r,w,L,cs,k,H,hi=>by
  rw[Vc.setCells,setL]
  have e1:(⟨b,o,none⟩:Addr).add k=⟨b,o+k,none⟩:=by
   unfold Addr.add;split
   ·rename_i h;rw[h];rfl
   ·rfl
  rw[e1];have H2:=H.set i hi (o+k) v;have:=Holds.setCells (o:=o) i r (k+1) H2 (Za1 hi);rw[set_set] at this;exact this
theorem r_stA (i:Nat){w:World}{L:List HProp}(H:Holds w L){n b o:Nat}{t:TypeId}{cs vs:List Value}{K:World->Prop}(hi:L[i]?=some (blk b t cs)) (ho:o+n<=cs.length) (hn:vs.length=n) (hs:vs.all sg=true)
  (h:∀ w',Same w w'->Holds w' (L.set i (blk b t (setL cs o vs)))->K w'):StA n (.pointer (some ⟨b,o,none⟩)) (.agg vs.toArray) w K:=by
 refine⟨_,vs.toArray,rfl,rfl,by simpa using hn,λj hj=>?_,by simpa using hs,?_⟩
 ·have e1:(⟨b,o,none⟩:Addr).add j=⟨b,o+j,none⟩:=by
   unfold Addr.add;split
   ·rename_i h;rw[h];rfl
   ·rfl
  rw[e1];refine⟨?_,H.frozen i hi (o+j)⟩;rw[H.cell i hi (o+j),gA (by omega)];rfl
 ·exact h _ (.setCells _ _ _ _) (Holds.setCells i vs 0 H hi)
theorem Zw3 {s:ByteArray}{m:Nat}:s.extract m s.size=⟨(s.data.toList.drop m).toArray⟩:=by
 apply ByteArray.ext;apply Array.ext';rw[ByteArray.data_extract,Array.toList_extract,List.extract_eq_take_drop];rw[gK (by simp)]
theorem Zxz {s:ByteArray}{m:Nat}:s.extract 0 m=⟨(s.data.toList.take m).toArray⟩:=by
 apply ByteArray.ext;apply Array.ext';rw[ByteArray.data_extract,Array.toList_extract,List.extract_eq_take_drop,Nat.sub_zero,drop_zero]
theorem Zym {s:ByteArray}{k:IntKind}{m:Nat}{K:Value->Prop}(h1:m<=s.size) (h:K (.string ⟨(s.data.toList.drop m).toArray⟩)):Sst (.string s) (some (.int k (m:Int))) none K:=
 r_sst ⟨k,rfl⟩ rfl h1 (Nat.le_refl _) (by rw[Zw3];exact h)
theorem Ycf {s:ByteArray}{k:IntKind}{m:Nat}{K:Value->Prop}(h1:m<=s.size) (h:K (.string ⟨(s.data.toList.take m).toArray⟩)):Sst (.string s) none (some (.int k (m:Int))) K:=
 r_sst rfl ⟨k,rfl⟩ (Nat.zero_le _) h1 (by rw[Zxz];exact h)
theorem Zzc {xs ys:List UInt8}:(⟨xs.toArray⟩:ByteArray)=⟨ys.toArray⟩↔xs=ys:=by
 constructor
 ·intro h;have:=congrArg (λb:ByteArray=>b.data.toList) h;simpa using this
 ·rintro rfl;rfl
theorem Zyk {xs ys:List UInt8}{K:Value->Prop}(h:K (.bool (decide (xs=ys)))):Bp .eql (.string ⟨xs.toArray⟩) (.string ⟨ys.toArray⟩) K:=
 r_seq (by rw[show decide ((⟨xs.toArray⟩:ByteArray)=⟨ys.toArray⟩)=decide (xs=ys) from by rw[Bool.eq_iff_iff,decide_eq_true_iff,decide_eq_true_iff,Zzc]];exact h)
theorem Ztf {size:Nat}{p:Addr}{l c:Nat}{k:IntKind}{n:Nat}{K:Value->Prop}(h:n < l) (hk:K (.pointer (some (p.add (n*size))))):Ias size (.slice (some p) l c) (.int k (n:Int)) K:=
 ⟨p,l,c,k,n,rfl,rfl,by omega,by omega,by rw[gC];exact hk⟩
theorem Zyp {n:Nat}{p:Addr}{w:World}{cs:Array Value}{K:Value->Prop}(hn:cs.size=n) (hc:∀ (j:Nat) v,cs[j]?=some v->w.cell? (p.add j)=some v) (hk:K (.agg cs)):LdA n (.pointer (some p)) w K:=
 ⟨p,cs,rfl,hn,hc,hk⟩
theorem r_ldP {p:Addr}{w:World}{v:Value}{K:Value->Prop}(hc:w.cell? p=some v) (hk:K v):Ld (.pointer (some p)) w K:=⟨p,v,rfl,hc,hk⟩
class Row (P:Program) (t:TypeId) (e:outParam TypeId) (z:outParam Value):Prop where
 und:P.underlying t=some (.slice e)
 inf:∃ i,P.info? e=some i/\i.size=1/\i.bytes<=32/\i.zero=some z
 one:z.cells=#[z]
section
variable {α:Type}{P:Program}{w:World}{L:List HProp}
theorem r_ms {t e:TypeId}{z:Value} [hr:Row P t e z] (H:Holds w L){f:α->Value}{x:α}(hz:z=f x){k k':IntKind}{n:Int}{K:KT}(h0:0<=n) (h1:n<=1099511627776)
  (h:∀ b w',Same w w'->Holds w' (slb f e (some ⟨b,0,none⟩) (List.replicate n.toNat x) []::L)->K (.slice (some ⟨b,0,none⟩) n.toNat n.toNat) w'):Ms P t (.int k n) (.int k' n) w K:=by
 obtain⟨i,hi,hsz,hby,hzz⟩:=hr.inf
 have hrun:=run_make (P:=P) w t e i z hr.und hi hzz k k' n n h0 (Int.le_refl _) (by
  have:(i.bytes:Int)*n<=32*n:=Int.mul_le_mul_of_nonneg_right (by omega) h0
  omega) (by omega)
 refine⟨_,_,hrun,h _ _ (.alloc _ _) ?_⟩
 have hc:madeCells z.cells (n.toNat*i.size)=((List.replicate n.toNat x).map f).toArray:=by
  rw[hsz,Nat.mul_one,hr.one];apply Array.ext
  ·simp[madeCells]
  ·intro j h1 h2;simp[madeCells,hz,Nat.mod_one]
 have:=H.alloc (.cells (madeCells z.cells (n.toNat*i.size)) e);rw[hc] at this ⊢;refine Holds.imp this λg hg=>⟨rfl,rfl,?_⟩;rw[gU];exact hg
theorem r_bs1 {t e:TypeId}{z:Value} [hr:Row P t e z] (H:Holds w L){v:Value}{K:KT}(hs:sg v=true)
  (h:∀ b w',Same w w'->Holds w' (blk b e [v]::L)->K (.slice (some ⟨b,0,none⟩) 1 1) w'):Bs P t 1 #[(0,v)] w K:=by
 obtain⟨i,hi,hsz,hby,hzz⟩:=hr.inf
 have hcells:v.cells=#[v]:=by cases v <;> first|rfl|simp[sg] at hs
 refine⟨.slice (some ⟨w.heap.size,0,none⟩) 1 1,w.alloc (.cells #[v] e),?_,h _ _ (.alloc _ _) (H.alloc _)⟩
 have hc:(Array.map (λx=>[z][x%1]?.getD default) (Array.range 1)).setIfInBounds 0 v=#[v]:=by
  apply Array.ext
  ·simp
  ·intro j h1 h2
   have:j=0:=by simpa using h2
   subst this;simp
 simp[Instr.buildSlice,run_underlying hr.und,sizeOf,typeInfo,hi,hsz,zeroValue,hzz,Instr.fill,hcells,newRow,newObj,hr.one];rw[hc];rfl
theorem Zib {v:Value}(h:sg v=true):v.oneCell'=true:=by
 cases v <;> first|rfl|simp[sg] at h
theorem r_ap {t e:TypeId}{z:Value} [hr:Row P t e z] (H:Holds w L) (i j:Nat){f:α->Value}{oa:Option Addr}{xs ys:List α}{sp:List Value}{l c m c' b2:Nat}{cs:List Value}{ty:TypeId}{K:KT}
  (hi:L[i]?=some (slb f e oa xs sp)) (hj:L[j]?=some (blk b2 e cs)) (hcs:cs.take m=ys.map f) (hm:m=ys.length) (hl:l=xs.length) (hc:c=xs.length+sp.length) (hs:∀ y,sg (f y)=true)
  (hn:xs.length+ys.length<=1099511627776) (hne:0 < ys.length)
  (h:∀ oa' sp' w',Same w w'->Holds w' (L.set i (slb f e oa' (xs++ys) sp'))->K (.slice oa' (xs.length+ys.length) (xs.length+ys.length+sp'.length)) w') :
  Ap P #[t,t] ty #[.slice oa l c,.slice (some ⟨b2,0,none⟩) m c'] w K:=by
 subst hl hc hm;obtain⟨inf,hinf,hsz,hby,hzz⟩:=hr.inf
 have hnews:∀ k u,(ys.map f)[k]?=some u->w.cell? ((⟨b2,0,none⟩:Addr).add k)=some u:=by
  intro k u hu
  have e1:(⟨b2,0,none⟩:Addr).add k=⟨b2,k,none⟩:=by
   unfold Addr.add;split
   ·rename_i h;rw[h]
   ·simp
  rw[e1,H.cell j hj k]
  have hk:k < ys.length:=by have:=(gH.1 hu).1;simpa using this
  rw[<-hu,<-hcs,hI_ hk]
 have hmul:(xs.length+ys.length)*inf.bytes<=140737488355328:=
  Nat.le_trans (Nat.mul_le_mul_left _ hby) (by omega)
 have grow:∀ (b:Addr) (olds:List Value),olds=xs.map f->(∀ k v,olds[k]?=some v->w.cell? (b.add k)=some v)->sp.length < ys.length->
   (∃ o,L[i]?=some o)->Ap P #[t,t] ty #[.slice (some b) xs.length (xs.length+sp.length),.slice (some ⟨b2,0,none⟩) ys.length c'] w K:=by
  intro b olds ho hold hg _;subst ho
  have hrun:=run_append_grow (P:=P) w t ty e inf z hr.und hinf hzz b xs.length (xs.length+sp.length) (xs.map f) (by simp[hsz]) hold
   ⟨b2,0,none⟩ ys.length c' (ys.map f) (by simp[hsz]) hnews (by omega) (by omega) (growslice_fits (by omega) hmul)
  refine⟨_,_,hrun,?_⟩;have hcap:=grownCap_ge w (xs.length+ys.length) (xs.length+sp.length) e;generalize grownCap w (xs.length+ys.length) (xs.length+sp.length) e=cap at hcap ⊢
  have hz2:Builtin.zeroCells z.cells (cap - (xs.length+ys.length))=(List.replicate (cap - (xs.length+ys.length)) z).toArray:=by
   rw[hr.one];apply Array.ext
   ·simp[Builtin.zeroCells]
   ·intro j h1 h2;simp[Builtin.zeroCells,Nat.mod_one]
  have hcells:((xs.map f).toArray++(ys.map f).toArray++Builtin.zeroCells z.cells (cap - (xs.length+ys.length)))=((xs++ys).map f++List.replicate (cap - (xs.length+ys.length)) z).toArray:=by
   rw[hz2];simp
  rw[hcells];have H1:Holds w.drew L:=H.same rfl;have H2:=H1.alloc (.cells ((xs++ys).map f++List.replicate (cap - (xs.length+ys.length)) z).toArray e)
  have H3:Holds (w.drew.alloc (.cells ((xs++ys).map f++List.replicate (cap - (xs.length+ys.length)) z).toArray e)) (L.set i (slb f e (some ⟨w.heap.size,0,none⟩) (xs++ys) (List.replicate (cap - (xs.length+ys.length)) z))):=by
   have H4:=(Holds.imp H2 (Q:=slb f e (some ⟨w.heap.size,0,none⟩) (xs++ys) (List.replicate (cap - (xs.length+ys.length)) z)) λg hg=>⟨rfl,rfl,hg⟩);have H5:=H4.dropAt (i+1);rw[List.eraseIdx_cons_succ] at H5;exact Sat.push i hi H5
  have:=h (some ⟨w.heap.size,0,none⟩) (List.replicate (cap - (xs.length+ys.length)) z) _ ((Same.drew w).trans (.alloc _ _)) H3
  have hc2:xs.length+ys.length+(List.replicate (cap - (xs.length+ys.length)) z).length=cap:=by simp;omega
  rw[hc2] at this;exact this
 cases oa with
 |none=>
  obtain⟨g,⟨h2,h3⟩,_⟩:=H.front i hi;subst h2;subst h3;simp only[length_nil,Nat.zero_add,hO_] at hn hmul h ⊢;have hrun:=run_append_nil (P:=P) w t ty e inf z hr.und hinf hzz ⟨b2,0,none⟩ ys.length c' (ys.map f) (by simp[hsz]) hnews (by omega) (by omega) (by omega);refine⟨_,_,hrun,?_⟩;have hcap:=grownCap_ge w ys.length 0 e;generalize grownCap w ys.length 0 e=cap at hcap ⊢
  have hz2:Builtin.zeroCells z.cells (cap - ys.length)=(List.replicate (cap - ys.length) z).toArray:=by
   rw[hr.one];apply Array.ext
   ·simp[Builtin.zeroCells]
   ·intro j h1 h2;simp[Builtin.zeroCells,Nat.mod_one]
  have hcells:((ys.map f).toArray++Builtin.zeroCells z.cells (cap - ys.length))=(ys.map f++List.replicate (cap - ys.length) z).toArray:=by
   rw[hz2];simp
  rw[hcells];have H2:=(H.same (w':=w.drew) rfl).alloc (.cells (ys.map f++List.replicate (cap - ys.length) z).toArray e);have H4:=(Holds.imp H2 (Q:=slb f e (some ⟨w.heap.size,0,none⟩) ys (List.replicate (cap - ys.length) z)) λg hg=>⟨rfl,rfl,hg⟩);have H5:=H4.dropAt (i+1);rw[List.eraseIdx_cons_succ] at H5;have:=h (some ⟨w.heap.size,0,none⟩) (List.replicate (cap - ys.length) z) _ ((Same.drew w).trans (.alloc _ _)) (Sat.push i hi H5)
  have hc2:ys.length+(List.replicate (cap - ys.length) z).length=cap:=by simp;omega
  rw[hc2] at this;exact this
 |some a=>
  obtain⟨g,⟨h2,h3,_⟩,_⟩:=H.front i hi;obtain⟨b,o,s⟩:=a;simp only at h2 h3;subst h2;subst h3;have Hb:=H.slb i hi;have hgi:(L.set i (blk b e (xs.map f++sp)))[i]?=some (blk b e (xs.map f++sp)):=Za1 hi
  have hold:∀ k v,(xs.map f)[k]?=some v->w.cell? ((⟨b,0,none⟩:Addr).add k)=some v:=by
   intro k v hv
   have e1:(⟨b,0,none⟩:Addr).add k=⟨b,k,none⟩:=by
    unfold Addr.add;split
    ·rename_i h;rw[h]
    ·simp
   rw[e1,Hb.cell i hgi k,gM (by simpa using (gH.1 hv).1)];exact hv
  rcases hU_ sp.length ys.length with hg|hg
  ·exact grow ⟨b,0,none⟩ _ rfl hold hg ⟨_,hi⟩
  ·have hobj:=Hb.obj i hgi
   have hrun:=run_append_room (P:=P) w t ty e inf hr.und hinf b xs.length (xs.length+sp.length) (xs.map f++sp).toArray hobj
    ⟨b2,0,none⟩ ys.length c' (ys.map f) (by simp[hsz]) hnews (by simpa using λy _=>Zib (hs y)) (by omega) (by simp[hsz];omega)
   refine⟨_,_,hrun,?_⟩
   have hcells:(((xs.map f++sp).toArray.toList.take (xs.length*inf.size)++ys.map f++(xs.map f++sp).toArray.toList.drop (xs.length*inf.size+(ys.map f).length)).toArray)=((xs++ys).map f++sp.drop ys.length).toArray:=by
    rw[hsz];simp[List.take_append,List.drop_append]
   rw[hcells]
   have H3:Holds (w.setRow b ((xs++ys).map f++sp.drop ys.length).toArray) (L.set i (slb f e (some ⟨b,0,none⟩) (xs++ys) (sp.drop ys.length))):=by
    have:=Hb.upd (w':=w.setRow b ((xs++ys).map f++sp.drop ys.length).toArray) i hgi (o':=.cells ((xs++ys).map f++sp.drop ys.length).toArray e) (setRow_heap w b _ _ e _ hobj) λc hc=>setRow_other w b c _ hc;have h4:=Holds.slb' (f:=f) (e:=e) (b:=b) (xs:=xs++ys) (sp:=sp.drop ys.length) this i (by rw[set_set];exact Za1 hi);simpa [set_set] using h4
   have hlen:xs.length+sp.length=xs.length+ys.length+(sp.drop ys.length).length:=by simp;omega
   rw[hlen];exact h _ _ _ ⟨rfl,rfl,rfl,by simp⟩ H3
theorem Zdc {t e:TypeId}{z:Value} [hr:Row P t e z] (H:Holds w L) (i:Nat){f:α->Value}{v:Value}{xs:List α}{ty:TypeId}{K:KT}
  (hi:L[i]?=some (SL f e v xs)) (x:α) (hs:∀ y,sg (f y)=true) (hn:xs.length+1<=1099511627776)
  (h:∀ v' w',Same w w'->Holds w' (L.set i (SL f e v' (xs++[x])))->K v' w'):Bs P t 1 #[(0,f x)] w λy w2=>Ap P #[t,t] ty #[v,y] w2 K:=by
 obtain⟨oa,sp,rfl,H1⟩:=H.open i hi;refine r_bs1 H1 (hs x) λb3 w3 S3 H3=>?_;refine r_ap (f:=f) (ys:=[x]) H3 (i+1) 0 (xs:=xs) (sp:=sp) (by rw[gF];exact Za1 hi) rfl rfl rfl rfl rfl hs (by rw[gQ];omega) (by simp) λoa' sp' w4 S4 H4=>?_;rw[gW,set_set] at H4;have H5:=H4.drop.close i (Za1 hi);rw[set_set] at H5
 have e:xs.length+[x].length=(xs++[x]).length:=by simp
 rw[e];exact h _ _ (S3.trans S4) H5
theorem Zpv (l:List UInt8):∀ (s:ByteArray),(l.map λc=>(c.toNat:Int)).foldl (λr n=>r.push (UInt8.ofNat n.toNat)) s=⟨(s.data.toList++l).toArray⟩:=by
 induction l with
 |nil=>intro s;simp
 |cons c l ih=>
  intro s;rw[hR_,List.foldl_cons,ih];simp[ByteArray.push]
class Bytes (P:Program) (t e d:TypeId):Prop where
 und:P.underlying t=some (.slice e)
 el:P.underlying e=some (.int .u8)
 str:P.underlying d=some .string
theorem r_cbs {t e d:TypeId} [hr:Bytes P t e d] (H:Holds w L) (i:Nat){oa:Option Addr}{xs:List UInt8}{sp:List Value}{l c:Nat}{K:KT}
  (hi:L[i]?=some (slb bv e oa xs sp)) (hl:l=xs.length) (h:K (.string ⟨xs.toArray⟩) w):Cw P t d (.slice oa l c) w K:=by
 subst hl
 cases oa with
 |none=>
  obtain⟨g,⟨h2,h3⟩,_⟩:=H.front i hi;subst h2;refine⟨.string ⟨[].toArray⟩,w,?_,h⟩;rw[run_convert_bytes_string (P:=P) w t d e none _ c hr.und hr.el hr.str];rfl
 |some a=>
  obtain⟨g,⟨h2,h3,_⟩,_⟩:=H.front i hi;obtain⟨b,o,s⟩:=a;simp only at h2 h3;subst h2;subst h3;have Hb:=H.slb i hi;refine⟨_,w,?_,h⟩;rw[run_convert_bytes_string (P:=P) w t d e _ _ c hr.und hr.el hr.str]
  have hload:(loadCells (⟨b,0,none⟩:Addr) xs.length).run P w=.ok ((xs.map λc=>(c.toNat:Int)).map (Value.int .u8)).toArray w:=by
   have hcells:((xs.map λc=>(c.toNat:Int)).map (Value.int .u8))=xs.map bv:=by rw[List.map_map];rfl
   rw[hcells]
   have:=Zbq (P:=P) (w:=w) (a:=⟨b,0,none⟩) (cs:=(xs.map bv).toArray) (λj v hv=>by
    have e1:(⟨b,0,none⟩:Addr).add j=⟨b,j,none⟩:=by
     unfold Addr.add;split
     ·rename_i h;rw[h]
     ·simp
    rw[e1,Hb.cell i (Za1 hi) j]
    have hv':(xs.map bv)[j]?=some v:=by simpa using hv
    rw[gM (gH.1 hv').1]
    exact hv')
   simpa using this
  rw[run_bytesToString (P:=P) w _ xs.length c _ hload,Zpv];simp
end
end Go.Vc
namespace Go.Vc
variable {P:Program}{w:World}{L:List HProp}
theorem r_bsK {t e:TypeId}{n:Nat}{ps:Array (Nat × Value)}{K:KT}(cells:List Value) (H:Holds w L)
  (h:(Instr.buildSlice t n ps).run P w=.ok (.slice (some ⟨w.heap.size,0,none⟩) n n) (w.alloc (.cells cells.toArray e)))
  (k:∀ b w',Same w w'->Holds w' (blk b e cells::L)->K (.slice (some ⟨b,0,none⟩) n n) w'):Bs P t n ps w K:=
 ⟨_,_,h,k _ _ (.alloc _ _) (H.alloc _)⟩
theorem Ztb (i:Nat){α:Type}{f:α->Value}{e:TypeId}{b:Nat}(xs:List α) (H:Holds w L) (hi:L[i]?=some (blk b e (xs.map f))):Holds w (L.set i (SL f e (.slice (some ⟨b,0,none⟩) xs.length xs.length) xs)):=
 H.at i hi λg hg=>⟨some ⟨b,0,none⟩,[],by simp,rfl,rfl,by simpa using hg⟩
theorem Zpk {size b l c:Nat}{k:IntKind}{n:Nat}{K:Value->Prop}(h:n < l) (hk:K (.pointer (some ⟨b,n*size,none⟩))):Ias size (.slice (some ⟨b,0,none⟩) l c) (.int k (n:Int)) K:=by
 refine Ztf h ?_
 have e1:(⟨b,0,none⟩:Addr).add (n*size)=⟨b,n*size,none⟩:=by
  unfold Addr.add;split
  ·rename_i h;rw[h]
  ·simp
 rw[e1];exact hk
theorem r_inv {m:Sem Next}{f:FuncId}{args:Array Value}{K:KT}(h:m.run P w=.ok (.enter f args) w) (k:Cl P f args w K):Inv P m w K:=⟨f,args,h,k.2⟩
theorem r_ta {x:Value}{xt at_:TypeId}{ok:Bool}{K:Value->Prop}(v:Value) (h:(Instr.typeAssert x xt at_ ok).run P w=.ok v w) (k:K v):Ta P x xt at_ ok w K:=⟨v,h,k⟩
theorem Ycd {b:Nat}{k:IntKind}{K:Value->Prop}(hb:b<=62) (h:K (.int .i64 ((2^b:Nat):Int))):Bp .shl (.int .i64 1) (.int k (b:Int)) K:=by
 refine⟨.int .i64 ((2^b:Nat):Int),?_,h⟩;have h1:(2^b:Nat)<=2^62:=Nat.pow_le_pow_right (by omega) hb;have h2:IntKind.i64.bits=64:=rfl;simp only[bp];rw[if_neg (by omega),gC,h2,Nat.min_eq_left (by omega),Int.one_mul]
 congr 2
 have h3:((2:Int)^b)=((2^b:Nat):Int):=by simp
 rw[h3];clear h;generalize (2^b:Nat)=x at h1 ⊢;exact wrap64 (by omega) (by omega)
theorem Zka {k':IntKind}{n:Int}{K:Value->Prop}(h1:0<=n) (h2:n < 18446744073709551616) (h:K (.int .u64 n)):Ci .u64 (.int k' n) K:=by
 have:Ci .u64 (.int k' n) K:=r_ci (by rw[show IntKind.u64.wrap n=n from by show n%18446744073709551616=n;omega];exact h);exact this
theorem wrapU32 {z:Int}(h1:0<=z) (h2:z < 4294967296):IntKind.u32.wrap z=z:=by show z%4294967296=z;omega
theorem wrapU8 {z:Int}(h1:0<=z) (h2:z < 256):IntKind.u8.wrap z=z:=by show z%256=z;omega
theorem Zfq {s n:Nat}{k k':IntKind}{K:Value->Prop}(hn:n<=k.bits) (h:K (.int k ((s/2^n:Nat):Int))):Bp .shr (.int k (s:Int)) (.int k' (n:Int)) K:=by
 refine⟨_,?_,h⟩;simp only[bp]
 rw[if_neg (by omega),gC,Nat.min_eq_left hn,Int.fdiv_eq_ediv_of_nonneg _ (by
  have:(0:Int)<=((2^n:Nat):Int):=Int.natCast_nonneg _
  simpa using this)]
 simp
theorem Zc8 {s n:Nat}{k':IntKind}{K:Value->Prop}(hn:n<=32) (h:K (.int .u32 ((s*2^n%4294967296:Nat):Int))):Bp .shl (.int .u32 (s:Int)) (.int k' (n:Int)) K:=by
 refine⟨_,?_,h⟩;have hb:IntKind.u32.bits=32:=rfl;simp only[bp];rw[if_neg (by omega),gC,hb,Nat.min_eq_left hn];show some (Value.int .u32 ((s:Int)*2^n%4294967296))=_;simp
theorem Zgg {s t:Nat}{K:Value->Prop}(hs:s < 4294967296) (ht:t < 4294967296) (h:K (.int .u32 ((s ^^^ t:Nat):Int))):Bp .xor (.int .u32 (s:Int)) (.int .u32 (t:Int)) K:=by
 refine⟨_,?_,h⟩;have hb:IntKind.u32.bits=32:=rfl;have hx:s ^^^ t < 2^32:=Nat.xor_lt_two_pow (by simpa using hs) (by simpa using ht);simp only[bp,if_true];rw[hb,BitVec.toNat_xor,BitVec.toNat_ofInt,BitVec.toNat_ofInt]
 have e1:((s:Int)%((2^32:Nat):Int)).toNat=s:=by omega
 have e2:((t:Int)%((2^32:Nat):Int)).toNat=t:=by omega
 rw[e1,e2,wrapU32 (by omega) (by omega)]
theorem Zxi {s t:Nat}{K:Value->Prop}(h1:s*t < 4294967296) (h:K (.int .u32 ((s*t:Nat):Int))):Bp .mul (.int .u32 (s:Int)) (.int .u32 (t:Int)) K:=by
 refine⟨_,?_,h⟩;simp only[bp,if_true];rw[<-Int.natCast_mul,wrapU32 (by omega) (by omega)]
def filled {α:Type}(xs:List α) (z:α) (n i:Nat):List α:=xs.take i++List.replicate (n - i) z
theorem Zb3 {α:Type}{xs:List α}{z:α}{n i:Nat}(hi:i<=n) (hn:xs.length=n):(filled xs z n i).length=n:=by simp[filled,hn];omega
theorem Zed {α:Type}(xs:List α) (z:α) (n:Nat):filled xs z n 0=List.replicate n z:=by simp[filled]
theorem Zcp {α:Type}{xs:List α}{z:α}{n:Nat}(hn:xs.length=n):filled xs z n n=xs:=by simp[filled,<-hn]
theorem Zb6 {α:Type}{xs:List α}{z x:α}{n i:Nat}(hi:i < n) (hn:xs.length=n) (hx:xs[i]?=some x):(filled xs z n i).set i x=filled xs z n (i+1):=by
 unfold filled
 have hl:(xs.take i).length=i:=by simp;omega
 rw[List.set_append_right _ _ (by omega),hl,Nat.sub_self,gO,hx,show n - i=(n - (i+1))+1 by omega,List.replicate_succ,gJ,gI];rfl
theorem Ybk {s t:Nat}{K:Value->Prop}(hs:s < 256) (ht:t < 256) (h:K (.int .u8 ((s ||| t:Nat):Int))):Bp .or (.int .u8 (s:Int)) (.int .u8 (t:Int)) K:=by
 refine⟨_,?_,h⟩;have hb:IntKind.u8.bits=8:=rfl;have hx:s ||| t < 2^8:=Nat.or_lt_two_pow (by simpa using hs) (by simpa using ht);simp only[bp,if_true];rw[hb,BitVec.toNat_or,BitVec.toNat_ofInt,BitVec.toNat_ofInt]
 have e1:((s:Int)%((2^8:Nat):Int)).toNat=s:=by omega
 have e2:((t:Int)%((2^8:Nat):Int)).toNat=t:=by omega
 rw[e1,e2,wrapU8 (by omega) (by omega)]
theorem Zx8 {s t:Nat}{K:Value->Prop}(hs:s < 4294967296) (ht:t < 4294967296) (h:K (.int .u32 ((s &&& t:Nat):Int))):Bp .and (.int .u32 (s:Int)) (.int .u32 (t:Int)) K:=by
 refine⟨_,?_,h⟩;have hb:IntKind.u32.bits=32:=rfl;have hx:s &&& t<=s:=Nat.and_le_left;simp only[bp,if_true];rw[hb,BitVec.toNat_and,BitVec.toNat_ofInt,BitVec.toNat_ofInt]
 have e1:((s:Int)%((2^32:Nat):Int)).toNat=s:=by omega
 have e2:((t:Int)%((2^32:Nat):Int)).toNat=t:=by omega
 rw[e1,e2,wrapU32 (by omega) (by omega)]
theorem Ya6 {s n:Nat}{k':IntKind}{K:Value->Prop}(hn:n<=8) (h:K (.int .u8 ((s*2^n%256:Nat):Int))):Bp .shl (.int .u8 (s:Int)) (.int k' (n:Int)) K:=by
 refine⟨_,?_,h⟩;have hb:IntKind.u8.bits=8:=rfl;simp only[bp];rw[if_neg (by omega),gC,hb,Nat.min_eq_left hn];show some (Value.int .u8 ((s:Int)*2^n%256))=_;simp
theorem Zdi {a b:Int}(c:Int){K:Value->Prop}(hc:a*b=c) (h1:-9223372036854775808<=c) (h2:c<=9223372036854775807) (h:K (.int .i64 c)):Bp .mul (.int .i64 a) (.int .i64 b) K:=by
 subst hc;exact r_mul h1 h2 h
end Go.Vc
namespace Go.Vc
class RowN (P:Program) (t:TypeId) (e:outParam TypeId) (k:outParam Nat):Prop where
 und:P.underlying t=some (.slice e)
 inf:∃ i z,P.info? e=some i/\i.size=k/\i.bytes<=256/\i.zero=some z/\z.cells.size=k
variable {α:Type}{P:Program}{w:World}{L:List HProp}
def flatL (F:α->List Value):List α->List Value
 |[]=>[]
 |x::r=>F x++flatL F r
theorem Zcf (F:α->List Value) (a b:List α):flatL F (a++b)=flatL F a++flatL F b:=by
 induction a with
 |nil=>rfl
 |cons x r ih=>simp[flatL,ih]
theorem Zck {F:α->List Value}{k:Nat}(hF:∀ x,(F x).length=k) (xs:List α):(flatL F xs).length=xs.length*k:=by
 induction xs with
 |nil=>simp[flatL]
 |cons x r ih=>simp[flatL,ih,hF,Nat.add_mul];omega
theorem Zcj {F:α->List Value}{k:Nat}(hF:∀ x,(F x).length=k):∀ (xs:List α) (i:Nat) (x:α),xs[i]?=some x->((flatL F xs).drop (i*k)).take k=F x
 |y::r,0,x,h=>by
  simp at h;subst h;have:=hF y;simp[flatL,List.take_append,this]
 |y::r,i+1,x,h=>by
  have h1:=Zcj hF r i x (by simpa using h);have:=hF y;rw[flatL,List.drop_append,this,drop_of_length_le (by rw[this,Nat.add_mul];omega),hO_,show (i+1)*k - k=i*k by rw[Nat.add_mul];omega];exact h1
def rwb (F:α->List Value) (k:Nat) (e:TypeId) (oa:Option Addr) (xs:List α) (m:Nat) (sp:List Value):HProp:=
 match oa with
 |none=>pur (xs=[]/\m=0)
 |some a=>λh=>a.off=0/\a.spot=none/\sp.length=m*k/\blk a.block e (flatL F xs++sp) h
def RW (F:α->List Value) (k:Nat) (e:TypeId) (v:Value) (xs:List α):HProp:=λh=>∃ oa m sp,v=.slice oa xs.length (xs.length+m)/\rwb F k e oa xs m sp h
theorem Holds.openRW (H:Holds w L) (i:Nat){F:α->List Value}{k:Nat}{e:TypeId}{v:Value}{xs:List α}(hi:L[i]?=some (RW F k e v xs)) :
  ∃ oa m sp,v=.slice oa xs.length (xs.length+m)/\Holds w (L.set i (rwb F k e oa xs m sp)):=by
 obtain⟨g,⟨oa,m,sp,hv,hg⟩,hs,hL⟩:=H.front i hi;exact⟨oa,m,sp,hv,Sat.push i hi ⟨g,hg,hs,hL⟩⟩
theorem Holds.nilRW (H:Holds w L) (F:α->List Value) (k:Nat) (e:TypeId):Holds w (RW F k e (.slice none 0 0) []::L):=
 ⟨λ_=>none,⟨none,0,[],rfl,rfl,rfl⟩,(λb o h=>by cases h),by
  have h0:(hp w).minus (λ_=>none)=hp w:=by funext b;simp[Hp.minus]
  rw[h0];exact H⟩
theorem Zt8 (i:Nat){F:α->List Value}{k:Nat}{e:TypeId}{b:Nat}(xs:List α) (H:Holds w L) (hi:L[i]?=some (blk b e (flatL F xs))):Holds w (L.set i (RW F k e (.slice (some ⟨b,0,none⟩) xs.length xs.length) xs)):=
 H.at i hi λg hg=>⟨some ⟨b,0,none⟩,0,[],by simp,rfl,rfl,by simp,by simpa using hg⟩
theorem Holds.rwb (H:Holds w L) (i:Nat){F:α->List Value}{k:Nat}{e:TypeId}{oa:Option Addr}{xs:List α}{m:Nat}{sp:List Value}(hi:L[i]?=some (rwb F k e oa xs m sp)) (hx:0 < xs.length\/0 < m) :
  ∃ b,oa=some ⟨b,0,none⟩/\sp.length=m*k/\Holds w (L.set i (blk b e (flatL F xs++sp))):=by
 cases oa with
 |none=>
  obtain⟨g,⟨h1,h2⟩,_⟩:=H.front i hi;subst h1;subst h2;simp at hx
 |some a=>
  obtain⟨g,⟨h1,h2,h3,h4⟩,hs,hL⟩:=H.front i hi;obtain⟨b,o,s⟩:=a;simp only at h1 h2;subst h1;subst h2;exact⟨b,rfl,h3,Sat.push i hi ⟨g,h4,hs,hL⟩⟩
theorem Zbs (z:Array Value) (n:Nat):(Builtin.zeroCells z n).toList.length=n*z.size:=by simp[Builtin.zeroCells]
theorem r_apN {t e:TypeId}{k:Nat} [hr:RowN P t e k] (H:Holds w L) (i j:Nat){F:α->List Value}{v:Value}{xs ys:List α}{m' c' b2:Nat}{cs:List Value}{ty:TypeId}{K:KT}
  (hi:L[i]?=some (RW F k e v xs)) (hj:L[j]?=some (blk b2 e cs)) (hij:j≠i) (hcs:cs.take (ys.length*k)=flatL F ys) (hm:m'=ys.length) (hF:∀ y,(F y).length=k) (hs:∀ y,∀ u∈F y,sg u=true)
  (hn:xs.length+ys.length<=68719476736) (hne:0 < ys.length) (hk:0 < k)
  (h:∀ v' w',Same w w'->Holds w' (L.set i (RW F k e v' (xs++ys)))->K v' w') :
  Ap P #[t,t] ty #[v,.slice (some ⟨b2,0,none⟩) m' c'] w K:=by
 obtain⟨oa,m,sp,rfl,H⟩:=H.openRW i hi;have hi1:(L.set i (Vc.rwb F k e oa xs m sp))[i]?=some (Vc.rwb F k e oa xs m sp):=Za1 hi
 have hj1:(L.set i (Vc.rwb F k e oa xs m sp))[j]?=some (blk b2 e cs):=by rw[hY_ (λe=>hij e.symm)];exact hj
 subst hm;obtain⟨inf,z,hinf,hsz,hby,hzz,hzk⟩:=hr.inf;have hlen:=Zck (k:=k) hF
 have hsg:∀ u∈flatL F ys,u.oneCell'=true:=by
  intro u hu;clear hcs hne hn h
  induction ys with
  |nil=>simp[flatL] at hu
  |cons y r ih=>
   rw[flatL,hT_] at hu;rcases hu with hu|hu
   ·exact Zib (hs y u hu)
   ·exact ih hu
 have hnews:∀ q u,(flatL F ys)[q]?=some u->w.cell? ((⟨b2,0,none⟩:Addr).add q)=some u:=by
  intro q u hu
  have e1:(⟨b2,0,none⟩:Addr).add q=⟨b2,q,none⟩:=by
   unfold Addr.add;split
   ·rename_i h;rw[h]
   ·simp
  rw[e1,H.cell j hj1 q]
  have hq:q < ys.length*k:=by have:=(gH.1 hu).1;rw[hlen] at this;exact this
  rw[<-hu,<-hcs,hI_ hq]
 have hmul:(xs.length+ys.length)*inf.bytes<=140737488355328:=
  Nat.le_trans (Nat.mul_le_mul_left _ hby) (by omega)
 have fin:∀ (b' cap:Nat) (w':World) (sp':List Value) (L':List HProp),xs.length+ys.length<=cap->sp'.length=(cap - (xs.length+ys.length))*k->Same w w'->
   Holds w' (blk b' e (flatL F (xs++ys)++sp')::L.eraseIdx i)->K (.slice (some ⟨b',0,none⟩) (xs.length+ys.length) cap) w':=by
  intro b' cap w' sp' L' hc hsp S' H'
  have H4:=Holds.imp H' (Q:=RW F k e (.slice (some ⟨b',0,none⟩) (xs.length+ys.length) cap) (xs++ys)) λg hg=>⟨some ⟨b',0,none⟩,cap - (xs.length+ys.length),sp',by
   rw[gD];congr 1;omega,rfl,rfl,hsp,hg⟩
  exact h _ _ S' (Sat.push i hi H4)
 cases oa with
 |none=>
  obtain⟨g,⟨h2,h3⟩,_⟩:=H.front i hi1;subst h2;subst h3;simp only[length_nil,Nat.zero_add,hO_] at hn hmul fin ⊢;have hrun:=run_append_nil (P:=P) w t ty e inf z hr.und hinf hzz ⟨b2,0,none⟩ ys.length c' (flatL F ys) (by rw[hlen,hsz]) hnews (by omega) (by omega) (by omega);refine⟨_,_,hrun,?_⟩;have hcap:=grownCap_ge w ys.length 0 e;generalize grownCap w ys.length 0 e=cap at hcap ⊢;have H2:=(H.same (w':=w.drew) rfl).alloc (.cells ((flatL F ys).toArray++Builtin.zeroCells z.cells (cap - ys.length)) e);have H5:=H2.dropAt (i+1);rw[List.eraseIdx_cons_succ,List.eraseIdx_set_eq] at H5;refine fin _ cap _ (Builtin.zeroCells z.cells (cap - ys.length)).toList L (by omega) (by rw[Zbs,hzk]) ((Same.drew w).trans (.alloc _ _)) ?_
  have hc:((flatL F ys).toArray++Builtin.zeroCells z.cells (cap - ys.length))=(flatL F ys++(Builtin.zeroCells z.cells (cap - ys.length)).toList).toArray:=by simp
  rw[hc] at H5 ⊢;exact H5
 |some a=>
  have h4:=H.rwb i hi1;obtain⟨g,⟨h2,h3,hspl,_⟩,_⟩:=H.front i hi1;obtain⟨b,o,s⟩:=a;simp only at h2 h3;subst h2;subst h3
  have Hb:Holds w (L.set i (blk b e (flatL F xs++sp))):=by
   have:=H.at i hi1 (Q:=blk b e (flatL F xs++sp)) λg hg=>hg.2.2.2;rw[set_set] at this;exact this
  have hgi:(L.set i (blk b e (flatL F xs++sp)))[i]?=some (blk b e (flatL F xs++sp)):=Za1 hi
  have hold:∀ q u,(flatL F xs)[q]?=some u->w.cell? ((⟨b,0,none⟩:Addr).add q)=some u:=by
   intro q u hu
   have e1:(⟨b,0,none⟩:Addr).add q=⟨b,q,none⟩:=by
    unfold Addr.add;split
    ·rename_i h;rw[h]
    ·simp
   rw[e1,Hb.cell i hgi q,gM (gH.1 hu).1];exact hu
  rcases hU_ m ys.length with hg|hg
  ·have hrun:=run_append_grow (P:=P) w t ty e inf z hr.und hinf hzz ⟨b,0,none⟩ xs.length (xs.length+m) (flatL F xs) (by rw[hlen,hsz]) hold
    ⟨b2,0,none⟩ ys.length c' (flatL F ys) (by rw[hlen,hsz]) hnews (by omega) (by omega) (growslice_fits (by omega) hmul)
   refine⟨_,_,hrun,?_⟩;have hcap:=grownCap_ge w (xs.length+ys.length) (xs.length+m) e;generalize grownCap w (xs.length+ys.length) (xs.length+m) e=cap at hcap ⊢;have H2:=(Hb.same (w':=w.drew) rfl).alloc (.cells ((flatL F xs).toArray++(flatL F ys).toArray++Builtin.zeroCells z.cells (cap - (xs.length+ys.length))) e);have H5:=H2.dropAt (i+1);rw[List.eraseIdx_cons_succ,List.eraseIdx_set_eq] at H5;refine fin _ cap _ (Builtin.zeroCells z.cells (cap - (xs.length+ys.length))).toList L (by omega) (by rw[Zbs,hzk]) ((Same.drew w).trans (.alloc _ _)) ?_
   have hc:((flatL F xs).toArray++(flatL F ys).toArray++Builtin.zeroCells z.cells (cap - (xs.length+ys.length)))=(flatL F (xs++ys)++(Builtin.zeroCells z.cells (cap - (xs.length+ys.length))).toList).toArray:=by
    rw[Zcf];simp
   rw[hc] at H5 ⊢;exact H5
  ·have hobj:=Hb.obj i hgi;have hroom:(xs.length+ys.length)*k<=(xs.length+m)*k:=Nat.mul_le_mul_right _ (by omega)
   have hrun:=run_append_room (P:=P) w t ty e inf hr.und hinf b xs.length (xs.length+m) (flatL F xs++sp).toArray hobj
    ⟨b2,0,none⟩ ys.length c' (flatL F ys) (by rw[hlen,hsz]) hnews hsg (by omega) (by
     rw[hsz,List.size_toArray,gD,hspl];have e1:=hlen xs;have e2:=hlen ys;rw[Nat.add_mul,Nat.add_mul] at hroom
     omega)
   refine⟨_,_,hrun,?_⟩
   have hcells:(((flatL F xs++sp).toArray.toList.take (xs.length*inf.size)++flatL F ys++(flatL F xs++sp).toArray.toList.drop (xs.length*inf.size+(flatL F ys).length)).toArray)=(flatL F (xs++ys)++sp.drop (ys.length*k)).toArray:=by
    rw[hsz,Zcf];simp[List.take_append,List.drop_append,hlen]
   rw[hcells]
   have H3:Holds (w.setRow b (flatL F (xs++ys)++sp.drop (ys.length*k)).toArray) (L.set i (blk b e (flatL F (xs++ys)++sp.drop (ys.length*k)))):=by
    have:=Hb.upd (w':=w.setRow b (flatL F (xs++ys)++sp.drop (ys.length*k)).toArray) i hgi (o':=.cells (flatL F (xs++ys)++sp.drop (ys.length*k)).toArray e) (setRow_heap w b _ _ e _ hobj) λc hc=>setRow_other w b c _ hc;rw[set_set] at this;exact this
   have H6:=H3.front i (Za1 hi);rw[List.eraseIdx_set_eq] at H6;refine fin b (xs.length+m) _ (sp.drop (ys.length*k)) L (by omega) ?_ ⟨rfl,rfl,rfl,by simp⟩ H6;rw[gS,hspl,show xs.length+m - (xs.length+ys.length)=m - ys.length by omega,Nat.sub_mul]
theorem Zzb {t e:TypeId}{k:Nat} [hr:RowN P t e k] (H:Holds w L) (i:Nat){F:α->List Value}{v:Value}{xs:List α}{ps:Array (Nat × Value)}{ty:TypeId}{K:KT}(x:α)
  (hi:L[i]?=some (RW F k e v xs)) (hb:(Instr.buildSlice t 1 ps).run P w=.ok (.slice (some ⟨w.heap.size,0,none⟩) 1 1) (w.alloc (.cells (F x).toArray e)))
  (hF:∀ y,(F y).length=k) (hs:∀ y,∀ u∈F y,sg u=true)
  (hn:xs.length+1<=68719476736) (hk:0 < k)
  (h:∀ v' w',Same w w'->Holds w' (L.set i (RW F k e v' (xs++[x])))->K v' w'):Bs P t 1 ps w λy w2=>Ap P #[t,t] ty #[v,y] w2 K:=by
 refine r_bsK (F x) H hb λb3 w3 S3 H3=>?_;refine r_apN (F:=F) (ys:=[x]) H3 (i+1) 0 (by rw[gF];exact hi) rfl (by omega) (by simp[flatL,gK,hF]) rfl hF hs (by simpa using hn) (by simp) hk λv' w4 S4 H4=>?_;rw[gW] at H4;exact h _ _ (S3.trans S4) H4.drop
theorem r_ldN (i:Nat) (H:Holds w L){F:α->List Value}{k:Nat}{e:TypeId}{oa:Option Addr}{xs:List α}{m:Nat}{sp:List Value}{l c q:Nat}{kk:IntKind}{x:α}{K:Value->Prop}
  (hi:L[i]?=some (rwb F k e oa xs m sp)) (hx:xs[q]?=some x) (hF:∀ y,(F y).length=k) (hl:q < l) (h:K (.agg (F x).toArray)) :
  Ias k (.slice oa l c) (.int kk (q:Int)) λy=>LdA k y w K:=by
 have hlt:q < xs.length:=(gH.1 hx).1;obtain⟨b,rfl,hsp,Hb⟩:=H.rwb i hi (.inl (by omega));refine Zpk hl ?_;refine r_ldA i Hb (F x) (Za1 hi) ?_ (hF x) h;have h1:=Zcj hF xs q x hx
 have hq:q*k+k<=xs.length*k:=by
  have:(q+1)*k<=xs.length*k:=Nat.mul_le_mul_right _ (by omega);rw[Nat.add_mul,Nat.one_mul] at this;exact this
 have hlen:=Zck (k:=k) hF xs;rw[drop_append_of_le_length (by omega),List.take_append_of_le_length (by rw[gS];omega)];exact h1
theorem r_bpK {op:BinOp}{x y:Value}{K:Value->Prop}(v:Value) (h:bp op x y=some v) (k:K v):Bp op x y K:=⟨v,h,k⟩
theorem Zit {l:List String}(h:l≠[]):∃ m,Instr.least l=some m:=by
 cases l with
 |nil=>exact absurd rfl h
 |cons s r=>exact⟨_,rfl⟩
theorem Zl7 {want:Array (String × TypeId)}{got:Array Method}(h:(want.toList.filter λx=>!got.any λm=>m.name==x.1&&m.sig==x.2)≠[]):∃ m,Instr.missingMethod want got=some m:=by
 have h2:((want.toList.filter λx=>!got.any λm=>m.name==x.1&&m.sig==x.2).map (·.1))≠[]:=by simpa using h
 unfold Instr.missingMethod;simp only;generalize ((want.toList.filter λx=>!got.any λm=>m.name==x.1&&m.sig==x.2).map (·.1))=l at *;rw[List.partition_eq_filter_filter];simp only
 by_cases h3:l.filter (λa=>decide (¬ (a.contains (Char.ofNat 46))=true))=[]
 ·have h5:l.filter (λa=>a.contains (Char.ofNat 46))≠[]:=by
   intro h4;apply h2;refine List.eq_nil_iff_forall_not_mem.2 λx hx=>?_
   by_cases hc:(x.contains (Char.ofNat 46))=true
   ·have:x∈l.filter (λa=>a.contains (Char.ofNat 46)):=mem_filter.2 ⟨hx,hc⟩;rw[h4] at this;cases this
   ·have:x∈l.filter (λa=>decide (¬ (a.contains (Char.ofNat 46))=true)):=mem_filter.2 ⟨hx,by simpa using hc⟩;rw[h3] at this;cases this
  obtain ⟨m, hm⟩ := Zit (l := (l.filter (fun a => a.contains (Char.ofNat 46))).map fun id => (id.splitOn ".").getLastD id) (by simpa using h5)
  cases hx:Instr.least (l.filter (not ∘ λa=>a.contains (Char.ofNat 46))) with
  |some y=>exact⟨y,by simp⟩
  |none=>exact⟨m,by simpa using hm⟩
 ·have h6:l.filter (not ∘ λa=>a.contains (Char.ofNat 46))≠[]:=by
   intro h4;apply h3;rw[<-h4]
   congr 1
   funext a
   simp
  obtain⟨m,hm⟩:=Zit h6;exact⟨m,by rw[hm];rfl⟩
theorem Zz5 {P:Program}{t at_ xt:TypeId}{v z:Value}{want:Array (String × TypeId)}{i:TypeInfo}{K:Value->Prop}(hu:P.underlying at_=some (.interface want)) (hi:P.info? t=some i)
  (hm:(want.toList.filter λx=>!i.methods.any λm=>m.name==x.1&&m.sig==x.2)≠[]) (hz:∀ w,(zeroValue at_).run P w=.ok z w) (k:K (.tuple #[z,.bool false])):Ta P (.iface t v) xt at_ true w K:=by
 obtain⟨m,hm⟩:=Zl7 hm;refine⟨_,?_,k⟩;simp[Instr.typeAssert,run_underlying hu,typeInfo,hi,hm,hz]
end Go.Vc
namespace Go.Vc
variable {P:Program}{w:World}{L:List HProp}
theorem Znt {s t:Nat}{K:Value->Prop}(hs:s < 4294967296) (ht:t < 4294967296) (h:K (.int .u32 ((s ||| t:Nat):Int))):Bp .or (.int .u32 (s:Int)) (.int .u32 (t:Int)) K:=by
 refine⟨_,?_,h⟩;have hb:IntKind.u32.bits=32:=rfl;have hx:s ||| t < 2^32:=Nat.or_lt_two_pow (by simpa using hs) (by simpa using ht);simp only[bp,if_true];rw[hb,BitVec.toNat_or,BitVec.toNat_ofInt,BitVec.toNat_ofInt]
 have e1:((s:Int)%((2^32:Nat):Int)).toNat=s:=by omega
 have e2:((t:Int)%((2^32:Nat):Int)).toNat=t:=by omega
 rw[e1,e2,wrapU32 (by omega) (by omega)]
theorem Zzx {s t:Nat}{K:Value->Prop}(hs:s < 256) (ht:t < 256) (h:K (.int .u8 ((s &&& t:Nat):Int))):Bp .and (.int .u8 (s:Int)) (.int .u8 (t:Int)) K:=by
 refine⟨_,?_,h⟩;have hb:IntKind.u8.bits=8:=rfl;have hx:s &&& t<=s:=Nat.and_le_left;simp only[bp,if_true];rw[hb,BitVec.toNat_and,BitVec.toNat_ofInt,BitVec.toNat_ofInt]
 have e1:((s:Int)%((2^8:Nat):Int)).toNat=s:=by omega
 have e2:((t:Int)%((2^8:Nat):Int)).toNat=t:=by omega
 rw[e1,e2,wrapU8 (by omega) (by omega)]
theorem Zoo {s t:Nat}{K:Value->Prop}(h0:t<=s) (h1:s < 4294967296) (h:K (.int .u32 ((s - t:Nat):Int))):Bp .sub (.int .u32 (s:Int)) (.int .u32 (t:Int)) K:=by
 refine⟨_,?_,h⟩;simp only[bp,if_true];rw[show (s:Int) - (t:Int)=((s - t:Nat):Int) by omega,wrapU32 (by omega) (by omega)]
theorem Yaz {s t:Nat}{K:Value->Prop}(h0:t<=s) (h1:s < 256) (h:K (.int .u8 ((s - t:Nat):Int))):Bp .sub (.int .u8 (s:Int)) (.int .u8 (t:Int)) K:=by
 refine⟨_,?_,h⟩;simp only[bp,if_true];rw[show (s:Int) - (t:Int)=((s - t:Nat):Int) by omega,wrapU8 (by omega) (by omega)]
theorem Zcb {P:HProp}{L L':List HProp}{h:Hp}(hL:∀ h,Sat L h->Sat L' h) (H:Sat (P::L) h):Sat (P::L') h:=by
 obtain⟨g,hg,hs,hr⟩:=H;exact⟨g,hg,hs,hL _ hr⟩
def live:List (Option HProp)->List HProp
 |[]=>[]
 |none::M=>live M
 |some P::M=>P::live M
def dead:List (Option HProp)->Nat->List (Option HProp)
 |[],_=>[]
 |_::M,0=>none::M
 |x::M,i+1=>x::dead M i
def sel:List Nat->List (Option HProp)->Option (List HProp)
 |[],_=>some []
 |i::is,M=>match M[i]? with
  |some (some P)=>(match sel is (dead M i) with
   |some R=>some (P::R)
   |none=>none)
  |_=>none
theorem Zgi:∀ (M:List (Option HProp)) (i:Nat){P:HProp}{L:List HProp}{h:Hp},M[i]?=some (some P)->Sat (live M++L) h->Sat (P::(live (dead M i)++L)) h
 |[],i,P,L,h,hi,H=>by simp at hi
 |none::M,0,P,L,h,hi,H=>by simp at hi
 |some Q::M,0,P,L,h,hi,H=>by
  simp at hi;subst hi;exact H
 |none::M,i+1,P,L,h,hi,H=>Zgi M i (by simpa using hi) H
 |some Q::M,i+1,P,L,h,hi,H=>Sat.swap (Zcb (λh' H'=>Zgi M i (by simpa using hi) H') H)
theorem Zgy:∀ (M:List (Option HProp)){L:List HProp}{h:Hp},Sat (live M++L) h->Sat L h
 |[],_,_,H=>H
 |none::M,_,_,H=>Zgy M H
 |some Q::M,L,h,H=>Zgy M (by
  obtain⟨g,_,_,hL⟩:=H
  exact hL.mono λb o hb=>by
   unfold Hp.minus at hb;split at hb
   ·cases hb
   ·exact hb)
theorem Zty:∀ (is:List Nat){M:List (Option HProp)}{R L:List HProp}{h:Hp},sel is M=some R->Sat (live M++L) h->Sat (R++L) h
 |[],M,R,L,h,hR,H=>by
  cases hR;exact Zgy M H
 |i::is,M,R,L,h,hR,H=>by
  unfold sel at hR;split at hR
  ·rename_i P hP;split at hR
   ·rename_i R' hR';cases hR;exact Zcb (λh' H'=>Zty is hR' H') (Zgi M i hP H)
   ·cases hR
  ·cases hR
theorem Zlo:∀ (F:List HProp),live (F.map some)=F
 |[]=>rfl
 |P::F=>by rw[hR_,live,Zlo F]
theorem Holds.ord (n:Nat) (is:List Nat) (H:Holds w L){R:List HProp}(hR:sel is ((L.take n).map some)=some R):Holds w (R++L.drop n):=by
 refine Zty is hR ?_;rw[Zlo,hN_];exact H
theorem Zwt {i j:Nat}{X Y Q:HProp}(hij:i≠j) (hj:L[j]?=some Q):((L.set j X).set i Y).set j Q=L.set i Y:=by
 have e:L.set j Q=L:=by
  have hl:j < L.length:=(gH.1 hj).1;have h2:L[j]=Q:=(gH.1 hj).2;rw[<-h2,List.set_getElem_self]
 have e1:(L.set j X).set i Y=(L.set i Y).set j X:=List.set_comm _ _ (Ne.symm hij);have e2:(L.set i Y).set j Q=(L.set j Q).set i Y:=List.set_comm _ _ hij;rw[e1,set_set,e2,e]
theorem r_apS {α:Type}{t e:TypeId}{z:Value} [hr:Row P t e z] (H:Holds w L) (i j:Nat) (hij:i≠j){f:α->Value}{v v2:Value}{xs ys:List α}{ty:TypeId}{K:KT}
  (hi:L[i]?=some (SL f e v xs)) (hj:L[j]?=some (SL f e v2 ys)) (hs:∀ y,sg (f y)=true) (hn:xs.length+ys.length<=1099511627776)
  (h:∀ v' w',Same w w'->Holds w' (L.set i (SL f e v' (xs++ys)))->K v' w'):Ap P #[t,t] ty #[v,v2] w K:=by
 obtain⟨inf,hinf,hsz,hby,hzz⟩:=hr.inf
 have nothing:ys=[]->(∃ oa c,v2=.slice oa 0 c)->Ap P #[t,t] ty #[v,v2] w K:=by
  rintro rfl ⟨oa2,c2,rfl⟩;obtain⟨oa,sp,rfl,_⟩:=H.open i hi
  have hsrc:Src P inf.size t (.slice oa2 0 c2) 0 [] w:=by
   cases oa2 with
   |none=>exact Src.ofNil w hr.und c2
   |some a=>exact Src.ofSlice w hr.und a 0 c2 [] (by simp) (λj u hu=>by simp at hu) (λ_ h=>by cases h)
  refine⟨_,_,run_append_nothing w t t ty e inf hr.und hinf oa xs.length (xs.length+sp.length) (by omega) _ hsrc,h _ _ (.refl _) ?_⟩
  rw[gU,show L.set i (SL f e (.slice oa xs.length (xs.length+sp.length)) xs)=L from by
   have hl:i < L.length:=(gH.1 hi).1;have e1:L[i]=_:=(gH.1 hi).2
   rw[<-e1,List.set_getElem_self]]
  exact H
 obtain⟨oa2,sp2,rfl,H1⟩:=H.open j hj
 cases oa2 with
 |none=>
  obtain⟨g,⟨h2,_⟩,_⟩:=H1.front j (Za1 hj);exact nothing h2 ⟨_,_,by rw[h2];rfl⟩
 |some a=>
  obtain⟨g,⟨h2,h3,_⟩,_⟩:=H1.front j (Za1 hj);obtain⟨b2,o,s⟩:=a;simp only at h2 h3;subst h2;subst h3
  by_cases hy:ys=[]
  ·exact nothing hy ⟨_,_,by rw[hy];rfl⟩
  ·have hy0:0 < ys.length:=gZ.2 hy;have H2:=H1.slb j (Za1 hj);rw[set_set] at H2
   have hi2:(L.set j (blk b2 e (ys.map f++sp2)))[i]?=some (SL f e v xs):=by rw[hY_ (Ne.symm hij)];exact hi
   obtain⟨oa,sp,rfl,H3⟩:=H2.open i hi2;refine r_ap (f:=f) (ys:=ys) H3 i j (xs:=xs) (sp:=sp) (Za1 hi2) (by rw[hY_ hij];exact Za1 hj) (by simp) rfl rfl rfl hs hn hy0 λoa' sp' w4 S4 H4=>?_;rw[set_set] at H4;have hi3:(L.set j (blk b2 e (ys.map f++sp2)))[i]?=some (SL f e (.slice oa xs.length (xs.length+sp.length)) xs):=hi2;have H5:=H4.close i (Za1 hi3);rw[set_set] at H5;have H6:=H5.at j (Q:=SL f e (.slice (some ⟨b2,0,none⟩) ys.length (ys.length+sp2.length)) ys) (by rw[hY_ hij];exact Za1 hj) λg hg=>⟨some ⟨b2,0,none⟩,sp2,rfl,rfl,rfl,hg⟩;rw[Zwt hij hj] at H6
   have e1:xs.length+ys.length=(xs++ys).length:=by simp
   rw[e1];exact h _ _ S4 H6
theorem r_mf {fn:Fn}{f c:Array Value}{K:Value->Prop}(v:Value) (h:(Instr.makeFunc fn f c).run P w=.ok v w) (k:K v):Mf P fn f c w K:=⟨v,h,k⟩
theorem Yas {α:Type}{t e:TypeId}{z:Value} [hr:Row P t e z] (H:Holds w L) (i:Nat){f:α->Value}{v:Value}{xs:List α}{ty:TypeId}{N:Node}{K:KT}
  (hi:L[i]?=some (SL f e v xs)) (x:α) (hs:∀ y,sg (f y)=true) (hn:xs.length+1<=1099511627776) (hN:∀ w',Holds w' L->N w' λu=>u=v)
  (h:∀ v' w',Same w w'->Holds w' (L.set i (SL f e v' (xs++[x])))->K v' w'):Bs P t 1 #[(0,f x)] w λy w2=>Rk N v w2 (Ap P #[t,t] ty #[v,y] w2 K):=by
 refine r_bs1 H (hs x) λb3 w3 S3 H3=>r_rk (hN _ H3.drop) ?_;obtain⟨oa,sp,rfl,H4⟩:=H3.open (i+1) (by rw[gF];exact hi);rw[gW] at H4;refine r_ap (f:=f) (ys:=[x]) H4 (i+1) 0 (xs:=xs) (sp:=sp) (by rw[gF];exact Za1 hi) rfl rfl rfl rfl rfl hs (by rw[gQ];omega) (by simp) λoa' sp' w4 S4 H4=>?_;rw[gW,set_set] at H4;have H5:=H4.drop.close i (Za1 hi);rw[set_set] at H5
 have e:xs.length+[x].length=(xs++[x]).length:=by simp
 rw[e];exact h _ _ (S3.trans S4) H5
theorem Yao {s t:Nat}{K:Value->Prop}(hs:s < 256) (ht:t < 256) (h:K (.int .u8 ((s ^^^ t:Nat):Int))):Bp .xor (.int .u8 (s:Int)) (.int .u8 (t:Int)) K:=by
 refine⟨_,?_,h⟩;have hb:IntKind.u8.bits=8:=rfl;have hx:s ^^^ t < 2^8:=Nat.xor_lt_two_pow (by simpa using hs) (by simpa using ht);simp only[bp,if_true];rw[hb,BitVec.toNat_xor,BitVec.toNat_ofInt,BitVec.toNat_ofInt]
 have e1:((s:Int)%((2^8:Nat):Int)).toNat=s:=by omega
 have e2:((t:Int)%((2^8:Nat):Int)).toNat=t:=by omega
 rw[e1,e2,wrapU8 (by omega) (by omega)]
theorem Zy4 {s:Nat}{K:Value->Prop}(hs:s < 4294967296) (h:K (.int .u32 ((4294967295 - s:Nat):Int))):Up .xor (.int .u32 (s:Int)) K:=by
 refine⟨_,?_,h⟩;simp only[up];have e1:(if IntKind.u32.signed=true then (-1:Int) else IntKind.u32.max)=4294967295:=rfl;have e2:BitVec.ofInt IntKind.u32.bits 4294967295=BitVec.allOnes 32:=rfl;have hb:IntKind.u32.bits=32:=rfl;rw[e1,e2];show some (Value.int .u32 (IntKind.u32.wrap (BitVec.allOnes 32 ^^^ BitVec.ofInt 32 (s:Int)).toNat))=_;rw[BitVec.allOnes_xor,BitVec.toNat_not,BitVec.toNat_ofInt]
 have e3:((s:Int)%((2^32:Nat):Int)).toNat=s:=by omega
 rw[e3,wrapU32 (by omega) (by omega)]
theorem Zsn {size:Nat}{a:Option Addr}{n c l h:Nat}{k k':IntKind}{K:Value->Prop}(h1:l<=h) (h2:h<=c) (hK:K (.slice (if c=l then a else a.map (·.add (l*size))) (h - l) (c - l))) :
  Ssl size (.slice a n c) (some (.int k (l:Int))) (some (.int k' (h:Int))) K:=⟨a,n,c,l,h,rfl,⟨k,rfl⟩,⟨k',rfl⟩,h1,h2,hK⟩
theorem r_cp {ats:Array TypeId}{t:TypeId}{args:Array Value}{K:KT}{v:Value}{w':World}(h:(Builtin.copy_ ats t args).run P w=.ok v w') (k:K v w'):Cp P ats t args w K:=⟨v,w',h,k⟩
theorem r_lnS {α:Type}(i:Nat) (H:Holds w L){f:α->Value}{e:TypeId}{v:Value}{xs:List α}{K:Value->Prop}(hi:L[i]?=some (SL f e v xs)) (h:K (nv xs.length)):Lnl v K:=by
 obtain⟨oa,sp,rfl,_⟩:=H.open i hi;exact r_lnl h
theorem Zaa {α:Type}(i:Nat) (H:Holds w L){f:α->Value}{e:TypeId}{v:Value}{xs:List α}{k:IntKind}{j:Nat}{x:α}{K:Value->Prop}(hi:L[i]?=some (SL f e v xs)) (hx:xs[j]?=some x) (h:K (f x)) :
  Ias 1 v (.int k (j:Int)) λp=>Ld p w K:=by
 obtain⟨oa,sp,rfl,H1⟩:=H.open i hi;have hj:j < xs.length:=(gH.1 hx).1;refine Zul i H1 (Za1 hi) hj (Nat.le_refl _) λb hb=>?_;subst hb;exact Zyn i H1 (Za1 hi) hx h
theorem Zao {α:Type}(i:Nat) (H:Holds w L){f:α->Value}{e:TypeId}{v:Value}{xs:List α}{k:IntKind}{j:Nat}(x:α){K:World->Prop}(hi:L[i]?=some (SL f e v xs)) (hj:j < xs.length) (hs:sg (f x)=true)
  (h:∀ w',Same w w'->Holds w' (L.set i (SL f e v (xs.set j x)))->K w'):Ias 1 v (.int k (j:Int)) λp=>St p (f x) w K:=by
 obtain⟨oa,sp,rfl,H1⟩:=H.open i hi;refine Zul i H1 (Za1 hi) hj (Nat.le_refl _) λb hb=>?_;subst hb;refine Ycz i H1 x (Za1 hi) hj rfl hs λw2 S2 H2=>?_;rw[set_set] at H2;have H3:=H2.close i (Za1 hi);rw[set_set,hX_] at H3;exact h _ S2 H3
theorem SL_sg {α:Type}{f:α->Value}{e:TypeId}{v:Value}{xs:List α}(H:Holds w L) (i:Nat) (hi:L[i]?=some (SL f e v xs)):sg v=true:=by
 obtain⟨oa,sp,rfl,_⟩:=H.open i hi;rfl
theorem Zu5 {α:Type}{f:α->Value}(pre:List Value){post:List Value}{xs:List α}{j:Nat}{x:α}(h:xs[j]?=some x):(pre++(xs.map f++post))[pre.length+j]?=some (f x):=by
 have hj:j < xs.length:=(gH.1 h).1;rw[gT (by omega),Nat.add_sub_cancel_left,gM (by simpa using hj),hV_,h];rfl
theorem Znl {α:Type}{f:α->Value}(pre:List Value){post:List Value}{xs:List α}{j:Nat}(x:α) (h:j < xs.length):(pre++(xs.map f++post)).set (pre.length+j) (f x)=pre++((xs.set j x).map f++post):=by
 rw[List.set_append_right _ _ (by omega),Nat.add_sub_cancel_left,List.set_append_left _ _ (by simpa using h),List.map_set]
theorem Zxx {α:Type}{f:α->Value}(pre:List Value){post:List Value}{xs:List α}{n j:Nat}(hn:xs.length=n):(pre++(xs.map f++post))[pre.length+n+j]?=post[j]?:=by
 rw[gT (by omega),gT (by simp;omega)]
 congr 1
 simp;omega
theorem Zvz {α:Type}{f:α->Value}(pre:List Value){post:List Value}{xs:List α}{n j:Nat}(v:Value) (hn:xs.length=n):(pre++(xs.map f++post)).set (pre.length+n+j) v=pre++(xs.map f++post.set j v):=by
 rw[List.set_append_right _ _ (by omega),List.set_append_right _ _ (by simp;omega)]
 congr 3
 simp;omega
end Go.Vc
namespace Go.M01
def valB (l:List Bool):Nat:=l.foldl (λa b=>2*a+b.toNat) 0
theorem Zc2 (l:List Bool) (b:Bool):valB (l++[b])=2*valB l+b.toNat:=by simp[valB]
theorem Zd1 (l:List Bool):valB l < 2^l.length:=by
 have h:∀ n (l:List Bool),l.length=n->valB l < 2^n:=by
  intro n
  induction n with
  |zero=>intro l hl;rw[List.length_eq_zero_iff.1 hl];decide
  |succ n ih=>
   intro l hl
   have hne:l≠[]:=by rintro rfl;simp at hl
   rw[<-List.dropLast_concat_getLast hne,Zc2,Nat.pow_succ];have h1:=ih l.dropLast (by simp[hl]);have h2:=Bool.toNat_le (l.getLast hne);omega
 exact h _ l rfl
def byteAt (bs:List Bool) (i:Nat):UInt8:=UInt8.ofNat (valB ((bs.drop (8*i)).take 8))
def wholeB (bs:List Bool):List UInt8:=(List.range (bs.length/8)).map (byteAt bs)
def restB (bs:List Bool):Nat:=valB (bs.drop (8*(bs.length/8)))*2^(8 - bs.length%8)%256
theorem Zz9:∀ r,r < 8->∀ v,v < 128->∀ b:Bool,v < 2^r->(v*2^(8 - r)%256) ||| (b.toNat*2^(7 - r)%256)=(2*v+b.toNat)*2^(7 - r):=by decide +kernel
theorem Zcr (bs:List Bool):(wholeB bs).length=bs.length/8:=by simp[wholeB]
theorem Yac (bs:List Bool) (b:Bool) (h:bs.length%8 < 7) :
  wholeB (bs++[b])=wholeB bs/\restB (bs++[b])=restB bs ||| (b.toNat*2^(7 - bs.length%8)%256)/\restB (bs++[b]) < 256:=by
 have hl:(bs++[b]).length=bs.length+1:=by simp
 have hd:(bs.length+1)/8=bs.length/8:=by omega
 have hm:(bs.length+1)%8=bs.length%8+1:=by omega
 refine⟨?_,?_,?_⟩
 ·unfold wholeB;rw[hl,hd];apply map_congr_left;intro i hi;rw[mem_range] at hi;unfold byteAt;rw[drop_append_of_le_length (by omega),List.take_append_of_le_length (by rw[gS];omega)]
 ·unfold restB;rw[hl,hd,hm,drop_append_of_le_length (by omega),Zc2];have hv:=Zd1 (bs.drop (8*(bs.length/8)));rw[gS,show bs.length - 8*(bs.length/8)=bs.length%8 by omega] at hv;have h7:2^(bs.length%8)<=2^6:=Nat.pow_le_pow_right (by omega) (by omega);rw[Zz9 (bs.length%8) (by omega) _ (by omega) b hv,show 8 - (bs.length%8+1)=7 - bs.length%8 by omega];refine Nat.mod_eq_of_lt ?_;have hb:=Bool.toNat_le b
  have h1:2*valB (bs.drop (8*(bs.length/8)))+b.toNat < 2^(bs.length%8+1):=by rw[Nat.pow_succ];omega
  calc _ < 2^(bs.length%8+1)*2^(7 - bs.length%8):=Nat.mul_lt_mul_of_pos_right h1 (Nat.two_pow_pos _)
   _=2^8:=by rw[<-Nat.pow_add];congr 1;omega
 ·unfold restB;exact Nat.mod_lt _ (by decide)
theorem Zwb (bs:List Bool) (b:Bool) (h:bs.length%8=7) :
  wholeB (bs++[b])=wholeB bs++[UInt8.ofNat (restB bs ||| (b.toNat*2^(7 - bs.length%8)%256))]/\restB (bs++[b])=0:=by
 have hl:(bs++[b]).length=bs.length+1:=by simp
 have hd:(bs.length+1)/8=bs.length/8+1:=by omega
 have hv:=Zd1 (bs.drop (8*(bs.length/8)));rw[gS,show bs.length - 8*(bs.length/8)=7 by omega] at hv;refine⟨?_,?_⟩
 ·unfold wholeB;rw[hl,hd,range_succ,List.map_append]
  congr 1
  ·apply map_congr_left;intro i hi;rw[mem_range] at hi;unfold byteAt;rw[drop_append_of_le_length (by omega),List.take_append_of_le_length (by rw[gS];omega)]
  ·rw[List.map_singleton];unfold restB byteAt;rw[h,Zz9 7 (by omega) _ (by omega) b hv,drop_append_of_le_length (by omega),gK (by simp;omega),Zc2];simp
 ·unfold restB;rw[hl,hd,drop_of_length_le (by simp;omega),show valB []=0 from rfl,Nat.zero_mul]
theorem Zwk (bs:List Bool):restB bs < 256:=Nat.mod_lt _ (by decide)
def bitsOf (v n:Nat):List Bool:=(List.range n).map λi=>v.testBit (n - 1 - i)
theorem Za4 (v n:Nat):(bitsOf v n).length=n:=by simp[bitsOf]
theorem bitsOf_get (v n i:Nat) (h:i < n):(bitsOf v n)[i]?=some (v.testBit (n - 1 - i)):=by simp[bitsOf,h]
theorem Zrx (v j:Nat):(v/2^j) &&& 1=(v.testBit j).toNat:=by
 rw[Nat.and_one_is_mod,Nat.testBit_eq_decide_div_mod_eq]
 rcases Nat.mod_two_eq_zero_or_one (v/2^j) with h|h <;> simp[h]
theorem Zj8 (v n i:Nat) (h:i < n):(bitsOf v n).take (i+1)=(bitsOf v n).take i++[v.testBit (n - 1 - i)]:=by
 rw[gO,bitsOf_get v n i h];rfl
end Go.M01
namespace Go.Mb
open Go.M01
def bitsL:List UInt8->List Bool
 |[]=>[]
 |c::s=>bitsOf c.toNat 8++bitsL s
theorem Ztg (s:List UInt8):(bitsL s).length=8*s.length:=by
 induction s with
 |nil=>rfl
 |cons c s ih=>simp only[bitsL,gD,Za4,ih,length_cons];omega
theorem bitsOf_get (v n i:Nat) (h:i < n):(bitsOf v n)[i]?=some (v.testBit (n - 1 - i)):=by
 have:=Zj8 v n i h
 have h2:((bitsOf v n).take (i+1))[i]?=(bitsOf v n)[i]?:=by rw[hI_ (by omega)]
 rw[<-h2,this,gT (by rw[gN,Za4];omega)];rw[gN,Za4,show i - min i n=0 by omega];rfl
theorem Zua (s:List UInt8):∀ (i:Nat),i < 8*s.length->(bitsL s)[i]?=some ((s.getD (i/8) 0).toNat.testBit (7 - i%8)):=by
 induction s with
 |nil=>intro i h;simp at h
 |cons c s ih=>
  intro i h;rw[bitsL]
  by_cases h8:i < 8
  ·rw[gM (by rw[Za4];exact h8),bitsOf_get _ _ _ h8,show i/8=0 by omega,show i%8=i by omega];rfl
  ·rw[gT (by rw[Za4];omega),Za4,ih (i - 8) (by simp at h;omega),show i/8=(i - 8)/8+1 by omega,show (i - 8)%8=i%8 by omega];rfl
def rest (B:List UInt8) (at_:Nat):List Bool:=(bitsL B).drop at_
theorem Zou (B:List UInt8) (at_:Nat):(rest B at_).length=8*B.length - at_:=by rw[rest,gS,Ztg]
theorem Zsx (B:List UInt8) (at_ n:Nat):(rest B at_).drop n=rest B (at_+n):=by rw[rest,rest,drop_drop]
theorem Zwo (B:List UInt8) (at_ n:Nat) (h:at_+n < 8*B.length):(rest B at_)[n]?=some ((B.getD ((at_+n)/8) 0).toNat.testBit (7 - (at_+n)%8)):=by
 rw[rest,hH_,Zua _ _ h]
theorem Zdg {α:Type}{l:List α}{n:Nat}{x:α}(h:l[n]?=some x):l.take (n+1)=l.take n++[x]:=by
 rw[gO,h];rfl
theorem Yaj (c:UInt8) (i:Nat):c.toNat/2^i &&& 1=(c.toNat.testBit i).toNat:=Zrx c.toNat i
theorem Zv6:valB []=0:=rfl
theorem Zlf (l:List Bool) (n:Nat):valB (l.take n) < 2^n:=Nat.lt_of_lt_of_le (Zd1 _) (Nat.pow_le_pow_right (by decide) (by rw[gN];omega))
end Go.Mb
namespace Go.M18
abbrev bl:=Op.bytesLess
theorem Zf0:∀ a:List UInt8,bl a a=false
 |[]=>rfl
 |a::x=>by
  have:=Zf0 x;simp[bl,Op.bytesLess] at this ⊢;exact this
theorem Zgx (a b:UInt8) (x y:List UInt8):bl (a::x) (b::y)=(decide (a < b)||(a==b&&bl x y)):=rfl
theorem Zja:∀ a b c:List UInt8,bl a b=true->bl b c=true->bl a c=true
 |_,[],_,h,_=>by cases ‹List UInt8› <;> simp[bl,Op.bytesLess] at h
 |_,_::_,[],_,h=>by simp[bl,Op.bytesLess] at h
 |[],_::_,_::_,_,_=>rfl
 |a::x,b::y,c::z,h,k=>by
  rw[Zgx] at *;simp only[Bool.or_eq_true,decide_eq_true_iff,Bool.and_eq_true,beq_iff_eq,UInt8.lt_iff_toNat_lt] at *;rcases h with h|⟨rfl,h⟩
  ·rcases k with k|⟨rfl,k⟩
   ·exact .inl (by omega)
   ·exact .inl h
  ·rcases k with k|⟨rfl,k⟩
   ·exact .inl k
   ·exact .inr ⟨rfl,Zja x y z h k⟩
theorem Zoc:∀ a b:List UInt8,bl a b=true\/a=b\/bl b a=true
 |[],[]=>.inr (.inl rfl)
 |[],_::_=>.inl rfl
 |_::_,[]=>.inr (.inr rfl)
 |a::x,b::y=>by
  rw[Zgx,Zgx];simp only[Bool.or_eq_true,decide_eq_true_iff,Bool.and_eq_true,beq_iff_eq,UInt8.lt_iff_toNat_lt];rcases Nat.lt_trichotomy a.toNat b.toNat with h|h|h
  ·exact .inl (.inl h)
  ·have e:a=b:=UInt8.toNat_inj.1 h;subst e;rcases Zoc x y with h|h|h
   ·exact .inl (.inr ⟨rfl,h⟩)
   ·exact .inr (.inl (by rw[h]))
   ·exact .inr (.inr (.inr ⟨rfl,h⟩))
  ·exact .inr (.inr (.inl h))
theorem Zvh {a b:List UInt8}(h:bl a b=true):bl b a=false:=by
 cases k:bl b a with
 |false=>rfl
 |true=>rw[<-Zf0 a,Zja a b a h k]
def ble (a b:List UInt8):Prop:=bl b a=false
def rot (s:List UInt8) (i:Nat):List UInt8:=s.drop i++s.take i
def lastB (r:List UInt8):UInt8:=r.getD (r.length - 1) 0
theorem lastB_snoc (x:List UInt8) (c:UInt8):lastB (x++[c])=c:=by simp[lastB]
theorem Zcu (s:List UInt8) (i:Nat) (h:i<=s.length):(rot s i).length=s.length:=by
 simp[rot];omega
theorem Zv2 (s:List UInt8):rot s 0=s:=by simp[rot]
def aheadP (s:List UInt8) (i k:Nat):Bool:=bl (rot s i) (rot s k)||(decide (rot s i=rot s k)&&decide (i < k))
def insP (s:List UInt8) (i:Nat):List Nat->List Nat
 |[]=>[i]
 |k::r=>if aheadP s i k then i::k::r else k::insP s i r
def sortP (s:List UInt8):Nat->List Nat
 |0=>[]
 |i+1=>insP s i (sortP s i)
theorem Zhd (s:List UInt8) (i:Nat):∀ l,(insP s i l).Perm (i::l)
 |[]=>.refl _
 |k::r=>by
  rw[insP];split
  ·exact .refl _
  ·exact ((Zhd s i r).cons k).trans (.swap i k r)
theorem Zcl (s:List UInt8):∀ n,(sortP s n).Perm (List.range n)
 |0=>.refl _
 |n+1=>by
  rw[sortP,range_succ];exact ((Zhd s n _).trans ((Zcl s n).cons n)).trans (List.perm_append_comm (l₁:=[n]))
theorem Zc4 (s:List UInt8) (n:Nat):(sortP s n).length=n:=by rw[(Zcl s n).length_eq,hW_]
theorem Zc5 (s:List UInt8) (n x:Nat):x∈sortP s n↔x < n:=by rw[(Zcl s n).mem_iff,mem_range]
theorem Zmd (s:List UInt8) (n:Nat):(sortP s n).Nodup:=(Zcl s n).symm.nodup nodup_range
def lastL (s:List UInt8):List UInt8:=(sortP s s.length).map λi=>lastB (rot s i)
theorem Zlc (s:List UInt8):(lastL s).length=s.length:=by simp[lastL,Zc4]
end Go.M18
namespace Go.Mr
abbrev Key:=Nat->Nat × Nat
def klt (p q:Nat × Nat):Prop:=p.1 < q.1\/(p.1=q.1/\p.2 < q.2)
instance (p q:Nat × Nat):Decidable (klt p q):=inferInstanceAs (Decidable (_\/_))
def le (k:Key) (a b:Nat):Prop:=klt (k a) (k b)\/(k a=k b/\a<=b)
instance (k:Key) (a b:Nat):Decidable (le k a b):=inferInstanceAs (Decidable (_\/_))
theorem kext {p q:Nat × Nat}:p=q↔p.1=q.1/\p.2=q.2:=⟨λh=>by rw[h];exact⟨rfl,rfl⟩,λh=>Prod.ext h.1 h.2⟩
theorem le_refl (k:Key) (a:Nat):le k a a:=.inr ⟨rfl,Nat.le_refl _⟩
theorem le_total (k:Key) (a b:Nat):le k a b\/le k b a:=by
 unfold le klt;rw[kext,kext];omega
theorem le_trans {k:Key}{a b c:Nat}(h:le k a b) (g:le k b c):le k a c:=by
 unfold le klt at *;rw[kext] at *;omega
theorem Zn5 {k:Key}{a b:Nat}(h:le k a b) (g:le k b a):a=b:=by
 unfold le klt at *;rw[kext] at *;omega
theorem Zq6 {k:Key}{a b:Nat}(h:¬ klt (k b) (k a)) (e:k a=k b->a<=b):le k a b:=by
 unfold le
 by_cases q:k a=k b
 ·exact .inr ⟨q,e q⟩
 ·refine .inl ?_;unfold klt at *;rw[kext] at q;omega
def ins (k:Key) (a:Nat):List Nat->List Nat
 |[]=>[a]
 |b::l=>if le k a b then a::b::l else b::ins k a l
def isort (k:Key):List Nat->List Nat
 |[]=>[]
 |a::l=>ins k a (isort k l)
theorem Zjk (k:Key) (a:Nat):∀ l,(ins k a l).Perm (a::l)
 |[]=>.refl _
 |b::l=>by
  rw[ins];split
  ·exact .refl _
  ·exact ((Zjk k a l).cons b).trans (.swap a b l)
theorem Zat (k:Key):∀ l,(isort k l).Perm l
 |[]=>.refl _
 |a::l=>(Zjk k a _).trans ((Zat k l).cons a)
theorem Zia (k:Key) (a:Nat):∀ l,l.Pairwise (le k)->(ins k a l).Pairwise (le k)
 |[],_=>by simp[ins]
 |b::l,h=>by
  rw[pairwise_cons] at h;rw[ins];split
  ·rename_i q;rw[pairwise_cons,pairwise_cons];refine⟨λx hx=>?_,h.1,h.2⟩;rcases mem_cons.1 hx with rfl|hx
   ·exact q
   ·exact le_trans q (h.1 x hx)
  ·rename_i q;rw[pairwise_cons];refine⟨λx hx=>?_,Zia k a l h.2⟩;rcases mem_cons.1 ((Zjk k a l).mem_iff.1 hx) with rfl|hx
   ·exact (le_total k x b).resolve_left q
   ·exact h.1 x hx
theorem Zar (k:Key):∀ l,(isort k l).Pairwise (le k)
 |[]=>.nil
 |a::l=>Zia k a _ (Zar k l)
theorem Zna {k:Key}{a b:List Nat}(ha:a.Pairwise (le k)) (hb:b.Pairwise (le k)) (h:a.Perm b):a=b:=
 List.Perm.eq_of_pairwise (λx y _ _=>Zn5) ha hb h
theorem Zji {k:Key}{a l:List Nat}(ha:a.Pairwise (le k)) (h:a.Perm l):a=isort k l:=Zna ha (Zar k l) (h.trans (Zat k l).symm)
theorem Znk {k:Key}{a b:List Nat}(h:a.Perm b):isort k a=isort k b:=Zji (Zar k a) ((Zat k a).trans h)
def mrg (k:Key):List Nat->List Nat->List Nat
 |[],B=>B
 |a::A,[]=>a::A
 |a::A,b::B=>if klt (k b) (k a) then b::mrg k (a::A) B else a::mrg k A (b::B)
termination_by A B=>A.length+B.length
theorem Zjh (k:Key) (B:List Nat):mrg k [] B=B:=by rw[mrg]
theorem Zkd (k:Key) (A:List Nat):mrg k A []=A:=by cases A <;> rw[mrg]
theorem Zjg (k:Key) (a:Nat) (A:List Nat) (b:Nat) (B:List Nat):mrg k (a::A) (b::B)=if klt (k b) (k a) then b::mrg k (a::A) B else a::mrg k A (b::B):=by rw[mrg]
theorem Zt4 (k:Key):∀ (n:Nat) (A B:List Nat),A.length+B.length<=n->A.Pairwise (le k)->B.Pairwise (le k)->(∀ a∈A,∀ b∈B,k a=k b->a<=b)->(mrg k A B).Perm (A++B)/\(mrg k A B).Pairwise (le k)
 |n,[],B,_,_,hB,_=>by rw[Zjh];exact⟨.refl _,hB⟩
 |n,a::A,[],_,hA,_,_=>by rw[Zkd,gU];exact⟨.refl _,hA⟩
 |0,a::A,b::B,hn,_,_,_=>by simp at hn
 |n+1,a::A,b::B,hn,hA,hB,hc=>by
  rw[Zjg];simp only[length_cons] at hn;rw[pairwise_cons] at hA hB;split
  ·rename_i q;have h:=Zt4 k n (a::A) B (by simp only[length_cons];omega) (pairwise_cons.2 hA) hB.2 λx hx y hy=>hc x hx y (hK_ _ hy);refine⟨(h.1.cons b).trans (List.perm_middle.symm),pairwise_cons.2 ⟨λx hx=>?_,h.2⟩⟩;rcases hT_.1 (h.1.mem_iff.1 hx) with hx|hx
   ·have h1:le k b a:=.inl q;rcases mem_cons.1 hx with rfl|hx
    ·exact h1
    ·exact le_trans h1 (hA.1 x hx)
   ·exact hB.1 x hx
  ·rename_i q;have h:=Zt4 k n A (b::B) (by simp only[length_cons];omega) hA.2 (pairwise_cons.2 hB) λx hx y hy=>hc x (hK_ _ hx) y hy;refine⟨h.1.cons a,pairwise_cons.2 ⟨λx hx=>?_,h.2⟩⟩;rcases hT_.1 (h.1.mem_iff.1 hx) with hx|hx
   ·exact hA.1 x hx
   ·have h1:le k a b:=Zq6 q λe=>hc a (hJ_ ..) b (hJ_ ..) e;rcases mem_cons.1 hx with rfl|hx
    ·exact h1
    ·exact le_trans h1 (hB.1 x hx)
structure Pt where
 lo:Nat
 mid:Nat
 hi:Nat
def seg (R:List Nat) (lo hi:Nat):List Nat:=(R.drop lo).take (hi - lo)
def rep (R:List Nat) (lo hi:Nat) (X:List Nat):List Nat:=R.take lo++X++R.drop hi
theorem Zdm {R:List Nat}{lo hi:Nat}(h:hi<=R.length):(seg R lo hi).length=hi - lo:=by unfold seg;rw[gN,gS];omega
theorem Zdd {R:List Nat}{lo mid hi:Nat}(h1:lo<=mid) (h2:mid<=hi):seg R lo hi=seg R lo mid++seg R mid hi:=by
 unfold seg;rw[show hi - lo=(mid - lo)+(hi - mid) by omega,List.take_add,drop_drop,show lo+(mid - lo)=mid by omega]
theorem cut3 (R:List Nat){lo hi:Nat}(h:lo<=hi):R=R.take lo++seg R lo hi++R.drop hi:=by
 have h1:R.drop lo=seg R lo hi++R.drop hi:=by
  unfold seg;have:=(hN_ (hi - lo) (R.drop lo)).symm;rw[drop_drop,show lo+(hi - lo)=hi by omega] at this;exact this
 rw[gI,<-h1,hN_]
theorem Yai {R X:List Nat}{lo hi:Nat}(h:lo<=hi) (h2:hi<=R.length) (hX:X.length=hi - lo):(rep R lo hi X).length=R.length:=by
 unfold rep;simp only[gD,gN,gS];omega
theorem Ztv {R X:List Nat}{lo hi:Nat}(h:lo<=hi) (h2:hi<=R.length) (hX:X.length=hi - lo):seg (rep R lo hi X) lo hi=X:=by
 unfold rep seg
 have e:(R.take lo).length=lo:=by rw[gN];omega
 rw[gI,drop_append_of_le_length (by omega),drop_of_length_le (by omega),hO_,List.take_append_of_le_length (by omega),gK (by omega)]
theorem Zph {R X:List Nat}{lo hi:Nat}(h:lo<=R.length):(rep R lo hi X).take lo=R.take lo:=by
 unfold rep
 have e:(R.take lo).length=lo:=by rw[gN];omega
 rw[gI,List.take_append_of_le_length (by omega),gK (by omega)]
theorem Zo4 {R X:List Nat}{lo hi:Nat}(h:lo<=hi) (h2:hi<=R.length) (hX:X.length=hi - lo):(rep R lo hi X).drop hi=R.drop hi:=by
 unfold rep
 have e:(R.take lo++X).length=hi:=by rw[gD,gN];omega
 rw[drop_append_of_le_length (by omega),drop_of_length_le (by omega),hO_]
theorem Zxd {R X:List Nat}{lo hi:Nat}(h:lo<=hi) (hX:X.Perm (seg R lo hi)):(rep R lo hi X).Perm R:=by
 have e:=cut3 R h;unfold rep;refine List.Perm.trans ?_ (List.Perm.of_eq e.symm);exact (hX.append_left _).append_right _
theorem Zgo {R R':List Nat}{a b lo:Nat}(hb:b<=lo) (e:R'.take lo=R.take lo):seg R' a b=seg R a b:=by
 unfold seg;rw[<-List.drop_take,<-List.drop_take]
 have e1:∀ Q:List Nat,Q.take b=(Q.take lo).take b:=λQ=>by rw[List.take_take,Nat.min_eq_left hb]
 rw[e1 R',e1 R,e]
theorem Zhk {R R':List Nat}{a b hi:Nat}(ha:hi<=a) (e:R'.drop hi=R.drop hi):seg R' a b=seg R a b:=by
 unfold seg
 have e1:∀ Q:List Nat,Q.drop a=(Q.drop hi).drop (a - hi):=λQ=>by rw[drop_drop,show hi+(a - hi)=a by omega]
 rw[e1 R',e1 R,e]
variable {k:Key}{n:Nat}
def ap (k:Key) (p:Pt) (R:List Nat):List Nat:=rep R p.lo p.hi (isort k (seg R p.lo p.hi))
def run (k:Key):List Pt->List Nat->List Nat
 |[],R=>R
 |p::st,R=>run k st (ap k p R)
def Cond (k:Key) (p:Pt) (R:List Nat):Prop:=
 if p.mid=0 then (seg R p.lo p.hi).Pairwise λa b=>k a=k b->a<=b
 else p.lo < p.mid/\p.mid < p.hi/\(seg R p.lo p.mid).Pairwise (le k)/\(seg R p.mid p.hi).Pairwise (le k)/\∀ a∈seg R p.lo p.mid,∀ b∈seg R p.mid p.hi,k a=k b->a<=b
def WF (k:Key) (n:Nat):List Pt->List Nat->Prop
 |[],_=>True
 |p::st,R=>(p.lo < p.hi/\p.hi<=n)/\Cond k p R/\WF k n st (ap k p R)
theorem Zf2 (l:List Nat):(isort k l).length=l.length:=(Zat k l).length_eq
theorem Zyu {p:Pt}{R:List Nat}(h:p.lo<=p.hi) (h2:p.hi<=R.length):(ap k p R).length=R.length:=Yai h h2 (by rw[Zf2,Zdm h2])
theorem Yb1 {p:Pt}{R:List Nat}(h:p.lo<=p.hi):(ap k p R).Perm R:=Zxd h (Zat _ _)
theorem ap_eq {p:Pt}{R R':List Nat}(h:p.lo<=p.hi) (h2:p.hi<=R.length) (h3:R'.length=R.length) (ht:R'.take p.lo=R.take p.lo) (hd:R'.drop p.hi=R.drop p.hi) (hs:(seg R' p.lo p.hi).Pairwise (le k)) (hp:(seg R' p.lo p.hi).Perm (seg R p.lo p.hi)):R'=ap k p R:=by
 have e:=cut3 R' h;rw[ht,hd,Zji hs hp] at e;exact e
theorem Yc1 {p:Pt}{R:List Nat}(h:p.lo < p.hi) (h2:p.hi<=R.length) (h1:p.hi - p.lo < 2):ap k p R=R:=by
 refine (ap_eq (Nat.le_of_lt h) h2 rfl rfl rfl ?_ (.refl _)).symm;have:=Zdm (lo:=p.lo) h2
 match hl:seg R p.lo p.hi with
 |[]=>exact .nil
 |[x]=>exact List.pairwise_singleton _ _
 |x::y::r=>rw[hl] at this;simp at this;omega
theorem Zy5 {lo hi:Nat}{st:List Pt}{R:List Nat}(hn:R.length=n) (h2:2<=hi - lo) (h:WF k n (⟨lo,0,hi⟩::st) R) :
  WF k n (⟨lo,0,(lo+hi)/2⟩::⟨(lo+hi)/2,0,hi⟩::⟨lo,(lo+hi)/2,hi⟩::st) R/\
  run k (⟨lo,0,(lo+hi)/2⟩::⟨(lo+hi)/2,0,hi⟩::⟨lo,(lo+hi)/2,hi⟩::st) R=run k (⟨lo,0,hi⟩::st) R:=by
 obtain⟨⟨h0,hh⟩,hc,hw⟩:=h;simp only at h0 hh;generalize hm:(lo+hi)/2=mid
 have m1:lo < mid:=by omega
 have m2:mid < hi:=by omega
 unfold Cond at hc;rw[if_pos rfl] at hc;simp only at hc;rw[Zdd (Nat.le_of_lt m1) (Nat.le_of_lt m2),List.pairwise_append] at hc;obtain⟨c1,c2,c3⟩:=hc
 have l1:(ap k ⟨lo,0,mid⟩ R).length=n:=by rw[Zyu (Nat.le_of_lt m1) (by show mid<=_;omega)];exact hn
 have g1:(isort k (seg R lo mid)).length=mid - lo:=by rw[Zf2,Zdm (by omega)]
 have s1:seg (ap k ⟨lo,0,mid⟩ R) lo mid=isort k (seg R lo mid):=Ztv (R:=R) (lo:=lo) (hi:=mid) (Nat.le_of_lt m1) (by omega) g1;have t1:(ap k ⟨lo,0,mid⟩ R).take lo=R.take lo:=Zph (R:=R) (lo:=lo) (hi:=mid) (by omega);have d1:(ap k ⟨lo,0,mid⟩ R).drop mid=R.drop mid:=Zo4 (R:=R) (lo:=lo) (hi:=mid) (Nat.le_of_lt m1) (by omega) g1;have s1b:seg (ap k ⟨lo,0,mid⟩ R) mid hi=seg R mid hi:=Zhk (Nat.le_refl _) d1;generalize hR1:ap k ⟨lo,0,mid⟩ R=R1 at *
 have l2:(ap k ⟨mid,0,hi⟩ R1).length=n:=by rw[Zyu (Nat.le_of_lt m2) (by show hi<=_;omega)];exact l1
 have g2:(isort k (seg R1 mid hi)).length=hi - mid:=by rw[Zf2,Zdm (by omega)]
 have s2:seg (ap k ⟨mid,0,hi⟩ R1) mid hi=isort k (seg R mid hi):=by
  rw[<-s1b];exact Ztv (R:=R1) (lo:=mid) (hi:=hi) (Nat.le_of_lt m2) (by omega) g2
 have t2:(ap k ⟨mid,0,hi⟩ R1).take mid=R1.take mid:=Zph (R:=R1) (lo:=mid) (hi:=hi) (by omega);have d2:(ap k ⟨mid,0,hi⟩ R1).drop hi=R1.drop hi:=Zo4 (R:=R1) (lo:=mid) (hi:=hi) (Nat.le_of_lt m2) (by omega) g2
 have s2a:seg (ap k ⟨mid,0,hi⟩ R1) lo mid=isort k (seg R lo mid):=by rw[<-s1];exact Zgo (Nat.le_refl _) t2
 generalize hR2:ap k ⟨mid,0,hi⟩ R1=R2 at *
 have hpm:(seg R2 lo hi).Perm (seg R lo hi):=by
  rw[Zdd (Nat.le_of_lt m1) (Nat.le_of_lt m2),s2a,s2,Zdd (R:=R) (Nat.le_of_lt m1) (Nat.le_of_lt m2)];exact (Zat _ _).append (Zat _ _)
 have t3:R2.take lo=R.take lo:=by
  have:∀ Q:List Nat,Q.take lo=(Q.take mid).take lo:=λQ=>by rw[List.take_take,Nat.min_eq_left (by omega)]
  rw[this R2,t2,<-this R1,t1]
 have d3:R2.drop hi=R.drop hi:=by
  have:∀ Q:List Nat,Q.drop hi=(Q.drop mid).drop (hi - mid):=λQ=>by rw[drop_drop,show mid+(hi - mid)=hi by omega]
  rw[d2,this R1,d1,<-this R]
 have e3:ap k ⟨lo,mid,hi⟩ R2=ap k ⟨lo,0,hi⟩ R:=by
  unfold ap rep;simp only;rw[t3,d3,Znk hpm]
 constructor
 ·refine⟨⟨m1,by show mid<=n;omega⟩,?_,⟨m2,hh⟩,?_,⟨by show lo < hi;omega,hh⟩,?_,?_⟩
  ·unfold Cond;rw[if_pos rfl];exact c1
  ·rw[hR1];unfold Cond;rw[if_pos rfl];simp only;rw[s1b];exact c2
  ·rw[hR1,hR2];unfold Cond;rw[if_neg (by show ¬ mid=0;omega)];simp only;rw[s2a,s2];exact⟨m1,m2,Zar _ _,Zar _ _,λa ha b hb=>c3 a ((Zat _ _).mem_iff.1 ha) b ((Zat _ _).mem_iff.1 hb)⟩
  ·rw[hR1,hR2,e3];exact hw
 ·show run k st (ap k ⟨lo,mid,hi⟩ (ap k ⟨mid,0,hi⟩ (ap k ⟨lo,0,mid⟩ R)))=run k st (ap k ⟨lo,0,hi⟩ R);rw[hR1,hR2,e3]
end Go.Mr
namespace Go.Mr
structure SS where
 order:List Nat
 cls:List Nat
 aside:List Nat
 reach:Nat
 stack:List Pt
 merge:Pt
 laid:Nat
 first:Nat
 second:Nat
 ranked:Nat
 last:Nat
 done:Bool
def joinS (x:SS):SS:=match x.stack with
 |[]=>x
 |p::st=>if x.merge.hi=0/\p.mid≠0 then { x with merge:=p,stack:=st,laid:=0,first:=0,second:=p.mid } else x
def layS (x:SS):SS:={ x with aside:=x.aside.set x.laid (x.order.getD (x.merge.lo+x.laid) 0),laid:=x.laid+1 }
def toS (x:SS):Nat:=x.merge.lo+x.first+x.second - x.merge.mid
def fromA (k:Key) (x:SS):Prop:=x.second=x.merge.hi\/(x.first < x.laid/\¬ klt (k (x.order.getD x.second 0)) (k (x.aside.getD x.first 0)))
instance (k:Key) (x:SS):Decidable (fromA k x):=inferInstanceAs (Decidable (_\/_))
def moveS (k:Key) (x:SS):SS:=if fromA k x then { x with order:=x.order.set (toS x) (x.aside.getD x.first 0),first:=x.first+1 }
 else { x with order:=x.order.set (toS x) (x.order.getD x.second 0),second:=x.second+1 }
def putS (k:Key) (x:SS):SS:=if toS x=x.merge.hi - 1 then { moveS k x with merge:=⟨0,0,0⟩ } else moveS k x
def beginS (x:SS):SS:=match x.stack with
 |[]=>x
 |p::st=>if p.hi - p.lo < 2 then { x with stack:=st } else { x with stack:=⟨p.lo,0,(p.lo+p.hi)/2⟩::⟨(p.lo+p.hi)/2,0,p.hi⟩::⟨p.lo,(p.lo+p.hi)/2,p.hi⟩::st }
def lastN (k:Key) (x:SS):Nat:=if x.ranked=0 then 0 else if klt (k (x.order.getD (x.ranked - 1) 0)) (k (x.order.getD x.ranked 0)) then x.last+1 else x.last
def rank1 (k:Key) (x:SS):SS:={ x with aside:=x.aside.set (x.order.getD x.ranked 0) (lastN k x),last:=lastN k x,ranked:=x.ranked+1 }
def passS (n:Nat) (x:SS):SS:=if x.last=n - 1\/n<=x.reach then { x with cls:=x.aside,aside:=x.cls,ranked:=0,done:=true }
 else { x with cls:=x.aside,aside:=x.cls,ranked:=0,reach:=max 1 (2*x.reach),stack:=⟨0,0,n⟩::x.stack }
def rankS (k:Key) (n:Nat) (x:SS):SS:=if x.ranked+1=n then passS n (rank1 k x) else rank1 k x
def restS (k:Key) (n:Nat) (x:SS):SS:=if 0 < x.merge.hi/\x.laid < x.merge.mid - x.merge.lo then layS x else if 0 < x.merge.hi then putS k x else if x.stack≠[] then beginS x else rankS k n x
def stepS (k:Key) (n:Nat) (x:SS):SS:=restS k n (joinS x)
def rk (k:Key) (o:List Nat):Nat->Nat
 |0=>0
 |i+1=>rk k o i+if klt (k (o.getD i 0)) (k (o.getD (i+1) 0)) then 1 else 0
structure Bs (n:Nat) (x:SS):Prop where
 two:2<=n
 ol:x.order.length=n
 cl:x.cls.length=n
 al:x.aside.length=n
 om:∀ a∈x.order,a < n
 nd:x.done=false
structure PhA (k:Key) (n:Nat) (x:SS):Prop where
 none:x.merge.hi=0
 perm:x.order.Perm (List.range n)
 wf:WF k n x.stack x.order
 srt:(run k x.stack x.order).Pairwise (le k)
 rk0:x.stack≠[]->x.ranked=0
 rkn:x.ranked < n
 asd:∀ i,i < x.ranked->x.aside.getD (x.order.getD i 0) 0=rk k x.order i
 lst:0 < x.ranked->x.last=rk k x.order (x.ranked - 1)
structure PhB (k:Key) (n:Nat) (x:SS) (R:List Nat):Prop where
 len:R.length=n
 perm:R.Perm (List.range n)
 m1:x.merge.lo < x.merge.mid
 m2:x.merge.mid < x.merge.hi
 m3:x.merge.hi<=n
 wf:WF k n (x.merge::x.stack) R
 srt:(run k (x.merge::x.stack) R).Pairwise (le k)
 rk0:x.ranked=0
 lay:x.laid<=x.merge.mid - x.merge.lo
 asm:∀ a∈seg x.aside 0 x.laid,a < n
 early:x.laid < x.merge.mid - x.merge.lo->x.order=R/\x.first=0/\x.second=x.merge.mid/\x.aside.take x.laid=seg R x.merge.lo (x.merge.lo+x.laid)
 late:x.laid=x.merge.mid - x.merge.lo->x.first<=x.laid/\x.merge.mid<=x.second/\x.second<=x.merge.hi/\toS x < x.merge.hi/\x.order.take x.merge.lo=R.take x.merge.lo/\x.order.drop x.merge.hi=R.drop x.merge.hi/\
  seg x.order x.merge.lo (toS x)++mrg k (seg x.aside x.first x.laid) (seg x.order x.second x.merge.hi)=isort k (seg R x.merge.lo x.merge.hi)
def PhC (k:Key) (n:Nat) (x:SS):Prop:=PhA k n x\/∃ R,PhB k n x R
variable {k:Key}{n:Nat}{x:SS}
theorem Zau {l:List Nat}{i:Nat}(h:i < l.length):l[i]?=some (l.getD i 0):=by rw[gB,gA h];rfl
theorem Zaz {l:List Nat}{i:Nat}(h:i < l.length):l.getD i 0∈l:=by rw[gB,gA h];exact List.getElem_mem h
theorem Zey {l:List Nat}{a b:Nat}(h:a < b) (h2:b<=l.length):seg l a b=l.getD a 0::seg l (a+1) b:=by
 unfold seg
 have h1:a < l.length:=by omega
 rw[List.drop_eq_getElem_cons h1,show b - a=(b - (a+1))+1 by omega,List.take_succ_cons,gB,gA h1];rfl
theorem Zow {l:List Nat}{a b:Nat}(h:a<=b) (h2:b < l.length):seg l a (b+1)=seg l a b++[l.getD b 0]:=by
 rw[Zdd h (Nat.le_succ b),Zey (a:=b) (Nat.lt_succ_self b) h2];unfold seg;simp
theorem seg_nil {l:List Nat}{a b:Nat}(h:b<=a):seg l a b=[]:=by unfold seg;rw[show b - a=0 by omega,take_zero]
theorem Zzj {l:List Nat}{a b y:Nat}(h:y∈seg l a b):y∈l:=List.mem_of_mem_drop (List.mem_of_mem_take h)
theorem Zeg {l:List Nat}{i j v:Nat}(h:i<=j):(l.set j v).take i=l.take i:=by rw[List.take_set_of_le h]
theorem Zgl {l:List Nat}{i j v:Nat}(h:j < i):(l.set j v).drop i=l.drop i:=by rw[List.drop_set_of_lt h]
theorem Znr (hb:Bs n x) (h:PhC k n x):Bs n (joinS x)/\PhC k n (joinS x)/\((joinS x).merge.hi=0->∀ p st,(joinS x).stack=p::st->p.mid=0):=by
 unfold joinS;split
 ·rename_i e;exact⟨hb,h,λ_ p st q=>by rw[e] at q;cases q⟩
 ·rename_i p st e;split
  ·rename_i q;rcases h with h|⟨R,h⟩
   ·have hw:=h.wf;rw[e] at hw;have hs:=h.srt;rw[e] at hs;obtain⟨⟨w1,w2⟩,hc,hw2⟩:=id hw;unfold Cond at hc;rw[if_neg q.2] at hc;obtain⟨c1,c2,c3,c4,c5⟩:=hc;refine⟨⟨hb.two,hb.ol,hb.cl,hb.al,hb.om,hb.nd⟩,.inr ⟨x.order,?_⟩,?_⟩
    ·refine⟨hb.ol,h.perm,c1,c2,w2,hw,hs,h.rk0 (by rw[e];exact List.cons_ne_nil _ _),Nat.zero_le _,λa ha=>?_,λ_=>⟨rfl,rfl,rfl,?_⟩,λe2=>?_⟩
     ·rw[seg_nil (Nat.le_refl 0)] at ha;cases ha
     ·show x.aside.take 0=seg x.order p.lo (p.lo+0);rw[take_zero,seg_nil (by omega)]
     ·exfalso;simp only at e2;omega
    ·intro z;simp only at z;omega
   ·have:=h.m2;omega
  ·rename_i q;refine⟨hb,h,λz p' st' e2=>?_⟩;rw[e] at e2;injection e2 with e2 e3;subst e2
   by_cases q2:p.mid=0
   ·exact q2
   ·exact absurd ⟨z,q2⟩ q
theorem Zyg (hb:Bs n x) (h:PhC k n x) (h1:0 < x.merge.hi) (h2:x.laid < x.merge.mid - x.merge.lo):Bs n (layS x)/\PhC k n (layS x):=by
 rcases h with h|⟨R,h⟩
 ·have:=h.none;omega
 have hm1:=h.m1;have hm2:=h.m2;have hm3:=h.m3
 obtain⟨e1,e2,e3,e4⟩:=h.early h2;have hol:=hb.ol;have hal:=hb.al
 have hlt:x.merge.lo+x.laid < x.order.length:=by omega
 have hval:=Zaz hlt;refine⟨⟨hb.two,hb.ol,hb.cl,by show (List.set _ _ _).length=_;rw[hX_];exact hb.al,hb.om,hb.nd⟩,.inr ⟨R,?_⟩⟩
 have ht:(x.aside.set x.laid (x.order.getD (x.merge.lo+x.laid) 0)).take (x.laid+1)=seg R x.merge.lo (x.merge.lo+(x.laid+1)):=by
  rw[<-hG_,Zow (by omega) (by rw[h.len];omega),<-e4,gO,List.getElem?_set_self (by omega),Zeg (Nat.le_refl _),e1];rfl
 refine⟨h.len,h.perm,h.m1,h.m2,h.m3,h.wf,h.srt,h.rk0,h2,λa ha=>?_,λq=>⟨e1,e2,e3,ht⟩,λq=>?_⟩
 ·have:seg (layS x).aside 0 (layS x).laid=seg R x.merge.lo (x.merge.lo+(x.laid+1)):=by
   rw[<-ht];unfold seg;rw[drop_zero,Nat.sub_zero];rfl
  rw[this] at ha;have:=Zzj ha;have h3:=h.perm.mem_iff.1 this;exact mem_range.1 h3
 ·replace q:x.laid+1=x.merge.mid - x.merge.lo:=q
  have e5:toS (layS x)=x.merge.lo:=by
   show x.merge.lo+x.first+x.second - x.merge.mid=_;omega
  refine⟨by show x.first<=x.laid+1;omega,by show x.merge.mid<=x.second;omega,by show x.second<=x.merge.hi;omega,by rw[e5];show x.merge.lo < x.merge.hi;omega,congrArg (List.take x.merge.lo) e1,congrArg (List.drop x.merge.hi) e1,?_⟩;rw[e5];show seg x.order x.merge.lo x.merge.lo++mrg k (seg (x.aside.set x.laid (x.order.getD (x.merge.lo+x.laid) 0)) x.first (x.laid+1)) (seg x.order x.second x.merge.hi)=isort k (seg R x.merge.lo x.merge.hi);rw[seg_nil (Nat.le_refl _),hO_,e2,e3,e1]
  have e6:seg (x.aside.set x.laid (x.order.getD (x.merge.lo+x.laid) 0)) 0 (x.laid+1)=seg R x.merge.lo x.merge.mid:=by
   have:seg (x.aside.set x.laid (x.order.getD (x.merge.lo+x.laid) 0)) 0 (x.laid+1)=(x.aside.set x.laid (x.order.getD (x.merge.lo+x.laid) 0)).take (x.laid+1):=by
    unfold seg;rw[drop_zero,Nat.sub_zero]
   rw[this,ht,show x.merge.lo+(x.laid+1)=x.merge.mid by omega]
  rw[e1] at e6;rw[e6,Zdd (mid:=x.merge.mid) (Nat.le_of_lt hm1) (Nat.le_of_lt hm2)];have hc:=h.wf.2.1;unfold Cond at hc;rw[if_neg (by omega)] at hc;obtain⟨_,_,c3,c4,c5⟩:=hc;obtain⟨p1,p2⟩:=Zt4 k _ _ _ (Nat.le_refl _) c3 c4 c5;exact Zji p2 p1
theorem Zir {l:List Nat}{t v a b:Nat}(h:t < a\/b<=a):seg (l.set t v) a b=seg l a b:=by
 rcases h with h|h
 ·exact Zhk (Nat.le_refl a) (Zgl h)
 ·rw[seg_nil h,seg_nil h]
theorem Zfv {l:List Nat}{t v a:Nat}(h:a<=t) (h2:t < l.length):seg (l.set t v) a (t+1)=seg l a t++[v]:=by
 rw[Zow h (by rw[hX_];exact h2),Zgo (Nat.le_refl t) (Zeg (Nat.le_refl t))]
 congr 2
 rw[gB,List.getElem?_set_self h2];rfl
theorem Zmg {R:List Nat}(hb:Bs n x) (h:PhB k n x R) (hl:x.laid=x.merge.mid - x.merge.lo) :
  ∃ v f c,moveS k x={ x with order:=x.order.set (toS x) v,first:=f,second:=c }/\v < n/\f<=x.laid/\x.merge.mid<=c/\c<=x.merge.hi/\x.merge.lo+f+c - x.merge.mid=toS x+1/\
   seg (x.order.set (toS x) v) x.merge.lo (toS x+1)++mrg k (seg x.aside f x.laid) (seg (x.order.set (toS x) v) c x.merge.hi)=isort k (seg R x.merge.lo x.merge.hi):=by
 have hm1:=h.m1;have hm2:=h.m2;have hm3:=h.m3
 obtain⟨l1,l2,l3,l4,l5,l6,l7⟩:=h.late hl;have hol:=hb.ol;have hal:=hb.al;have hto:toS x=x.merge.lo+x.first+x.second - x.merge.mid:=rfl
 have hge:x.merge.lo<=toS x:=by omega
 unfold moveS
 by_cases q:fromA k x
 ·rw[if_pos q]
  have hf:x.first < x.laid:=by
   rcases q with q|q
   ·omega
   ·exact q.1
  have hA:=Zey (l:=x.aside) hf (by omega)
  have hv:x.aside.getD x.first 0 < n:=h.asm _ (by
   rw[show x.aside.getD x.first 0=(seg x.aside 0 x.laid).getD x.first 0 from by
    unfold seg
    rw[drop_zero,Nat.sub_zero,gB,gB,hI_ hf]]
   exact Zaz (by rw[Zdm (by omega)];omega))
  refine⟨_,x.first+1,x.second,rfl,hv,hf,l2,l3,by omega,?_⟩;rw[Zfv hge (by omega),gI,<-l7,hA]
  congr 1
  have hB:seg (x.order.set (toS x) (x.aside.getD x.first 0)) x.second x.merge.hi=seg x.order x.second x.merge.hi:=Zir (by omega);rw[hB];rcases hU_ x.second x.merge.hi with g|g
  ·have hBc:=Zey (l:=x.order) g (by omega)
   have hk:¬ klt (k (x.order.getD x.second 0)) (k (x.aside.getD x.first 0)):=by
    rcases q with q|q
    ·omega
    ·exact q.2
   rw[hBc,Zjg,if_neg hk];rfl
  ·rw[seg_nil g,Zkd,Zkd];rfl
 ·rw[if_neg q]
  have hs:x.second < x.merge.hi:=by
   rcases hU_ x.second x.merge.hi with g|g
   ·exact g
   ·exact absurd (.inl (by omega)) q
  have hBc:=Zey (l:=x.order) hs (by omega);have hv:x.order.getD x.second 0 < n:=hb.om _ (Zaz (by omega));refine⟨_,x.first,x.second+1,rfl,hv,l1,by omega,by omega,by omega,?_⟩;rw[Zfv hge (by omega),gI,<-l7,hBc]
  congr 1
  have hB:seg (x.order.set (toS x) (x.order.getD x.second 0)) (x.second+1) x.merge.hi=seg x.order (x.second+1) x.merge.hi:=Zir (by omega);rw[hB];rcases hU_ x.first x.laid with g|g
  ·have hA:=Zey (l:=x.aside) g (by omega)
   have hk:klt (k (x.order.getD x.second 0)) (k (x.aside.getD x.first 0)):=by
    by_cases z:klt (k (x.order.getD x.second 0)) (k (x.aside.getD x.first 0))
    ·exact z
    ·exact absurd (.inr ⟨g,z⟩) q
   rw[hA,Zjg,if_pos hk];rfl
  ·rw[seg_nil g,Zjh,Zjh];rfl
theorem Zr2 {l:List Nat}{t v:Nat}(hl:∀ a∈l,a < n) (hv:v < n):∀ a∈l.set t v,a < n:=λa ha=>by
 rcases List.mem_or_eq_of_mem_set ha with h|h
 ·exact hl a h
 ·rw[h];exact hv
theorem Zyh (hb:Bs n x) (h:PhC k n x) (h1:0 < x.merge.hi) (h2:¬ x.laid < x.merge.mid - x.merge.lo):Bs n (putS k x)/\PhC k n (putS k x):=by
 rcases h with h|⟨R,h⟩
 ·have:=h.none;omega
 have hm1:=h.m1;have hm2:=h.m2;have hm3:=h.m3
 have hlay:=h.lay
 have hl:x.laid=x.merge.mid - x.merge.lo:=by omega
 obtain⟨l1,l2,l3,l4,l5,l6,l7⟩:=h.late hl;have hol:=hb.ol;obtain⟨v,f,c,e,hv,f1,c1,c2,t1,hq⟩:=Zmg hb h hl;have hto:toS x=x.merge.lo+x.first+x.second - x.merge.mid:=rfl
 have hge:x.merge.lo<=toS x:=by omega
 have hOl:(x.order.set (toS x) v).length=n:=by rw[hX_];exact hol
 have hOm:=Zr2 (t:=toS x) hb.om hv
 have hT:(x.order.set (toS x) v).take x.merge.lo=R.take x.merge.lo:=by rw[Zeg hge];exact l5
 have hD:(x.order.set (toS x) v).drop x.merge.hi=R.drop x.merge.hi:=by rw[Zgl l4];exact l6
 unfold putS;rw[e];generalize hO:x.order.set (toS x) v=O at *;split
 ·rename_i q
  have hlen:(seg O x.merge.lo (toS x+1)).length=x.merge.hi - x.merge.lo:=by rw[Zdm (by omega)];omega
  have hz:mrg k (seg x.aside f x.laid) (seg O c x.merge.hi)=[]:=by
   have:=congrArg List.length hq;rw[gD,hlen,Zf2,Zdm (by rw[h.len];exact hm3)] at this;exact List.eq_nil_of_length_eq_zero (by omega)
  rw[hz,gU,show toS x+1=x.merge.hi by omega] at hq
  have hap:O=ap k x.merge R:=by
   have e1:=cut3 O (lo:=x.merge.lo) (hi:=x.merge.hi) (by omega);rw[hT,hD,hq] at e1;exact e1
  refine⟨⟨hb.two,hOl,hb.cl,hb.al,hOm,hb.nd⟩,.inl ⟨rfl,?_,?_,?_,λ_=>h.rk0,?_,λi hi=>?_,λhi=>?_⟩⟩
  ·show O.Perm _;rw[hap];exact (Yb1 (by omega)).trans h.perm
  ·show WF k n x.stack O;rw[hap];exact h.wf.2.2
  ·show (run k x.stack O).Pairwise _;rw[hap];exact h.srt
  ·show x.ranked < n;rw[h.rk0];have:=hb.two;omega
  ·replace hi:i < x.ranked:=hi;rw[h.rk0] at hi;omega
  ·replace hi:0 < x.ranked:=hi;rw[h.rk0] at hi;omega
 ·rename_i q;refine⟨⟨hb.two,hOl,hb.cl,hb.al,hOm,hb.nd⟩,.inr ⟨R,h.len,h.perm,hm1,hm2,hm3,h.wf,h.srt,h.rk0,hlay,h.asm,λz=>?_,λ_=>⟨f1,c1,c2,?_,hT,hD,?_⟩⟩⟩
  ·exact absurd z h2
  ·show x.merge.lo+f+c - x.merge.mid < x.merge.hi;omega
  ·show seg O x.merge.lo (x.merge.lo+f+c - x.merge.mid)++mrg k (seg x.aside f x.laid) (seg O c x.merge.hi)=_;rw[t1];exact hq
theorem Zox (hb:Bs n x) (h:PhC k n x) (h1:¬ 0 < x.merge.hi) (h2:x.stack≠[]) (h3:∀ p st,x.stack=p::st->p.mid=0):Bs n (beginS x)/\PhC k n (beginS x):=by
 rcases h with h|⟨R,h⟩
 rotate_left
 ·have:=h.m2;omega
 unfold beginS;split
 ·rename_i e;exact absurd e h2
 ·rename_i p st e;have hw:=h.wf;rw[e] at hw;have hs:=h.srt;rw[e] at hs;have hr:=h.rk0 h2;have hm:=h3 p st e;obtain⟨lo,mid,hi⟩:=p;simp only at hm;subst hm;have h0:=hw.1;simp only at h0;split
  ·rename_i q;simp only at q;have e1:ap k ⟨lo,0,hi⟩ x.order=x.order:=Yc1 h0.1 (by rw[hb.ol];exact h0.2) q;refine⟨⟨hb.two,hb.ol,hb.cl,hb.al,hb.om,hb.nd⟩,.inl ⟨h.none,h.perm,?_,?_,λ_=>hr,h.rkn,h.asd,h.lst⟩⟩
   ·have:=hw.2.2;rw[e1] at this;exact this
   ·have:(run k st (ap k ⟨lo,0,hi⟩ x.order)).Pairwise (le k):=hs;rw[e1] at this;exact this
  ·rename_i q;simp only at q;obtain⟨b1,b2⟩:=Zy5 hb.ol (by omega) hw;refine⟨⟨hb.two,hb.ol,hb.cl,hb.al,hb.om,hb.nd⟩,.inl ⟨h.none,h.perm,b1,?_,λ_=>hr,h.rkn,h.asd,h.lst⟩⟩;show (run k (⟨lo,0,(lo+hi)/2⟩::⟨(lo+hi)/2,0,hi⟩::⟨lo,(lo+hi)/2,hi⟩::st) x.order).Pairwise (le k);rw[b2];exact hs
theorem Zmc (hb:Bs n x) (h:PhC k n x) (h1:¬ 0 < x.merge.hi) (h2:x.stack=[]) :
  x.order.Pairwise (le k)/\x.order.Perm (List.range n)/\x.ranked < n/\(x.ranked+1 < n->Bs n (rank1 k x)/\PhC k n (rank1 k x))/\
   (rank1 k x).aside.length=n/\(∀ i,i < x.ranked+1->(rank1 k x).aside.getD (x.order.getD i 0) 0=rk k x.order i)/\(rank1 k x).last=rk k x.order x.ranked:=by
 rcases h with h|⟨R,h⟩
 rotate_left
 ·have:=h.m2;omega
 have hs:=h.srt;rw[h2] at hs;have hkn:=h.rkn;have hol:=hb.ol;have hnd:x.order.Nodup:=h.perm.symm.nodup nodup_range
 have hlast:lastN k x=rk k x.order x.ranked:=by
  unfold lastN
  by_cases q:x.ranked=0
  ·rw[if_pos q,q];rfl
  ·rw[if_neg q,h.lst (by omega)];obtain⟨r,hr⟩:∃ r,x.ranked=r+1:=⟨x.ranked - 1,by omega⟩;rw[hr,Nat.add_sub_cancel];show _=rk k x.order r+_
   split <;> rfl
 have hal:(rank1 k x).aside.length=n:=by show (List.set _ _ _).length=n;rw[hX_];exact hb.al
 have hasd:∀ i,i < x.ranked+1->(rank1 k x).aside.getD (x.order.getD i 0) 0=rk k x.order i:=by
  intro i hi;show (x.aside.set (x.order.getD x.ranked 0) (lastN k x)).getD (x.order.getD i 0) 0=_;rw[gB,getElem?_set]
  have hb1:x.order.getD x.ranked 0 < x.aside.length:=by rw[hb.al];exact hb.om _ (Zaz (by omega))
  by_cases e:x.ranked=i
  ·subst e;rw[if_pos rfl,if_pos hb1,hlast];rfl
  ·rw[if_neg,<-gB,h.asd i (by omega)];intro e2;apply e;have g1:=Zau (l:=x.order) (i:=x.ranked) (by omega);have g2:=Zau (l:=x.order) (i:=i) (by omega);rw[e2] at g1;obtain⟨p1,p2⟩:=gH.1 g1;obtain⟨p3,p4⟩:=gH.1 g2;exact (List.getElem_inj hnd).1 (p2.trans p4.symm)
 refine⟨hs,h.perm,hkn,λq=>⟨⟨hb.two,hb.ol,hb.cl,hal,hb.om,hb.nd⟩,.inl ⟨h.none,h.perm,?_,?_,λz=>absurd h2 z,q,hasd,λ_=>?_⟩⟩,hal,hasd,hlast⟩
 ·exact h.wf
 ·exact h.srt
 ·show lastN k x=rk k x.order (x.ranked+1 - 1);rw[Nat.add_sub_cancel];exact hlast
end Go.Mr
namespace Go.Mr
open Go.M18
def ch (s:List UInt8) (i:Nat):Nat:=(s.getD (i%s.length) 0).toNat
def ltm (s:List UInt8) (m a b:Nat):Prop:=∃ j,j < m/\(∀ i,i < j->ch s (a+i)=ch s (b+i))/\ch s (a+j) < ch s (b+j)
def eqm (s:List UInt8) (m a b:Nat):Prop:=∀ i,i < m->ch s (a+i)=ch s (b+i)
variable {s:List UInt8}{m a b c:Nat}
theorem tri (s:List UInt8) (a b:Nat):∀ m,ltm s m a b\/eqm s m a b\/ltm s m b a
 |0=>.inr (.inl λi h=>by omega)
 |m+1=>by
  rcases tri s a b m with⟨j,h1,h2,h3⟩|h|⟨j,h1,h2,h3⟩
  ·exact .inl ⟨j,by omega,h2,h3⟩
  ·rcases Nat.lt_trichotomy (ch s (a+m)) (ch s (b+m)) with q|q|q
   ·exact .inl ⟨m,by omega,h,q⟩
   ·refine .inr (.inl λi hi=>?_);rcases hU_ i m with g|g
    ·exact h i g
    ·rw[show i=m by omega];exact q
   ·exact .inr (.inr ⟨m,by omega,λi hi=>(h i hi).symm,q⟩)
  ·exact .inr (.inr ⟨j,by omega,h2,h3⟩)
theorem Ycl (h:ltm s m a b):¬ eqm s m a b:=λe=>by
 obtain⟨j,h1,_,h3⟩:=h;have:=e j h1;omega
theorem Yax {r:Nat}:eqm s (r+r) a b↔eqm s r a b/\eqm s r (a+r) (b+r):=by
 constructor
 ·intro h;refine⟨λi hi=>h i (by omega),λi hi=>?_⟩;rw[hG_,hG_];exact h (r+i) (by omega)
 ·rintro⟨h,g⟩ i hi;rcases hU_ i r with q|q
  ·exact h i q
  ·have:=g (i - r) (by omega);rw[hG_,hG_,show r+(i - r)=i by omega] at this;exact this
theorem Yb4 {r:Nat}:ltm s (r+r) a b↔ltm s r a b\/(eqm s r a b/\ltm s r (a+r) (b+r)):=by
 constructor
 ·rintro⟨j,h1,h2,h3⟩;rcases hU_ j r with q|q
  ·exact .inl ⟨j,q,h2,h3⟩
  ·refine .inr ⟨λi hi=>h2 i (by omega),j - r,by omega,λi hi=>?_,?_⟩
   ·rw[hG_,hG_];exact h2 (r+i) (by omega)
   ·rw[hG_,hG_,show r+(j - r)=j by omega];exact h3
 ·rintro (⟨j,h1,h2,h3⟩|⟨h,j,h1,h2,h3⟩)
  ·exact⟨j,by omega,h2,h3⟩
  ·refine⟨r+j,by omega,λi hi=>?_,by rw[<-hG_,<-hG_];exact h3⟩;rcases hU_ i r with q|q
   ·exact h i q
   ·have:=h2 (i - r) (by omega);rw[hG_,hG_,show r+(i - r)=i by omega] at this;exact this
theorem Zyl (s:List UInt8) (a i:Nat):ch s (a%s.length+i)=ch s (a+i):=by unfold ch;rw[Nat.mod_add_mod]
theorem Zzk:ltm s m (a%s.length) (b%s.length)↔ltm s m a b:=by
 unfold ltm;simp only[Zyl]
theorem Yab:eqm s m (a%s.length) (b%s.length)↔eqm s m a b:=by
 unfold eqm;simp only[Zyl]
theorem Zhl (ha:a < s.length){i:Nat}(hi:i < s.length):(rot s a).getD i 0=s.getD ((a+i)%s.length) 0:=by
 unfold rot;rw[gB,gB];rcases hU_ (a+i) s.length with q|q
 ·rw[gM (by rw[gS];omega),hH_,Nat.mod_eq_of_lt q]
 ·rw[gT (by rw[gS];omega),gS,hI_ (by omega),Nat.mod_eq_sub_mod q,Nat.mod_eq_of_lt (by omega)]
  congr 2
  omega
theorem Zos:∀ (j:Nat) (x y:List UInt8),j < x.length->j < y.length->(∀ i,i < j->x.getD i 0=y.getD i 0)->(x.getD j 0).toNat < (y.getD j 0).toNat->bl x y=true
 |_,[],_,h,_,_,_=>by simp at h
 |_,_::_,[],_,h,_,_=>by simp at h
 |0,p::x,q::y,_,_,_,h=>by
  rw[Zgx]
  have:p < q:=by rw[UInt8.lt_iff_toNat_lt];exact h
  simp[this]
 |j+1,p::x,q::y,h1,h2,h3,h4=>by
  rw[Zgx];have e:p=q:=h3 0 (Nat.zero_lt_succ _);subst e;have:=Zos j x y (by simpa using h1) (by simpa using h2) (λi hi=>by have:=h3 (i+1) (by omega);simpa using this) (by simpa using h4);simp[this]
theorem Zsq (ha:a < s.length) (hb:b < s.length) (h:ltm s s.length a b):aheadP s a b=true:=by
 obtain⟨j,h1,h2,h3⟩:=h;unfold aheadP
 have e1:∀ i,i < j->(rot s a).getD i 0=(rot s b).getD i 0:=λi hi=>by
  rw[Zhl ha (by omega),Zhl hb (by omega)];exact UInt8.toNat_inj.1 (h2 i hi)
 have e2:((rot s a).getD j 0).toNat < ((rot s b).getD j 0).toNat:=by
  rw[Zhl ha h1,Zhl hb h1];exact h3
 rw[Zos j (rot s a) (rot s b) (by rw[Zcu s a (by omega)];exact h1) (by rw[Zcu s b (by omega)];exact h1) e1 e2];rfl
theorem Zzn (ha:a < s.length) (hb:b < s.length) (h:eqm s s.length a b):rot s a=rot s b:=by
 apply List.ext_getElem?;intro i;rcases hU_ i s.length with q|q
 ·have e:=Zhl ha q;have e2:=Zhl hb q
  have e3:(rot s a).getD i 0=(rot s b).getD i 0:=by rw[e,e2];exact UInt8.toNat_inj.1 (h i q)
  rw[gA (by rw[Zcu s a (by omega)];exact q),gA (by rw[Zcu s b (by omega)];exact q)];rw[gB,gB,gA (by rw[Zcu s a (by omega)];exact q),gA (by rw[Zcu s b (by omega)];exact q)] at e3;exact congrArg some e3
 ·rw[List.getElem?_eq_none (by rw[Zcu s a (by omega)];exact q),List.getElem?_eq_none (by rw[Zcu s b (by omega)];exact q)]
theorem Zsy (ha:a < s.length) (hb:b < s.length) (h:eqm s s.length a b) (hab:a < b):aheadP s a b=true:=by
 unfold aheadP;rw[Zzn ha hb h,decide_eq_true rfl,decide_eq_true hab];simp
theorem Zzy (h:ltm s m a b):ltm s s.length a b:=by
 obtain⟨j,h1,h2,h3⟩:=h;rcases hU_ j s.length with q|q
 ·exact⟨j,q,h2,h3⟩
 ·exfalso
  have e:∀ z,ch s (z+j)=ch s (z+j%s.length):=λz=>by unfold ch;rw[Nat.add_mod_mod]
  rcases Nat.eq_zero_or_pos s.length with g|g
  ·unfold ch at h3;have:s=[]:=List.eq_nil_of_length_eq_zero g;subst this;simp at h3
  ·have h5:=h2 (j%s.length) (Nat.lt_of_lt_of_le (Nat.mod_lt _ g) q);rw[e a,e b] at h3;omega
theorem Zlr {i k:Nat}(h:aheadP s i k=true):aheadP s k i=false:=by
 unfold aheadP at *;rw[Bool.or_eq_true,Bool.and_eq_true,decide_eq_true_iff,decide_eq_true_iff] at h;rw[Bool.or_eq_false_iff,Bool.and_eq_false_iff,decide_eq_false_iff_not,decide_eq_false_iff_not];rcases h with h|⟨h,g⟩
 ·refine⟨Zvh h,.inl λe=>?_⟩;rw[e,Zf0] at h;cases h
 ·exact⟨by rw[h];exact Zf0 _,.inr (by omega)⟩
theorem Zln {i j k:Nat}(h:aheadP s i j=true) (g:aheadP s j k=true):aheadP s i k=true:=by
 unfold aheadP at *;rw[Bool.or_eq_true,Bool.and_eq_true,decide_eq_true_iff,decide_eq_true_iff] at *;rcases h with h|⟨h,h2⟩
 ·rcases g with g|⟨g,g2⟩
  ·exact .inl (Zja _ _ _ h g)
  ·rw[<-g];exact .inl h
 ·rw[h];rcases g with g|⟨g,g2⟩
  ·exact .inl g
  ·exact .inr ⟨g,by omega⟩
theorem Zm6 {i k:Nat}(h:i≠k):aheadP s i k=true\/aheadP s k i=true:=by
 unfold aheadP;simp only[Bool.or_eq_true,Bool.and_eq_true,decide_eq_true_iff];rcases Zoc (rot s i) (rot s k) with q|q|q
 ·exact .inl (.inl q)
 ·rcases hU_ i k with g|g
  ·exact .inl (.inr ⟨q,g⟩)
  ·exact .inr (.inr ⟨q.symm,by omega⟩)
 ·exact .inr (.inl q)
theorem Zid (i:Nat):∀ l:List Nat,i∉l->l.Pairwise (λa b=>aheadP s a b=true)->(insP s i l).Pairwise (λa b=>aheadP s a b=true)
 |[],_,_=>by simp[insP]
 |k::r,hn,h=>by
  rw[pairwise_cons] at h;rw[insP];split
  ·rename_i ha;rw[pairwise_cons,pairwise_cons];refine⟨λx hx=>?_,h.1,h.2⟩;rcases mem_cons.1 hx with rfl|hx
   ·exact ha
   ·exact Zln ha (h.1 x hx)
  ·rename_i ha;rw[pairwise_cons];refine⟨λx hx=>?_,Zid i r (λz=>hn (hK_ _ z)) h.2⟩;rcases mem_cons.1 ((Zhd s i r).mem_iff.1 hx) with rfl|hx
   ·exact (Zm6 λe=>hn (by rw[e];exact hJ_ ..)).resolve_left ha
   ·exact h.1 x hx
theorem Zh7 (s:List UInt8):∀ n,(sortP s n).Pairwise (λa b=>aheadP s a b=true)
 |0=>.nil
 |n+1=>Zid n _ (λh=>by have:=(Zc5 s n n).1 h;omega) (Zh7 s n)
theorem Zqe {o:List Nat}(hp:o.Perm (List.range s.length)) (h:o.Pairwise λa b=>aheadP s a b=true):o=sortP s s.length:=
 List.Perm.eq_of_pairwise (λx y _ _ h1 h2=>by rw[Zlr h1] at h2;cases h2) h (Zh7 s _) (hp.trans (Zcl s _).symm)
def keyS (s:List UInt8) (x:SS):Key:=λat_=>if x.reach=0 then ((s.getD at_ 0).toNat,0) else (x.cls.getD at_ 0,x.cls.getD ((at_+x.reach)%s.length) 0)
def wid (x:SS):Nat:=if x.reach=0 then 1 else x.reach+x.reach
def Cls (s:List UInt8) (x:SS):Prop:=x.reach=0\/∀ a b,a < s.length->b < s.length->(x.cls.getD a 0 < x.cls.getD b 0↔ltm s x.reach a b)/\(x.cls.getD a 0=x.cls.getD b 0↔eqm s x.reach a b)
theorem Zuz {x:SS}(h:Cls s x) (ha:a < s.length) (hb:b < s.length):(klt (keyS s x a) (keyS s x b)↔ltm s (wid x) a b)/\(keyS s x a=keyS s x b↔eqm s (wid x) a b):=by
 unfold keyS wid
 by_cases q:x.reach=0
 ·rw[if_pos q,if_pos q,if_pos q]
  have e:∀ z,z < s.length->ch s (z+0)=(s.getD z 0).toNat:=λz hz=>by unfold ch;rw[Nat.add_zero,Nat.mod_eq_of_lt hz]
  constructor
  ·constructor
   ·intro g;refine⟨0,by omega,λi hi=>by omega,?_⟩;rw[e a ha,e b hb];rcases g with g|⟨_,g⟩
    ·exact g
    ·exact absurd g (Nat.lt_irrefl 0)
   ·rintro⟨j,h1,_,h3⟩
    obtain rfl:j=0:=by omega
    rw[e a ha,e b hb] at h3;exact .inl h3
  ·constructor
   ·intro g i hi
    obtain rfl:i=0:=by omega
    rw[e a ha,e b hb];exact congrArg Prod.fst g
   ·intro g;have:=g 0 (by omega);rw[e a ha,e b hb] at this;rw[this]
 ·rw[if_neg q,if_neg q,if_neg q];have hc:=h.resolve_left q
  have h0:0 < s.length:=by omega
  have h1:=hc a b ha hb;have h2:=hc _ _ (Nat.mod_lt (a+x.reach) h0) (Nat.mod_lt (b+x.reach) h0);rw[Zzk,Yab] at h2
  constructor
  ·rw[Yb4,<-h1.1,<-h1.2,<-h2.1];rfl
  ·rw[Yax,<-h1.2,<-h2.2,kext]
theorem Zjs {k:Key}{o:List Nat}:∀ j,rk k o j<=j
 |0=>Nat.le_refl _
 |j+1=>by
  have:=Zjs (k:=k) (o:=o) j;show rk k o j+(if _ then 1 else 0)<=_
  split <;> omega
theorem Zkv {p q r:Nat × Nat}(h:klt p q) (g:klt q r):klt p r:=by unfold klt at *;omega
theorem Zco (p:Nat × Nat):¬ klt p p:=by unfold klt;omega
theorem Zkg {k:Key}{o:List Nat}(hs:o.Pairwise (le k)){i:Nat}:∀ j,i<=j->j < o.length->(rk k o i < rk k o j/\klt (k (o.getD i 0)) (k (o.getD j 0)))\/(rk k o i=rk k o j/\k (o.getD i 0)=k (o.getD j 0))
 |0,h,_=>by rw[show i=0 by omega];exact .inr ⟨rfl,rfl⟩
 |j+1,h,hj=>by
  rcases hU_ i (j+1) with q|q
  ·have ih:=Zkg hs (i:=i) j (by omega) (by omega)
   have hl:le k (o.getD j 0) (o.getD (j+1) 0):=by
    have:=pairwise_iff_getElem.1 hs j (j+1) (by omega) hj (by omega);rw[gB,gB,gA (by omega),gA hj];exact this
   have e:rk k o (j+1)=rk k o j+if klt (k (o.getD j 0)) (k (o.getD (j+1) 0)) then 1 else 0:=rfl
   by_cases g:klt (k (o.getD j 0)) (k (o.getD (j+1) 0))
   ·rw[if_pos g] at e;refine .inl ?_;rcases ih with ih|ih
    ·exact⟨by omega,Zkv ih.2 g⟩
    ·exact⟨by omega,by rw[ih.2];exact g⟩
   ·rw[if_neg g,Nat.add_zero] at e
    have ek:k (o.getD j 0)=k (o.getD (j+1) 0):=by
     rcases hl with hl|hl
     ·exact absurd hl g
     ·exact hl.1
    rw[e,<-ek];exact ih
  ·rw[show i=j+1 by omega];exact .inr ⟨rfl,rfl⟩
structure Inv (s:List UInt8) (x:SS):Prop where
 bs:Bs s.length x
 cls:Cls s x
 ph:PhC (keyS s x) s.length x
theorem Zs1 {o:List Nat}{n a:Nat}(hp:o.Perm (List.range n)) (ha:a < n):∃ i,i < n/\o.getD i 0=a:=by
 have:a∈o:=hp.mem_iff.2 (mem_range.2 ha);obtain⟨i,hi,e⟩:=List.getElem_of_mem this;have:=hp.length_eq;rw[hW_] at this;exact⟨i,by omega,by rw[gB,gA hi,e];rfl⟩
theorem Zux {x:SS}(h:Inv s x) (h1:¬ 0 < x.merge.hi) (h2:x.stack=[]) (h3:x.ranked+1=s.length) :
  let y:=passS s.length (rank1 (keyS s x) x)
  (y.done=true/\y.order=sortP s s.length)\/(y.done=false/\Inv s y/\x.reach < s.length/\x.reach < y.reach/\y.stack=[⟨0,0,s.length⟩]/\y.merge.hi=0/\y.ranked=0):=by
 obtain⟨hs,hp,hkn,_,hal,hasd,hlast⟩:=Zmc h.bs h.ph h1 h2;have hol:=h.bs.ol;have hkm:=λa b ha hb=>Zuz (a:=a) (b:=b) h.cls ha hb
 have hcls:∀ a b,a < s.length->b < s.length->((rank1 (keyS s x) x).aside.getD a 0 < (rank1 (keyS s x) x).aside.getD b 0↔ltm s (wid x) a b)/\((rank1 (keyS s x) x).aside.getD a 0=(rank1 (keyS s x) x).aside.getD b 0↔eqm s (wid x) a b):=by
  intro a b ha hb;obtain⟨i,hi,ei⟩:=Zs1 hp ha;obtain⟨j,hj,ej⟩:=Zs1 hp hb;have e1:=hasd i (by omega);have e2:=hasd j (by omega);rw[ei] at e1;rw[ej] at e2;rw[e1,e2,<-(hkm a b ha hb).1,<-(hkm a b ha hb).2];rcases Nat.le_total i j with q|q
  ·rcases Zkg hs j q (by omega) with g|g
   ·rw[ei,ej] at g;exact⟨⟨λ_=>g.2,λ_=>g.1⟩,⟨λz=>by omega,λz=>by rw[z] at g;exact absurd g.2 (Zco _)⟩⟩
   ·rw[ei,ej] at g;exact⟨⟨λz=>by omega,λz=>by rw[g.2] at z;exact absurd z (Zco _)⟩,⟨λ_=>g.2,λ_=>g.1⟩⟩
  ·rcases Zkg hs i q (by omega) with g|g
   ·rw[ei,ej] at g;exact⟨⟨λz=>by omega,λz=>absurd (Zkv z g.2) (Zco _)⟩,⟨λz=>by omega,λz=>by rw[z] at g;exact absurd g.2 (Zco _)⟩⟩
   ·rw[ei,ej] at g;exact⟨⟨λz=>by omega,λz=>by rw[g.2] at z;exact absurd z (Zco _)⟩,⟨λ_=>g.2.symm,λ_=>g.1.symm⟩⟩
 have hget:∀ i,i < s.length->x.order.getD i 0 < s.length:=λi hi=>h.bs.om _ (Zaz (by omega));have hnd:x.order.Nodup:=hp.symm.nodup nodup_range
 have hstrict:∀ i j,i < j->j < s.length->ltm s (wid x) (x.order.getD i 0) (x.order.getD j 0)\/(eqm s (wid x) (x.order.getD i 0) (x.order.getD j 0)/\x.order.getD i 0 < x.order.getD j 0):=by
  intro i j hij hj;have g1:=Zau (l:=x.order) (i:=i) (by omega);have g2:=Zau (l:=x.order) (i:=j) (by omega);obtain⟨p1,p2⟩:=gH.1 g1;obtain⟨p3,p4⟩:=gH.1 g2;have hl:=pairwise_iff_getElem.1 hs i j (by omega) (by omega) hij;have hne:=pairwise_iff_getElem.1 hnd i j (by omega) (by omega) hij;rw[p2,p4] at hl hne;have hk:=hkm _ _ (hget i (by omega)) (hget j hj);rcases hl with hl|hl
  ·exact .inl (hk.1.1 hl)
  ·exact .inr ⟨hk.2.1 hl.1,by omega⟩
 intro y
 by_cases q:(rank1 (keyS s x) x).last=s.length - 1\/s.length<=(rank1 (keyS s x) x).reach
 ·have ey:y={ rank1 (keyS s x) x with cls:=(rank1 (keyS s x) x).aside,aside:=(rank1 (keyS s x) x).cls,ranked:=0,done:=true }:=by
   show passS _ _=_;unfold passS;rw[if_pos q]
  rw[ey];refine .inl ⟨rfl,?_⟩;show x.order=_;refine Zqe hp ?_;rw[pairwise_iff_getElem];intro i j hi hj hij
  have e1:x.order[i]=x.order.getD i 0:=by rw[gB,gA hi];rfl
  have e2:x.order[j]=x.order.getD j 0:=by rw[gB,gA hj];rfl
  rw[e1,e2];have ga:=hget i (by omega);have gb:=hget j (by omega);rcases hstrict i j hij (by omega) with g|⟨g,g2⟩
  ·exact Zsq ga gb (Zzy g)
  ·rcases q with q|q
   ·exfalso;rw[hlast] at q
    have hr:∀ t,t<=x.ranked->t<=rk (keyS s x) x.order (x.ranked) - (x.ranked - t):=λt ht=>by omega
    have hinc:∀ d t,t+d=x.ranked->rk (keyS s x) x.order t=t:=by
     intro d
     induction d with
     |zero=>intro t ht;rw[show t=x.ranked by omega,q];omega
     |succ d ih=>
      intro t ht;have h5:=ih (t+1) (by omega)
      have h6:rk (keyS s x) x.order (t+1)=rk (keyS s x) x.order t+if klt (keyS s x (x.order.getD t 0)) (keyS s x (x.order.getD (t+1) 0)) then 1 else 0:=rfl
      have h7:=Zjs (k:=keyS s x) (o:=x.order) t
      split at h6 <;> omega
    have h8:=hinc (x.ranked - i) i (by omega);have h9:=hinc (x.ranked - j) j (by omega);have h10:=(hcls _ _ ga gb).2.2 g;rw[hasd i (by omega),hasd j (by omega)] at h10;omega
   ·refine Zsy ga gb (λt ht=>g t ?_) g2;have q':s.length<=x.reach:=q;unfold wid
    split <;> omega
 ·have ey:y={ rank1 (keyS s x) x with cls:=(rank1 (keyS s x) x).aside,aside:=(rank1 (keyS s x) x).cls,ranked:=0,reach:=max 1 (2*x.reach),stack:=⟨0,0,s.length⟩::x.stack }:=by
   show passS _ _=_;unfold passS;rw[if_neg q];rfl
  have hrl:x.reach < s.length:=by
   rcases hU_ x.reach s.length with g|g
   ·exact g
   ·exact absurd (.inr g) q
  have hw:max 1 (2*x.reach)=wid x:=by unfold wid;split <;> omega
  rw[ey];refine .inr ⟨h.bs.nd,?_,hrl,by show x.reach < max 1 (2*x.reach);omega,by show _::x.stack=_;rw[h2],by show x.merge.hi=0;omega,rfl⟩;have hcl:(rank1 (keyS s x) x).cls.length=s.length:=h.bs.cl;have htwo:=h.bs.two;refine⟨⟨htwo,hol,hal,hcl,h.bs.om,h.bs.nd⟩,.inr λa b ha hb=>?_,?_⟩
  ·show (_↔ltm s (max 1 (2*x.reach)) a b)/\(_↔eqm s (max 1 (2*x.reach)) a b);rw[hw];exact hcls a b ha hb
  ·generalize hk2:keyS s _=k2
   have hk2m:∀ a b,a < s.length->b < s.length->k2 a=k2 b->eqm s (wid x) a b:=by
    intro a b ha hb e;rw[<-hk2] at e;unfold keyS at e;simp only at e;rw[if_neg (by omega),if_neg (by omega)] at e;exact (hcls a b ha hb).2.1 (congrArg Prod.fst e)
   have hsg:seg x.order 0 s.length=x.order:=by
    unfold seg;rw[drop_zero,Nat.sub_zero,gK (by omega)]
   refine .inl ⟨by show x.merge.hi=0;omega,hp,?_,?_,λ_=>rfl,by show 0 < s.length;omega,λi hi=>absurd hi (Nat.not_lt_zero i),λz=>absurd z (Nat.lt_irrefl 0)⟩
   ·show WF k2 s.length (⟨0,0,s.length⟩::x.stack) x.order;rw[h2];refine⟨⟨by show 0 < s.length;omega,Nat.le_refl _⟩,?_,trivial⟩;unfold Cond;rw[if_pos rfl];simp only;rw[hsg,pairwise_iff_getElem];intro i j hi hj hij e
    have e1:x.order[i]=x.order.getD i 0:=by rw[gB,gA hi];rfl
    have e2:x.order[j]=x.order.getD j 0:=by rw[gB,gA hj];rfl
    rw[e1,e2] at e ⊢;have g:=hk2m _ _ (hget i (by omega)) (hget j (by omega)) e;rcases hstrict i j hij (by omega) with z|z
    ·exact absurd g (Ycl z)
    ·omega
   ·show (run k2 (⟨0,0,s.length⟩::x.stack) x.order).Pairwise (le k2);rw[h2];show (ap k2 ⟨0,0,s.length⟩ x.order).Pairwise (le k2);unfold ap rep;simp only;rw[hsg,take_zero,hO_,drop_of_length_le (by omega),gU];exact Zar _ _
end Go.Mr
namespace Go.Mr
open Go.M18
def cost (p:Pt):Nat:=if p.mid=0 then 4*((p.hi - p.lo)*(p.hi - p.lo)) else (p.mid - p.lo)+(p.hi - p.lo)
def costs:List Pt->Nat
 |[]=>0
 |p::st=>cost p+costs st
def mCost (x:SS):Nat:=if x.merge.hi=0 then 0 else (x.merge.mid - x.merge.lo - x.laid)+(x.merge.hi - toS x)
def passC (n:Nat):Nat:=4*(n*n)+2*n+2
def mu (n:Nat) (x:SS):Nat:=if x.done=true then 0 else 1+((n+1 - x.reach)*passC n+costs x.stack+mCost x+(n - x.ranked))
variable {s:List UInt8}{x:SS}{k:Key}{n:Nat}
theorem mu_eq (h:x.done=false):mu n x=1+((n+1 - x.reach)*passC n+costs x.stack+mCost x+(n - x.ranked)):=by
 unfold mu;rw[if_neg (by rw[h];exact Bool.false_ne_true)]
theorem Zb9 (h:x.merge.hi=0):mCost x=0:=by unfold mCost;rw[if_pos h]
theorem Zbl (h:¬ x.merge.hi=0):mCost x=(x.merge.mid - x.merge.lo - x.laid)+(x.merge.hi - toS x):=by unfold mCost;rw[if_neg h]
theorem join_mu (hb:Bs n x) (h:PhC k n x):mu n (joinS x)=mu n x:=by
 unfold joinS;split
 ·rfl
 ·rename_i p st e;split
  ·rename_i q;rcases h with h|⟨R,h⟩
   ·have hw:=h.wf;rw[e] at hw;obtain⟨⟨w1,w2⟩,hc,_⟩:=hw;unfold Cond at hc;rw[if_neg q.2] at hc;have c1:=hc.1;have c2:=hc.2.1
    have:costs (p::st)=(p.mid - p.lo)+(p.hi - p.lo)+costs st:=by
     show cost p+costs st=_;unfold cost;rw[if_neg q.2]
    rw[mu_eq hb.nd,mu_eq (x:={ x with merge:=p,stack:=st,laid:=0,first:=0,second:=p.mid }) hb.nd,Zb9 q.1,Zbl (x:={ x with merge:=p,stack:=st,laid:=0,first:=0,second:=p.mid }) (by show ¬ p.hi=0;omega),e,this];show 1+((n+1 - x.reach)*passC n+costs st+(p.mid - p.lo - 0+(p.hi - (p.lo+0+p.mid - p.mid)))+(n - x.ranked))=_;omega
   ·have:=h.m2;omega
  ·rfl
theorem begin_cost {lo hi:Nat}(h:2<=hi - lo):cost ⟨lo,0,(lo+hi)/2⟩+(cost ⟨(lo+hi)/2,0,hi⟩+cost ⟨lo,(lo+hi)/2,hi⟩) < cost ⟨lo,0,hi⟩:=by
 generalize hm:(lo+hi)/2=mid;unfold cost;rw[if_pos rfl,if_pos rfl,if_pos rfl,if_neg (by show ¬ mid=0;omega)];simp only;obtain⟨a,ha⟩:∃ a,a=mid - lo:=⟨_,rfl⟩;obtain⟨b,hb⟩:∃ b,b=hi - mid:=⟨_,rfl⟩
 have e:hi - lo=a+b:=by omega
 rw[e,<-ha,<-hb]
 have h1:1<=a:=by omega
 have h2:1<=b:=by omega
 have h3:a<=a*b:=Nat.le_mul_of_pos_right a h2;have h4:b<=a*b:=Nat.le_mul_of_pos_left b h1
 have h5:(a+b)*(a+b)=a*a+2*(a*b)+b*b:=by
  rw[Nat.add_mul,Nat.mul_add,Nat.mul_add,Nat.mul_comm b a];omega
 rw[h5];omega
theorem pass_mu {y:SS}(hd:x.done=false) (hyd:y.done=false) (h1:x.reach < n) (h2:x.reach < y.reach) (h3:y.stack=[⟨0,0,n⟩]) (h4:y.merge.hi=0) (h5:y.ranked=0):mu n y < mu n x:=by
 unfold mu;rw[hd,hyd,if_neg (by simp),if_neg (by simp),h3,h5]
 have e1:mCost y=0:=by unfold mCost;rw[if_pos h4]
 have e2:costs [⟨0,0,n⟩]=4*(n*n):=by
  show cost ⟨0,0,n⟩+0=_;unfold cost;rw[if_pos rfl];rfl
 rw[e1,e2]
 have h6:(n+1 - y.reach)*passC n+passC n<=(n+1 - x.reach)*passC n:=by
  have h7:(n+1 - y.reach+1)*passC n<=(n+1 - x.reach)*passC n:=Nat.mul_le_mul_right _ (by omega);rw[Nat.add_mul,Nat.one_mul] at h7;exact h7
 have h8:passC n=4*(n*n)+2*n+2:=rfl;omega
theorem rank_mu (hd:x.done=false) (h:x.ranked < n):mu n (rank1 k x) < mu n x:=by
 unfold mu;rw[show (rank1 k x).done=x.done from rfl,hd,if_neg (by simp),if_neg (by simp)];show 1+((n+1 - x.reach)*passC n+costs x.stack+mCost x+(n - (x.ranked+1))) < _;omega
theorem step_ok (h:Inv s x):mu s.length (stepS (keyS s x) s.length x) < mu s.length x/\
  (((stepS (keyS s x) s.length x).done=true/\(stepS (keyS s x) s.length x).order=sortP s s.length)\/Inv s (stepS (keyS s x) s.length x)):=by
 have hj:=Znr h.bs h.ph;have hjm:=join_mu h.bs h.ph
 have hjk:keyS s (joinS x)=keyS s x/\Cls s (joinS x):=by
  unfold joinS;split
  ·exact⟨rfl,h.cls⟩
  ·split
   ·exact⟨rfl,h.cls⟩
   ·exact⟨rfl,h.cls⟩
 unfold stepS;rw[<-hjm];generalize joinS x=y at *;obtain⟨hb,hp,hm⟩:=hj;obtain⟨hk,hc⟩:=hjk;rw[<-hk] at hp ⊢;have hnd:=hb.nd;unfold restS
 by_cases q1:0 < y.merge.hi/\y.laid < y.merge.mid - y.merge.lo
 ·rw[if_pos q1];obtain⟨b1,b2⟩:=Zyg hb hp q1.1 q1.2;refine⟨?_,.inr ⟨b1,hc,b2⟩⟩;rw[mu_eq hnd,mu_eq (x:=layS y) hnd,Zbl (x:=y) (by omega),Zbl (x:=layS y) (by show ¬ y.merge.hi=0;omega)];show 1+((s.length+1 - y.reach)*passC s.length+costs y.stack+(y.merge.mid - y.merge.lo - (y.laid+1)+(y.merge.hi - toS y))+(s.length - y.ranked)) < _;omega
 ·rw[if_neg q1]
  by_cases q2:0 < y.merge.hi
  ·rw[if_pos q2];have q3:¬ y.laid < y.merge.mid - y.merge.lo:=λz=>q1 ⟨q2,z⟩;obtain⟨b1,b2⟩:=Zyh hb hp q2 q3
   have hcl:Cls s (putS (keyS s y) y):=by
    unfold putS moveS;split
    ·split <;> exact hc
    ·split <;> exact hc
   have hky:keyS s (putS (keyS s y) y)=keyS s y:=by
    unfold putS moveS;split
    ·split <;> rfl
    ·split <;> rfl
   refine⟨?_,.inr ⟨b1,hcl,by rw[hky];exact b2⟩⟩;rcases hp with hp|⟨R,hp⟩
   ·have:=hp.none;omega
   have hm1:=hp.m1;have hm2:=hp.m2;have hlay:=hp.lay
   obtain⟨v,f,c,e,_,_,_,_,t1,_⟩:=Zmg hb hp (by omega);obtain⟨_,_,_,l4,_⟩:=hp.late (by omega);unfold putS;rw[e];rw[mu_eq hnd,Zbl (x:=y) (by omega)];split
   ·rename_i q;rw[mu_eq (by exact hnd),Zb9 (by rfl)];show 1+((s.length+1 - y.reach)*passC s.length+costs y.stack+0+(s.length - y.ranked)) < _;omega
   ·rename_i q;rw[mu_eq (by exact hnd),Zbl (by show ¬ y.merge.hi=0;omega)];show 1+((s.length+1 - y.reach)*passC s.length+costs y.stack+(y.merge.mid - y.merge.lo - y.laid+(y.merge.hi - (y.merge.lo+f+c - y.merge.mid)))+(s.length - y.ranked)) < _;omega
  ·rw[if_neg q2]
   by_cases q3:y.stack≠[]
   ·rw[if_pos q3];obtain⟨b1,b2⟩:=Zox hb hp q2 q3 (hm (by omega))
    have hcl:Cls s (beginS y):=by
     unfold beginS;split
     ·exact hc
     ·split <;> exact hc
    have hky:keyS s (beginS y)=keyS s y:=by
     unfold beginS;split
     ·rfl
     ·split <;> rfl
    refine⟨?_,.inr ⟨b1,hcl,by rw[hky];exact b2⟩⟩;rcases hp with hp|⟨R,hp⟩
    rotate_left
    ·have:=hp.m2;omega
    unfold beginS;split
    ·rename_i e;exact absurd e q3
    ·rename_i p st e;have hw:=hp.wf;rw[e] at hw;have h0:=hw.1;have hmid:=hm (by omega) p st e;obtain⟨lo,mid,hi⟩:=p;simp only at hmid h0;subst hmid;have ec:costs (⟨lo,0,hi⟩::st)=cost ⟨lo,0,hi⟩+costs st:=rfl;rw[mu_eq hnd,Zb9 (show y.merge.hi=0 by omega),e,ec];split
     ·rename_i q;rw[mu_eq (by exact hnd),Zb9 (by show y.merge.hi=0;omega)]
      have h9:1<=cost ⟨lo,0,hi⟩:=by
       unfold cost;rw[if_pos rfl];have:1<=(hi - lo)*(hi - lo):=Nat.mul_pos (by omega) (by omega);simp only;omega
      show 1+((s.length+1 - y.reach)*passC s.length+costs st+0+(s.length - y.ranked)) < _;omega
     ·rename_i q;simp only at q;rw[mu_eq (by exact hnd),Zb9 (by show y.merge.hi=0;omega)];have h9:=begin_cost (lo:=lo) (hi:=hi) (by omega);show 1+((s.length+1 - y.reach)*passC s.length+(cost ⟨lo,0,(lo+hi)/2⟩+(cost ⟨(lo+hi)/2,0,hi⟩+(cost ⟨lo,(lo+hi)/2,hi⟩+costs st)))+0+(s.length - y.ranked)) < _;omega
   ·rw[if_neg q3];have q4:y.stack=[]:=Classical.byContradiction q3;have hi:Inv s y:=⟨hb,hc,hp⟩;obtain⟨_,_,hkn,hgo,_⟩:=Zmc hb hp q2 q4;unfold rankS;split
    ·rename_i q;have:=Zux hi q2 q4 q;simp only at this;rcases this with⟨p1,p2⟩|⟨p1,p2,p3,p4,p5,p6,p7⟩
     ·refine⟨?_,.inl ⟨p1,p2⟩⟩;unfold mu;rw[p1,hnd,if_pos rfl,if_neg (by simp)];omega
     ·exact⟨pass_mu hnd p1 p3 p4 p5 p6 p7,.inr p2⟩
    ·rename_i q;obtain⟨b1,b2⟩:=hgo (by omega);exact⟨rank_mu hnd hkn,.inr ⟨b1,hc,b2⟩⟩
def start (n:Nat):SS:=⟨List.range n,List.replicate n 0,List.replicate n 0,0,[⟨0,0,n⟩],⟨0,0,0⟩,0,0,0,0,0,false⟩
theorem Zv0 (h:2<=s.length):Inv s (start s.length):=by
 have hsg:seg (List.range s.length) 0 s.length=List.range s.length:=by
  unfold seg;rw[drop_zero,Nat.sub_zero,gK (by simp)]
 refine⟨⟨h,by simp[start],by simp[start],by simp[start],λa ha=>mem_range.1 ha,rfl⟩,.inl rfl,.inl ⟨rfl,.refl _,⟨⟨by show 0 < s.length;omega,Nat.le_refl _⟩,?_,trivial⟩,?_,λ_=>rfl,by show 0 < s.length;omega,λi hi=>absurd hi (Nat.not_lt_zero i),λz=>absurd z (Nat.lt_irrefl 0)⟩⟩
 ·unfold Cond;rw[if_pos rfl];show (seg (List.range s.length) 0 s.length).Pairwise _;rw[hsg,pairwise_iff_getElem];intro i j hi hj hij _;rw[getElem_range,getElem_range];omega
 ·show (ap _ ⟨0,0,s.length⟩ (List.range s.length)).Pairwise _;unfold ap rep;simp only;rw[hsg,take_zero,hO_,drop_of_length_le (by simp),gU];exact Zar _ _
theorem mu_start (hn:n<=4000):mu n (start n)<=300000000000:=by
 unfold mu;rw[if_neg (by simp[start])];show 1+((n+1 - 0)*passC n+(cost ⟨0,0,n⟩+0)+0+(n - 0))<=_;have h1:n*n<=4000*4000:=Nat.mul_le_mul hn hn
 have h2:passC n<=4*(4000*4000)+2*4000+2:=by unfold passC;omega
 have h3:(n+1 - 0)*passC n<=4001*(4*(4000*4000)+2*4000+2):=Nat.mul_le_mul (by omega) h2
 have h4:cost ⟨0,0,n⟩=4*(n*n):=by unfold cost;rw[if_pos rfl];rfl
 rw[h4];omega
end Go.Mr
namespace Go.Mp
open Go.M01 Go.Mb
inductive Res (σ:Type) where
 |short
 |bad (e:Nat)
 |ok (s:σ) (k:Nat)
def lead:List Bool->Nat
 |true::l=>lead l+1
 |_=>0
def front (o:List Nat) (i:Nat):List Nat:=o.getD i 0::(o.take i++o.drop (i+1))
theorem Zu4 {o:List Nat}{i:Nat}(h:i < o.length):(front o i).length=o.length:=by
 simp only[front,length_cons,gD,gN,gS];omega
structure PS where
 t:Nat
 count:Nat
 order:List Nat
 picks:List Nat
def p0:PS:=⟨0,0,[0,1,2,3,4,5],[]⟩
def PS.done (p:PS):Bool:=decide (0 < p.count/\p.picks.length=p.count)
structure PS.Ok (p:PS):Prop where
 ord:p.order.length=6
 cnt:p.count<=32767
 len:p.picks.length<=p.count
 new:p.count=0->p.t=0/\p.order=[0,1,2,3,4,5]
 tbl:0 < p.count->2<=p.t/\p.t<=6
 low:∀ i,i < p.t->p.order.getD i 0 < p.t
 pks:∀ x∈p.picks,x < p.t
theorem p0_ok:p0.Ok:=⟨rfl,by decide,by decide,λ_=>⟨rfl,rfl⟩,λh=>absurd h (by decide),λi h=>absurd h (Nat.not_lt_zero i),λx h=>by cases h⟩
structure DS where
 size:Nat
 now:Nat
 lens:List Nat
def d0 (size:Nat):DS:=⟨size,0,[]⟩
def DS.done (d:DS):Bool:=decide (d.lens.length=d.size)
def turn (d:DS) (n:Int) (k:Nat):Res DS:=if n < 1\/20 < n then .bad 22 else .ok ⟨d.size,n.toNat,d.lens⟩ k
structure DS.Ok (d:DS):Prop where
 now:d.now<=20
 len:d.lens.length<=d.size
 all:∀ x∈d.lens,1<=x/\x<=20
end Go.Mp
namespace Go.M10
open Go.M01 Go.Mb
def nx (lens:List Nat):Nat->Nat
 |0=>0
 |n+1=>2*nx lens n+lens.count (n+1)
def fst_ (lens:List Nat) (n:Nat):Nat:=2*nx lens (n - 1)
def grp (lens:List Nat) (k n:Nat):List Nat:=(List.range k).filter λi=>decide (lens.getD i 0=n)
def upto (lens:List Nat):Nat->List Nat
 |0=>[]
 |n+1=>upto lens n++grp lens lens.length (n+1)
def frm (lens:List Nat) (n:Nat):Nat:=(upto lens (n - 1)).length
def share (lens:List Nat):Nat:=(lens.map λx=>2^(20 - x)).sum
def Sized (lens:List Nat):Prop:=∀ x∈lens,1<=x/\x<=20
structure Whole (lens:List Nat):Prop where
 sized:Sized lens
 share:share lens=1048576
theorem Ztr (lens:List Nat) (n:Nat):∀ k,k<=lens.length->(grp lens k n).length=(lens.take k).count n:=by
 intro k
 induction k with
 |zero=>intro _;simp[grp]
 |succ k ih=>
  intro hk;have:=ih (by omega);unfold grp at this ⊢;have hg:lens[k]?=some lens[k]:=gA (by omega);rw[range_succ,List.filter_append,gD,this,Zdg hg,List.count_append]
  congr 1
  have hd:lens.getD k 0=lens[k]:=by rw[gB,hg];rfl
  rw[filter_cons,hd,List.filter_nil,count_cons,List.count_nil]
  by_cases h:lens[k]=n
  ·rw[if_pos (by simpa using h),if_pos (by simpa using h)];rfl
  ·rw[if_neg (by simpa using h),if_neg (by simpa using h)];rfl
theorem Zpg (lens:List Nat) (n:Nat):(grp lens lens.length n).length=lens.count n:=by
 rw[Ztr lens n _ (Nat.le_refl _),hF_]
theorem Yd6 (lens:List Nat) (n:Nat) (h:1<=n):frm lens (n+1)=frm lens n+lens.count n:=by
 obtain⟨m,rfl⟩:∃ m,n=m+1:=⟨n - 1,by omega⟩;unfold frm;rw[Nat.add_sub_cancel,Nat.add_sub_cancel,upto,gD,Zpg]
theorem nx_eq (lens:List Nat) (n:Nat) (h:1<=n):nx lens n=fst_ lens n+lens.count n:=by
 obtain⟨m,rfl⟩:∃ m,n=m+1:=⟨n - 1,by omega⟩;rw[nx,fst_,Nat.add_sub_cancel]
def shareTo (lens:List Nat) (n:Nat):Nat:=(lens.map λx=>if x<=n then 2^(20 - x) else 0).sum
theorem Zm2 (lens:List Nat) (n:Nat):shareTo lens (n+1)=shareTo lens n+lens.count (n+1)*2^(20 - (n+1)):=by
 induction lens with
 |nil=>simp[shareTo]
 |cons x l ih=>
  simp only[shareTo,hR_,hQ_] at ih ⊢;rw[ih,count_cons]
  by_cases h1:x<=n
  ·rw[if_pos (by omega),if_pos h1,if_neg (by simp;omega)];simp;omega
  ·by_cases h2:x=n+1
   ·subst h2;rw[if_pos (by omega),if_neg h1,if_pos (by simp),Nat.add_mul];omega
   ·rw[if_neg (by omega),if_neg h1,if_neg (by simpa using h2)];simp
theorem Zy1 {lens:List Nat}(hs:Sized lens):∀ n,n<=20->nx lens n*2^(20 - n)=shareTo lens n:=by
 intro n
 induction n with
 |zero=>
  intro _
  have:∀ l:List Nat,(∀ x∈l,1<=x)->shareTo l 0=0:=by
   intro l
   induction l with
   |nil=>intro _;rfl
   |cons x l ih=>
    intro h;simp only[shareTo,hR_,hQ_] at ih ⊢;rw[ih λy hy=>h y (hK_ _ hy),if_neg (by have:=h x hJ_;omega)]
  rw[this lens λx hx=>(hs x hx).1];simp[nx]
 |succ n ih=>
  intro hn;rw[Zm2,<-ih (by omega),nx,Nat.add_mul]
  congr 1
  rw[show 20 - n=(20 - (n+1))+1 by omega,Nat.pow_succ];rw[Nat.mul_comm 2,Nat.mul_assoc,Nat.mul_comm 2]
theorem Zq7 {lens:List Nat}(hs:Sized lens):shareTo lens 20=share lens:=by
 induction lens with
 |nil=>rfl
 |cons x l ih=>
  simp only[shareTo,share,hR_,hQ_] at ih ⊢;rw[ih λy hy=>hs y (hK_ _ hy),if_pos (hs x hJ_).2]
theorem nx_20 {lens:List Nat}(h:Whole lens):nx lens 20=1048576:=by
 have:=Zy1 h.sized 20 (by omega);rw[Zq7 h.sized,h.share] at this;omega
theorem Yaf (lens:List Nat) (n:Nat):2*nx lens n<=nx lens (n+1):=by rw[nx];omega
theorem Ybm (lens:List Nat) (n:Nat):∀ k,nx lens n*2^k<=nx lens (n+k):=by
 intro k
 induction k with
 |zero=>simp
 |succ k ih=>
  have:=Yaf lens (n+k);rw[Nat.pow_succ,<-Nat.mul_assoc,<-hG_];omega
theorem nx_le {lens:List Nat}(h:Whole lens) (n:Nat) (hn:n<=20):nx lens n<=2^n:=by
 have h1:=Ybm lens n (20 - n);rw[show n+(20 - n)=20 by omega,nx_20 h] at h1
 have h2:2^n*2^(20 - n)=1048576:=by rw[<-Nat.pow_add,show n+(20 - n)=20 by omega]
 rw[<-h2] at h1;exact Nat.le_of_mul_le_mul_right h1 (Nat.two_pow_pos _)
theorem Yce (lens:List Nat) (h:Sized lens):∀ n,n<=20->(upto lens n).length<=lens.length:=by
 have key:∀ n,(upto lens n).length=(lens.filter λx=>decide (1<=x/\x<=n)).length:=by
  intro n
  induction n with
  |zero=>
   have:∀ l:List Nat,(l.filter λx=>decide (1<=x/\x<=0))=[]:=λl=>by
    rw[List.filter_eq_nil_iff];intro x _;simp;omega
   rw[this];rfl
  |succ n ih=>
   rw[upto,gD,ih,Zpg];clear ih h
   induction lens with
   |nil=>rfl
   |cons x l ih=>
    rw[count_cons,filter_cons,filter_cons]
    by_cases h1:1<=x/\x<=n
    ·rw[if_pos (by simpa using h1),if_neg (by simp;omega),if_pos (by simp;omega)];simp only[length_cons];omega
    ·by_cases h2:x=n+1
     ·subst h2;rw[if_neg (by simp),if_pos (by simp),if_pos (by simp)];simp only[length_cons];omega
     ·rw[if_neg (by simpa using h1),if_neg (by simpa using h2),if_neg (by simp;omega)];omega
 intro n _;rw[key];exact List.length_filter_le _ _
def codeN (lens:List Nat) (i:Nat):Nat:=fst_ lens (lens.getD i 0)+(lens.take i).count (lens.getD i 0)
def codeB (lens:List Nat) (i:Nat):List Bool:=bitsOf (codeN lens i) (lens.getD i 0)
theorem Zw0 {lens:List Nat}{i n:Nat}(hi:i < lens.length) (hn:lens.getD i 0=n):(lens.take i).count n < lens.count n:=by
 have hg:lens[i]?=some lens[i]:=gA hi;have h1:lens=lens.take i++lens.drop i:=(hN_ i lens).symm
 have h2:lens.count n=(lens.take i).count n+(lens.drop i).count n:=by
  conv=>lhs;rw[h1,List.count_append]
 have h3:0 < (lens.drop i).count n:=by
  rw[List.count_pos_iff]
  have:(lens.drop i)[0]?=some lens[i]:=by rw[hH_,Nat.add_zero,hg]
  have:=List.mem_of_getElem? this
  have h4:lens.getD i 0=lens[i]:=by rw[gB,hg];rfl
  rw[<-hn,h4];exact this
 omega
theorem Zx4 {lens:List Nat}{i:Nat}(hi:i < lens.length) (h1:1<=lens.getD i 0):codeN lens i < nx lens (lens.getD i 0):=by
 rw[nx_eq _ _ h1,codeN];have:=Zw0 hi rfl;omega
theorem valB_bitsOf (v n:Nat) (h:v < 2^n):valB (bitsOf v n)=v:=by
 have key:∀ i,i<=n->valB ((bitsOf v n).take i)=v/2^(n - i):=by
  intro i
  induction i with
  |zero=>intro _;rw[take_zero,Zv6,Nat.sub_zero,Nat.div_eq_of_lt h]
  |succ i ih=>
   intro hi;rw[Zj8 v n i (by omega),Zc2,ih (by omega)];have h2:=Zrx v (n - (i+1));rw[Nat.and_one_is_mod] at h2;rw[show n - 1 - i=n - (i+1) by omega,<-h2,show n - i=(n - (i+1))+1 by omega,Nat.pow_succ,<-Nat.div_div_eq_div_mul];omega
 have:=key n (Nat.le_refl _);rw[gK (by rw[Za4];omega),Nat.sub_self] at this;simpa using this
theorem Zx1:∀ {n:Nat}{a b:List Bool},a.length=n->b.length=n->valB a=valB b->a=b:=by
 intro n
 induction n with
 |zero=>intro a b ha hb _;rw[List.length_eq_zero_iff.1 ha,List.length_eq_zero_iff.1 hb]
 |succ n ih=>
  intro a b ha hb h
  have hane:a≠[]:=by rintro rfl;simp at ha
  have hbne:b≠[]:=by rintro rfl;simp at hb
  rw[<-List.dropLast_concat_getLast hane,<-List.dropLast_concat_getLast hbne] at h ⊢;rw[Zc2,Zc2] at h;have h1:=Bool.toNat_le (a.getLast hane);have h2:=Bool.toNat_le (b.getLast hbne);rw[ih (a:=a.dropLast) (b:=b.dropLast) (by simp[ha]) (by simp[hb]) (by omega)]
  have h3:(a.getLast hane).toNat=(b.getLast hbne).toNat:=by omega
  generalize a.getLast hane=x at *;generalize b.getLast hbne=y at *
  cases x <;> cases y <;> simp_all
end Go.M10
namespace Go.Mh
def lt (W:List Nat) (x y:Nat):Prop:=W.getD x 0 < W.getD y 0\/(W.getD x 0=W.getD y 0/\x < y)
instance (W:List Nat) (x y:Nat):Decidable (lt W x y):=inferInstanceAs (Decidable (_\/_))
theorem Zxk {W:List Nat}{x y:Nat}(h:lt W x y):¬ lt W y x:=by unfold lt at *;omega
theorem Zc7 {W:List Nat}{x y z:Nat}(h:lt W x y) (h2:lt W y z):lt W x z:=by unfold lt at *;omega
def IsLeast (W V:List Nat) (x:Nat):Prop:=x∈V/\∀ y∈V,y≠x->lt W x y
theorem IsLeast.uniq {W V:List Nat}{x y:Nat}(h:IsLeast W V x) (h2:IsLeast W V y):x=y:=
 Classical.byContradiction λhne=>Zxk (h.2 y h2.1 λe=>hne e.symm) (h2.2 x h.1 hne)
theorem IsLeast.perm {W V V':List Nat}{x:Nat}(h:IsLeast W V x) (p:V.Perm V'):IsLeast W V' x:=
 ⟨p.mem_iff.1 h.1,λy hy=>h.2 y (p.mem_iff.2 hy)⟩
structure HS where
 W:List Nat
 I:List (Option Nat)
 V:List Nat
def h0 (w:List Nat):HS:=⟨w,List.replicate w.length none,List.range w.length⟩
structure Join (s s':HS) (a b:Nat):Prop where
 la:IsLeast s.W s.V a
 lb:IsLeast s.W (s.V.erase a) b
 W:s'.W=s.W++[s.W.getD a 0+s.W.getD b 0]
 I:s'.I=((s.I.set a (some s.W.length)).set b (some s.W.length))++[none]
 V:s'.V.Perm (s.W.length::(s.V.erase a).erase b)
inductive Joins (s0:HS):Nat->HS->Prop
 |start:Joins s0 0 s0
 |next {k:Nat} {s s':HS} {a b:Nat} (h:Joins s0 k s) (j:Join s s' a b):Joins s0 (k+1) s'
theorem Joins.det {s0:HS}{k:Nat}{s:HS}(h:Joins s0 k s):∀ {s2:HS},Joins s0 k s2->s.W=s2.W/\s.I=s2.I/\s.V.Perm s2.V:=by
 induction h with
 |start=>intro s2 h2;cases h2;exact⟨rfl,rfl,.refl _⟩
 |next h j ih=>
  intro s2 h2
  cases h2 with
  |next h' j'=>
   obtain⟨hW,hI,hV⟩:=ih h';have ha:=(j.la.perm hV);rw[hW] at ha;obtain rfl:=ha.uniq j'.la;have hb:=(j.lb.perm (hV.erase _));rw[hW] at hb;obtain rfl:=hb.uniq j'.lb;refine⟨by rw[j.W,j'.W,hW],by rw[j.I,j'.I,hI,hW],?_⟩;refine j.V.trans (.trans ?_ j'.V.symm);rw[hW];exact .cons _ ((hV.erase _).erase _)
structure Good (s:HS):Prop where
 nodup:s.V.Nodup
 lt:∀ x∈s.V,x < s.W.length
 len:s.I.length=s.W.length
 live:∀ x∈s.V,s.I[x]?=some none
 dead:∀ x,x < s.W.length->x∉s.V->∃ p,s.I[x]?=some (some p)/\x < p/\p < s.W.length
theorem good0 (w:List Nat):Good (h0 w):=
 ⟨nodup_range,λx hx=>mem_range.1 hx,by simp[h0],λx hx=>by
  have:=mem_range.1 hx
  simp[h0,this],λx hx hn=>absurd (mem_range.2 hx) hn⟩
theorem Zj2 {s s':HS}{a b:Nat}(hg:Good s) (j:Join s s' a b):a≠b:=by
 rintro rfl;exact (List.Nodup.not_mem_erase hg.nodup) j.lb.1
theorem Zu8 {s s':HS}{a b:Nat}(hg:Good s) (j:Join s s' a b):Good s'/\s'.V.length+1=s.V.length/\s'.W.length=s.W.length+1:=by
 have hne:=Zj2 hg j;have ha:=hg.lt a j.la.1;have hbm:b∈s.V:=mem_of_mem_erase j.lb.1;have hb:=hg.lt b hbm;have hn2:((s.V.erase a).erase b).Nodup:=(hg.nodup.erase a).erase b
 have hmem:∀ x,x∈(s.V.erase a).erase b↔x∈s.V/\x≠a/\x≠b:=by
  intro x;rw[(hg.nodup.erase a).mem_erase_iff,hg.nodup.mem_erase_iff]
  constructor
  ·rintro⟨h1,h2,h3⟩;exact⟨h3,h2,h1⟩
  ·rintro⟨h1,h2,h3⟩;exact⟨h3,h2,h1⟩
 have hWl:s'.W.length=s.W.length+1:=by rw[j.W];simp
 have hIl:((s.I.set a (some s.W.length)).set b (some s.W.length)).length=s.W.length:=by rw[hX_,hX_,hg.len]
 have hget:∀ x,x < s.W.length->s'.I[x]?=if x=b then some (some s.W.length) else if x=a then some (some s.W.length) else s.I[x]?:=by
  intro x hx;rw[j.I,gM (by rw[hIl];exact hx),getElem?_set,getElem?_set]
  by_cases h1:x=b
  ·subst h1;rw[if_pos rfl,if_pos rfl,if_pos (by rw[hX_,hg.len];exact hx)]
  ·rw[if_neg (λe:b=x=>h1 e.symm),if_neg h1]
   by_cases h2:x=a
   ·subst h2;rw[if_pos rfl,if_pos rfl,if_pos (by rw[hg.len];exact hx)]
   ·rw[if_neg (λe:a=x=>h2 e.symm),if_neg h2]
 have hV:∀ x,x∈s'.V↔x=s.W.length\/(x∈s.V/\x≠a/\x≠b):=by
  intro x;rw[j.V.mem_iff,mem_cons,hmem]
 refine⟨⟨?_,?_,?_,?_,?_⟩,?_,hWl⟩
 ·rw[j.V.nodup_iff,List.nodup_cons];exact⟨λh=>by have:=hg.lt _ ((hmem _).1 h).1;omega,hn2⟩
 ·intro x hx;rw[hWl];rcases (hV x).1 hx with h|h
  ·omega
  ·have:=hg.lt x h.1;omega
 ·rw[j.I,gD,hIl,hWl];rfl
 ·intro x hx;rcases (hV x).1 hx with h|⟨h,h1,h2⟩
  ·subst h;rw[j.I,gT (by rw[hIl];exact Nat.le_refl _),hIl,Nat.sub_self];rfl
  ·rw[hget x (hg.lt x h),if_neg h2,if_neg h1];exact hg.live x h
 ·intro x hx hn;rw[hWl] at hx ⊢;have hxn:x≠s.W.length:=λe=>hn ((hV x).2 (.inl e))
  have hx':x < s.W.length:=by omega
  rw[hget x hx']
  by_cases h1:x=b
  ·rw[if_pos h1];exact⟨_,rfl,by omega,by omega⟩
  ·rw[if_neg h1]
   by_cases h2:x=a
   ·rw[if_pos h2];exact⟨_,rfl,by omega,by omega⟩
   ·rw[if_neg h2];obtain⟨p,h3,h4,h5⟩:=hg.dead x hx' λh=>hn ((hV x).2 (.inr ⟨h,h2,h1⟩));exact⟨p,h3,h4,by omega⟩
 ·have:=j.V.length_eq;rw[this,length_cons,List.length_erase_of_mem j.lb.1,List.length_erase_of_mem j.la.1];have h1:=List.length_pos_of_mem j.la.1;have h2:=List.length_pos_of_mem j.lb.1;rw[List.length_erase_of_mem j.la.1] at h2;omega
theorem Zbz {w:List Nat}{k:Nat}{s:HS}(h:Joins (h0 w) k s):Good s/\s.V.length+k=w.length/\s.W.length=w.length+k:=by
 induction h with
 |start=>exact⟨good0 w,by simp[h0],rfl⟩
 |next h j ih=>
  obtain⟨h1,h2,h3⟩:=Zu8 ih.1 j;exact⟨h1,by omega,by omega⟩
inductive Up (I:List (Option Nat)):Nat->Nat->Nat->Prop
 |here (x:Nat):Up I x 0 x
 |up {x p k y:Nat} (h:I[x]?=some (some p)) (u:Up I p k y):Up I x (k+1) y
theorem Up.uniq {I:List (Option Nat)}{x k y:Nat}(hy:∀ p,I[y]?≠some (some p)) (h:Up I x k y):∀ {k2:Nat},Up I x k2 y->k=k2:=by
 induction h with
 |here x=>
  intro k2 h2
  cases h2 with
  |here=>rfl
  |up h u=>exact absurd h (hy _)
 |up h u ih=>
  intro k2 h2
  cases h2 with
  |here=>exact absurd h (hy _)
  |up h' u'=>
   rw[h] at h';cases h';rw[ih hy u']
theorem Up.snoc {I:List (Option Nat)}{x k y p:Nat}(h:Up I x k y) (hp:I[y]?=some (some p)):Up I x (k+1) p:=by
 induction h with
 |here x=>exact .up hp (.here _)
 |up h u ih=>exact .up h (ih hp)
theorem Up.join {s s':HS}{a b x k y:Nat}(hg:Good s) (j:Join s s' a b) (h:Up s.I x k y):Up s'.I x k y:=by
 induction h with
 |here x=>exact .here x
 |up h u ih=>
  rename_i x p k y;refine .up ?_ ih
  have hx:x < s.W.length:=by
   have:=(gH.1 h).1;rw[hg.len] at this;exact this
  have h1:x≠a:=by
   rintro rfl;rw[hg.live _ j.la.1] at h;cases h
  have h2:x≠b:=by
   rintro rfl;rw[hg.live _ (mem_of_mem_erase j.lb.1)] at h;cases h
  rw[j.I,gM (by rw[hX_,hX_,hg.len];exact hx),getElem?_set,getElem?_set,if_neg (λe=>h2 e.symm),if_neg (λe=>h1 e.symm)];exact h
def Depths (w out:List Nat):Prop:=∃ s r,Joins (h0 w) (w.length - 1) s/\s.V=[r]/\out.length=w.length/\∀ i,i < w.length->Up s.I i (out.getD i 0) r
theorem Depths.uniq {w out out2:List Nat}(h:Depths w out) (h2:Depths w out2):out=out2:=by
 obtain⟨s,r,hj,hr,hl,hu⟩:=h;obtain⟨s2,r2,hj2,hr2,hl2,hu2⟩:=h2;obtain⟨hW,hI,hV⟩:=hj.det hj2;rw[hr,hr2] at hV
 have hrr:r=r2:=by have:=hV.mem_iff.1 (mem_singleton.2 rfl);exact mem_singleton.1 this
 subst hrr;have hg:=(Zbz hj).1
 have hroot:∀ p,s.I[r]?≠some (some p):=λp e=>by rw[hg.live r (by rw[hr];exact mem_singleton.2 rfl)] at e;cases e
 apply List.ext_getElem (by omega);intro i h3 h4;have h5:=hu i (by omega);have h6:=hu2 i (by omega);rw[<-hI] at h6;have:=h5.uniq hroot h6;rw[gB,gA h3,gB,gA h4] at this;exact this
structure Queue (n:Nat) (s:HS) (lf:List Nat) (j:Nat):Prop where
 perm:s.V.Perm (lf++List.range' j (s.W.length - j))
 jn:n<=j/\j<=s.W.length
 lfn:∀ x∈lf,x < n
 sorted:lf.Pairwise (lt s.W)
 mono:∀ x y,n<=x->x<=y->y < s.W.length->s.W.getD x 0<=s.W.getD y 0
 sum:∀ x∈s.V,∀ y∈s.V,x≠y->∀ c,n<=c->c < s.W.length->s.W.getD c 0<=s.W.getD x 0+s.W.getD y 0
def head (W lf:List Nat) (j:Nat):Nat:=match lf with
 |[]=>j
 |x::_=>if j=W.length\/W.getD x 0<=W.getD j 0 then x else j
def tail1 (W lf:List Nat) (j:Nat):List Nat:=match lf with
 |[]=>[]
 |x::l=>if j=W.length\/W.getD x 0<=W.getD j 0 then l else x::l
def tail2 (W lf:List Nat) (j:Nat):Nat:=match lf with
 |[]=>j+1
 |x::l=>if j=W.length\/W.getD x 0<=W.getD j 0 then j else j+1
theorem Zfl {W lf:List Nat}{n j:Nat}(hj:n<=j/\j<=W.length) (hl:∀ x∈lf,x < n) (hs:lf.Pairwise (lt W)) (hm:∀ x y,n<=x->x<=y->y < W.length->W.getD x 0<=W.getD y 0)
  (hne:lf++List.range' j (W.length - j)≠[]) :
  IsLeast W (lf++List.range' j (W.length - j)) (head W lf j)/\((lf++List.range' j (W.length - j)).erase (head W lf j)).Perm (tail1 W lf j++List.range' (tail2 W lf j) (W.length - tail2 W lf j))/\
   (n<=tail2 W lf j/\tail2 W lf j<=W.length)/\(∀ x∈tail1 W lf j,x < n)/\(tail1 W lf j).Pairwise (lt W):=by
 have hjl:∀ y,y∈List.range' j (W.length - j)->j<=y/\y < W.length:=λy hy=>by
  have:=List.mem_range'_1.1 hy;omega
 have jless:j < W.length->∀ y,y∈List.range' j (W.length - j)->y≠j->lt W j y:=λh y hy hyj=>by
  have h1:=hjl y hy;have h2:=hm j y hj.1 h1.1 h1.2;unfold lt;omega
 have split:j < W.length->List.range' j (W.length - j)=j::List.range' (j+1) (W.length - (j+1)):=λh=>by
  rw[show W.length - j=(W.length - (j+1))+1 by omega,List.range'_succ]
 cases lf with
 |nil=>
  have hlt:j < W.length:=by
   rcases hU_ j W.length with h|h
   ·exact h
   ·rw[show W.length - j=0 by omega] at hne;exact absurd rfl hne
  simp only[head,tail1,tail2,hO_];rw[split hlt];refine⟨⟨hJ_ ..,λy hy hyj=>?_⟩,?_,by omega,by simp,by simp⟩
  ·rw[<-split hlt] at hy;exact jless hlt y hy hyj
  ·rw[List.erase_cons_head]
 |cons x l=>
  have hx:=hl x (hJ_ ..);have hxl:=(pairwise_cons.1 hs);simp only[head,tail1,tail2]
  by_cases hc:j=W.length\/W.getD x 0<=W.getD j 0
  ·rw[if_pos hc,if_pos hc,if_pos hc];refine⟨⟨by simp,λy hy hyx=>?_⟩,?_,hj,λy hy=>hl y (hK_ _ hy),hxl.2⟩
   ·rcases hT_.1 hy with hy|hy
    ·rcases mem_cons.1 hy with hy|hy
     ·exact absurd hy hyx
     ·exact hxl.1 y hy
    ·have h1:=hjl y hy;have h2:=hm j y hj.1 h1.1 h1.2;unfold lt;omega
   ·rw[List.cons_append,List.erase_cons_head]
  ·rw[if_neg hc,if_neg hc,if_neg hc]
   have hlt:j < W.length:=by omega
   have hlj:lt W j x:=by unfold lt;omega
   have hnj:j∉x::l:=λh=>by have:=hl j h;omega
   refine⟨⟨?_,λy hy hyx=>?_⟩,?_,by omega,hl,hs⟩
   ·rw[split hlt];simp
   ·rcases hT_.1 hy with hy|hy
    ·rcases mem_cons.1 hy with hy|hy
     ·rw[hy];exact hlj
     ·exact Zc7 hlj (hxl.1 y hy)
    ·exact jless hlt y hy hyx
   ·rw[List.erase_append_right _ hnj,split hlt,List.erase_cons_head]
theorem Zbj {W:List Nat}{v x:Nat}(h:x < W.length):(W++[v]).getD x 0=W.getD x 0:=by
 rw[gB,gB,gM h]
theorem Zcz {W:List Nat}{v:Nat}:(W++[v]).getD W.length 0=v:=by
 rw[gB,gT (Nat.le_refl _),Nat.sub_self];rfl
theorem Ycr {W:List Nat}{v x y:Nat}(hx:x < W.length) (hy:y < W.length):lt (W++[v]) x y↔lt W x y:=by
 unfold lt;rw[Zbj hx,Zbj hy]
theorem Zr8 {n:Nat}{s:HS}{lf:List Nat}{j:Nat}(hg:Good s) (hq:Queue n s lf j) (h2:2<=s.V.length) :
  ∃ s' a b,a=head s.W lf j/\b=head s.W (tail1 s.W lf j) (tail2 s.W lf j)/\Join s s' a b/\
   Queue n s' (tail1 s.W (tail1 s.W lf j) (tail2 s.W lf j)) (tail2 s.W (tail1 s.W lf j) (tail2 s.W lf j))/\a < s.W.length/\b < s.W.length/\a≠b:=by
 have hlen:=hq.perm.length_eq;obtain⟨a1,a2,a3,a4,a5⟩:=Zfl hq.jn hq.lfn hq.sorted hq.mono (by intro e;rw[e,length_nil] at hlen;omega);generalize ha:head s.W lf j=a at *;have hp1:(s.V.erase a).Perm (tail1 s.W lf j++List.range' (tail2 s.W lf j) (s.W.length - tail2 s.W lf j)):=(hq.perm.erase a).trans a2;have ham:a∈s.V:=hq.perm.mem_iff.2 a1.1;have hlen1:=hp1.length_eq;rw[List.length_erase_of_mem ham] at hlen1;generalize tail1 s.W lf j=lf1 at *;generalize tail2 s.W lf j=j1 at *;obtain⟨b1,b2,b3,b4,b5⟩:=Zfl a3 a4 a5 hq.mono (by intro e;rw[e,length_nil] at hlen1;omega);generalize hb:head s.W lf1 j1=b at *;generalize tail1 s.W lf1 j1=lf2 at *;generalize tail2 s.W lf1 j1=j2 at *;have hbm:b∈s.V.erase a:=hp1.mem_iff.2 b1.1;have hbv:b∈s.V:=mem_of_mem_erase hbm;have hal:=hg.lt a ham;have hbl:=hg.lt b hbv;have hlb:IsLeast s.W (s.V.erase a) b:=b1.perm hp1.symm;have hla:IsLeast s.W s.V a:=a1.perm hq.perm.symm
 have j0:Join s ⟨s.W++[s.W.getD a 0+s.W.getD b 0],((s.I.set a (some s.W.length)).set b (some s.W.length))++[none],s.W.length::(s.V.erase a).erase b⟩ a b:=
  ⟨hla,hlb,rfl,rfl,.refl _⟩
 have hne:=Zj2 hg j0
 have hnW:n<=s.W.length:=by have:=hq.jn;omega
 have hmem:∀ x,x∈(s.V.erase a).erase b↔x∈s.V/\x≠a/\x≠b:=by
  intro x;rw[(hg.nodup.erase a).mem_erase_iff,hg.nodup.mem_erase_iff]
  constructor
  ·rintro⟨h1,h2,h3⟩;exact⟨h3,h2,h1⟩
  ·rintro⟨h1,h2,h3⟩;exact⟨h3,h2,h1⟩
 have big:∀ x,x∈s.V->x≠a->x≠b->s.W.getD b 0<=s.W.getD x 0:=by
  intro x hx h1 h3;have:=hlb.2 x ((hg.nodup.mem_erase_iff).2 ⟨h1,hx⟩) h3;unfold lt at this;omega
 have hab:s.W.getD a 0<=s.W.getD b 0:=by
  have:=hla.2 b hbv λe=>hne e.symm;unfold lt at this;omega
 refine⟨_,a,b,rfl,rfl,j0,⟨?_,?_,b4,?_,?_,?_⟩,hal,hbl,hne⟩
 ·show (s.W.length::(s.V.erase a).erase b).Perm (lf2++List.range' j2 ((s.W++[_]).length - j2));have hp2:((s.V.erase a).erase b).Perm (lf2++List.range' j2 (s.W.length - j2)):=(hp1.erase b).trans b2;rw[gD,gQ,show s.W.length+1 - j2=(s.W.length - j2)+1 by omega,List.range'_concat,show j2+1*(s.W.length - j2)=s.W.length by omega,<-gI];exact (hp2.cons _).trans (List.perm_append_singleton _ _).symm
 ·show n<=j2/\j2<=(s.W++[_]).length;rw[gD];omega
 ·refine b5.imp_of_mem λ{x y} hx hy h=>?_;exact (Ycr (by have:=b4 x hx;omega) (by have:=b4 y hy;omega)).2 h
 ·intro x y hx hxy hy;rw[gD,gQ] at hy;rcases hU_ y s.W.length with h|h
  ·rw[Zbj (by omega),Zbj h];exact hq.mono x y hx hxy h
  ·have:y=s.W.length:=by omega
   subst this;rw[Zcz];rcases hU_ x s.W.length with h3|h3
   ·rw[Zbj h3];exact hq.sum a ham b hbv hne x hx h3
   ·rw[show x=s.W.length by omega,Zcz];exact Nat.le_refl _
 ·intro x hx y hy hxy c hc1 hc2;rw[gD,gQ] at hc2
  have hcw:(s.W++[s.W.getD a 0+s.W.getD b 0]).getD c 0<=s.W.getD a 0+s.W.getD b 0:=by
   rcases hU_ c s.W.length with h|h
   ·rw[Zbj h];exact hq.sum a ham b hbv hne c hc1 h
   ·rw[show c=s.W.length by omega,Zcz];exact Nat.le_refl _
  refine Nat.le_trans hcw ?_;rcases mem_cons.1 hx with hx|hx
  ·rw[hx,Zcz];exact Nat.le_add_right _ _
  ·rcases mem_cons.1 hy with hy|hy
   ·rw[hy,Zcz];exact Nat.le_add_left _ _
   ·obtain⟨x1,x2,x3⟩:=(hmem x).1 hx;obtain⟨y1,y2,y3⟩:=(hmem y).1 hy;rw[Zbj (hg.lt x x1),Zbj (hg.lt y y1)];have:=big x x1 x2 x3;have:=big y y1 y2 y3;omega
theorem Zvo {s:HS}{r:Nat}{D:List Nat}(hg:Good s) (hV:s.V=[r]) (hD0:D.getD r 0=0) (hD:∀ i p,s.I[i]?=some (some p)->D.getD i 0=D.getD p 0+1) :
  ∀ m i,s.W.length - i<=m->i < s.W.length->Up s.I i (D.getD i 0) r:=by
 intro m
 induction m with
 |zero=>intro i h1 h2;omega
 |succ m ih=>
  intro i h1 h2
  by_cases hi:i=r
  ·subst hi;rw[hD0];exact .here _
  ·obtain⟨p,h3,h4,h5⟩:=hg.dead i h2 (by rw[hV];simpa using hi);rw[hD i p h3];exact .up h3 (ih p (by omega) h5)
def Tot (s:HS):Nat:=(s.V.map λx=>s.W.getD x 0).sum
theorem Zk9 {l l2:List Nat}(p:l.Perm l2):l.sum=l2.sum:=by
 induction p with
 |nil=>rfl
 |cons x _ ih=>rw[hQ_,hQ_,ih]
 |swap x y l=>rw[hQ_,hQ_,hQ_,hQ_];omega
 |trans _ _ h1 h2=>rw[h1,h2]
theorem Zti {s:HS}{a b:Nat}(ha:a∈s.V) (hb:b∈s.V.erase a):Tot s=s.W.getD a 0+s.W.getD b 0+(((s.V.erase a).erase b).map λx=>s.W.getD x 0).sum:=by
 unfold Tot;rw[Zk9 ((List.perm_cons_erase ha).map _),hR_,hQ_,Zk9 ((List.perm_cons_erase hb).map _),hR_,hQ_];omega
theorem Zp9 {s s':HS}{a b:Nat}(hg:Good s) (j:Join s s' a b):Tot s'=Tot s:=by
 rw[Zti j.la.1 j.lb.1];unfold Tot;rw[Zk9 (j.V.map _),hR_,hQ_,j.W,Zcz]
 congr 1
 congr 1
 refine map_congr_left λx hx=>Zbj (hg.lt x ?_);exact mem_of_mem_erase (mem_of_mem_erase hx)
theorem tot0 {w:List Nat}{m:Nat}(h:∀ x∈w,x<=m):Tot (h0 w)<=w.length*m:=by
 have:∀ l:List Nat,(∀ x∈l,x < w.length)->(l.map λx=>w.getD x 0).sum<=l.length*m:=by
  intro l
  induction l with
  |nil=>intro _;simp
  |cons x l ih=>
   intro hl;have h1:=ih λy hy=>hl y (hK_ _ hy);have hx:=hl x (hJ_ ..)
   have h2:w.getD x 0<=m:=by
    rw[gB,gA hx];exact h _ (List.getElem_mem hx)
   rw[hR_,hQ_,length_cons,Nat.succ_mul];omega
 have:=this (List.range w.length) λx hx=>mem_range.1 hx;rw[hW_] at this;exact this
theorem queue0 {w lf:List Nat}(p:lf.Perm (List.range w.length)) (hs:lf.Pairwise (lt w)):Queue w.length (h0 w) lf w.length:=by
 refine⟨?_,⟨Nat.le_refl _,Nat.le_refl _⟩,λx hx=>mem_range.1 (p.mem_iff.1 hx),hs,λx y h1 h2 h3=>?_,λx _ y _ _ c h1 h2=>?_⟩
 ·show (List.range w.length).Perm (lf++List.range' w.length (w.length - w.length));rw[Nat.sub_self,List.range'_zero,gU];exact p.symm
 ·have:y < w.length:=h3;omega
 ·have:c < w.length:=h2;omega
end Go.Mh
namespace Go.Mz
structure ZS where
 n:Nat
 most:Nat
 told:Nat
 zeros:Nat
 weight:Nat
 done:Bool
def z0 (n most:Nat):ZS:=⟨n,most,0,0,1,false⟩
structure ZS.Ok (z:ZS):Prop where
 n1:1<=z.n
 n2:z.n<=256
 most:z.most<=900000
 sum:z.told+z.zeros<=z.most
 w1:1<=z.weight
 w2:z.weight<=z.zeros+1
def frontB (o:List UInt8) (i:Nat):List UInt8:=o.getD i 0::(o.take i++o.drop (i+1))
theorem Zi3 {o:List UInt8}{i:Nat}(h:i < o.length):(frontB o i).length=o.length:=by
 simp only[frontB,length_cons,gD,gN,gS];omega
def listed (T:Nat->Bool):List UInt8:=((List.range 256).filter T).map UInt8.ofNat
theorem Ze3 (T:Nat->Bool):(listed T).length<=256:=by
 rw[listed,hS_];exact Nat.le_trans (List.length_filter_le _ _) (by simp)
theorem Zrn (T:Nat->Bool):(listed T).Pairwise λa b=>a.toNat < b.toNat:=by
 unfold listed;rw[List.pairwise_map];refine List.Pairwise.imp_of_mem (R:=λa b=>a < b) (λ{a b} ha hb h=>?_) (List.Pairwise.filter _ List.pairwise_lt_range);have h1:=mem_range.1 (mem_filter.1 ha).1;have h2:=mem_range.1 (mem_filter.1 hb).1;rw[UInt8.toNat_ofNat_of_lt' (by simpa using h1),UInt8.toNat_ofNat_of_lt' (by simpa using h2)];exact h
theorem Zm8 (T:Nat->Bool) (i:Nat) (h:i+1 < (listed T).length):((listed T).getD i 0).toNat < ((listed T).getD (i+1) 0).toNat:=by
 have:=pairwise_iff_getElem.1 (Zrn T) i (i+1) (by omega) h (by omega);rw[gB,gB,gA (by omega),gA h];exact this
open Go.M01 Go.Mb Go.Mp
def marksL (q:List Bool):List Nat:=(List.range 16).filter λi=>q.getD i false
def boolsT (T:Nat->Bool):List Bool:=(List.range 256).map T
theorem Ze0 (T:Nat->Bool):(boolsT T).length=256:=by simp[boolsT]
theorem Zqk (T:Nat->Bool) (x:Nat):(boolsT T).set x true=boolsT λb=>T b||decide (b=x):=by
 apply List.ext_getElem
 ·simp[boolsT]
 intro i h1 h2;rw[List.getElem_set];simp only[boolsT,List.getElem_map,getElem_range]
 by_cases h:x=i
 ·subst h;simp
 ·rw[if_neg h,decide_eq_false (λe=>h e.symm),Bool.or_false]
theorem Zqm (T:Nat->Bool){i:Nat}(h:i < 256):(boolsT T)[i]?=some (T i):=by rw[boolsT,hV_,List.getElem?_range h];rfl
theorem Zm5:boolsT (λ_=>false)=List.replicate 256 false:=by rw[boolsT,List.map_const',hW_]
end Go.Mz
namespace Go.Proofs.YtieneaffjelhhaaGreat
open Go Go.Vc Go.Proofs.Tryz
attribute [local irreducible] Vc.Nc Vc.Ld Vc.LdA Vc.St Vc.StA Vc.Fo Vc.Iaa Vc.Ias Vc.Ixs Vc.Ixa Vc.Fd Vc.FdA Vc.Bp Vc.Bb Vc.Bn Vc.Up Vc.Ci Vc.Lns Vc.Lnl Vc.Ex Vc.Sst Vc.Ssl Vc.New Vc.Vif Vc.VJoin Vc.VLoop Vc.KE Vc.Dr Vc.Rk Vc.Cl Vc.Cx Vc.Inv Vc.Be Vc.Cv Vc.Cw Vc.Mf Vc.Sl Vc.Lk Vc.Bd Vc.Bs Vc.Ms Vc.Mm Vc.Mu Vc.Me Vc.Es Vc.Rg Vc.Nx Vc.Ta Vc.Ap Vc.Usd Vc.Ust Vc.Cp Vc.Ln Vc.Bc Vc.Bmin Vc.Bmax Vc.Bdel Vc.Bclr Vc.Pk
namespace Rb
open Go.M01 Go.Mb
variable {w:World}{L:List HProp}{K:KT}{b:Nat}{B:List UInt8}{d at_ n:Nat}
abbrev tR:Nat:=150
abbrev S_ (s:List UInt8):Value:=.string ⟨s.toArray⟩
def RdR (b:Nat) (B:List UInt8) (d at_:Nat):HProp:=λh=>(8*d<=at_/\at_<=8*B.length/\B.length<=1000000000)/\blk b tR [S_ (B.drop d),nv d,nv at_] h
theorem Zay (H:Holds w (RdR b B d at_::L)):(8*d<=at_/\at_<=8*B.length/\B.length<=1000000000)/\Holds w (blk b tR [S_ (B.drop d),nv d,nv at_]::L):=Holds.pure H
theorem Zbc (h:8*d<=at_/\at_<=8*B.length/\B.length<=1000000000) (H:Holds w (blk b tR [S_ (B.drop d),nv d,nv at_]::L)):Holds w (RdR b B d at_::L):=Holds.imp H λ_ hh=>⟨h,hh⟩
theorem NewReader_spec (H:Holds w L) (hB:B.length<=1000000000) (k:∀ b w',Same w w'->Holds w' (RdR b B 0 0::L)->K (.pointer (some ⟨b,0,none⟩)) w'):Cl prog 57 #[S_ B] w K:=by
 refine Tz57 ?_;unfold Vz57;refine r_bd (v:=.agg #[S_ B,nv 0,nv 0]) (by kernel_rfl) ?_;refine r_new H λb w1 S1 H1=>?_;exact k b _ S1 (Zbc ⟨by omega,by omega,hB⟩ (by rw[drop_zero];exact H1))
theorem Zxw (H:Holds w (RdR b B d at_::L)) (k:∀ w',Same w w'->Holds w' (RdR b B d at_::L)->K (nv (8*B.length)) w'):Cl prog 299 #[.pointer (some ⟨b,0,none⟩)] w K:=by
 refine Tz299 ?_;unfold Vz299;obtain⟨hf,H⟩:=Zay H;have S:=Same.refl w
 have hs:(⟨(B.drop d).toArray⟩:ByteArray).size=B.length - d:=by show (B.drop d).toArray.size=_;simp
 repeat (first|refine Zdi (8*B.length) (by omega) (by omega) (by omega) ?_|refine r_nc ?_|refine r_fo0 ?_|refine r_lns ?_|(refine Zad (by omega) ?_)|(refine r_dr H ?_;clear H;intro _ S_ H;replace S:=S.trans S_;clear S_)|refine r_ld 0 H rfl rfl ?_)
 exact k _ S (Zbc hf H)
theorem Zhh (H:Holds w (RdR b B d at_::L)) (k:∀ w',Same w w'->Holds w' (RdR b B d at_::L)->K (nv (rest B at_).length) w'):Cl prog 289 #[.pointer (some ⟨b,0,none⟩)] w K:=by
 refine Tz289 ?_;unfold Vz289;have S:=Same.refl w
 repeat (first|(with_reducible first|refine Zab ?_|refine r_vf ?_)|(refine r_dr H ?_;clear H;intro _ S_ H;replace S:=S.trans S_;clear S_))
 rename_i w1;have H0:=H;refine Zxw H λw2 S2 H2=>?_;replace S:=S.trans S2;clear H;have H:=H2;clear H2;obtain⟨hf,H⟩:=Zay H;obtain⟨_,H0⟩:=Zay H0
 repeat (first|refine r_rk (r_ld 0 H0 rfl rfl rfl) ?_|refine r_nc ?_|refine r_fo0 ?_|(refine r_sub (by omega) (by omega) ?_)|refine r_ld 0 H rfl rfl ?_)
 rw[show ((8*B.length:Nat):Int) - (at_:Int)=((rest B at_).length:Int) by rw[Zou];omega];exact k _ S (Zbc hf H)
theorem bit_spec (H:Holds w (RdR b B d at_::L)) (h:at_ < 8*B.length) (k:∀ w',Same w w'->Holds w' (RdR b B d at_::L)->K (uv ((rest B at_).getD 0 false).toNat) w'):Cl prog 317 #[.pointer (some ⟨b,0,none⟩),nv at_] w K:=by
 refine Tz317 ?_;unfold Vz317;obtain⟨hf,H⟩:=Zay H;have S:=Same.refl w
 have hs:(⟨(B.drop d).toArray⟩:ByteArray).size=B.length - d:=by show (B.drop d).toArray.size=_;simp
 have hq:((at_:Nat):Int).tdiv 8=((at_/8:Nat):Int):=by rw[Int.tdiv_eq_ediv_of_nonneg (by omega)];simp
 have hr:((at_:Nat):Int).tmod 8=((at_%8:Nat):Int):=by rw[Int.tmod_eq_emod_of_nonneg (by omega)];simp
 repeat (first|refine Zor hq (by omega) (by omega) (by omega) ?_|refine r_nc ?_|refine r_fo0 ?_|(refine r_sub (by omega) (by omega) ?_)|(refine r_dr H ?_;clear H;intro _ S_ H;replace S:=S.trans S_;clear S_)|refine r_ld 0 H rfl rfl ?_)
 rw[show ((at_/8:Nat):Int) - (d:Int)=((at_/8 - d:Nat):Int) by omega]
 repeat (first|refine Zi6 hr (by omega) ?_|(refine Ze6 (by omega) ?_)|(refine r_sub (by omega) (by omega) ?_))
 rw[show (7:Int) - ((at_%8:Nat):Int)=((7 - at_%8:Nat):Int) by omega];refine Zfq (show 7 - at_%8<=8 by omega) ?_;refine Zzx (t:=1) (Nat.lt_of_le_of_lt (Nat.div_le_self _ _) (UInt8.toNat_lt _)) (by omega) ?_;rw[Yaj]
 have e:((⟨(B.drop d).toArray⟩:ByteArray).data.toList.getD (at_/8 - d) 0).toNat.testBit (7 - at_%8)=(rest B at_).getD 0 false:=by
  have:=Zwo B at_ 0 (by omega);rw[gB (l:=rest B at_),this];simp only[Nat.add_zero,Option.getD_some,List.toList_toArray]
  congr 2
  rw[gB,gB,hH_,show d+(at_/8 - d)=at_/8 by omega]
 rw[e];have hb:=Bool.toNat_le ((rest B at_).getD 0 false)
 repeat (refine Zav (by omega) (by omega) ?_)
 exact k _ S (Zbc hf H)
theorem Zgc (H:Holds w (RdR b B d at_::L)) (hn:n<=32)
  (ks:(rest B at_).length < n->∀ w',Same w w'->Holds w' (RdR b B d at_::L)->K (.tuple #[uv 0,iv 3]) w')
  (k:n<=(rest B at_).length->∀ w',Same w w'->Holds w' (RdR b B d (at_+n)::L)->K (.tuple #[uv (valB ((rest B at_).take n)),iv 0]) w'):Cl prog 311 #[.pointer (some ⟨b,0,none⟩),nv n] w K:=by
 refine Tz311 ?_;unfold Vz311;have S:=Same.refl w;have hf:=(Zay H).1
 repeat (first|(with_reducible first|refine Zab ?_|refine r_vf ?_))
 refine Za2 (λx w'=>w=w'/\x=.bool false) ?_ ?_
 ·rintro _ _ _ ⟨rfl,rfl⟩
  repeat (with_reducible refine r_vf ?_)
  refine Zhh H λw2 S2 H2=>?_;replace S:=S.trans S2;clear H;have H:=H2;clear H2
  repeat (refine r_lss ?_)
  refine r_ifD (λh=>?_) λh=>?_
  ·exact ks (by omega) _ S H
  have hlen:=Zou B at_;refine Zag (λv x w'=>∃ i:Nat,i<=n/\x=nv i/\v=uv (valB ((rest B at_).take i))/\Same w w'/\Holds w' (RdR b B d (at_+i)::L)) (λ_ x _=>n - (intOf x).toNat) ⟨0,by omega,rfl,rfl,S,H⟩ ?_;clear H S;rintro _ _ _ w3 ⟨i,hi,rfl,rfl,S,H⟩
  repeat (refine r_lss ?_)
  refine r_ifD (λhi2=>?_) λhi2=>?_
  ·have hlt:i < n:=by omega
   have hv:=Zlf (rest B at_) i;have hp:(2:Nat)^i<=2^31:=Nat.pow_le_pow_right (by omega) (by omega)
   have hget:(rest B at_)[i]?=some ((rest B (at_+i)).getD 0 false):=by
    rw[<-Zsx,gB,hH_,Nat.add_zero];rw[gA (show i < (rest B at_).length by omega)];rfl
   have hv2:=Zdg hget;refine Zc8 (n:=1) (by omega) ?_;have H0:=H;obtain⟨_,H0⟩:=Zay H0;refine r_nc (r_fo0 (r_ld 0 H0 rfl rfl ?_));clear H0
   (refine bit_spec H (by omega) λw2 S2 H2=>?_;replace S:=S.trans S2;clear H S2;have H:=H2;clear H2)
   generalize (rest B (at_+i)).getD 0 false=c at *;have hc:=Bool.toNat_le c;refine Znt (by omega) (by omega) ?_
   have ev:valB ((rest B at_).take i)*2^1%4294967296 ||| c.toNat=valB ((rest B at_).take (i+1)):=by
    rw[hv2,Zc2,Nat.mod_eq_of_lt (by omega),Nat.mul_comm];rw[<-Nat.two_pow_add_eq_or_of_lt (i:=1) (by omega)]
   rw[ev];obtain⟨hf2,H⟩:=Zay H
   repeat (first|refine r_nc ?_|refine r_fo0 ?_|(refine Za0 (by omega) ?_)|refine r_ld 0 H rfl rfl ?_)
   refine r_st 0 H rfl (by simp) rfl λw4 S4 H4=>?_;replace H4:Holds w4 (blk b tR [S_ (B.drop d),nv d,nv (at_+i+1)]::L):=H4;replace S:=S.trans S4;clear H
   repeat (first|refine r_ke ?_|(refine Za0 (by omega) ?_))
   refine⟨⟨i+1,by omega,rfl,rfl,S,Zbc ⟨by omega,by omega,hf.2.2⟩ H4⟩,?_⟩;simp[nv,intOf];omega
  ·obtain rfl:i=n:=by omega
   exact k (by omega) _ S H
 ·repeat (first|refine r_ke ?_|refine r_lss ?_|refine r_gtr ?_|((with_reducible refine r_vfD ?h ?_);(case h=>omega)))
  rw[decide_eq_false (by omega)]
  repeat (fail)
  exact⟨rfl,rfl⟩
end Rb
namespace Rb
open Go.M01 Go.Mb
variable {w:World}{L:List HProp}{K:KT}{b:Nat}{B:List UInt8}{d at_ n:Nat}
theorem Zuk {S2:List UInt8}(H:Holds w (RdR b B d at_::L)) (hS:B.length+S2.length<=1000000000) (k:∀ w',Same w w'->Holds w' (RdR b (B++S2) d at_::L)->K (iv 0) w'):Cl prog 283 #[.pointer (some ⟨b,0,none⟩),S_ S2] w K:=by
 refine Tz283 ?_;unfold Vz283;obtain⟨hf,H⟩:=Zay H;have S:=Same.refl w
 repeat (first|refine r_nc ?_|refine r_fo0 ?_|(with_reducible first|refine Zab ?_|refine r_vf ?_)|refine r_ld 0 H rfl rfl ?_)
 refine Zgn (by rw[gS];omega) ?_
 repeat (first|refine r_nc ?_|refine r_fo0 ?_)
 refine r_st 0 H rfl (by simp) rfl λw3 S3 H3=>?_;replace H3:Holds w3 (blk b tR [S_ (B.drop d++S2),nv d,nv at_]::L):=H3;rw[<-drop_append_of_le_length (by omega)] at H3
 repeat (fail)
 exact k _ (S.trans S3) (Zbc ⟨hf.1,by rw[gD];omega,by rw[gD];omega⟩ H3)
end Rb
namespace Rb
open Go.M01 Go.Mb
variable {w:World}{L:List HProp}{K:KT}{b:Nat}{B:List UInt8}{d at_ n:Nat}
theorem Zr1 (H:Holds w (RdR b B d at_::L)) (k:∀ w',Same w w'->Holds w' (RdR b B d (at_+(8*B.length - at_)%8)::L)->K (.tuple #[]) w'):Cl prog 316 #[.pointer (some ⟨b,0,none⟩)] w K:=by
 refine Tz316 ?_;unfold Vz316;have hf:=(Zay H).1;have S:=Same.refl w;have h0:Holds w (RdR b B d (at_+0)::L):=H;refine Zu7 (λw'=>∃ j,j<=(8*B.length - at_)%8/\Same w w'/\Holds w' (RdR b B d (at_+j)::L)) (λw'=>8*B.length - (match w'.cell? ⟨b,2,none⟩ with|some (.int _ n)=>n.toNat|_=>0)) ⟨0,Nat.zero_le _,S,h0⟩ ?_;clear H S h0;rintro _ w1 ⟨j,hj,S,H⟩;obtain⟨hf1,H⟩:=Zay H;have hc1:=H.cell 0 rfl 2;simp only[gF,List.getElem?_cons_zero] at hc1
 have hr:((at_+j:Nat):Int).tmod 8=(((at_+j)%8:Nat):Int):=by rw[Int.tmod_eq_emod_of_nonneg (by omega)];simp
 refine Za2 (λx w'=>w1=w'/\x=.bool (decide (¬ (at_+j)%8=0))) ?_ ?_
 rotate_left
 ·refine Zca (r_vt ?_);refine r_nc (r_fo0 (r_ld 0 H rfl rfl ?_));refine Zi6 hr (by omega) ?_;refine r_neq (r_ke ⟨rfl,congrArg Value.bool ?_⟩);rw[Bool.eq_iff_iff,bne_iff_ne,decide_eq_true_iff];omega
 rintro _ _ _ ⟨rfl,rfl⟩;refine r_ifD (λh=>?_) λh=>?_
 ·have hlt:j < (8*B.length - at_)%8:=by omega
  repeat (first|refine r_nc ?_|refine r_fo0 ?_|(refine Za0 (by omega) ?_)|refine r_ld 0 H rfl rfl ?_)
  refine r_st 0 H rfl (by simp) rfl λw3 S3 H3=>?_;replace H3:Holds w3 (blk b tR [S_ (B.drop d),nv d,nv (at_+j+1)]::L):=H3;have hc3:=H3.cell 0 rfl 2;simp only[gF,List.getElem?_cons_zero] at hc3
  repeat (refine r_ke ?_)
  refine⟨⟨j+1,by omega,S.trans S3,Zbc ⟨by omega,by omega,hf.2.2⟩ H3⟩,?_⟩;rw[hc1,hc3];simp only[nv,gC];omega
 ·obtain rfl:j=(8*B.length - at_)%8:=by omega
  repeat (fail)
  exact k _ S (Zbc hf1 H)
theorem Zto (H:Holds w (RdR b B d at_::L)) (k:∀ w' v,Same w w'->Holds w' (RdR b B (at_/8) at_::L)->K v w'):Cl prog 291 #[.pointer (some ⟨b,0,none⟩)] w K:=by
 refine Tz291 ?_;unfold Vz291;obtain⟨hf,H⟩:=Zay H;have S:=Same.refl w
 have hs:(⟨(B.drop d).toArray⟩:ByteArray).size=B.length - d:=by show (B.drop d).toArray.size=_;simp
 have hd:(⟨(B.drop d).toArray⟩:ByteArray).data.toList=B.drop d:=by simp
 have hq:((at_:Nat):Int).tdiv 8=((at_/8:Nat):Int):=by rw[Int.tdiv_eq_ediv_of_nonneg (by omega)];simp
 repeat (first|refine Zor hq (by omega) (by omega) (by omega) ?_|refine r_nc ?_|refine r_fo0 ?_|(with_reducible first|refine Zab ?_|refine r_vf ?_)|(refine r_sub (by omega) (by omega) ?_)|(refine r_dr H ?_;clear H;intro _ S_ H;replace S:=S.trans S_;clear S_)|refine r_ld 0 H rfl rfl ?_)
 rw[show ((at_/8:Nat):Int) - (d:Int)=((at_/8 - d:Nat):Int) by omega]
 repeat (fail)
 refine Zym (m:=at_/8 - d) (by rw[hs];omega) ?_;rw[hd,drop_drop,show d+(at_/8 - d)=at_/8 by omega]
 repeat (first|refine r_nc ?_|refine r_fo0 ?_)
 refine r_st 0 H rfl (by simp) rfl λw3 S3 H3=>?_;replace H3:Holds w3 (blk b tR [S_ (B.drop (at_/8)),nv d,nv at_]::L):=H3;refine r_nc (r_fo0 (r_ld 0 H3 rfl rfl ?_));refine Zad (by omega) ?_;rw[show d+(at_/8 - d)=at_/8 by omega];refine r_nc (r_fo0 ?_);refine r_st 0 H3 rfl (by simp) rfl λw4 S4 H4=>?_;replace H4:Holds w4 (blk b tR [S_ (B.drop (at_/8)),nv (at_/8),nv at_]::L):=H4;exact k _ _ ((S.trans S3).trans S4) (Zbc ⟨by omega,hf.2.1,hf.2.2⟩ H4)
end Rb
instance rowI:Row prog 69 3 (.int .i64 0):=⟨by kernel_rfl,⟨t3,by kernel_rfl,by kernel_rfl,by decide,by kernel_rfl⟩,rfl⟩
instance rowB:Row prog 84 5 (.int .u8 0):=⟨by kernel_rfl,⟨t5,by kernel_rfl,by kernel_rfl,by decide,by kernel_rfl⟩,rfl⟩
instance bytesB:Bytes prog 84 5 9:=⟨by kernel_rfl,by kernel_rfl,by kernel_rfl⟩
abbrev tI:Nat:=3
abbrev tB:Nat:=5
abbrev pt (b:Nat):Value:=.pointer (some ⟨b,0,none⟩)
section
variable {w:World}{L:List HProp}{K:KT}
theorem sg_nv (n:Nat):sg (nv n)=true:=rfl
theorem Zs9 (oa:Option Addr) (l c:Nat){K:Value->Prop}(k:K (.bool oa.isNone)):Be prog .eql 69 (.tmp 3) (.const (.slice none 0 0)) (.slice oa l c) (.slice none 0 0) w K:=by
 cases oa with
 |none=>exact r_be (v:=.bool true) (by kernel_rfl) k
 |some a=>exact r_be (v:=.bool false) (by kernel_rfl) k
theorem Zcd (H:Holds w L) (j:Nat){v:Value}{xs:List Nat}(hj:L[j]?=some (SL nv tI v xs)) (hn:xs.length<=1000000000) (k:∀ v' w',Same w w'->Holds w' (SL nv tI v' xs::L)->K v' w'):Cl prog 161 #[v] w K:=by
 refine Tz161 ?_;unfold Vz161;have H0:=H;obtain⟨oa,sp,rfl,H1⟩:=H0.open j hj;refine Zs9 _ _ _ ?_
 cases oa with
 |none=>
  obtain⟨g,⟨h2,_⟩,_⟩:=H1.front j (Za1 hj);subst h2;exact r_vt (k _ _ (.refl _) (H.nilSL nv tI))
 |some a=>
  refine r_vf ?_;refine r_bsK (e:=tI) [] H (by kernel_rfl) λb w1 S1 H1=>?_;have H2:=Ztb (f:=nv) 0 [] H1 rfl;rw[gJ] at H2;refine r_apS (xs:=[]) H2 0 (j+1) (by omega) rfl (by rw[gF];exact hj) sg_nv (by simp only[length_nil];omega) λv' w2 S2 H3=>?_;rw[gJ,hO_] at H3;exact k _ _ (S1.trans S2) H3
end
namespace P13
open Go.M01 Go.Mb Go.Mp Rb
variable {w:World}{L:List HProp}{K:KT}{b r:Nat}{B:List UInt8}{d at_ n:Nat}{p:PS}
abbrev tO:Nat:=296
abbrev tP:Nat:=378
def pkC (t c:Nat) (o:List Nat) (pv:Value):List Value:=[nv t,nv c]++(o.map nv++[pv,.bool false])
section
variable {t c:Nat}{o:List Nat}{pv:Value}(ho:o.length=6)
include ho
end
theorem c0 {t c:Nat}{o:List Nat}{pv:Value}:(pkC t c o pv)[0]?=some (nv t):=rfl
theorem c1 {t c:Nat}{o:List Nat}{pv:Value}:(pkC t c o pv)[1]?=some (nv c):=rfl
def PkR (b:Nat) (p:PS):HProp:=λh=>p.Ok/\∃ pv,Sat [blk b tP (pkC p.t p.count p.order pv),SL nv tI pv p.picks] h
theorem Zsm {pv:Value}(h:p.Ok) (H:Holds w (blk b tP (pkC p.t p.count p.order pv)::SL nv tI pv p.picks::L)):Holds w (PkR b p::L):=
 Holds.imp (Holds.pack (A:=[_,_]) H) λ_ hh=>⟨h,pv,hh⟩
theorem Ziq (H:Holds w L) (k:∀ w',Same w w'->Holds w' L->K (.agg #[nv 0,nv 1,nv 2,nv 3,nv 4,nv 5]) w'):Cl prog 229 #[] w K:=by
 refine Tz229 ?_;unfold Vz229;have S:=Same.refl w
 have hz:(zeroP prog tO).cells.toList=[nv 0,nv 0,nv 0,nv 0,nv 0,nv 0]:=by kernel_rfl
 refine r_new H λb1 w1 S1 H1=>?_;rw[hz] at H1;refine r_new H1 λb2 w2 S2 H2=>?_;rw[hz] at H2;replace S:=(S.trans S1).trans S2;clear H H1;refine Zac (λx w'=>∃ i:Nat,i<=6/\x=nv i/\Same w w'/\Holds w' (blk b2 tO ([]++((filled [0,1,2,3,4,5] 0 6 i).map nv++[]))::blk b1 tO [nv 0,nv 0,nv 0,nv 0,nv 0,nv 0]::L)) (λx _=>6 - (intOf x).toNat) ⟨0,by omega,rfl,S,H2⟩ ?_;clear S H2;rintro _ _ w3 ⟨i,hi,rfl,S,H⟩
 repeat (refine r_lss ?_)
 refine r_ifD (λh=>?_) λh=>?_
 ·have hlt:i < 6:=by omega
  have hl:(filled [0,1,2,3,4,5] 0 6 i).length=6:=Zb3 (by omega) rfl
  repeat (refine Zb4 (by omega) ?_)
  refine r_st 0 H rfl (by simp[hl];omega) rfl λw4 S4 H4=>?_;have e:=Znl (f:=nv) (xs:=filled [0,1,2,3,4,5] 0 6 i) (post:=[]) (j:=i) [] i (by omega)
  rw[Zb6 hlt rfl (show[0,1,2,3,4,5][i]?=some i by
   have h6:i=0\/i=1\/i=2\/i=3\/i=4\/i=5:=by omega
   rcases h6 with rfl|rfl|rfl|rfl|rfl|rfl <;> rfl)] at e
  rw[length_nil] at e;rw[gJ,e] at H4
  repeat (first|refine r_ke ?_|(refine Za0 (by omega) ?_))
  refine⟨⟨i+1,by omega,rfl,S.trans S4,H4⟩,?_⟩;simp[nv,intOf];omega
 ·obtain rfl:i=6:=by omega
  replace H:Holds w3 (blk b2 tO [nv 0,nv 1,nv 2,nv 3,nv 4,nv 5]::blk b1 tO [nv 0,nv 0,nv 0,nv 0,nv 0,nv 0]::L):=H;refine r_ldA 0 H [nv 0,nv 1,nv 2,nv 3,nv 4,nv 5] rfl rfl rfl ?_;refine r_stA 1 H (vs:=[nv 0,nv 1,nv 2,nv 3,nv 4,nv 5]) rfl (by simp) rfl rfl λw4 S4 H4=>?_;replace H4:Holds w4 (blk b2 tO [nv 0,nv 1,nv 2,nv 3,nv 4,nv 5]::blk b1 tO [nv 0,nv 1,nv 2,nv 3,nv 4,nv 5]::L):=H4;refine r_ldA 1 H4 [nv 0,nv 1,nv 2,nv 3,nv 4,nv 5] rfl rfl rfl ?_;exact k _ (S.trans S4) H4.drop.drop
theorem NewReader_spec (H:Holds w L) (k:∀ b w',Same w w'->Holds w' (PkR b p0::L)->K (pt b) w'):Cl prog 344 #[] w K:=by
 refine Tz344 ?_;unfold Vz344;refine Ziq H λw1 S1 H1=>?_;refine r_bd (v:=.agg #[nv 0,nv 0,nv 0,nv 1,nv 2,nv 3,nv 4,nv 5,.slice none 0 0,.bool false]) (by kernel_rfl) ?_;refine r_new H1 λb w2 S2 H2=>?_;refine k b _ (S1.trans S2) (Zsm (pv:=.slice none 0 0) p0_ok ?_);exact ((H2.nilSL nv tI).swap)
end P13
instance rowU:Row prog 59 65 (.int .u32 0):=⟨by kernel_rfl,⟨t65,by kernel_rfl,by kernel_rfl,by decide,by kernel_rfl⟩,rfl⟩
abbrev tU:Nat:=65
namespace C10
open Go.M01 Go.Mb Go.Mp Go.M10 Rb
variable {w:World}{L:List HProp}{K:KT}{b r:Nat}{B:List UInt8}{d at_ n:Nat}{lens:List Nat}
abbrev tC:Nat:=278
theorem getD_some {l:List Nat}{i:Nat}(h:i < l.length):l[i]?=some (l.getD i 0):=by
 rw[gB,gA h];rfl
theorem Zbt (hs:Sized lens){i:Nat}(h:i < lens.length):1<=lens.getD i 0/\lens.getD i 0<=20:=hs _ (List.mem_of_getElem? (getD_some h))
theorem Zqs {x:Nat}(j:Nat){v:Value}(H:Holds w L) (hj:L[j]?=some (SL nv tI v lens)) (hn:lens.length<=1000000000) (hx:∀ y∈lens,y≠x) (k:K (iv (-1)) w) :
  Cl prog 202 #[v,nv x] w K:=by
 refine Tz202 ?_;unfold Vz202;refine r_lnS j H hj ?_;refine Zac (λy w'=>∃ i:Nat,i<=lens.length/\y=nv i/\w=w') (λy _=>lens.length - (intOf y).toNat) ⟨0,by omega,rfl,rfl⟩ ?_;rintro _ _ _ ⟨i,hi,rfl,rfl⟩
 repeat (refine r_lss ?_)
 refine r_ifD (λh=>?_) λh=>?_
 ·have hlt:i < lens.length:=by omega
  refine Zaa j H hj (getD_some hlt) ?_;have:=hx _ (List.mem_of_getElem? (getD_some hlt))
  repeat (first|refine r_ke ?_|refine r_eql ?_|(refine Za0 (by omega) ?_)|((with_reducible refine r_vfE ?h ?_);(case h=>omega)))
  refine⟨⟨i+1,by omega,rfl,rfl⟩,?_⟩;simp[nv,intOf];omega
 ·exact k
theorem Zlg (j:Nat){v:Value}(H:Holds w L) (hj:L[j]?=some (SL nv tI v lens)) (hn:lens.length<=1000000000) (hs:Sized lens) (k:∀ w',Same w w'->Holds w' L->K (.bool true) w') :
  Cl prog 252 #[v,iv 0,iv 20] w K:=by
 refine Tz252 ?_;unfold Vz252;refine r_new H λb1 w1 S1 H1=>?_;refine r_new H1 λb2 w2 S2 H2=>?_;replace H2:Holds w2 (blk b2 3 [iv 20]::blk b1 3 [iv 0]::L):=H2;refine r_mf (.func (.func 258) #[] #[pt b1,pt b2]) (by kernel_rfl) ?_;refine r_cl (K:=λx w'=>w2=w'/\x=.bool false) ?_ ?_
 ·refine Tz227 ?_;unfold Vz227;refine Tz248 ?_;unfold Vz248;have hj2:(blk b2 3 [iv 20]::blk b1 3 [iv 0]::L)[j+2]?=some (SL nv tI v lens):=hj;refine r_lnS (j+2) H2 hj2 ?_;refine Zac (λy w'=>∃ i:Nat,i<=lens.length/\y=nv i/\w2=w') (λy _=>lens.length - (intOf y).toNat) ⟨0,by omega,rfl,rfl⟩ ?_;rintro _ _ _ ⟨i,hi,rfl,rfl⟩
  repeat (refine r_lss ?_)
  refine r_ifD (λh=>?_) λh=>?_
  ·have hlt:i < lens.length:=by omega
   refine Zaa (j+2) H2 hj2 (getD_some hlt) ?_;have hb:=Zbt hs hlt;refine r_inv (f:=258) (args:=#[nv (lens.getD i 0),pt b1,pt b2]) (by kernel_rfl) ?_;refine Tz258 ?_;unfold Vz258
   repeat (first|refine r_ld 0 H2 rfl rfl ?_|refine r_ld 1 H2 rfl rfl ?_|refine r_ke ?_|refine r_lss ?_|refine r_gtr ?_|(refine Za0 (by omega) ?_)|((with_reducible refine r_vfD ?h ?_);(case h=>omega)))
   refine⟨⟨i+1,by omega,rfl,rfl⟩,?_⟩;simp[nv,intOf];omega
  ·repeat (refine r_geq ?_)
   exact⟨rfl,by rw[decide_eq_false (by omega)]⟩
 rintro _ _ ⟨rfl,rfl⟩
 repeat (with_reducible refine Zci ?_)
 exact k _ (S1.trans S2) H2.drop.drop
theorem Zhv (lens:List Nat) (i:Nat) (h:i < lens.length):share (lens.take (i+1))=share (lens.take i)+2^(20 - lens.getD i 0):=by
 rw[Zdg (getD_some h)];simp[share]
theorem Zxg (hs:Sized lens):∀ i,i<=lens.length->share (lens.take i)<=i*524288:=by
 intro i
 induction i with
 |zero=>intro _;simp[share]
 |succ i ih=>
  intro hi;rw[Zhv _ _ (by omega)];have h1:=ih (by omega);have h2:2^(20 - lens.getD i 0)<=2^19:=Nat.pow_le_pow_right (by decide) (by have:=Zbt hs (show i < lens.length by omega);omega);omega
theorem Zqx (j:Nat){v:Value}(H:Holds w L) (hj:L[j]?=some (SL nv tI v lens)) (hn:lens.length<=258) (hs:Sized lens) (k:∀ w',Same w w'->Holds w' L->K (.tuple #[nv (share lens),iv 0]) w') :
  Cl prog 237 #[v] w K:=by
 refine Tz237 ?_;unfold Vz237;refine Za2 (λx w'=>x=.bool false/\Same w w'/\Holds w' L) ?_ ?_
 ·clear H;rintro _ _ w1 ⟨rfl,S,H⟩
  repeat (with_reducible refine r_vf ?_)
  refine r_lnS j H hj ?_;refine Zag (λn y w'=>∃ i:Nat,i<=lens.length/\y=nv i/\n=nv (share (lens.take i))/\w1=w') (λ_ y _=>lens.length - (intOf y).toNat) ⟨0,by omega,rfl,rfl,rfl⟩ ?_;rintro _ _ _ _ ⟨i,hi,rfl,rfl,rfl⟩
  repeat (refine r_lss ?_)
  refine r_ifD (λh=>?_) λh=>?_
  ·have hlt:i < lens.length:=by omega
   refine Zaa j H hj (getD_some hlt) ?_;have hb:=Zbt hs hlt;have hsl:=Zxg hs i hi;have e:=Zhv lens i hlt;have h2:2^(20 - lens.getD i 0)<=2^19:=Nat.pow_le_pow_right (by decide) (by omega)
   repeat (refine r_sub (by omega) (by omega) ?_)
   rw[show (20:Int) - (lens.getD i 0:Nat)=((20 - lens.getD i 0:Nat):Int) by omega];refine Ycd (by omega) ?_;generalize 2^(20 - lens.getD i 0)=q at *
   repeat (first|refine r_ke ?_|(refine Za0 (by omega) ?_)|(refine Zad (by omega) ?_))
   refine⟨⟨i+1,by omega,rfl,by rw[e],rfl⟩,?_⟩;simp[nv,intOf];omega
  ·obtain rfl:i=lens.length:=by omega
   rw[hF_];exact k _ S H
 ·refine r_lnS j H hj ?_
  repeat (first|refine r_gtr ?_|((with_reducible refine r_vfD ?h ?_);(case h=>omega)))
  refine Zlg j H hj (by omega) hs λw2 S2 H2=>?_
  repeat (first|refine r_ke ?_|(with_reducible refine Zal ?_))
  exact⟨rfl,S2,H2⟩
theorem whole_spec (j:Nat){v:Value}(H:Holds w L) (hj:L[j]?=some (SL nv tI v lens)) (hn:lens.length<=258) (hs:Sized lens) (k:∀ w',Same w w'->Holds w' L->K (.bool (decide (share lens=1048576))) w') :
  Cl prog 213 #[v] w K:=by
 refine Tz213 ?_;unfold Vz213;refine Zqx j H hj hn hs λw2 S2 H2=>?_
 repeat (first|refine r_eql ?_|(with_reducible first|refine Za8 ?_|refine Za9 ?_)|((with_reducible refine r_vtE ?h ?_);(case h=>omega)))
 refine r_ifE (λh=>?_) λh=>?_
 ·refine Tz238 ?_;unfold Vz238;refine Zqs (x:=0) j H2 hj (by omega) (λy hy=>by have:=hs y hy;omega) ?_
  repeat (first|refine r_geq ?_|refine r_not ?_)
  have:=k _ S2 H2;rw[decide_eq_true (by omega)] at this;exact this
 ·have:=k _ S2 H2;rw[decide_eq_false (by omega)] at this;exact this
def cdC (lv cv ov:Value) (F G:List Nat):List Value:=[lv,cv,ov]++(F.map nv++(G.map nv++[]))
section
variable {lv cv ov:Value}{F G:List Nat}
theorem cF {n x:Nat}(h:F[n]?=some x):(cdC lv cv ov F G)[3+n]?=some (nv x):=Zu5 [lv,cv,ov] h
theorem Zyz:cdC lv cv ov F G=([lv,cv,ov]++F.map nv)++(G.map nv++[]):=by rw[cdC,gI]
theorem sF {n:Nat}(x:Nat) (h:n < F.length):(cdC lv cv ov F G).set (3+n) (nv x)=cdC lv cv ov (F.set n x) G:=Znl [lv,cv,ov] x h
theorem sG {n:Nat}(x:Nat) (hF:F.length=21) (h:n < G.length):(cdC lv cv ov F G).set (24+n) (nv x)=cdC lv cv ov F (G.set n x):=by
 have:=Znl (f:=nv) (post:=[]) ([lv,cv,ov]++F.map nv) x h;rw[show ([lv,cv,ov]++F.map nv).length=24 by simp[hF]] at this;rw[Zyz,Zyz];exact this
theorem cd1:(cdC lv cv ov F G)[1]?=some cv:=rfl
theorem cd2:(cdC lv cv ov F G)[2]?=some ov:=rfl
theorem sd2 (v:Value):(cdC lv cv ov F G).set 2 v=cdC lv cv v F G:=rfl
theorem cdlen (hF:F.length=21) (hG:G.length=22):(cdC lv cv ov F G).length=46:=by simp[cdC,hF,hG]
end
def fL (lens:List Nat):List Nat:=(List.range 21).map (fst_ lens)
def gL (lens:List Nat):List Nat:=(List.range 22).map (frm lens)
def codesAt (lens:List Nat) (n j:Nat):List Nat:=(List.range lens.length).map λi=>if lens.getD i 0 < n\/(lens.getD i 0=n/\i < j) then codeN lens i else 0
theorem Zmt (lens:List Nat) (n j:Nat):(codesAt lens n j).length=lens.length:=by simp[codesAt]
theorem Zmk {n j:Nat}(hj:j < lens.length) (hn:lens.getD j 0=n):(codesAt lens n j).set j (fst_ lens n+(lens.take j).count n)=codesAt lens n (j+1):=by
 apply List.ext_getElem
 ·simp[codesAt]
 intro i h1 h2
 have hi:i < lens.length:=by simpa [codesAt] using h2
 rw[List.getElem_set];simp only[codesAt,List.getElem_map,getElem_range]
 by_cases h:j=i
 ·subst h;rw[if_pos rfl,if_pos (.inr ⟨hn,by omega⟩),codeN,hn]
 ·rw[if_neg h]
  by_cases h3:lens.getD i 0 < n\/(lens.getD i 0=n/\i < j)
  ·rw[if_pos h3,if_pos (by omega)]
  ·rw[if_neg h3,if_neg (by omega)]
theorem Zkl {n j:Nat}(hn:lens.getD j 0≠n):codesAt lens n (j+1)=codesAt lens n j:=by
 apply map_congr_left;intro i hi
 by_cases h:j=i
 ·subst h
  by_cases h3:lens.getD j 0 < n
  ·rw[if_pos (.inl h3),if_pos (.inl h3)]
  ·rw[if_neg (by omega),if_neg (by omega)]
 ·by_cases h3:lens.getD i 0 < n\/(lens.getD i 0=n/\i < j)
  ·rw[if_pos h3,if_pos (by omega)]
  ·rw[if_neg h3,if_neg (by omega)]
theorem Zkn (n:Nat):codesAt lens n lens.length=codesAt lens (n+1) 0:=by
 apply map_congr_left;intro i hi;rw[mem_range] at hi
 by_cases h3:lens.getD i 0 < n+1
 ·rw[if_pos (by omega),if_pos (.inl h3)]
 ·rw[if_neg (by omega),if_neg (by omega)]
theorem Zsv (hs:Sized lens):codesAt lens 1 0=List.replicate lens.length 0:=by
 rw[codesAt,show (List.replicate lens.length 0:List Nat)=(List.range lens.length).map λ_=>0 by rw[List.map_const',hW_]];apply map_congr_left;intro i hi;rw[mem_range] at hi;have:=Zbt hs hi;rw[if_neg (by omega)]
theorem Zo7 {n j:Nat}:grp lens (j+1) n=grp lens j n++if lens.getD j 0=n then [j] else []:=by
 unfold grp;rw[range_succ,List.filter_append]
 congr 1
 rw[filter_cons,List.filter_nil]
 by_cases h:lens.getD j 0=n
 ·rw[if_pos (by simpa using h),if_pos h]
 ·rw[if_neg (by simpa using h),if_neg h]
def CodeR (b:Nat) (lens:List Nat):HProp:=λh=>(Whole lens/\lens.length<=258)/\∃ lv cv ov,Sat [blk b tC (cdC lv cv ov (fL lens) (gL lens)),SL nv tI ov (upto lens 20),SL uv tU cv (codesAt lens 21 0),SL nv tI lv lens] h
theorem Zi2 (H:Holds w (CodeR b lens::L)):(Whole lens/\lens.length<=258)/\∃ lv cv ov,Holds w (blk b tC (cdC lv cv ov (fL lens) (gL lens))::SL nv tI ov (upto lens 20)::SL uv tU cv (codesAt lens 21 0)::SL nv tI lv lens::L):=by
 obtain⟨h,H⟩:=Holds.pure H;obtain⟨lv,H⟩:=Holds.ex H;obtain⟨cv,H⟩:=Holds.ex H;obtain⟨ov,H⟩:=Holds.ex H;exact⟨h,lv,cv,ov,Holds.unpack H⟩
theorem Zh8 {lv cv ov:Value}(h:Whole lens/\lens.length<=258) (H:Holds w (blk b tC (cdC lv cv ov (fL lens) (gL lens))::SL nv tI ov (upto lens 20)::SL uv tU cv (codesAt lens 21 0)::SL nv tI lv lens::L)):Holds w (CodeR b lens::L):=
 Holds.imp (Holds.pack (A:=[_,_,_,_]) H) λ_ hh=>⟨h,lv,cv,ov,hh⟩
theorem Ych {n:Nat}(h:n < 21):(fL lens)[n]?=some (fst_ lens n):=by rw[fL,hV_,List.getElem?_range h];rfl
theorem Zz8 {n:Nat}(h:n < 22):(gL lens)[n]?=some (frm lens n):=by rw[gL,hV_,List.getElem?_range h];rfl
theorem Zom:(fL lens).length=21:=by simp[fL]
theorem Zm0:(gL lens).length=22:=by simp[gL]
theorem New_spec {j:Nat}{v:Value}(H:Holds w L) (hj:L[j]?=some (SL nv tI v lens)) (h3:3<=lens.length) (hn:lens.length<=258) (hs:Sized lens)
  (kb:share lens≠1048576->∀ w',Same w w'->Holds w' L->K (.tuple #[.pointer none,iv 22]) w')
  (k:Whole lens->∀ b w',Same w w'->Holds w' (CodeR b lens::L)->K (.tuple #[pt b,iv 0]) w'):Cl prog 196 #[v] w K:=by
 refine Tz196 ?_;unfold Vz196;refine Za2 (λx w'=>w=w'/\x=.bool false) ?_ ?_
 rotate_left
 ·refine r_lnS j H hj ?_
  repeat (first|refine r_lss ?_|((with_reducible refine r_vfD ?h ?_);(case h=>omega)))
  refine r_lnS j H hj ?_
  repeat (first|refine r_ke ?_|refine r_gtr ?_)
  exact⟨rfl,by rw[decide_eq_false (by omega)]⟩
 rintro _ _ _ ⟨rfl,rfl⟩
 repeat (with_reducible refine r_vf ?_)
 refine whole_spec j H hj hn hs λw1 S1 H1=>?_;clear H;have S:=S1;have H:=H1;clear S1 H1
 repeat (refine r_not ?_)
 by_cases hwh:share lens=1048576
 rotate_left
 ·rw[decide_eq_false hwh];exact r_vt (kb hwh _ S H)
 have hW:Whole lens:=⟨hs,hwh⟩;rw[decide_eq_true hwh,Bool.not_true]
 repeat (with_reducible refine r_vf ?_)
 refine Za2 (λx w'=>∃ b lv cv,x=pt b/\Same w w'/\Holds w' (blk b tC (cdC lv cv (.slice none 0 0) (List.replicate 21 0) (List.replicate 22 0))::SL uv tU cv (List.replicate lens.length 0)::SL nv tI lv lens::L)) ?_ ?_
 rotate_left
 ·repeat (refine r_dr H ?_;clear H;intro _ S_ H;replace S:=S.trans S_;clear S_)
  rename_i w2;have hto:((lens.length:Nat):Int).toNat=lens.length:=gC _;refine⟨?_,?_⟩
  ·refine Zcd H j hj (by omega) λv1 w3 S3 H3=>?_;refine r_lnS (j+1) H3 (by rw[gF];exact hj) ?_;refine r_rk (r_lnS j H hj rfl) ?_;refine r_ms (e:=tU) (f:=uv) (x:=0) H3 rfl (by omega) (by omega) λb4 w4 S4 H4=>?_;rw[hto] at H4 ⊢;have H5:=H4.close 0 rfl;rw[gJ] at H5;obtain⟨oa,sp,rfl,H6⟩:=H5.open 1 rfl;refine r_bd (v:=.agg #[.slice oa lens.length (lens.length+sp.length),.slice (some ⟨b4,0,none⟩) lens.length lens.length,.slice none 0 0,nv 0,nv 0,nv 0,nv 0,nv 0,nv 0,nv 0,nv 0,nv 0,nv 0,nv 0,nv 0,nv 0,nv 0,nv 0,nv 0,nv 0,nv 0,nv 0,nv 0,nv 0,nv 0,nv 0,nv 0,nv 0,nv 0,nv 0,nv 0,nv 0,nv 0,nv 0,nv 0,nv 0,nv 0,nv 0,nv 0,nv 0,nv 0,nv 0,nv 0,nv 0,nv 0,nv 0]) (by kernel_rfl) ?_;refine r_new H5 λb w5 S5 H7=>?_
   repeat (refine r_ke ?_)
   refine⟨b,.slice oa lens.length (lens.length+sp.length),.slice (some ⟨b4,0,none⟩) lens.length lens.length,rfl,((S.trans S3).trans S4).trans S5,?_⟩;rw[gP] at H7;exact H7
  ·refine r_lnS j H hj ?_;refine r_ms (e:=tU) (f:=uv) (x:=0) H rfl (by omega) (by omega) λb4 w4 S4 H4=>?_;rw[hto] at H4 ⊢;have H5:=H4.close 0 rfl;rw[gJ] at H5;refine Zcd H5 (j+1) (by rw[gF];exact hj) (by omega) λv1 w3 S3 H3=>?_;refine r_rk (r_lnS (j+2) H3 (by rw[gF,gF];exact hj) rfl) ?_;obtain⟨oa,sp,rfl,H6⟩:=H3.open 0 rfl;refine r_bd (v:=.agg #[.slice oa lens.length (lens.length+sp.length),.slice (some ⟨b4,0,none⟩) lens.length lens.length,.slice none 0 0,nv 0,nv 0,nv 0,nv 0,nv 0,nv 0,nv 0,nv 0,nv 0,nv 0,nv 0,nv 0,nv 0,nv 0,nv 0,nv 0,nv 0,nv 0,nv 0,nv 0,nv 0,nv 0,nv 0,nv 0,nv 0,nv 0,nv 0,nv 0,nv 0,nv 0,nv 0,nv 0,nv 0,nv 0,nv 0,nv 0,nv 0,nv 0,nv 0,nv 0,nv 0,nv 0,nv 0]) (by kernel_rfl) ?_;refine r_new H3 λb w5 S5 H7=>?_
   repeat (refine r_ke ?_)
   refine⟨b,.slice oa lens.length (lens.length+sp.length),.slice (some ⟨b4,0,none⟩) lens.length lens.length,rfl,((S.trans S4).trans S3).trans S5,?_⟩;rw[gP] at H7;exact (Holds.front H7 2 rfl).swap
 rintro _ _ w2 ⟨b,lv,cv,rfl,S2,H2⟩;clear S H;have hl20:=λn (h:n<=20)=>Yce lens hs n h;have hcl:=λn=>List.count_le_length (a:=n) (l:=lens)
 refine Zag (λx y w'=>∃ n ov,1<=n/\n<=21/\y=nv n/\x=nv (nx lens (n - 1))/\Same w w'/\Holds w' (blk b tC (cdC lv cv ov (filled (fL lens) 0 21 n) (filled (gL lens) 0 22 n))::SL nv tI ov (upto lens (n - 1))::SL uv tU cv (codesAt lens n 0)::SL nv tI lv lens::L))
  (λ_ y _=>21 - (intOf y).toNat) ⟨1,.slice none 0 0,by omega,by omega,rfl,rfl,S2,?_⟩ ?_
 ·rw[Zsv hs];have e1:filled (fL lens) 0 21 1=List.replicate 21 0:=rfl;have e2:filled (gL lens) 0 22 1=List.replicate 22 0:=rfl;rw[e1,e2];exact (H2.nilSL nv tI).swap
 clear S2 H2;rintro _ _ _ w3 ⟨n,ov,h1,h21,rfl,rfl,S,H⟩;have lF:(filled (fL lens) 0 21 n).length=21:=Zb3 (by omega) Zom;have lG:(filled (gL lens) 0 22 n).length=22:=Zb3 (by omega) Zm0
 repeat (refine r_leq ?_)
 refine r_ifD (λh=>?_) λh=>?_
 ·have hn20:n<=20:=by omega
  have hnl:=nx_le hW (n - 1) (by omega);have hp:2^(n - 1)<=2^19:=Nat.pow_le_pow_right (by decide) (by omega)
  repeat (first|refine Zdi ((2*nx lens (n - 1):Nat):Int) (by omega) (by omega) (by omega) ?_|refine r_nc ?_|refine r_fo0 ?_|(refine Zb4 (by omega) ?_))
  refine r_st 0 H rfl (by rw[cdlen lF lG];omega) rfl λw4 S4 H4=>?_;rw[gJ,sF _ (by omega),Zb6 (x:=2*nx lens (n - 1)) (by omega) Zom (Ych (by omega))] at H4;replace S:=S.trans S4;clear H;have H:=H4;clear H4 S4;have lF1:(filled (fL lens) 0 21 (n+1)).length=21:=Zb3 (by omega) Zom
  repeat (first|((with_reducible apply r_ld 0 H);(exact rfl);(with_reducible exact (cd2)))|refine r_nc ?_|refine r_fo0 ?_|(refine r_dr H ?_;clear H;intro _ S_ H;replace S:=S.trans S_;clear S_))
  refine r_lnS 1 H rfl ?_
  repeat (first|refine r_nc ?_|refine r_fo0 ?_|(refine Zb4 (by omega) ?_))
  refine r_st 0 H rfl (by rw[cdlen lF1 lG];omega) rfl λw4 S4 H4=>?_;rw[gJ,sG _ lF1 (by omega),Zb6 (x:=(upto lens (n - 1)).length) (by omega) Zm0 (Zz8 (by omega))] at H4;replace S:=S.trans S4;clear H;have H:=H4;clear H4 S4;refine r_lnS (j+4) H (by rw[gF,gF,gF,gF];exact hj) ?_
  refine Zag (λx y w'=>∃ i ov,i<=lens.length/\y=nv i/\x=nv (fst_ lens n+(lens.take i).count n)/\Same w w'/\Holds w' (blk b tC (cdC lv cv ov (filled (fL lens) 0 21 (n+1)) (filled (gL lens) 0 22 (n+1)))::SL nv tI ov (upto lens (n - 1)++grp lens i n)::SL uv tU cv (codesAt lens n i)::SL nv tI lv lens::L))
   (λ_ y _=>lens.length - (intOf y).toNat) ⟨0,ov,by omega,rfl,rfl,S,?_⟩ ?_
  ·have e1:grp lens 0 n=[]:=rfl;rw[e1,gU];exact H
  clear H S;rintro _ _ _ w5 ⟨i,ov,hi,rfl,rfl,S,H⟩;have lG1:(filled (gL lens) 0 22 (n+1)).length=22:=Zb3 (by omega) Zm0;have hci:(lens.take i).count n<=258:=Nat.le_trans (List.count_le_length ..) (by rw[gN];omega)
  have hfs:fst_ lens n<=2^20:=by rw[fst_];omega
  repeat (refine r_lss ?_)
  refine r_ifD (λh=>?_) λh=>?_
  ·have hlt:i < lens.length:=by omega
   refine Zaa (j+4) H (by rw[gF,gF,gF,gF];exact hj) (getD_some hlt) ?_;have hb:=Zbt hs hlt
   have etk:(lens.take (i+1)).count n=(lens.take i).count n+if lens.getD i 0=n then 1 else 0:=by
    rw[Zdg (getD_some hlt),List.count_append,count_cons,List.count_nil]
    by_cases hx:lens.getD i 0=n
    ·rw[if_pos hx,if_pos (by simpa using hx)]
    ·rw[if_neg hx,if_neg (by simpa using hx)]
   repeat (refine r_eql ?_)
   refine r_ifE (λhx=>?_) λhx=>?_
   ·have hx':lens.getD i 0=n:=by omega
    rw[if_pos hx'] at etk
    repeat (first|((with_reducible apply r_ld 0 H);(exact rfl);(with_reducible exact (cd1)))|refine r_nc ?_|refine r_fo0 ?_|(refine Zav (by omega) (by omega) ?_))
    refine Zao 2 H (f:=uv) (fst_ lens n+(lens.take i).count n) rfl (by rw[Zmt];exact hlt) rfl λw6 S6 H6=>?_;rw[gW,gW,gJ,Zmk hlt hx'] at H6;replace S:=S.trans S6;clear H;have H:=H6;clear H6 S6
    repeat (first|((with_reducible apply r_ld 0 H);(exact rfl);(with_reducible exact (cd2)))|refine r_nc ?_|refine r_fo0 ?_)
    have hul:(upto lens (n - 1)++grp lens i n).length<=600:=by
     rw[gD,Ztr lens n i hi];have:=hl20 (n - 1) (by omega);omega
    refine Zdc H 1 rfl i sg_nv (by omega) λv' w6 S6 H6=>?_;rw[gW,gJ] at H6;replace S:=S.trans S6;clear H;have H:=H6;clear H6 S6
    repeat (first|refine r_nc ?_|refine r_fo0 ?_)
    refine r_st 0 H rfl (by rw[cdlen lF1 lG1];omega) (SL_sg H 1 rfl) λw6 S6 H6=>?_;rw[gJ,sd2] at H6
    repeat (first|refine r_ke ?_|(refine Za0 (by omega) ?_))
    refine⟨⟨i+1,v',by omega,rfl,by rw[etk];rfl,S.trans S6,?_⟩,?_⟩
    ·rw[Zo7,if_pos hx',<-gI];exact H6
    ·simp[nv,intOf];omega
   ·have hx':lens.getD i 0≠n:=by omega
    rw[if_neg hx'] at etk
    repeat (first|refine r_ke ?_|(refine Za0 (by omega) ?_))
    refine⟨⟨i+1,ov,by omega,rfl,by rw[etk];rfl,S,?_⟩,?_⟩
    ·rw[Zo7,if_neg hx',gU,Zkl hx'];exact H
    ·simp[nv,intOf];omega
  ·obtain rfl:i=lens.length:=by omega
   repeat (first|refine r_ke ?_|(refine Za0 (by omega) ?_))
   obtain⟨m,rfl⟩:∃ m,n=m+1:=⟨n - 1,by omega⟩;refine⟨⟨m+1+1,ov,by omega,by omega,rfl,?_,S,?_⟩,?_⟩
   ·rw[hF_,Nat.add_sub_cancel,nx_eq lens (m+1) (by omega)]
   ·rw[Zkn] at H;exact H
   ·simp[nv,intOf];omega
 ·obtain rfl:n=21:=by omega
  repeat (first|((with_reducible apply r_ld 0 H);(exact rfl);(with_reducible exact (cd2)))|refine r_nc ?_|refine r_fo0 ?_|(refine r_dr H ?_;clear H;intro _ S_ H;replace S:=S.trans S_;clear S_))
  refine r_lnS 1 H rfl ?_;have hr:(blk b tC (cdC lv cv ov (filled (fL lens) 0 21 21) (filled (gL lens) 0 22 21))::SL nv tI ov (upto lens (21 - 1))::SL uv tU cv (codesAt lens 21 0)::SL nv tI lv lens::L).length=L.length+4:=rfl
  repeat (first|refine Zb4 (m:=21) (by omega) ?_|refine r_nc ?_|refine r_fo0 ?_)
  refine r_st 0 H rfl (by rw[cdlen lF lG];omega) rfl λw4 S4 H4=>?_;rw[gJ,sG (n:=21) _ lF (by omega),Zb6 (x:=(upto lens (21 - 1)).length) (by omega) Zm0 (Zz8 (by omega)),Zcp Zom,Zcp Zm0] at H4;exact k hW b _ (S.trans S4) (Zh8 ⟨hW,hn⟩ H4)
end C10
instance rowC:Row prog 258 260 (.pointer none):=⟨by kernel_rfl,⟨t260,by kernel_rfl,by kernel_rfl,by decide,by kernel_rfl⟩,rfl⟩
namespace C14
open Go.M01 Go.Mb Go.Mp Go.M10 Rb
variable {w:World}{L:List HProp}{K:KT}{b r:Nat}{B:List UInt8}{d at_ n:Nat}
abbrev tCP:Nat:=260
def CodesS (bs:List Nat) (cs:List (List Nat)):HProp:=Sat ((bs.zip cs).map λx=>C10.CodeR x.1 x.2)
theorem Zsk {bs:List Nat}{cs:List (List Nat)}{i:Nat}{l:List Nat}(hb:bs[i]?=some b) (hc:cs[i]?=some l):∃ A,(∀ h,Sat (CodesS bs cs::L) h->Sat (C10.CodeR b l::A) h)/\∀ h,Sat (C10.CodeR b l::A) h->Sat (CodesS bs cs::L) h:=by
 have hz:((bs.zip cs).map λx=>C10.CodeR x.1 x.2)[i]?=some (C10.CodeR b l):=by
  rw[hV_,(List.getElem?_zip_eq_some (z:=(b,l))).2 ⟨hb,hc⟩];rfl
 have hlt:i < ((bs.zip cs).map λx=>C10.CodeR x.1 x.2).length:=(gH.1 hz).1
 have hz2:(((bs.zip cs).map λx=>C10.CodeR x.1 x.2)++L)[i]?=some (C10.CodeR b l):=by rw[gM hlt];exact hz
 refine⟨(((bs.zip cs).map λx=>C10.CodeR x.1 x.2)++L).eraseIdx i,λh H=>Sat.pull i (Sat.unpack H) hz2,λh H=>?_⟩;have:=Sat.push i hz2 H
 have e:(((bs.zip cs).map λx=>C10.CodeR x.1 x.2)++L).set i (C10.CodeR b l)=((bs.zip cs).map λx=>C10.CodeR x.1 x.2)++L:=by
  have hl:i < (((bs.zip cs).map λx=>C10.CodeR x.1 x.2)++L).length:=(gH.1 hz2).1;have e1:(((bs.zip cs).map λx=>C10.CodeR x.1 x.2)++L)[i]=_:=(gH.1 hz2).2;rw[<-e1,List.set_getElem_self]
 rw[e] at this;exact Sat.pack this
theorem Ztd {bs:List Nat}{cs:List (List Nat)}{l:List Nat}(hl:bs.length=cs.length) (H:Holds w (C10.CodeR b l::CodesS bs cs::L)):Holds w (CodesS (bs++[b]) (cs++[l])::L):=by
 have H2:=Holds.unpack (A:=(bs.zip cs).map λx=>C10.CodeR x.1 x.2) H.swap;unfold CodesS;rw[List.zip_append hl,List.map_append];refine Holds.pack ?_;rw[gI];exact H2
end C14
namespace P35
variable {w:World}{L:List HProp}
section
variable {α:Type}{P:Program}
theorem Yc4 (i:Nat) (H:Holds w L){F:α->List Value}{k:Nat}{e:TypeId}{v:Value}{xs:List α}{q:Nat}{kk:IntKind}{x:α}{K:Value->Prop}
  (hi:L[i]?=some (RW F k e v xs)) (hx:xs[q]?=some x) (hF:∀ y,(F y).length=k) (h:K (.agg (F x).toArray)):Ias k v (.int kk (q:Int)) λy=>LdA k y w K:=by
 obtain⟨oa,m,sp,rfl,H1⟩:=H.openRW i hi;exact r_ldN i H1 (Za1 hi) hx hF (gH.1 hx).1 h
theorem r_lnN (i:Nat) (H:Holds w L){F:α->List Value}{k:Nat}{e:TypeId}{v:Value}{xs:List α}{K:Value->Prop}(hi:L[i]?=some (RW F k e v xs)) (h:K (nv xs.length)):Lnl v K:=by
 obtain⟨oa,m,sp,rfl,_⟩:=H.openRW i hi;exact r_lnl h
end
end P35
namespace S16
open Go.Mr Go.M18
variable {w:World}{L:List HProp}{K:KT}{b n:Nat}{s:List UInt8}{x:SS}
section
variable {α:Type}{P:Program}
theorem Yd2 (i:Nat) (H:Holds w L){F:α->List Value}{k:Nat}{e:TypeId}{v:Value}{ys:List α}{p:α}(hF:∀ y,(F y).length=k) (hi:L[i]?=some (RW F k e v (ys++[p]))) :
  ∃ oa c,v=.slice oa (ys.length+1) c/\ys.length+1<=c/\Holds w (L.set i (RW F k e (.slice oa ys.length c) ys)):=by
 obtain⟨oa,m,sp,rfl,H1⟩:=H.openRW i hi;refine⟨oa,(ys++[p]).length+m,by rw[gD,gQ],by rw[gD,gQ];omega,?_⟩
 have h2:=H1.at i (Za1 hi) (Q:=RW F k e (.slice oa ys.length ((ys++[p]).length+m)) ys) λg hg=>by
  refine⟨oa,m+1,F p++sp,by rw[gD,gQ,show ys.length+1+m=ys.length+(m+1) by omega],?_⟩
  cases oa with
  |none=>
   obtain⟨h,_⟩:=hg;simp at h
  |some a=>
   obtain⟨h1,h2,h3,h4⟩:=hg;refine⟨h1,h2,by rw[gD,hF,h3,Nat.add_mul];omega,?_⟩;rw[Zcf] at h4
   have e1:flatL F [p]=F p:=by simp[flatL]
   rw[e1,gI] at h4;exact h4
 rw[set_set] at h2;exact h2
theorem Ybn (i:Nat) (H:Holds w L){F:α->List Value}{k:Nat}{e:TypeId}{v:Value}{xs:List α}{q j:Nat}{kk:IntKind}{y:α}{u:Value}{K:Value->Prop}(hi:L[i]?=some (RW F k e v xs)) (hx:xs[q]?=some y) (hF:∀ y,(F y).length=k)
  (hj:(F y)[j]?=some u) (h:K u):Ias k v (.int kk (q:Int)) λp=>Fo j p λz=>Ld z w K:=by
 have hlt:q < xs.length:=(gH.1 hx).1;obtain⟨oa,m,sp,rfl,H1⟩:=H.openRW i hi;obtain⟨bb,rfl,hsp,Hb⟩:=H1.rwb i (Za1 hi) (.inl (by omega));refine Zpk hlt (r_fo ?_);refine r_ld i Hb (Za1 (Za1 hi)) ?_ h;have h1:=Zcj hF xs q y hx
 have hjk:j < k:=by rw[<-hF y];exact (gH.1 hj).1
 have hlen:=Zck (k:=k) hF xs
 have hq:q*k+k<=xs.length*k:=by
  have:(q+1)*k<=xs.length*k:=Nat.mul_le_mul_right _ (by omega);rw[Nat.add_mul,Nat.one_mul] at this;exact this
 rw[gM (by omega),<-hj,<-h1,hI_ hjk,hH_]
end
abbrev tSo:Nat:=231
abbrev tPt:Nat:=229
abbrev tK:Nat:=264
instance rowPt:RowN prog 227 tPt 3:=⟨by kernel_rfl,⟨t229,.agg #[iv 0,iv 0,iv 0],by kernel_rfl,by kernel_rfl,by decide,by kernel_rfl,by kernel_rfl⟩⟩
abbrev St_ (s:List UInt8):Value:=.string ⟨s.toArray⟩
def Fp (p:Pt):List Value:=[nv p.lo,nv p.mid,nv p.hi]
theorem Fp_sg:∀ y:Pt,∀ u∈Fp y,sg u=true:=by
 intro y u hu;unfold Fp at hu;rcases mem_cons.1 hu with rfl|hu
 ·rfl
 rcases mem_cons.1 hu with rfl|hu
 ·rfl
 rw[mem_singleton.1 hu];rfl
def soC (s:List UInt8) (ov cv av kv:Value) (x:SS) (n:Nat):List Value:=[St_ s,ov,cv,av,nv x.reach,kv,nv x.merge.lo,nv x.merge.mid,nv x.merge.hi,nv x.laid,nv x.first,nv x.second,nv x.ranked,nv x.last,nv n,.bool x.done]
def soL (b:Nat) (s:List UInt8) (ov cv av kv:Value) (x:SS) (n:Nat):List HProp:=[blk b tSo (soC s ov cv av kv x n),SL nv tI ov x.order,SL nv tI cv x.cls,SL nv tI av x.aside,RW Fp 3 tPt kv x.stack.reverse]
def SoR (b:Nat) (s:List UInt8) (x:SS) (n:Nat):HProp:=λh=>∃ ov cv av kv,Sat (soL b s ov cv av kv x n) h
theorem Zan (H:Holds w (SoR b s x n::L)):∃ ov cv av kv,Holds w (soL b s ov cv av kv x n++L):=by
 obtain⟨ov,H⟩:=Holds.ex H;obtain⟨cv,H⟩:=Holds.ex H;obtain⟨av,H⟩:=Holds.ex H;obtain⟨kv,H⟩:=Holds.ex H;exact⟨ov,cv,av,kv,Holds.unpack H⟩
theorem Zak {ov cv av kv:Value}(H:Holds w (soL b s ov cv av kv x n++L)):Holds w (SoR b s x n::L):=Holds.imp (Holds.pack H) λ_ hh=>⟨ov,cv,av,kv,hh⟩
structure Sz (s:List UInt8) (x:SS):Prop where
 len:s.length<=4000
 cl:x.cls.length=s.length
 al:x.aside.length=s.length
 ol:x.order.length=s.length
 reach:x.reach<=8000
theorem Zp4 {ov cv av kv:Value}{a:Nat}(H:Holds w (soL b s ov cv av kv x n++L)) (hz:Sz s x) (ha:a < s.length)
  (k:∀ w',Same w w'->Holds w' (soL b s ov cv av kv x n++L)->K (.agg #[nv (keyS s x a).1,nv (keyS s x a).2]) w'):Cl prog 199 #[pt b,nv a] w K:=by
 refine Tz199 ?_;unfold Vz199;have hlen:=hz.len;have hcl:=hz.cl;have hre:=hz.reach
 have hzz:(zeroP prog tK).cells.toList=[iv 0,iv 0]:=by kernel_rfl
 have hsz:(⟨s.toArray⟩:ByteArray).size=s.length:=by simp[ByteArray.size]
 refine r_new H λkb w1 S1 H1=>?_;rw[hzz] at H1;refine r_nc (r_fo0 (r_ld 1 H1 rfl rfl ?_));refine r_eql (r_ifE (λh=>?_) λh=>?_)
 ·refine r_nc (r_fo0 (r_ld 1 H1 rfl rfl ?_));refine Ze6 (by rw[hsz];exact ha) ?_;have hc:((⟨s.toArray⟩:ByteArray).data.toList.getD a 0).toNat < 256:=UInt8.toNat_lt _;refine Zsp (by omega) (by omega) ?_
  have ek:keyS s x a=((s.getD a 0).toNat,0):=by unfold keyS;rw[if_pos (by omega)]
  rw[ek] at k;refine r_bd (v:=.agg #[nv (s.getD a 0).toNat,nv 0]) (by kernel_rfl) ?_;refine r_stA 0 H1 (vs:=[nv (s.getD a 0).toNat,nv 0]) rfl (by decide) rfl rfl λw2 S2 H2=>?_;refine r_ldA 0 H2 [nv (s.getD a 0).toNat,nv 0] rfl rfl rfl ?_;exact k _ (S1.trans S2) H2.drop
 ·refine r_dr H1 λw2 S2 H2=>?_;refine r_nc (r_fo0 (r_ld 1 H2 rfl rfl ?_));refine Zaa 3 H2 rfl (Zau (by omega)) ?_;refine r_nc (r_fo0 (r_ld 1 H2 rfl rfl ?_));refine r_nc (r_fo0 (r_ld 1 H2 rfl rfl ?_));refine Zad (by omega) ?_;refine r_nc (r_fo0 (r_ld 1 H2 rfl rfl ?_));refine r_lns ?_;rw[hsz];refine Zi6 (r:=(((a+x.reach)%s.length:Nat):Int)) (by rw[Int.tmod_eq_emod_of_nonneg (by omega)];rfl) (by omega) ?_;have hm:(a+x.reach)%s.length < s.length:=Nat.mod_lt _ (by omega);refine Zaa 3 H2 rfl (Zau (i:=(a+x.reach)%s.length) (by omega)) ?_
  have ek:keyS s x a=(x.cls.getD a 0,x.cls.getD ((a+x.reach)%s.length) 0):=by unfold keyS;rw[if_neg (by omega)]
  rw[ek] at k;refine r_bd (v:=.agg #[nv (x.cls.getD a 0),nv (x.cls.getD ((a+x.reach)%s.length) 0)]) (by kernel_rfl) ?_;refine r_stA 0 H2 (vs:=[nv (x.cls.getD a 0),nv (x.cls.getD ((a+x.reach)%s.length) 0)]) rfl (by simp) rfl rfl λw3 S3 H3=>?_;refine r_ldA 0 H3 [nv (x.cls.getD a 0),nv (x.cls.getD ((a+x.reach)%s.length) 0)] rfl rfl rfl ?_;exact k _ (S1.trans (S2.trans S3)) H3.drop
theorem Zht {ov cv av kv:Value}{a c:Nat}(H:Holds w (soL b s ov cv av kv x n++L)) (hz:Sz s x) (ha:a < s.length) (hc:c < s.length)
  (k:∀ w',Same w w'->Holds w' (soL b s ov cv av kv x n++L)->K (.bool (decide (klt (keyS s x c) (keyS s x a)))) w'):Cl prog 181 #[pt b,nv a,nv c] w K:=by
 refine Tz181 ?_;unfold Vz181
 have hzz:(zeroP prog tK).cells.toList=[iv 0,iv 0]:=by kernel_rfl
 refine Zp4 H hz ha λw1 S1 H1=>?_;refine Zp4 H1 hz hc λw2 S2 H2=>?_;generalize keyS s x a=p at *;generalize keyS s x c=q at *;refine r_new H2 λkb w3 S3 H3=>?_;rw[hzz] at H3;refine r_new H3 λlb w4 S4 H4=>?_;rw[hzz] at H4;refine r_stA 1 H4 (vs:=[nv p.1,nv p.2]) rfl (by decide) rfl rfl λw5 S5 H5=>?_;refine r_stA 0 H5 (vs:=[nv q.1,nv q.2]) rfl (by decide) rfl rfl λw6 S6 H6=>?_;replace H6:Holds w6 (blk lb tK [nv q.1,nv q.2]::blk kb tK [nv p.1,nv p.2]::(soL b s ov cv av kv x n++L)):=H6;have S:=S1.trans (S2.trans (S3.trans (S4.trans (S5.trans S6))))
 have fin:∀ t:Bool,t=decide (klt q p)->K (.bool t) w6:=λt e=>by rw[e];exact k w6 S H6.drop.drop
 refine Zb4 (m:=0) (by decide) (r_ld 1 H6 rfl rfl ?_);refine Zb4 (m:=0) (by decide) (r_ld 0 H6 rfl rfl ?_);refine r_gtr (r_ifD (λh=>?_) λh=>?_)
 ·exact fin true (decide_eq_true (.inl (by omega))).symm
 refine Zb4 (m:=0) (by decide) (r_ld 1 H6 rfl rfl ?_);refine Zb4 (m:=0) (by decide) (r_ld 0 H6 rfl rfl ?_);refine r_eql (r_ifE (λh2=>?_) λh2=>?_)
 ·refine Zb4 (m:=1) (by decide) (r_ld 1 H6 rfl rfl ?_);refine Zb4 (m:=1) (by decide) (r_ld 0 H6 rfl rfl ?_);refine r_gtr (fin _ ?_);exact decide_eq_decide.2 (by unfold klt;omega)
 ·exact fin false (decide_eq_false (by unfold klt;omega)).symm
theorem join_spec (H:Holds w (SoR b s x n::L)) (hst:x.stack.length<=100000000)
  (k:∀ w',Same w w'->Holds w' (SoR b s (joinS x) n::L)->K (.tuple #[]) w'):Cl prog 168 #[pt b] w K:=by
 refine Tz168 ?_;unfold Vz168;obtain⟨ov,cv,av,kv,H⟩:=Zan H;refine r_nc (r_fo0 (r_ld 0 H rfl rfl ?_));refine P35.r_lnN 4 H rfl ?_;rw[List.length_reverse]
 have hnone:joinS x=x->∀ w',Same w w'->Holds w' (soL b s ov cv av kv x n++L)->K (.tuple #[]) w':=λe w' S' H'=>by
  rw[e] at k;exact k w' S' (Zak H')
 cases hs:x.stack with
 |nil=>
  have ej:joinS x=x:=by unfold joinS;rw[hs]
  refine r_sub (by simp) (by simp) ?_;refine Za2 (λt w'=>w=w'/\t=.bool true) ?_ ?_
  rotate_left
  ·exact r_lss (r_vtD (by simp) (r_ke ⟨rfl,rfl⟩))
  rintro _ _ _ ⟨rfl,rfl⟩;exact r_vt (hnone ej _ (.refl _) H)
 |cons p st=>
  rw[hs] at hst;simp only[length_cons] at hst
  have ej:joinS x=if x.merge.hi=0/\p.mid≠0 then { x with merge:=p,stack:=st,laid:=0,first:=0,second:=p.mid } else x:=by unfold joinS;rw[hs]
  have hrev:x.stack.reverse=st.reverse++[p]:=by rw[hs,List.reverse_cons]
  have hget:x.stack.reverse[st.length]?=some p:=by rw[hrev,gT (by simp),List.length_reverse,Nat.sub_self];rfl
  refine Zah (a:=(p::st).length) (by simp) (by simp;omega) ?_;rw[show (p::st).length - 1=st.length by simp];refine Za2 (λt w'=>w=w'/\t=.bool (decide (¬ (x.merge.hi=0/\p.mid≠0)))) ?_ ?_
  rotate_left
  ·refine r_lss (r_vfD (by omega) ?_);refine r_nc (r_fo (r_fo (r_ld 0 H rfl rfl ?_)));refine r_gtr (r_ifD (λh=>?_) λh=>?_)
   ·exact r_ke ⟨rfl,by rw[decide_eq_true (show ¬ (x.merge.hi=0/\p.mid≠0) from λe=>by omega)]⟩
   ·refine r_nc (r_fo0 (r_ld 0 H rfl rfl ?_));refine Ybn 4 H rfl hget (λ_=>rfl) (j:=1) rfl ?_;refine r_eql (r_ke ⟨rfl,?_⟩);rw[show (((p.mid:Nat):Int)==0)=decide (¬ (x.merge.hi=0/\p.mid≠0)) from by rw[Bool.eq_iff_iff,beq_iff_eq,decide_eq_true_iff];omega]
  rintro _ _ _ ⟨rfl,rfl⟩;refine r_ifD (λh=>?_) λh=>?_
  ·rw[if_neg h] at ej;exact hnone ej _ (.refl _) H
  ·have h':x.merge.hi=0/\p.mid≠0:=Classical.byContradiction h;rw[if_pos h'] at ej;refine r_nc (r_fo0 (r_ld 0 H rfl rfl ?_));refine P35.Yc4 4 H rfl hget (λ_=>rfl) ?_;refine r_nc (r_fo ?_);refine r_stA 0 H (vs:=Fp p) rfl (by simp[soC]) rfl rfl λw1 S1 H1=>?_
   have H1':Holds w1 (blk b tSo [St_ s,ov,cv,av,nv x.reach,kv,nv p.lo,nv p.mid,nv p.hi,nv x.laid,nv x.first,nv x.second,nv x.ranked,nv x.last,nv n,.bool x.done]::SL nv tI ov x.order::SL nv tI cv x.cls::SL nv tI av x.aside::RW Fp 3 tPt kv (st.reverse++[p])::L):=by
    rw[<-hrev];exact H1
   clear H1;refine r_nc (r_fo0 (r_ld 0 H1' rfl rfl ?_));obtain⟨oa,c,rfl,hc,H2⟩:=Yd2 (F:=Fp) (k:=3) (ys:=st.reverse) (p:=p) 4 H1' (λ_=>rfl) rfl;rw[List.length_reverse] at hc H2 ⊢;refine Zp2 (by omega) ?_;refine r_nc (r_fo0 ?_);refine r_st 0 H2 rfl (by simp) rfl λw3 S3 H3=>?_;refine r_nc (r_fo0 ?_);refine r_st 0 H3 rfl (by simp) rfl λw4 S4 H4=>?_;refine r_nc (r_fo0 ?_);refine r_st 0 H4 rfl (by simp) rfl λw5 S5 H5=>?_;refine r_nc (r_fo (r_fo ?_));replace H5:Holds w5 (blk b tSo [St_ s,ov,cv,av,nv x.reach,.slice oa st.length c,nv p.lo,nv p.mid,nv p.hi,nv 0,nv 0,nv x.second,nv x.ranked,nv x.last,nv n,.bool x.done]::SL nv tI ov x.order::SL nv tI cv x.cls::SL nv tI av x.aside::RW Fp 3 tPt (.slice oa st.length c) st.reverse::L):=H5;refine r_ld 0 H5 rfl rfl ?_;refine r_nc (r_fo0 ?_);refine r_st 0 H5 rfl (by simp) rfl λw6 S6 H6=>?_;rw[ej] at k;exact k _ (S1.trans (S3.trans (S4.trans (S5.trans S6)))) (Zak (ov:=ov) (cv:=cv) (av:=av) (kv:=.slice oa st.length c) H6)
theorem Zxl (H:Holds w (SoR b s x n::L)) (hz:Sz s x) (h1:x.laid < x.aside.length) (h2:x.merge.lo+x.laid < x.order.length)
  (k:∀ w',Same w w'->Holds w' (SoR b s (layS x) n::L)->K (.tuple #[]) w'):Cl prog 169 #[pt b] w K:=by
 refine Tz169 ?_;unfold Vz169;have hlen:=hz.len;have hal:=hz.al;have hol:=hz.ol;obtain⟨ov,cv,av,kv,H⟩:=Zan H;refine r_dr H λw1 S1 H1=>?_;refine r_nc (r_fo0 (r_ld 0 H1 rfl rfl ?_));refine r_nc (r_fo0 (r_ld 0 H1 rfl rfl ?_));refine r_nc (r_fo0 (r_ld 0 H1 rfl rfl ?_));refine r_nc (r_fo (r_fo (r_ld 0 H1 rfl rfl ?_)));refine r_nc (r_fo0 (r_ld 0 H1 rfl rfl ?_));refine Zad (by omega) ?_;refine Zaa 1 H1 rfl (Zau h2) ?_;refine Zao 3 H1 (x.order.getD (x.merge.lo+x.laid) 0) rfl h1 rfl λw2 S2 H2=>?_;refine r_nc (r_fo0 (r_ld 0 H2 rfl rfl ?_));refine Za0 (by omega) ?_;refine r_nc (r_fo0 ?_);refine r_st 0 H2 rfl (by simp[soC]) rfl λw3 S3 H3=>?_;exact k _ (S1.trans (S2.trans S3)) (Zak (ov:=ov) (cv:=cv) (av:=av) (kv:=kv) H3)
theorem put_spec (H:Holds w (SoR b s x n::L)) (hz:Sz s x) (hm:x.merge.hi<=s.length/\x.merge.mid<=x.merge.hi/\x.merge.lo<=x.merge.mid/\0 < x.merge.hi) (h1:toS x < s.length) (h2:x.merge.mid<=x.second) (h3:x.second<=x.merge.hi) (h4:x.first<=x.laid) (h5:x.laid<=s.length)
  (h6:x.second=x.merge.hi->x.first < x.laid) (hA:x.first < x.laid->x.aside.getD x.first 0 < s.length) (hO:x.second < x.merge.hi->x.order.getD x.second 0 < s.length)
  (k:∀ w',Same w w'->Holds w' (SoR b s (putS (keyS s x) x) n::L)->K (.tuple #[]) w'):Cl prog 170 #[pt b] w K:=by
 refine Tz170 ?_;unfold Vz170;have hlen:=hz.len;have hal:=hz.al;have hol:=hz.ol
 have hzp:(zeroP prog tPt).cells.toList=[iv 0,iv 0,iv 0]:=by kernel_rfl
 have hto:toS x=x.merge.lo+x.first+x.second - x.merge.mid:=rfl;obtain⟨ov,cv,av,kv,H⟩:=Zan H;refine r_nc (r_fo ?_);refine r_ldA 0 H (Fp x.merge) rfl rfl rfl ?_;refine r_new H λmb w1 S1 H1=>?_;rw[hzp] at H1;refine r_stA 0 H1 (vs:=Fp x.merge) rfl (by decide) rfl rfl λw2 S2 H2=>?_;replace H2:Holds w2 (blk mb tPt (Fp x.merge)::(soL b s ov cv av kv x n++L)):=H2;refine r_dr H2 λw3 S3 H3=>?_;have S:=S1.trans (S2.trans S3);clear H H1 H2 S1 S2 S3;refine r_fo0 (r_ld 0 H3 rfl rfl ?_);refine r_nc (r_fo0 (r_ld 1 H3 rfl rfl ?_));refine Zad (by omega) ?_;refine r_nc (r_fo0 (r_ld 1 H3 rfl rfl ?_));refine Zad (by omega) ?_;refine r_fo0 (r_ld 0 H3 rfl rfl ?_);refine r_sub (by omega) (by omega) ?_;rw[show (((x.merge.lo+x.first+x.second:Nat):Int)) - (x.merge.mid:Int)=((toS x:Nat):Int) by omega]
 refine Zbh (λw'=>Same w w'/\∃ (ov cv av kv:Value),Holds w' (blk mb tPt (Fp x.merge)::(soL b s ov cv av kv (moveS (keyS s x) x) n++L))) ?_ ?_
 ·rintro _ w4 ⟨S4,ov,cv,av,kv,H4⟩
  have hmm:(moveS (keyS s x) x).merge=x.merge:=by unfold moveS;split <;> rfl
  refine r_fo0 (r_ld 0 H4 rfl rfl ?_);refine r_sub (by omega) (by omega) ?_;refine r_eql (r_ifE (λh=>?_) λh=>?_)
  ·refine r_bd (v:=.agg (Fp ⟨0,0,0⟩).toArray) (by kernel_rfl) ?_;refine r_nc (r_fo ?_);refine r_stA 1 H4 (vs:=Fp ⟨0,0,0⟩) rfl (by simp[soC]) rfl rfl λw5 S5 H5=>?_
   have e:putS (keyS s x) x={ moveS (keyS s x) x with merge:=⟨0,0,0⟩ }:=by unfold putS;rw[if_pos (by omega)]
   rw[e] at k;exact k _ (S4.trans S5) (Zak (ov:=ov) (cv:=cv) (av:=av) (kv:=kv) H5.drop)
  ·have e:putS (keyS s x) x=moveS (keyS s x) x:=by unfold putS;rw[if_neg (by omega)]
   rw[e] at k;exact k _ S4 (Zak H4.drop)
 refine Za2 (λt w'=>Same w w'/\Holds w' (blk mb tPt (Fp x.merge)::(soL b s ov cv av kv x n++L))/\t=.bool (decide (fromA (keyS s x) x))) ?_ ?_
 ·rintro _ _ w4 ⟨S4,H4,rfl⟩;refine r_ifD (λh=>?_) λh=>?_
  ·have hf:x.first < x.laid:=by
    rcases h with h|h
    ·exact h6 h
    ·exact h.1
   refine r_dr H4 λw5 S5 H5=>?_;refine r_nc (r_fo0 (r_ld 1 H5 rfl rfl ?_));refine r_nc (r_fo0 (r_ld 1 H5 rfl rfl ?_));refine r_nc (r_fo0 (r_ld 1 H5 rfl rfl ?_));refine Zaa 4 H5 rfl (Zau (by omega)) ?_;refine Zao (j:=toS x) 2 H5 (x.aside.getD x.first 0) rfl (by omega) rfl λw6 S6 H6=>?_;refine r_nc (r_fo0 (r_ld 1 H6 rfl rfl ?_));refine Za0 (by omega) ?_;refine r_nc (r_fo0 ?_);refine r_st 1 H6 rfl (by simp[soC]) rfl λw7 S7 H7=>?_;refine r_ke ⟨S4.trans (S5.trans (S6.trans S7)),ov,cv,av,kv,?_⟩;unfold moveS;rw[if_pos h];exact H7
  ·have hf:x.second < x.merge.hi:=by
    rcases hU_ x.second x.merge.hi with g|g
    ·exact g
    ·exact absurd (.inl (by omega)) h
   refine r_dr H4 λw5 S5 H5=>?_;refine r_nc (r_fo0 (r_ld 1 H5 rfl rfl ?_));refine r_nc (r_fo0 (r_ld 1 H5 rfl rfl ?_));refine r_nc (r_fo0 (r_ld 1 H5 rfl rfl ?_));refine Zaa 2 H5 rfl (Zau (by omega)) ?_;refine Zao (j:=toS x) 2 H5 (x.order.getD x.second 0) rfl (by omega) rfl λw6 S6 H6=>?_;refine r_nc (r_fo0 (r_ld 1 H6 rfl rfl ?_));refine Za0 (by omega) ?_;refine r_nc (r_fo0 ?_);refine r_st 1 H6 rfl (by simp[soC]) rfl λw7 S7 H7=>?_;refine r_ke ⟨S4.trans (S5.trans (S6.trans S7)),ov,cv,av,kv,?_⟩;unfold moveS;rw[if_neg h];exact H7
 ·refine r_dr H3 λw4 S4 H4=>?_;refine r_nc (r_fo0 (r_ld 1 H4 rfl rfl ?_));refine r_fo0 (r_ld 0 H4 rfl rfl ?_);refine r_eql (r_ifE (λh=>?_) λh=>?_)
  ·exact r_ke ⟨S.trans S4,H4,by rw[decide_eq_true (.inl (by omega))]⟩
  refine r_nc (r_fo0 (r_ld 1 H4 rfl rfl ?_));refine r_nc (r_fo0 (r_ld 1 H4 rfl rfl ?_));refine r_lss (r_ifD (λh7=>?_) λh7=>?_)
  ·refine r_nc (r_fo0 (r_ld 1 H4 rfl rfl ?_));refine r_nc (r_fo0 (r_ld 1 H4 rfl rfl ?_));refine Zaa 4 H4 rfl (Zau (by omega)) ?_;refine r_nc (r_fo0 (r_ld 1 H4 rfl rfl ?_));refine r_nc (r_fo0 (r_ld 1 H4 rfl rfl ?_));refine Zaa 2 H4 rfl (Zau (by omega)) ?_
   have H5:Holds w4 (soL b s ov cv av kv x n++(blk mb tPt (Fp x.merge)::L)):=by have h_:=Holds.ord 6 [1,2,3,4,5,0] H4 rfl;exact h_
   refine Zht H5 hz (hA (by omega)) (hO (by omega)) λw5 S5 H6=>?_;refine r_not (r_ke ⟨S.trans (S4.trans S5),by have h_:=Holds.ord 6 [5,0,1,2,3,4] H6 rfl;exact h_,?_⟩);rw[show (!decide (klt (keyS s x (x.order.getD x.second 0)) (keyS s x (x.aside.getD x.first 0))))=decide (fromA (keyS s x) x) from ?_];rw[Bool.eq_iff_iff,Bool.not_eq_true',decide_eq_false_iff_not,decide_eq_true_iff];unfold fromA
   constructor
   ·exact λz=>.inr ⟨by omega,z⟩
   ·rintro (z|z)
    ·omega
    ·exact z.2
  ·refine r_ke ⟨S.trans S4,H4,?_⟩
   rw[decide_eq_false (show ¬ fromA (keyS s x) x from λz=>by
    rcases z with z|z
    ·omega
    ·exact h7 (by have:=z.1;omega))]
end S16
end Go.Proofs.YtieneaffjelhhaaGreat
