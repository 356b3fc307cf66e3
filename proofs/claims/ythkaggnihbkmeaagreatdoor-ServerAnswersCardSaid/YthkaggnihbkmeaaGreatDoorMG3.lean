/- Several texts in one: M01, So, J36, Gc, Gn, W01, W02, U38, Gj, Lg, Lr, Gt, Gu, Gw, Jt, Gx, Qu, Dq, S40. -/
import Derived.WalkKit
import Derived.Test.YthkaggnihbkmeaaGreatDoorMG0
import Derived.Test.YthkaggnihbkmeaaGreatDoorRows
import Derived.Lib.LaidU8T
import Derived.LaidMore
import Derived.Test.YthkaggnihbkmeaaGreatDoorMG1
import Derived.Test.YthkaggnihbkmeaaGreatDoorMG2
import Derived.Test.YthkaggnihbkmeaaGreatDoorFm
import Derived.Shelf.Strings.OnBuilder
import Derived.Shelf.Small.Strs
set_option linter.unusedVariables false
set_option linter.unusedSimpArgs false
open Go.RowKit (intOf)
open List (drop_append drop_append_of_le_length drop_eq_getElem_cons drop_length drop_of_length_le drop_zero map_map mem_cons mem_of_getElem? set_set take_append_of_le_length)
namespace Go.M01
def valB (l:List Bool):Nat:=l.foldl (λa b=>2*a+b.toNat) 0
theorem Zgo (l:List Bool) (b:Bool):valB (l++[b])=2*valB l+b.toNat:=by simp[valB]
theorem Zpj (l:List Bool):valB l < 2^l.length:=by
 have h:∀ n (l:List Bool),l.length=n->valB l < 2^n:=by
  intro n
  induction n with
  |zero=>intro l hl;rw[List.length_eq_zero_iff.1 hl];decide
  |succ n ih=>
   intro l hl
   have hne:l≠[]:=by rintro rfl;simp at hl
   rw[<-List.dropLast_concat_getLast hne,Zgo,Nat.pow_succ];have h1:=ih l.dropLast (by simp[hl]);have h2:=Bool.toNat_le (l.getLast hne);omega
 exact h _ l rfl
def byteAt (bs:List Bool) (i:Nat):UInt8:=UInt8.ofNat (valB ((bs.drop (8*i)).take 8))
def wholeB (bs:List Bool):List UInt8:=(List.range (bs.length/8)).map (byteAt bs)
def restB (bs:List Bool):Nat:=valB (bs.drop (8*(bs.length/8)))*2^(8 - bs.length%8)%256
theorem Zty:∀ r,r < 8->∀ v,v < 128->∀ b:Bool,v < 2^r->(v*2^(8 - r)%256) ||| (b.toNat*2^(7 - r)%256)=(2*v+b.toNat)*2^(7 - r):=by decide +kernel
theorem Zhl (bs:List Bool):(wholeB bs).length=bs.length/8:=by simp[wholeB]
theorem Zvg (bs:List Bool) (b:Bool) (h:bs.length%8 < 7) :
  wholeB (bs++[b])=wholeB bs/\restB (bs++[b])=restB bs ||| (b.toNat*2^(7 - bs.length%8)%256)/\restB (bs++[b]) < 256:=by
 have hl:(bs++[b]).length=bs.length+1:=by simp
 have hd:(bs.length+1)/8=bs.length/8:=by omega
 have hm:(bs.length+1)%8=bs.length%8+1:=by omega
 refine⟨?_,?_,?_⟩
 ·unfold wholeB;rw[hl,hd];apply List.map_congr_left;intro i hi;rw[List.mem_range] at hi;unfold byteAt;rw[drop_append_of_le_length (by omega),take_append_of_le_length (by rw[gS];omega)]
 ·unfold restB;rw[hl,hd,hm,drop_append_of_le_length (by omega),Zgo];have hv:=Zpj (bs.drop (8*(bs.length/8)));rw[gS,show bs.length - 8*(bs.length/8)=bs.length%8 by omega] at hv;have h7:2^(bs.length%8)<=2^6:=Nat.pow_le_pow_right (by omega) (by omega);rw[Zty (bs.length%8) (by omega) _ (by omega) b hv,show 8 - (bs.length%8+1)=7 - bs.length%8 by omega];refine Nat.mod_eq_of_lt ?_;have hb:=Bool.toNat_le b
  have h1:2*valB (bs.drop (8*(bs.length/8)))+b.toNat < 2^(bs.length%8+1):=by rw[Nat.pow_succ];omega
  calc _ < 2^(bs.length%8+1)*2^(7 - bs.length%8):=Nat.mul_lt_mul_of_pos_right h1 (Nat.two_pow_pos _)
   _=2^8:=by rw[<-Nat.pow_add];congr 1;omega
 ·unfold restB;exact Nat.mod_lt _ (by decide)
theorem Zsh (bs:List Bool) (b:Bool) (h:bs.length%8=7) :
  wholeB (bs++[b])=wholeB bs++[UInt8.ofNat (restB bs ||| (b.toNat*2^(7 - bs.length%8)%256))]/\restB (bs++[b])=0:=by
 have hl:(bs++[b]).length=bs.length+1:=by simp
 have hd:(bs.length+1)/8=bs.length/8+1:=by omega
 have hv:=Zpj (bs.drop (8*(bs.length/8)));rw[gS,show bs.length - 8*(bs.length/8)=7 by omega] at hv;refine⟨?_,?_⟩
 ·unfold wholeB;rw[hl,hd,List.range_succ,List.map_append]
  congr 1
  ·apply List.map_congr_left;intro i hi;rw[List.mem_range] at hi;unfold byteAt;rw[drop_append_of_le_length (by omega),take_append_of_le_length (by rw[gS];omega)]
  ·rw[List.map_singleton];unfold restB byteAt;rw[h,Zty 7 (by omega) _ (by omega) b hv,drop_append_of_le_length (by omega),gK (by simp;omega),Zgo];simp
 ·unfold restB;rw[hl,hd,drop_of_length_le (by simp;omega),show valB []=0 from rfl,Nat.zero_mul]
theorem Zse (bs:List Bool):restB bs < 256:=Nat.mod_lt _ (by decide)
def bitsOf (v n:Nat):List Bool:=(List.range n).map λi=>v.testBit (n - 1 - i)
theorem Zdl (v n:Nat):(bitsOf v n).length=n:=by simp[bitsOf]
theorem Zoy (v n i:Nat) (h:i < n):(bitsOf v n)[i]?=some (v.testBit (n - 1 - i)):=by simp[bitsOf,h]
theorem Zx0 (v j:Nat):(v/2^j) &&& 1=(v.testBit j).toNat:=by
 rw[Nat.and_one_is_mod,Nat.testBit_eq_decide_div_mod_eq]
 rcases Nat.mod_two_eq_zero_or_one (v/2^j) with h|h <;> simp[h]
theorem Zsw (v n i:Nat) (h:i < n):(bitsOf v n).take (i+1)=(bitsOf v n).take i++[v.testBit (n - 1 - i)]:=by
 rw[gO,Zoy v n i h];rfl
end Go.M01
namespace Go.Vc
section
variable {α:Type}{P:Program}{w:World}{L:List HProp}
theorem r_apO {t e:TypeId}{z:Value} [hr:Row P t e z] (H:Holds w L) (i j:Nat){f:α->Value}{oa:Option Addr}{xs ys:List α}{sp:List Value}{l c m c' b2 o2:Nat}{cs:List Value}{ty:TypeId}{K:KT}
  (hi:L[i]?=some (slb f e oa xs sp)) (hj:L[j]?=some (blk b2 e cs)) (hcs:(cs.drop o2).take m=ys.map f) (hm:m=ys.length) (hl:l=xs.length) (hc:c=xs.length+sp.length) (hs:∀ y,sg (f y)=true)
  (hn:xs.length+ys.length<=1099511627776) (hne:0 < ys.length)
  (h:∀ oa' sp' w',Same w w'->Holds w' (L.set i (slb f e oa' (xs++ys) sp'))->K (.slice oa' (xs.length+ys.length) (xs.length+ys.length+sp'.length)) w') :
  Ap P #[t,t] ty #[.slice oa l c,.slice (some ⟨b2,o2,none⟩) m c'] w K:=by
 subst hl hc hm;obtain⟨inf,hinf,hsz,hby,hzz⟩:=hr.inf
 have hnews:∀ k u,(ys.map f)[k]?=some u->w.cell? ((⟨b2,o2,none⟩:Addr).add k)=some u:=by
  intro k u hu
  have e1:(⟨b2,o2,none⟩:Addr).add k=⟨b2,o2+k,none⟩:=by
   unfold Addr.add;split
   ·rename_i h;rw[h];rfl
   ·rfl
  rw[e1,H.cell j hj (o2+k)]
  have hk:k < ys.length:=by have:=(gH.1 hu).1;simpa using this
  rw[<-hu,<-hcs,hI_ hk,hH_]
 have hmul:(xs.length+ys.length)*inf.bytes<=140737488355328:=
  Nat.le_trans (Nat.mul_le_mul_left _ hby) (by omega)
 have grow:∀ (b:Addr) (olds:List Value),olds=xs.map f->(∀ k v,olds[k]?=some v->w.cell? (b.add k)=some v)->sp.length < ys.length->
   (∃ o,L[i]?=some o)->Ap P #[t,t] ty #[.slice (some b) xs.length (xs.length+sp.length),.slice (some ⟨b2,o2,none⟩) ys.length c'] w K:=by
  intro b olds ho hold hg _;subst ho
  have hrun:=run_append_grow (P:=P) w t ty e inf z hr.und hinf hzz b xs.length (xs.length+sp.length) (xs.map f) (by simp[hsz]) hold
   ⟨b2,o2,none⟩ ys.length c' (ys.map f) (by simp[hsz]) hnews (by omega) (by omega) (growslice_fits (by omega) hmul)
  refine⟨_,_,hrun,?_⟩;have hcap:=grownCap_ge w (xs.length+ys.length) (xs.length+sp.length) e;generalize grownCap w (xs.length+ys.length) (xs.length+sp.length) e=cap at hcap ⊢
  have hz2:Builtin.zeroCells z.cells (cap - (xs.length+ys.length))=(List.replicate (cap - (xs.length+ys.length)) z).toArray:=by
   rw[hr.one];apply Array.ext
   ·simp[Builtin.zeroCells]
   ·intro j h1 h2;simp[Builtin.zeroCells,Nat.mod_one]
  have hcells:((xs.map f).toArray++(ys.map f).toArray++Builtin.zeroCells z.cells (cap - (xs.length+ys.length)))=((xs++ys).map f++List.replicate (cap - (xs.length+ys.length)) z).toArray:=by
   rw[hz2];simp
  rw[hcells];have H1:Holds w.drew L:=H.same rfl;have H2:=H1.alloc (.cells ((xs++ys).map f++List.replicate (cap - (xs.length+ys.length)) z).toArray e)
  have H3:Holds (w.drew.alloc (.cells ((xs++ys).map f++List.replicate (cap - (xs.length+ys.length)) z).toArray e)) (L.set i (slb f e (some ⟨w.heap.size,0,none⟩) (xs++ys) (List.replicate (cap - (xs.length+ys.length)) z))):=by
   have H4:=(Holds.imp H2 (Q:=slb f e (some ⟨w.heap.size,0,none⟩) (xs++ys) (List.replicate (cap - (xs.length+ys.length)) z)) λg hg=>⟨rfl,rfl,hg⟩);have H5:=H4.dropAt (i+1);rw[List.eraseIdx_cons_succ] at H5;exact Sat.push i hi H5
  have:=h (some ⟨w.heap.size,0,none⟩) (List.replicate (cap - (xs.length+ys.length)) z) _ ((Same.drew w).trans (.alloc _ _)) H3
  have hc2:xs.length+ys.length+(List.replicate (cap - (xs.length+ys.length)) z).length=cap:=by simp;omega
  rw[hc2] at this;exact this
 cases oa with
 |none=>
  obtain⟨g,⟨h2,h3⟩,_⟩:=H.front i hi;subst h2;subst h3;simp only[List.length_nil,Nat.zero_add,hO_] at hn hmul h ⊢;have hrun:=run_append_nil (P:=P) w t ty e inf z hr.und hinf hzz ⟨b2,o2,none⟩ ys.length c' (ys.map f) (by simp[hsz]) hnews (by omega) (by omega) (by omega);refine⟨_,_,hrun,?_⟩;have hcap:=grownCap_ge w ys.length 0 e;generalize grownCap w ys.length 0 e=cap at hcap ⊢
  have hz2:Builtin.zeroCells z.cells (cap - ys.length)=(List.replicate (cap - ys.length) z).toArray:=by
   rw[hr.one];apply Array.ext
   ·simp[Builtin.zeroCells]
   ·intro j h1 h2;simp[Builtin.zeroCells,Nat.mod_one]
  have hcells:((ys.map f).toArray++Builtin.zeroCells z.cells (cap - ys.length))=(ys.map f++List.replicate (cap - ys.length) z).toArray:=by
   rw[hz2];simp
  rw[hcells];have H2:=(H.same (w':=w.drew) rfl).alloc (.cells (ys.map f++List.replicate (cap - ys.length) z).toArray e);have H4:=(Holds.imp H2 (Q:=slb f e (some ⟨w.heap.size,0,none⟩) ys (List.replicate (cap - ys.length) z)) λg hg=>⟨rfl,rfl,hg⟩);have H5:=H4.dropAt (i+1);rw[List.eraseIdx_cons_succ] at H5;have:=h (some ⟨w.heap.size,0,none⟩) (List.replicate (cap - ys.length) z) _ ((Same.drew w).trans (.alloc _ _)) (Sat.push i hi H5)
  have hc2:ys.length+(List.replicate (cap - ys.length) z).length=cap:=by simp;omega
  rw[hc2] at this;exact this
 |some a=>
  obtain⟨g,⟨h2,h3,_⟩,_⟩:=H.front i hi;obtain⟨b,o,s⟩:=a;simp only at h2 h3;subst h2;subst h3;have Hb:=H.slb i hi;have hgi:(L.set i (blk b e (xs.map f++sp)))[i]?=some (blk b e (xs.map f++sp)):=Za6 hi
  have hold:∀ k v,(xs.map f)[k]?=some v->w.cell? ((⟨b,0,none⟩:Addr).add k)=some v:=by
   intro k v hv
   have e1:(⟨b,0,none⟩:Addr).add k=⟨b,k,none⟩:=by
    unfold Addr.add;split
    ·rename_i h;rw[h]
    ·simp
   rw[e1,Hb.cell i hgi k,gM (by simpa using (gH.1 hv).1)];exact hv
  rcases hU_ sp.length ys.length with hg|hg
  ·exact grow ⟨b,0,none⟩ _ rfl hold hg ⟨_,hi⟩
  ·have hobj:=Hb.obj i hgi
   have hrun:=run_append_room (P:=P) w t ty e inf hr.und hinf b xs.length (xs.length+sp.length) (xs.map f++sp).toArray hobj
    ⟨b2,o2,none⟩ ys.length c' (ys.map f) (by simp[hsz]) hnews (by simpa using λy _=>Zkf (hs y)) (by omega) (by simp[hsz];omega)
   refine⟨_,_,hrun,?_⟩
   have hcells:(((xs.map f++sp).toArray.toList.take (xs.length*inf.size)++ys.map f++(xs.map f++sp).toArray.toList.drop (xs.length*inf.size+(ys.map f).length)).toArray)=((xs++ys).map f++sp.drop ys.length).toArray:=by
    rw[hsz];simp[List.take_append,drop_append]
   rw[hcells]
   have H3:Holds (w.setRow b ((xs++ys).map f++sp.drop ys.length).toArray) (L.set i (slb f e (some ⟨b,0,none⟩) (xs++ys) (sp.drop ys.length))):=by
    have:=Hb.upd (w':=w.setRow b ((xs++ys).map f++sp.drop ys.length).toArray) i hgi (o':=.cells ((xs++ys).map f++sp.drop ys.length).toArray e) (setRow_heap w b _ _ e _ hobj) λc hc=>setRow_other w b c _ hc;have h4:=Holds.slb' (f:=f) (e:=e) (b:=b) (xs:=xs++ys) (sp:=sp.drop ys.length) this i (by rw[set_set];exact Za6 hi);simpa [set_set] using h4
   have hlen:xs.length+sp.length=xs.length+ys.length+(sp.drop ys.length).length:=by simp;omega
   rw[hlen];exact h _ _ _ ⟨rfl,rfl,rfl,by simp⟩ H3
end
end Go.Vc
namespace Go.Proofs.YthkaggnihbkmeaaGreatDoor
open Go Go.Vc Go.Proofs.Tryz
namespace J30
variable {w:World}{L:List HProp}{K:KT}
set_option maxRecDepth 1000000
def ren:Go.Shelf.Ren:=⟨λx=>x,λx=>if x=5 then 5 else if x=119 then 341 else if x=138 then 343 else 344,λx=>if x=3 then 0 else 1⟩
theorem Zp9 {W w':World}(h:Lib.Utf8Tabs 0 1 W) (H':Holds w' [whole W]):Lib.Utf8Tabs 0 1 w':=by
 obtain⟨g,hg,hgs,_⟩:=H'
 have key:∀ (a:Addr) (v:Value),W.cell? a=some v->w'.cell? a=some v:=by
  intro a v h7;unfold World.cell? at h7 ⊢
  cases hb:W.heap[a.block]? with
  |none=>rw[hb] at h7;cases h7
  |some o=>
   rw[hb] at h7;rw[show w'.heap[a.block]?=some o from hgs _ _ (hg _ _ hb)];exact h7
 obtain⟨g1,g2⟩:=h;exact⟨λb hb=>key _ _ (g1 b hb),λi hi=>⟨key _ _ (g2 i hi).1,key _ _ (g2 i hi).2⟩⟩
theorem Zrk {W : World} {l : List (String × DataW Unit)} (hl : laidMet prog l W) (m1 : ("unicode/utf8.first", Rows.laid_unicode_utf8_first) ∈ l) (m2 : ("unicode/utf8.acceptRanges", Rows.laid_unicode_utf8_acceptRanges) ∈ l) : TabIn [whole W] := by
 have h3 := Lib.laidMet.reads hl (n := "unicode/utf8.first") (d := Rows.laid_unicode_utf8_first) m1; have h4 := Lib.laidMet.reads hl (n := "unicode/utf8.acceptRanges") (d := Rows.laid_unicode_utf8_acceptRanges) m2
 have e3:Rows.laid_unicode_utf8_first=Lib.firstData:=by kernel_rfl
 have e4:(Rows.laid_unicode_utf8_acceptRanges:DataW Unit)=Lib.acceptData:=by kernel_rfl
 rw[e3] at h3;rw[e4] at h4;have g:=Go.Proofs.utf8Tabs_of_readsT (P:=prog) (ρ:=ren) ⟨by kernel_rfl,by kernel_rfl,by kernel_rfl,by kernel_rfl⟩ ⟨by kernel_rfl,by kernel_rfl,by kernel_rfl,by kernel_rfl,by kernel_rfl,by kernel_rfl,by kernel_rfl⟩ h3 h4;exact λw' H'=>Zp9 g H'
end J30
namespace F33
open Go.M31 J30 J31 J32
variable {w:World}{L:List HProp}{K:KT}{cb:Nat}{v m:Value}{ts:List Tn}{f:Fr}
abbrev tCo:Nat:=201
set_option maxRecDepth 1000000 in
instance rowTn:RowN prog 22 tT 5:=⟨underlying22,_,_,rfl,rfl,by decide,rfl,rfl⟩
theorem Zls {a:Option Addr}{c:Nat}(H:Holds w L) (hT:TsIn L a ts) (hl:ts.length<=1000) (h0:0 < ts.length) (k:∀ v w',Same w w'->Holds w' (RW cellsT 5 tT v ts::L)->K v w') :
  Cl prog 120 #[.slice a ts.length c] w K:=by
 refine Tz120 ?_;unfold Vz120;obtain⟨p,rfl,_⟩:=hT w H 0 ts[0] (gA h0);refine r_be (v:=.bool false) (by kernel_rfl) (r_vf ?_);refine r_bsK (e:=tT) [] H (by kernel_rfl) λbz w1 S1 H1=>?_;have hT1:S4r.InG cellsT 5 (blk bz tT []::L) (some p) ts:=hT.up;refine r_apG (F:=cellsT) (k:=5) (e:=tT) H1 hT1 (λ_=>rfl) h0 hl λv w2 S2 H2=>?_;exact k v w2 (S1.trans S2) (Holds.dropAt H2 1)
theorem Zpo {z:Bool}{a:Option Addr}{c:Nat}(H:Holds w L) (hT:TsIn L a ts) (hU:J33.TabZ z L) (hA:∀ t∈ts,J33.AscT z t) (hs:∀ t∈ts,szT t) (hc:ts.length<=c) (hok:goodTs ts)
  (k:∀ cb v m w',Same w w'->Holds w' (blk cb tCo [v,iv (-1),.map (some m)]::RW cellsT 5 tT v ts::MD m (λ_=>none) 0::L)->K (.tuple #[pt cb,iv 0]) w'):Cl prog 75 #[.slice a ts.length c] w K:=by
 refine Tz75 ?_;unfold Vz75;refine J33.Zdv H hT hU hA hs hc λx e w1 S1 H1 hch=>?_;obtain rfl:e=0:=Zf2 hch (.inr (.inr (.inr ⟨hok,rfl⟩)));refine Za4 (Za3 (r_neq (r_vfN rfl ?_)));have h3:=hok.2.2;refine Zls H1 hT (by omega) h3.1 λv w2 S2 H2=>?_;refine r_mmD H2 λmb w3 S3 H3=>?_;obtain⟨oa,q,sp,rfl,_⟩:=H2.openRW 0 rfl;refine r_bd (v:=.agg #[.slice oa ts.length (ts.length+q),iv (-1),.map (some mb)]) (by kernel_rfl) ?_;refine r_new H3 λcb w4 S4 H4=>?_;exact k cb _ mb w4 (S1.trans (S2.trans (S3.trans S4))) (by have h_:=Holds.ord 3 [0,2,1] H4 rfl;exact h_)
def actL (i:Nat):List Value:=[iv 2,iv 0,nv i,iv 0,iv 0,iv 0,S_ [],iv 0]
def actR (jb:Nat) (e:Int):List Value:=[iv 1,nv jb,iv 0,iv 0,iv 0,iv 0,S_ [],iv e]
theorem Zgr {jb:Nat}{e:Int}(H:Holds w L) (k:∀ w',Same w w'->Holds w' L->K (.agg (actR jb e).toArray) w'):Cl prog 127 #[nv jb,iv e] w K:=by
 refine Tz127 ?_;unfold Vz127;refine r_new H λb w1 S1 H1=>?_;rw[Zd3] at H1;refine r_bd (v:=.agg (actR jb e).toArray) (by kernel_rfl) ?_;refine r_stA 0 H1 (vs:=actR jb e) rfl (Nat.le_refl 8) rfl rfl λw2 S2 H2=>?_;refine r_ldA 0 H2 (actR jb e) rfl rfl rfl ?_;exact k _ (S1.trans S2) H2.drop
theorem Znt {z:Bool}(H:Holds w (blk cb tCo [v,iv (-1),m]::RW cellsT 5 tT v ts::L)) (hU:J33.TabZ z L) (hA:J33.Asc z f.da) (h1:f.jb<=4294967295) (h2:f.da.length<=65536) (hl:ts.length<=1000) (hs:∀ t∈ts,szT t)
  (k1:logs f->∀ i w',First ts f.da i->Same w w'->Holds w' (blk cb tCo [v,nv i,m]::RW cellsT 5 tT v ts::L)->K (.agg (actL i).toArray) w')
  (k2:¬ logs f\/Nobody ts f.da->∀ w',Same w w'->Holds w' (blk cb tCo [v,iv (-1),m]::RW cellsT 5 tT v ts::L)->K (.agg (actR f.jb 30).toArray) w') :
  Cl prog 125 #[pt cb,.agg (cellsF f).toArray] w K:=by
 refine Tz125 ?_;unfold Vz125;refine r_new H λfb w1 S1 H1=>?_;replace H1:Holds w1 (blk fb tFr (cellsF f)::blk cb tCo [v,iv (-1),m]::RW cellsT 5 tT v ts::L):=H1;refine r_new H1 λob w2 S2 H2=>?_;rw[Zd3] at H2;refine r_ldA 1 H2 (cellsF f) rfl rfl rfl ?_;have S:=S1.trans S2;clear S1 S2 H H1
 have no:∀ (rb:Nat) (rc:List Value) w',(¬ logs f\/Nobody ts f.da)->Same w w'->Holds w' (blk rb tRq rc::blk ob tAc zAct::blk fb tFr (cellsF f)::blk cb tCo [v,iv (-1),m]::RW cellsT 5 tT v ts::L)->
   Fo 1 (pt fb) λx_9=>Ld x_9 w' λx_10=>Cl prog 127 #[x_10,iv 30] w' λx_11 w7=>StA 8 (pt ob) x_11 w7 λw8=>LdA 8 (pt ob) w8 λx_12=>K x_12 w8:=by
  intro rb rc w' hno Sz Hz;refine r_fo0 (r_ld 2 Hz rfl rfl ?_);refine Zgr Hz λw7 S7 H7=>?_;refine r_stA 1 H7 (vs:=actR f.jb 30) rfl (Nat.le_refl 8) rfl rfl λw8 S8 H8=>?_;refine r_ldA 1 H8 (actR f.jb 30) rfl rfl rfl ?_;exact k2 hno w8 (Sz.trans (S7.trans S8)) H8.drop.drop.drop
 refine Zqh H2 hU.up.up.up.up hA h1 h2 (λhlg w3 S3 H3=>?_) λhlg a b c d e g h r w3 hsg hr S3 H3=>?_
 ·refine Za4 (Za3 ?_);refine r_new H3 λrb w4 S4 H4=>?_;rw[Zd2] at H4;refine r_stA 0 H4 (vs:=[nv 1,nv f.jb,S_ f.da,S_ [],iv 0,iv 0,iv 0]) rfl (Nat.le_refl 7) rfl rfl λw5 S5 H5=>?_;replace H5:Holds w5 (blk rb tRq [nv 1,nv f.jb,S_ f.da,S_ [],iv 0,iv 0,iv 0]::blk ob tAc zAct::blk fb tFr (cellsF f)::blk cb tCo [v,iv (-1),m]::RW cellsT 5 tT v ts::L):=H5;have S':=S.trans (S3.trans (S4.trans S5));refine Za0 (λx w'=>w5=w'/\x=.bool false) ?_ ?_
  rotate_left
  ·refine r_neq (r_vfN rfl (r_fo0 (r_ld 0 H5 rfl rfl (r_neq (r_ke ⟨rfl,rfl⟩)))))
  rintro _ _ _ ⟨rfl,rfl⟩;refine r_vf (r_dr H5 λw6 S6 H6=>?_);obtain⟨oa,q,sp,rfl,_⟩:=H6.openRW 4 rfl;refine r_nc (r_fo0 (r_ld 3 H6 rfl rfl (r_fo0 (r_ld 0 H6 rfl rfl ?_))));have hT:TsIn (blk rb tRq [nv 1,nv f.jb,S_ f.da,S_ [],iv 0,iv 0,iv 0]::blk ob tAc zAct::blk fb tFr (cellsF f)::blk cb tCo [.slice oa ts.length (ts.length+q),iv (-1),m]::RW cellsT 5 tT (.slice oa ts.length (ts.length+q)) ts::L) oa ts:=S4r.InG.own 4 rfl (λ_=>rfl);refine Find_spec H6 hT hl hs (λi w7 hi S7 H7=>?_) λw7 hno S7 H7=>?_
  ·refine Za4 (Za3 (r_neq (r_vfN rfl ?_)));refine r_nc (r_fo0 (r_st 3 H7 rfl (by simp) rfl λw8 S8 H8=>?_));replace H8:Holds w8 (blk rb tRq [nv 1,nv f.jb,S_ f.da,S_ [],iv 0,iv 0,iv 0]::blk ob tAc zAct::blk fb tFr (cellsF f)::blk cb tCo [.slice oa ts.length (ts.length+q),nv i,m]::RW cellsT 5 tT (.slice oa ts.length (ts.length+q)) ts::L):=H8;refine r_bd (v:=.agg (actL i).toArray) (by kernel_rfl) ?_;refine r_stA 1 H8 (vs:=actL i) rfl (Nat.le_refl 8) rfl rfl λw9 S9 H9=>?_;refine r_ldA 1 H9 (actL i) rfl rfl rfl ?_;exact k1 hlg i w9 hi (S'.trans (S6.trans (S7.trans (S8.trans S9)))) H9.drop.drop.drop
  ·refine Za4 (Za3 (r_neq (r_vtN (by decide) ?_)));exact no rb _ w7 (.inr hno) (S'.trans (S6.trans S7)) H7
 ·refine Za4 (Za3 ?_);refine r_new H3 λrb w4 S4 H4=>?_;rw[Zd2] at H4;refine r_stA 0 H4 (vs:=[a,b,c,d,e,g,h]) rfl (Nat.le_refl 7) rfl hsg λw5 S5 H5=>?_;replace H5:Holds w5 (blk rb tRq [a,b,c,d,e,g,h]::blk ob tAc zAct::blk fb tFr (cellsF f)::blk cb tCo [v,iv (-1),m]::RW cellsT 5 tT v ts::L):=H5;have S':=S.trans (S3.trans (S4.trans S5));refine Za0 (λx w'=>w5=w'/\x=.bool true) ?_ ?_
  rotate_left
  ·refine r_neq (r_ifN (λ_=>r_ke ⟨rfl,rfl⟩) λh0=>?_);rcases hr with hr|⟨t,rfl,ht⟩
   ·exact absurd h0 hr
   ·refine r_fo0 (r_ld 0 H5 rfl rfl (r_neq (r_ke ⟨rfl,congrArg Value.bool ?_⟩)));rw[bne_iff_ne];omega
  rintro _ _ _ ⟨rfl,rfl⟩;exact r_vt (no rb _ w5 (.inl hlg) S' H5)
abbrev tMk:Nat:=199
section
variable {mb n t:Nat}{fm:Int->Option Value}{acs:List Ac}{cv:Int}
theorem Zuy {k:Nat}(hm:MkF fm acs):(fm (k:Int)).getD (nv 0)=nv (if hadF 3 k acs then markN k acs else 0):=by
 rw[hm k]
 split <;> rfl
theorem r_lkC {i:Nat}(H:Holds w L) (hi:L[i]?=some (MD mb fm n)) (hm:MkF fm acs){k:Nat}{K:Value->Prop}(h:K (nv (if hadF 3 k acs then markN k acs else 0))):Lk prog tMk (.map (some mb)) (nv k) false w K:=by
 refine r_lkD (t:=tMk) (kt:=3) (et:=246) (x:=.i .i64 0) (z:=nv 0) (by kernel_rfl) (by kernel_rfl) (by kernel_rfl) rfl i H hi ?_;rw[Zuy hm];exact h
theorem Zbq {jb e:Nat}(H:Holds w L) (k:∀ w',Same w w'->Holds w' L->K (.agg (cellsA ⟨1,(jb:Int),0,0,0,0,BA [],(e:Int)⟩).toArray) w'):Cl prog 127 #[nv jb,nv e] w K:=Zgr (e:=(e:Int)) H k
theorem Zo2 {f:Fr}(H:Holds w (blk cb tCo [v,iv cv,.map (some mb)]::RW cellsT 5 tT v ts::MD mb fm n::L)) (hm:MkF fm acs) (hn:n<=1000)
  (k1:hadF 3 f.jb acs=true->∀ w',Same w w'->Holds w' (blk cb tCo [v,iv cv,.map (some mb)]::RW cellsT 5 tT v ts::MD mb fm n::L)->K (.agg (cellsA (refF f 8)).toArray) w')
  (k2:hadF 3 f.jb acs=false->∀ w',Same w w'->Holds w' (blk cb tCo [v,iv cv,.map (some mb)]::RW cellsT 5 tT v ts::MD mb (λi=>if i=(f.jb:Int) then some (nv 1) else fm i) (n+1)::L)->K (.agg (cellsA ⟨3,(f.jb:Int),0,(rqF f).kd,(rqF f).lv,0,BA [],0⟩).toArray) w') :
  Cl prog 170 #[pt cb,.agg (cellsQ (rqF f)).toArray] w K:=by
 refine Tz170 ?_;unfold Vz170;refine r_new H λrb w1 S1 H1=>?_;replace H1:Holds w1 (blk rb tRq (cellsQ (rqF f))::blk cb tCo [v,iv cv,.map (some mb)]::RW cellsT 5 tT v ts::MD mb fm n::L):=H1;refine r_new H1 λob w2 S2 H2=>?_;rw[Zd3] at H2;refine r_dr H2 λw3 S3 H3=>?_;have S:=S1.trans (S2.trans S3);clear S1 S2 S3 H H1 H2;refine r_nc (r_fo0 (r_ld 2 H3 rfl rfl (r_fo0 (r_ld 1 H3 rfl rfl ?_))));refine r_lkC (k:=f.jb) (i:=4) H3 rfl hm ?_
 cases h3:hadF 3 f.jb acs with
 |true=>
  refine r_neq (r_ifN (λ_=>?_) λh=>?_)
  ·refine r_fo0 (r_ld 1 H3 rfl rfl ?_);refine Zbq (jb:=f.jb) (e:=8) H3 λw4 S4 H4=>?_;refine r_stA 0 H4 (vs:=cellsA (refF f 8)) rfl (Nat.le_refl 8) rfl rfl λw5 S5 H5=>?_;refine r_ldA 0 H5 (cellsA (refF f 8)) rfl rfl rfl ?_;exact k1 h3 w5 (S.trans (S4.trans S5)) H5.drop.drop
  ·exfalso;rw[if_pos rfl] at h;unfold markN at h;omega
 |false=>
  refine r_neq (r_ifN (λh=>absurd rfl h) λ_=>?_);refine r_nc (r_fo0 (r_ld 2 H3 rfl rfl ?_));refine r_lnD (kt:=3) (et:=246) (by kernel_rfl) 4 H3 rfl λm hm'=>?_;refine r_eql (r_ifE (λh=>by omega) λ_=>?_);refine r_dr H3 λw4 S4 H4=>?_;refine r_nc (r_fo0 (r_ld 2 H4 rfl rfl (r_fo0 (r_ld 1 H4 rfl rfl ?_))));refine r_muD (t:=tMk) (kt:=3) (et:=246) (by kernel_rfl) (by kernel_rfl) 4 H4 rfl λw5 S5 H5=>?_;refine r_fo0 (r_ld 1 H5 rfl rfl (r_fo0 (r_ld 1 H5 rfl rfl (r_fo0 (r_ld 1 H5 rfl rfl ?_)))));refine r_bd (v:=.agg (cellsA ⟨3,(f.jb:Int),0,(rqF f).kd,(rqF f).lv,0,BA [],0⟩).toArray) (by kernel_rfl) ?_;refine r_stA 0 H5 (vs:=cellsA ⟨3,(f.jb:Int),0,(rqF f).kd,(rqF f).lv,0,BA [],0⟩) rfl (Nat.le_refl 8) rfl rfl λw6 S6 H6=>?_;refine r_ldA 0 H6 (cellsA ⟨3,(f.jb:Int),0,(rqF f).kd,(rqF f).lv,0,BA [],0⟩) rfl rfl rfl ?_;exact k2 h3 w6 (S.trans (S4.trans (S5.trans S6))) H6.drop.drop
theorem Zmt {a b:Bool}{m:Nat}(h:m=2/\True\/m=4/\True){K:Value->Prop}(k:K (.bool (if m=2 then a else b))):Bp .and (nv (1+bitN a 2+bitN b 4)) (nv m) λx=>Bp .neq x (iv 0) K:=by
 rcases h with⟨rfl,_⟩|⟨rfl,_⟩
 ·cases a <;> cases b <;> exact r_bpK _ rfl (r_bpK _ rfl k)
 ·cases a <;> cases b <;> exact r_bpK _ rfl (r_bpK _ rfl k)
theorem Znl {f:Fr}(H:Holds w (blk cb tCo [v,iv cv,.map (some mb)]::RW cellsT 5 tT v ts::MD mb fm n::L)) (hm:MkF fm acs) (h3:hadF 3 f.jb acs=true)
  (k:∀ z w',(z=true↔hadF 6 f.jb acs=true\/(f.ty=3\/f.ty=4)/\hadF 5 f.jb acs=true)->Same w w'->Holds w' (blk cb tCo [v,iv cv,.map (some mb)]::RW cellsT 5 tT v ts::MD mb fm n::L)->K (.bool z) w') :
  Cl prog 171 #[pt cb,.agg (cellsQ (rqF f)).toArray] w K:=by
 refine Tz171 ?_;unfold Vz171;refine r_new H λrb w1 S1 H1=>?_;replace H1:Holds w1 (blk rb tRq (cellsQ (rqF f))::blk cb tCo [v,iv cv,.map (some mb)]::RW cellsT 5 tT v ts::MD mb fm n::L):=H1;refine r_dr H1 λw2 S2 H2=>?_;have S:=S1.trans S2;clear S1 S2 H H1;refine r_nc (r_fo0 (r_ld 1 H2 rfl rfl (r_fo0 (r_ld 0 H2 rfl rfl ?_))));refine r_lkC (k:=f.jb) (i:=3) H2 rfl hm ?_;rw[if_pos h3];refine Za0 (λx w'=>w2=w'/\x=.bool (decide (f.ty=3\/f.ty=4))) ?_ ?_
 rotate_left
 ·refine r_fo0 (r_ld 0 H2 rfl rfl (r_eql (r_ifE (λg=>r_ke ⟨rfl,by have g':(f.ty:Int)=3:=g;rw[decide_eq_true (by omega)]⟩) λg=>?_)));refine r_fo0 (r_ld 0 H2 rfl rfl (r_eql (r_ke ⟨rfl,?_⟩)))
  congr 1
  rw[Bool.eq_iff_iff,beq_iff_eq,decide_eq_true_iff];have g':¬ (f.ty:Int)=3:=g;show (f.ty:Int)=4↔_;omega
 rintro _ _ _ ⟨rfl,rfl⟩;unfold markN;refine Zmt (m:=4) (.inr ⟨rfl,trivial⟩) ?_;rw[if_neg (by decide)];refine r_vif (λe6=>k true w2 ⟨λ_=>.inl e6,λ_=>rfl⟩ S H2.drop) λe6=>?_;refine r_ifD (λg=>?_) λg=>?_
 ·refine Zmt (m:=2) (.inl ⟨rfl,trivial⟩) ?_;rw[if_pos rfl];refine k _ w2 ?_ S H2.drop;rw[e6];exact⟨λq=>.inr ⟨g,q⟩,λq=>(q.resolve_left λh=>by cases h).2⟩
 ·refine k false w2 ⟨λq=>(by cases q),λq=>?_⟩ S H2.drop;rw[e6] at q;rcases q with q|q
  ·cases q
  ·exact absurd q.1 g
theorem Zrx {b:Bool}{K:Value->Prop}(k:K (nv (1+bitN false 2+bitN b 4+2))):Bp .or (nv (1+bitN false 2+bitN b 4)) (iv 2) K:=by
 cases b <;> exact r_bpK _ rfl k
theorem Zt2 {a:Bool}{K:Value->Prop}(k:K (nv (1+bitN a 2+bitN false 4+4))):Bp .or (nv (1+bitN a 2+bitN false 4)) (iv 4) K:=by
 cases a <;> exact r_bpK _ rfl k
theorem Zrl {f:Fr}(H:Holds w (blk cb tCo [v,iv cv,.map (some mb)]::RW cellsT 5 tT v ts::MD mb fm n::L)) (hm:MkF fm acs) (h3:hadF 3 f.jb acs=true) (h6:hadF 6 f.jb acs=false) (h5:f.ty=4->hadF 5 f.jb acs=false) (hty:f.ty=3\/f.ty=4\/f.ty=5\/f.ty=6)
  (k3:f.ty=3\/f.ty=6->∀ x w',x=(if f.ty=3 then ⟨4,(f.jb:Int),0,0,0,0,BA f.da,0⟩ else ⟨7,(f.jb:Int),0,0,0,(numK f.da 4:Int),BA [],0⟩)->Same w w'->Holds w' (blk cb tCo [v,iv cv,.map (some mb)]::RW cellsT 5 tT v ts::MD mb fm n::L)->K (.agg (cellsA x).toArray) w')
  (k4:f.ty=4\/f.ty=5->∀ w',Same w w'->Holds w' (blk cb tCo [v,iv cv,.map (some mb)]::RW cellsT 5 tT v ts::MD mb (λi=>if i=(f.jb:Int) then some (nv (markN f.jb acs+if f.ty=4 then 2 else 4)) else fm i) (n+1)::L)->K (.agg (cellsA ⟨(f.ty:Int)+1,(f.jb:Int),0,0,0,0,BA [],0⟩).toArray) w') :
  Cl prog 172 #[pt cb,.agg (cellsQ (rqF f)).toArray] w K:=by
 refine Tz172 ?_;unfold Vz172;refine r_new H λrb w1 S1 H1=>?_;replace H1:Holds w1 (blk rb tRq (cellsQ (rqF f))::blk cb tCo [v,iv cv,.map (some mb)]::RW cellsT 5 tT v ts::MD mb fm n::L):=H1;refine r_new H1 λob w2 S2 H2=>?_;rw[Zd3] at H2;have S:=S1.trans S2;clear S1 S2 H H1;refine r_fo0 (r_ld 1 H2 rfl rfl (r_eql (r_ifE (λt=>?_) λt=>?_)))
 ·have t3:f.ty=3:=by have:(f.ty:Int)=3:=t;omega
  refine r_fo0 (r_ld 1 H2 rfl rfl (r_fo0 (r_ld 1 H2 rfl rfl ?_)));refine r_bd (v:=.agg (cellsA ⟨4,(f.jb:Int),0,0,0,0,(rqF f).tx,0⟩).toArray) (by kernel_rfl) ?_;refine r_stA 0 H2 (vs:=cellsA ⟨4,(f.jb:Int),0,0,0,0,(rqF f).tx,0⟩) rfl (Nat.le_refl 8) rfl rfl λw6 S6 H6=>?_;refine r_ldA 0 H6 (cellsA ⟨4,(f.jb:Int),0,0,0,0,(rqF f).tx,0⟩) rfl rfl rfl ?_;refine k3 (.inl t3) _ w6 ?_ (S.trans S6) H6.drop.drop;unfold rqF;rw[if_pos t3,if_pos t3]
 have n3:f.ty≠3:=λe=>t (by show (f.ty:Int)=3;omega);refine r_eql (r_ifE (λt=>?_) λt=>?_)
 ·have t4:f.ty=4:=by have:(f.ty:Int)=4:=t;omega
  have hm5:=h5 t4;refine r_dr H2 λw4 S4 H4=>?_;refine r_nc (r_fo0 (r_ld 2 H4 rfl rfl (r_fo0 (r_ld 1 H4 rfl rfl ?_))));refine r_lkC (k:=f.jb) (i:=4) H4 rfl hm ?_;rw[if_pos h3]
  have he:markN f.jb acs=1+bitN false 2+bitN (hadF 6 f.jb acs) 4:=by unfold markN;rw[hm5]
  rw[he];refine Zrx ?_;rw[<-he];refine r_muD (t:=tMk) (kt:=3) (et:=246) (by kernel_rfl) (by kernel_rfl) 4 H4 rfl λw5 S5 H5=>?_;refine r_fo0 (r_ld 1 H5 rfl rfl ?_);refine r_bd (v:=.agg (cellsA ⟨5,(f.jb:Int),0,0,0,0,BA [],0⟩).toArray) (by kernel_rfl) ?_;refine r_stA 0 H5 (vs:=cellsA ⟨5,(f.jb:Int),0,0,0,0,BA [],0⟩) rfl (Nat.le_refl 8) rfl rfl λw6 S6 H6=>?_;refine r_ldA 0 H6 (cellsA ⟨5,(f.jb:Int),0,0,0,0,BA [],0⟩) rfl rfl rfl ?_;have:=k4 (.inl t4) w6 (S.trans (S4.trans (S5.trans S6)));rw[if_pos t4,t4] at this;exact this H6.drop.drop
 have n4:f.ty≠4:=λe=>t (by show (f.ty:Int)=4;omega);refine r_eql (r_ifE (λt=>?_) λt=>?_)
 ·have t5:f.ty=5:=by have:(f.ty:Int)=5:=t;omega
  refine r_dr H2 λw4 S4 H4=>?_;refine r_nc (r_fo0 (r_ld 2 H4 rfl rfl (r_fo0 (r_ld 1 H4 rfl rfl ?_))));refine r_lkC (k:=f.jb) (i:=4) H4 rfl hm ?_;rw[if_pos h3]
  have he:markN f.jb acs=1+bitN (hadF 5 f.jb acs) 2+bitN false 4:=by unfold markN;rw[h6]
  rw[he];refine Zt2 ?_;rw[<-he];refine r_muD (t:=tMk) (kt:=3) (et:=246) (by kernel_rfl) (by kernel_rfl) 4 H4 rfl λw5 S5 H5=>?_;refine r_fo0 (r_ld 1 H5 rfl rfl ?_);refine r_bd (v:=.agg (cellsA ⟨6,(f.jb:Int),0,0,0,0,BA [],0⟩).toArray) (by kernel_rfl) ?_;refine r_stA 0 H5 (vs:=cellsA ⟨6,(f.jb:Int),0,0,0,0,BA [],0⟩) rfl (Nat.le_refl 8) rfl rfl λw6 S6 H6=>?_;refine r_ldA 0 H6 (cellsA ⟨6,(f.jb:Int),0,0,0,0,BA [],0⟩) rfl rfl rfl ?_;have:=k4 (.inr t5) w6 (S.trans (S4.trans (S5.trans S6)));rw[if_neg n4,t5] at this;exact this H6.drop.drop
 have n5:f.ty≠5:=λe=>t (by show (f.ty:Int)=5;omega)
 have t6:f.ty=6:=by omega
 refine r_fo0 (r_ld 1 H2 rfl rfl (r_fo0 (r_ld 1 H2 rfl rfl ?_)));refine r_bd (v:=.agg (cellsA ⟨7,(f.jb:Int),0,0,0,(rqF f).nn,BA [],0⟩).toArray) (by kernel_rfl) ?_;refine r_stA 0 H2 (vs:=cellsA ⟨7,(f.jb:Int),0,0,0,(rqF f).nn,BA [],0⟩) rfl (Nat.le_refl 8) rfl rfl λw6 S6 H6=>?_;refine r_ldA 0 H6 (cellsA ⟨7,(f.jb:Int),0,0,0,(rqF f).nn,BA [],0⟩) rfl rfl rfl ?_;refine k3 (.inr t6) _ w6 ?_ (S.trans S6) H6.drop.drop;show (⟨7,(f.jb:Int),0,0,0,(if f.ty=6 then (numK f.da 4:Int) else 0),BA [],0⟩:Ac)=_;rw[if_pos t6,if_neg n3]
end
section
variable {acs:List Ac}
def ConR (cb:Nat) (ts:List Tn) (acs:List Ac):HProp:=λh=>∃ v m f,MkF f acs/\Sat [blk cb tCo [v,iv ((whoD acs).getD (-1)),.map (some m)],RW cellsT 5 tT v ts,MD m f acs.length] h
theorem Zkc (H:Holds w L){j:Nat}(hj:L[j]?=some (ConR cb ts acs)):∃ v m f,MkF f acs/\Holds w (blk cb tCo [v,iv ((whoD acs).getD (-1)),.map (some m)]::RW cellsT 5 tT v ts::MD m f acs.length::L.eraseIdx j):=by
 obtain⟨v,H1⟩:=Holds.ex (H.front j hj);obtain⟨m,H1⟩:=Holds.ex H1;obtain⟨f,H1⟩:=Holds.ex H1;obtain⟨hm,H1⟩:=Holds.pure H1;exact⟨v,m,f,hm,Holds.unpack (A:=[_,_,_]) H1⟩
theorem Zi1 {Q:HProp}{j m:Nat}{fm:Int->Option Value}(hj:L[j]?=some Q) (hm:MkF fm acs) (H:Holds w (blk cb tCo [v,iv ((whoD acs).getD (-1)),.map (some m)]::RW cellsT 5 tT v ts::MD m fm acs.length::L.eraseIdx j)):Holds w (L.set j (ConR cb ts acs)):=
 Sat.push j hj (Holds.imp (Holds.pack (A:=[_,_,_]) H) λh hh=>⟨v,m,fm,hm,hh⟩)
theorem Zjx {j:Nat}(H:Holds w L) (hj:L[j]?=some (ConR cb ts acs)) (k:K (iv ((whoD acs).getD (-1))) w):Cl prog 130 #[pt cb] w K:=by
 obtain⟨v,m,f,hm,H1⟩:=Zkc H hj;refine Tz130 ?_;unfold Vz130;exact Za2 (r_vf (r_nc (r_fo0 (r_ld 0 H1 rfl rfl k))))
theorem Zb4 {acs:List Ac}{x:Ac}{t:Int}(h:whoD acs=some t):whoD (acs++[x])=some t:=by rw[Zj0,h]
theorem Zke {acs:List Ac}{x:Ac}(h:whoD acs=none) (hx:x.wh≠2):whoD (acs++[x])=none:=by rw[Zj0,h];simp[hx]
theorem Zk2 {acs:List Ac}{x:Ac}(h:whoD acs=none) (hx:x.wh=2):whoD (acs++[x])=some x.tn:=by rw[Zj0,h];simp[hx]
theorem Zmw {z:Bool}{j:Nat}{f:Fr}(H:Holds w L) (hj:L[j]?=some (ConR cb ts acs)) (hU:J33.TabZ z (L.eraseIdx j)) (hA:J33.Asc z f.da) (h1:f.jb<=4294967295) (h2:f.da.length<=65536) (hl:ts.length<=1000) (hs:∀ t∈ts,szT t) (hn:acs.length<=900) (hwf:WfA acs) (hw:∀ t,whoD acs=some t->0<=t)
  (k:∀ w',Same w w'->Holds w' (L.set j (ConR cb ts (acs++[stepF ts acs f])))->K (.tuple #[.agg (cellsA (stepF ts acs f)).toArray,iv 0]) w') :
  Cl prog 79 #[pt cb,.agg (cellsF f).toArray] w K:=by
 obtain⟨v,m,fm,hm,H0⟩:=Zkc H hj
 have hlen:(acs++[stepF ts acs f]).length=acs.length+1:=by simp
 refine Tz79 ?_;unfold Vz79;refine r_new H0 λfb w1 S1 H1=>?_;replace H1:Holds w1 (blk fb tFr (cellsF f)::blk cb tCo [v,iv ((whoD acs).getD (-1)),.map (some m)]::RW cellsT 5 tT v ts::MD m fm acs.length::L.eraseIdx j):=H1;refine r_new H1 λob w2 S2 H2=>?_;rw[Zd3] at H2;have S:=S1.trans S2;clear S1 S2 H1 H0;refine Za2 (r_vf (r_nc (r_fo0 (r_ld 2 H2 rfl rfl ?_))))
 cases hwho:whoD acs with
 |none=>
  rw[hwho] at H2
  have hst:stepF ts acs f=loginF ts f:=by unfold stepF;rw[hwho]
  rw[hst] at k;refine r_eql (r_vtE rfl ?_);refine r_ldA 1 H2 (cellsF f) rfl rfl rfl ?_;have H3:Holds w2 (blk cb tCo [v,iv (-1),.map (some m)]::RW cellsT 5 tT v ts::MD m fm acs.length::blk ob tAc zAct::blk fb tFr (cellsF f)::L.eraseIdx j):=(by have h_:=Holds.ord 5 [2,3,4,0,1] H2 rfl;exact h_)
  have fin:∀ (x:Ac) w',x=loginF ts f->(x.wh=1\/x.wh=2)->Same w w'->Holds w' (blk cb tCo [v,iv (if x.wh=2 then x.tn else -1),.map (some m)]::RW cellsT 5 tT v ts::MD m fm acs.length::blk ob tAc zAct::blk fb tFr (cellsF f)::L.eraseIdx j)->
    StA 8 (pt ob) (.agg (cellsA x).toArray) w' λw5=>LdA 8 (pt ob) w5 λx_11=>K (.tuple #[x_11,iv 0]) w5:=by
   intro x w' hx hc Sz Hz;refine r_stA 3 Hz (vs:=cellsA x) rfl (Nat.le_refl 8) rfl rfl λw5 S5 H5=>?_;refine r_ldA 3 H5 (cellsA x) rfl rfl rfl ?_;subst hx;refine k w5 (Sz.trans S5) ?_
   have hlen:acs.length<=(acs++[loginF ts f]).length:=by simp
   have H6:Holds w5 (blk cb tCo [v,iv (if (loginF ts f).wh=2 then (loginF ts f).tn else -1),.map (some m)]::RW cellsT 5 tT v ts::MD m fm acs.length::L.eraseIdx j):=Holds.dropAt (Holds.dropAt H5 3) 3;refine Zi1 (v:=v) (m:=m) hj ((Zbr (by omega)).2 hm) ?_
   have hwd:(whoD (acs++[loginF ts f])).getD (-1)=if (loginF ts f).wh=2 then (loginF ts f).tn else -1:=by
    rcases hc with hc|hc
    ·rw[Zke hwho (by omega),if_neg (by omega)];rfl
    ·rw[Zk2 hwho hc,if_pos hc];rfl
   rw[hwd];exact H6.at 2 rfl λg ⟨l,c,a1,a2,a3,a4,a5⟩=>⟨l,c,a1,a2,a3,a4,Nat.le_trans a5 hlen⟩
  refine Znt H3 hU.up.up.up hA h1 h2 hl hs (λhlg i w4 hi S4 H4=>?_) λhno w4 S4 H4=>?_
  ·have e:loginF ts f=⟨2,0,(i:Int),0,0,0,BA [],0⟩:=by unfold loginF;rw[if_pos hlg,Zhu hi]
   exact fin ⟨2,0,(i:Int),0,0,0,BA [],0⟩ w4 e.symm (.inr rfl) (S.trans S4) H4
  ·have e:loginF ts f=refF f 30:=by
    unfold loginF
    by_cases hg:logs f
    ·rw[if_pos hg,Zjm (hno.resolve_left λq=>q hg)]
    ·rw[if_neg hg]
   exact fin (refF f 30) w4 e.symm (.inl rfl) (S.trans S4) H4
 |some t=>
  have ht:=hw t hwho;rw[hwho] at H2
  have hst:stepF ts acs f=actF acs f:=by unfold stepF;rw[hwho]
  have hk:∀ x w',x=actF acs f->∀ (fm':Int->Option Value) (n:Nat),n<=acs.length+1->(MkF fm acs->MkF fm' (acs++[x]))->Same w w'->Holds w' (blk cb tCo [v,iv t,.map (some m)]::RW cellsT 5 tT v ts::MD m fm' n::L.eraseIdx j)->K (.tuple #[.agg (cellsA x).toArray,iv 0]) w':=by
   intro x w' hx fm' n hn' hmk Sz Hz;subst hx;rw[hst] at k;refine k w' Sz (Zi1 (v:=v) (m:=m) hj (hmk hm) ?_);rw[Zb4 hwho];exact Hz.at 2 rfl λg ⟨l,c,a1,a2,a3,a4,a5⟩=>⟨l,c,a1,a2,a3,a4,by rw[gD,gQ];omega⟩
  clear k;refine r_eql (r_vfE (by show ¬ (t=-1);omega) ?_);refine r_ldA 1 H2 (cellsF f) rfl rfl rfl ?_;unfold actF at hk;refine Zng H2 hU.up.up.up.up.up hA h1 h2 (λhok w3 S3 H3=>?_) λhok w3 S3 H3=>?_
  rotate_left
  ·refine Za4 (Za3 ?_);refine r_new H3 λrb w4 S4 H4=>?_;rw[Zd2] at H4;refine r_stA 0 H4 (vs:=cellsQ rq0) rfl (Nat.le_refl 7) rfl rfl λw5 S5 H5=>?_;refine r_neq (r_vtN (by decide) (r_fo0 (r_ld 2 H5 rfl rfl ?_)));refine Zbq (jb:=f.jb) (e:=35) H5 λw6 S6 H6=>?_;refine r_stA 1 H6 (vs:=cellsA (refF f 35)) rfl (Nat.le_refl 8) rfl rfl λw7 S7 H7=>?_;refine r_ldA 1 H7 (cellsA (refF f 35)) rfl rfl rfl ?_;exact hk (refF f 35) w7 (by rw[if_pos hok]) fm acs.length (by omega) (Zbr (by show (1:Int)≠3/\(1:Int)≠5/\(1:Int)≠6;decide)).2 (S.trans (S3.trans (S4.trans (S5.trans (S6.trans S7))))) H7.drop.drop.drop
  rw[if_neg (λg=>g hok)] at hk;refine Za4 (Za3 ?_);refine r_new H3 λrb w4 S4 H4=>?_;rw[Zd2] at H4;refine r_stA 0 H4 (vs:=cellsQ (rqF f)) rfl (Nat.le_refl 7) rfl rfl λw5 S5 H5=>?_;replace H5:Holds w5 (blk rb tRq (cellsQ (rqF f))::blk ob tAc zAct::blk fb tFr (cellsF f)::blk cb tCo [v,iv t,.map (some m)]::RW cellsT 5 tT v ts::MD m fm acs.length::L.eraseIdx j):=H5;replace S:=S.trans (S3.trans (S4.trans S5));clear S3 S4 S5 H2 H3 H4;refine r_neq (r_vfN rfl ?_);refine r_ldA 0 H5 (cellsQ (rqF f)) rfl rfl rfl ?_;refine Tz128 ?_;unfold Vz128;have H6:Holds w5 (blk cb tCo [v,iv t,.map (some m)]::RW cellsT 5 tT v ts::MD m fm acs.length::blk rb tRq (cellsQ (rqF f))::blk ob tAc zAct::blk fb tFr (cellsF f)::L.eraseIdx j):=(by have h_:=Holds.ord 6 [3,4,5,0,1,2] H5 rfl;exact h_);refine r_new H6 λqb w6 S6 H7=>?_;replace H7:Holds w6 (blk qb tRq (cellsQ (rqF f))::blk cb tCo [v,iv t,.map (some m)]::RW cellsT 5 tT v ts::MD m fm acs.length::blk rb tRq (cellsQ (rqF f))::blk ob tAc zAct::blk fb tFr (cellsF f)::L.eraseIdx j):=H7;refine r_new H7 λpb w7 S7 H8=>?_;rw[Zd3] at H8;have H9:Holds w7 (blk cb tCo [v,iv t,.map (some m)]::RW cellsT 5 tT v ts::MD m fm acs.length::blk pb tAc zAct::blk qb tRq (cellsQ (rqF f))::blk rb tRq (cellsQ (rqF f))::blk ob tAc zAct::blk fb tFr (cellsF f)::L.eraseIdx j):=(by have h_:=Holds.ord 5 [2,3,4,0,1] H8 rfl;exact h_);replace S:=S.trans (S6.trans S7);clear S6 S7 H5 H6 H7 H8
  have fin:∀ x w',x=actF acs f->∀ (fm':Int->Option Value) (n:Nat),n<=acs.length+1->(MkF fm acs->MkF fm' (acs++[x]))->Same w w'->Holds w' (blk cb tCo [v,iv t,.map (some m)]::RW cellsT 5 tT v ts::MD m fm' n::blk pb tAc zAct::blk qb tRq (cellsQ (rqF f))::blk rb tRq (cellsQ (rqF f))::blk ob tAc zAct::blk fb tFr (cellsF f)::L.eraseIdx j)->
    StA 8 (pt pb) (.agg (cellsA x).toArray) w' λw7=>LdA 8 (pt pb) w7 λx_20=>StA 8 (pt ob) x_20 w7 λw12=>LdA 8 (pt ob) w12 λx_24=>K (.tuple #[x_24,iv 0]) w12:=by
   intro x w' hx fm' n hn' hmk Sz Hz;refine r_stA 3 Hz (vs:=cellsA x) rfl (Nat.le_refl 8) rfl rfl λw8 S8 H8=>?_;refine r_ldA 3 H8 (cellsA x) rfl rfl rfl ?_;refine r_stA 6 H8 (vs:=cellsA x) rfl (Nat.le_refl 8) rfl rfl λw9 S9 H9=>?_;refine r_ldA 6 H9 (cellsA x) rfl rfl rfl ?_;refine hk x w9 ?_ fm' n hn' hmk (Sz.trans (S8.trans S9)) (Holds.dropAt (Holds.dropAt (Holds.dropAt (Holds.dropAt (Holds.dropAt H9 3) 3) 3) 3) 3);rw[hx];unfold actF;rw[if_neg (λg=>g hok)]
  clear hk;unfold actF at fin;rw[if_neg (λg=>g hok)] at fin;refine r_fo0 (r_ld 4 H9 rfl rfl (r_eql (r_ifE (λh=>?_) λh=>?_)))
  ·have t1:f.ty=1:=by have:(f.ty:Int)=1:=h;omega
   rw[if_pos t1] at fin;refine r_fo0 (r_ld 4 H9 rfl rfl ?_);refine Zbq (jb:=f.jb) (e:=8) H9 λw8 S8 H8=>?_;exact fin (refF f 8) w8 rfl fm acs.length (by omega) (Zbr (by show (1:Int)≠3/\(1:Int)≠5/\(1:Int)≠6;decide)).2 (S.trans S8) H8
  have n1:f.ty≠1:=λe=>h (by show (f.ty:Int)=1;omega);rw[if_neg n1] at fin;refine r_fo0 (r_ld 4 H9 rfl rfl (r_eql (r_ifE (λh=>?_) λh=>?_)))
  ·have t2:f.ty=2:=by have:(f.ty:Int)=2:=h;omega
   rw[if_pos t2] at fin;refine r_ldA 4 H9 (cellsQ (rqF f)) rfl rfl rfl ?_;refine Zo2 H9 hm (by omega) (λg w8 S8 H8=>?_) λg w8 S8 H8=>?_
   ·exact fin (refF f 8) w8 (by rw[if_pos g]) fm acs.length (by omega) (Zbr (by show (1:Int)≠3/\(1:Int)≠5/\(1:Int)≠6;decide)).2 (S.trans S8) H8
   ·refine fin ⟨3,(f.jb:Int),0,(rqF f).kd,(rqF f).lv,0,BA [],0⟩ w8 ?_ _ (acs.length+1) (Nat.le_refl _) (Zqb (j:=f.jb) rfl rfl hwf g).2 (S.trans S8) H8;rw[if_neg (by rw[g];exact λe=>by cases e)];unfold rqF;rw[if_pos t2,if_pos t2]
  have n2:f.ty≠2:=λe=>h (by show (f.ty:Int)=2;omega);rw[if_neg n2] at fin;refine r_fo0 (r_ld 4 H9 rfl rfl (r_eql (r_ifE (λh=>?_) λh=>?_)))
  ·have t7:f.ty=7:=by have:(f.ty:Int)=7:=h;omega
   rw[if_pos t7] at fin;refine r_bd (v:=.agg (cellsA ⟨8,0,0,0,0,0,BA [],0⟩).toArray) (by kernel_rfl) ?_;exact fin ⟨8,0,0,0,0,0,BA [],0⟩ w7 rfl fm acs.length (by omega) (Zbr (by show (8:Int)≠3/\(8:Int)≠5/\(8:Int)≠6;decide)).2 S H9
  have n7:f.ty≠7:=λe=>h (by show (f.ty:Int)=7;omega);rw[if_neg n7] at fin;refine r_dr H9 λw8 S8 H8=>?_;replace S:=S.trans S8;clear S8 H9;refine r_nc (r_fo0 (r_ld 0 H8 rfl rfl (r_fo0 (r_ld 4 H8 rfl rfl ?_))));refine r_lkC (k:=f.jb) (i:=2) H8 rfl hm ?_
  cases h3:hadF 3 f.jb acs with
  |false=>
   rw[if_pos h3] at fin;refine r_eql (r_vtE rfl (r_fo0 (r_ld 4 H8 rfl rfl ?_)));refine Zbq (jb:=f.jb) (e:=31) H8 λw9 S9 H9=>?_;exact fin (refF f 31) w9 rfl fm acs.length (by omega) (Zbr (by show (1:Int)≠3/\(1:Int)≠5/\(1:Int)≠6;decide)).2 (S.trans S9) H9
  |true=>
   rw[if_neg (by rw[h3];exact λe=>by cases e)] at fin;refine r_eql (r_vfE (by rw[if_pos rfl];unfold markN;omega) ?_);refine r_ldA 4 H8 (cellsQ (rqF f)) rfl rfl rfl ?_;refine Znl H8 hm h3 λz w9 hz S9 H9=>?_;replace S:=S.trans S9;clear S9 H8;refine r_vif (λe=>?_) λe=>?_
   ·rw[if_pos (hz.1 e)] at fin;refine r_fo0 (r_ld 4 H9 rfl rfl ?_);refine Zbq (jb:=f.jb) (e:=32) H9 λw10 S10 H10=>?_;exact fin (refF f 32) w10 rfl fm acs.length (by omega) (Zbr (by show (1:Int)≠3/\(1:Int)≠5/\(1:Int)≠6;decide)).2 (S.trans S10) H10
   have hz0:¬ (hadF 6 f.jb acs=true\/(f.ty=3\/f.ty=4)/\hadF 5 f.jb acs=true):=λq=>by rw[hz.2 q] at e;cases e
   rw[if_neg hz0] at fin
   have h6:hadF 6 f.jb acs=false:=by
    cases e:hadF 6 f.jb acs with
    |false=>rfl
    |true=>exact absurd (.inl e) hz0
   have h5:(f.ty=3\/f.ty=4)->hadF 5 f.jb acs=false:=λt=>by
    cases e:hadF 5 f.jb acs with
    |false=>rfl
    |true=>exact absurd (.inr ⟨t,e⟩) hz0
   refine r_ldA 4 H9 (cellsQ (rqF f)) rfl rfl rfl ?_;refine Zrl H9 hm h3 h6 (λt=>h5 (.inr t)) (by unfold okF at hok;omega) (λt x w10 hx S10 H10=>?_) λt w10 S10 H10=>?_
   ·refine fin x w10 ?_ fm acs.length (by omega) (Zbr ?_).2 (S.trans S10) H10
    ·rw[hx];rcases t with t|t
     ·rw[if_pos t,if_pos t]
     ·rw[if_neg (by omega),if_neg (by omega),if_pos t]
    ·rw[hx];rcases t with t|t
     ·rw[if_pos t];show (4:Int)≠3/\(4:Int)≠5/\(4:Int)≠6;decide
     ·rw[if_neg (by omega)];show (7:Int)≠3/\(7:Int)≠5/\(7:Int)≠6;decide
   ·refine fin ⟨(f.ty:Int)+1,(f.jb:Int),0,0,0,0,BA [],0⟩ w10 ?_ _ (acs.length+1) (Nat.le_refl _) (Zp5 (j:=f.jb) ?_ rfl hwf h3).2 (S.trans S10) H10
    ·rw[if_neg (by omega),if_neg (by omega)]
    ·rcases t with t|t
     ·exact .inl ⟨by show (f.ty:Int)+1=5;omega,by rw[if_pos t],h5 (.inr t)⟩
     ·exact .inr ⟨by show (f.ty:Int)+1=6;omega,by rw[if_neg (by omega)],h6⟩
end
end F33
end Go.Proofs.YthkaggnihbkmeaaGreatDoor
namespace Go.Vc
section
variable {P:Program}{w:World}{L:List HProp}
theorem r_slW {t e n:Nat}{inf:TypeInfo}{a:Addr}{K:Value->Prop}(hu:P.underlying t=some (.array n e)) (hi:P.info? e=some inf) (h:K (.slice (some a) n n)):Sl P t (.pointer (some a)) none none none w K:=by
 refine⟨.slice (some a) n n,?_,h⟩
 have ha:a.add 0=a:=by unfold Addr.add;rw[if_pos rfl]
 simp[Instr.sliceAt,Instr.sureAddr,Instr.sliceBounds,run_underlying hu,Zb2 hi,ha]
theorem Zxs {t e d ty:TypeId} [hr:Bytes P t e d] (H:Holds w L) (i:Nat){b:Nat}{xs:List UInt8}{l c:Nat}{K:KT}
  (hi:L[i]?=some (blk b ty (xs.map bv))) (hl:l=xs.length) (h:K (.string ⟨xs.toArray⟩) w):Cw P t d (.slice (some ⟨b,0,none⟩) l c) w K:=by
 subst hl;refine⟨_,w,?_,h⟩;rw[run_convert_bytes_string (P:=P) w t d e _ _ c hr.und hr.el hr.str]
 have hload:(loadCells (⟨b,0,none⟩:Addr) xs.length).run P w=.ok ((xs.map λc=>(c.toNat:Int)).map (Value.int .u8)).toArray w:=by
  have hcells:((xs.map λc=>(c.toNat:Int)).map (Value.int .u8))=xs.map bv:=by rw[map_map];rfl
  rw[hcells]
  have:=Zbg (P:=P) (w:=w) (a:=⟨b,0,none⟩) (cs:=(xs.map bv).toArray) (λj v hv=>by
   have e1:(⟨b,0,none⟩:Addr).add j=⟨b,j,none⟩:=by
    unfold Addr.add;split
    ·rename_i h;rw[h]
    ·simp
   rw[e1,H.cell i hi j]
   simpa using hv)
  simpa using this
 rw[run_bytesToString (P:=P) w _ xs.length c _ hload,Zhg];rfl
open Ev in
theorem Ze9 {eq : TypeId → X → X → Option Bool} {xs : List X} {f : Field} {fs : List Field} {a : X} {r : Option Bool} (hn : (f.name == "_") = false) (hp : partX P f.type xs f.offset = some a) (he : eq f.type a a = some true) (h : eqFs P eq xs xs fs = r) : eqFs P eq xs xs (f :: fs) = r := by
 rw[<-h];simp only[eqFs,hn,hp,he]
open Ev in
theorem Zm1 {t:TypeId}{d:Nat}{k:IntKind}{n:Int}{k':IntKind}(hu:P.underlying t=some (.int k')):eqT P (d+1) t (.i k n) (.i k n)=some true:=by
 simp[eqT,hu,eq1]
open Ev in
theorem Zvj {t:TypeId}{d:Nat}{l:List Nat}(hu:P.underlying t=some .string):eqT P (d+1) t (.s l) (.s l)=some true:=by
 simp only[eqT,hu,eq1,Option.some.injEq]
 induction l with
 |nil=>rfl
 |cons x r ih=>simp[eqN,ih]
end
end Go.Vc
namespace Go.Proofs.YthkaggnihbkmeaaGreatDoor
open Go Go.Vc Go.Proofs.Tryz
attribute [local irreducible] Vc.Nc Vc.Ld Vc.LdA Vc.St Vc.StA Vc.Fo Vc.Iaa Vc.Ias Vc.Ixs Vc.Ixa Vc.Fd Vc.FdA Vc.Bp Vc.Bb Vc.Bn Vc.Up Vc.Ci Vc.Lns Vc.Lnl Vc.Ex Vc.Sst Vc.Ssl Vc.New Vc.Vif Vc.VJoin Vc.VLoop Vc.KE Vc.Dr Vc.Rk Vc.Cl Vc.Cx Vc.Inv Vc.Be Vc.Cv Vc.Cw Vc.Mf Vc.Sl Vc.Lk Vc.Bd Vc.Bs Vc.Ms Vc.Mm Vc.Mu Vc.Me Vc.Es Vc.Rg Vc.Nx Vc.Ta Vc.Ap Vc.Usd Vc.Ust Vc.Cp Vc.Ln Vc.Bc Vc.Bmin Vc.Bmax Vc.Bdel Vc.Bclr Vc.Pk
namespace F33
open Go.M31 J30 J31 J32
variable {w:World}{L:List HProp}{K:KT}
abbrev tA4:Nat:=279
abbrev tAn:Nat:=192
theorem Zvy:(zeroP prog tA4).cells.toList=[.int .u8 0,.int .u8 0,.int .u8 0,.int .u8 0]:=by kernel_rfl
theorem Zf3:(zeroP prog tAn).cells.toList=[iv 0,iv 0,S_ [],iv 0]:=by kernel_rfl
theorem bvN (n:Nat):bv (UInt8.ofNat n)=.int .u8 ((n:Int)%256):=by
 show Value.int .u8 ((UInt8.ofNat n).toNat:Int)=_;rw[UInt8.toNat_ofNat']
 congr 1
theorem Zt6 {n i:Nat}(hn:n < 4294967296) (hi:i < 4):(fourF n).getD i 0=UInt8.ofNat (n/2^(8*(3 - i))):=by
 have h:∀ a b:Nat,a%256=b%256->UInt8.ofNat a=UInt8.ofNat b:=λa b e=>UInt8.toNat_inj.1 (by rw[UInt8.toNat_ofNat',UInt8.toNat_ofNat'];exact e)
 match i,hi with
 |0,_=>rfl
 |1,_=>exact h _ _ (by show n/65536%256%256=n/65536%256;omega)
 |2,_=>exact h _ _ (by show n/256%256%256=n/256%256;omega)
 |3,_=>exact h _ _ (by show n%256%256=n/1%256;omega)
theorem put_spec {n:Nat}(hn:n < 4294967296) (H:Holds w L) (k:∀ w',Same w w'->Holds w' L->K (S_ (fourF n)) w'):Cl prog 191 #[nv n] w K:=by
 refine Tz191 ?_;unfold Vz191;refine r_new H λob w1 S1 H1=>?_;rw[Zvy] at H1;refine Zat (λx w'=>∃ i:Nat,i<=4/\x=nv i/\Same w w'/\Holds w' (blk ob tA4 (((fourF n).take i).map bv++List.replicate (4 - i) (Value.int .u8 0))::L)) (λx _=>4 - (intOf x).toNat) ⟨0,by omega,rfl,S1,H1⟩ ?_;clear H H1 S1;rintro _ _ w2 ⟨i,hi,rfl,S,H⟩;refine r_lss (r_ifD (λh=>?_) λh=>?_)
 ·have hlt:i < 4:=by omega
  refine r_sub (by omega) (by omega) (Zfa ((8*(3 - i):Nat):Int) (by omega) (by omega) (by omega) ?_);refine Zn9 (by show _<=64;omega) ?_;refine r_ciK (((n/2^(8*(3 - i)):Nat):Int)%256) rfl ?_;refine Zal hlt ?_;rw[Nat.zero_add,<-bvN,<-Zt6 hn hlt];refine r_st 0 H rfl (by simp[fourF];omega) rfl λw3 S3 H3=>?_;refine Za1 (by omega) (r_ke ⟨⟨i+1,by omega,rfl,S.trans S3,?_⟩,?_⟩)
  ·have e:(((fourF n).take i).map bv++List.replicate (4 - i) (Value.int .u8 0)).set i (bv ((fourF n).getD i 0))=((fourF n).take (i+1)).map bv++List.replicate (4 - (i+1)) (Value.int .u8 0):=by
    match i,hlt with
    |0,_=>rfl
    |1,_=>rfl
    |2,_=>rfl
    |3,_=>rfl
   rw[gJ,e] at H3;exact H3
  ·simp only[intOf,gC];omega
 ·obtain rfl:i=4:=by omega
  refine r_slW (inf:=t5) (n:=4) (e:=5) (by kernel_rfl) (by kernel_rfl) ?_;exact Zxs (e:=L42.tU8) (xs:=fourF n) H 0 rfl rfl (k w2 S H.drop)
theorem Zlz {f:Fr}(H:Holds w L) (hm:cli f.ty\/srv f.ty) (h1:f.jb<=4294967295) (h2:f.da.length<=65536) (k:∀ w',Same w w'->Holds w' L->K (.tuple #[S_ (encF f),iv 0]) w'):Cl prog 154 #[.agg (cellsF f).toArray] w K:=by
 have hty:f.ty < 256:=by unfold cli srv at hm;omega
 have he:encF f=[UInt8.ofNat f.ty]++fourF f.jb++fourF f.da.length++f.da:=by unfold encF;simp
 rw[he] at k;have l4:∀ n,(fourF n).length=4:=λn=>rfl;refine Tz154 ?_;unfold Vz154;refine r_new H λfb w1 S1 H1=>?_;replace H1:Holds w1 (blk fb tFr (cellsF f)::L):=H1;refine r_ldA 0 H1 (cellsF f) rfl rfl rfl ?_;refine may_spec H1 λw2 S2 H2=>?_;rw[decide_eq_true hm];refine r_not (r_vf ?_);refine Za0 (λx w'=>w2=w'/\x=.bool false) ?_ ?_
 rotate_left
 ·refine r_fo0 (r_ld 0 H2 rfl rfl (r_lss (r_vfD (by omega) ?_)));refine r_fo0 (r_ld 0 H2 rfl rfl (r_gtr (r_ke ⟨rfl,?_⟩)));rw[decide_eq_false (by omega)]
 rintro _ _ _ ⟨rfl,rfl⟩;refine r_vf (r_fo0 (r_ld 0 H2 rfl rfl (q_len (r_gtr (r_vfD (by omega) ?_)))));refine r_dr H2 λw4 S4 H4=>?_;have S:=S1.trans (S2.trans S4);clear S1 S2 S4 H H1 H2;refine r_fo0 (r_ld 0 H4 rfl rfl (Zac (by omega) (by omega) ?_));refine r_fo0 (r_ld 0 H4 rfl rfl (r_fo0 (r_ld 0 H4 rfl rfl (q_len (r_fo0 (r_ld 0 H4 rfl rfl ⟨?_,?_⟩))))))
 ·refine L42.Zf9 (n:=f.ty) hty H4 λb w5 S5 H5=>?_;refine r_rk (r_ld 1 H5 rfl rfl rfl) (r_rk (q_len rfl) (r_rk (r_ld 1 H5 rfl rfl rfl) (r_rk (r_ld 1 H5 rfl rfl rfl) ?_)));refine L42.r_cvb H5 0 rfl rfl ?_;refine put_spec (n:=f.jb) (by omega) H5 λw6 S6 H6=>?_;refine r_rk (L42.r_cvb H6 0 rfl rfl rfl) (r_rk (r_ld 1 H6 rfl rfl rfl) (r_rk (q_len rfl) (r_rk (r_ld 1 H6 rfl rfl rfl) (r_rk (r_ld 1 H6 rfl rfl rfl) ?_))));refine Zaw (by rw[l4];simp) ?_;refine put_spec (n:=f.da.length) (by omega) H6 λw7 S7 H7=>?_;refine r_rk (L42.r_cvb H7 0 rfl rfl rfl) (r_rk (r_ld 1 H7 rfl rfl rfl) (r_rk (r_ld 1 H7 rfl rfl rfl) ?_));refine Zaw (by simp[l4]) (Zaw (by simp[l4];omega) ?_);exact k w7 (S.trans (S5.trans (S6.trans S7))) H7.drop.drop
 ·refine put_spec (n:=f.jb) (by omega) H4 λw8 S8 H8=>?_;refine r_rk (r_ld 0 H8 rfl rfl rfl) (r_rk (q_len rfl) (r_rk (r_ld 0 H8 rfl rfl rfl) (r_rk (r_ld 0 H8 rfl rfl rfl) ⟨?_,?_⟩)))
  ·refine L42.Zf9 (n:=f.ty) hty H8 λb w5 S5 H5=>?_;refine r_rk (r_ld 1 H5 rfl rfl rfl) (r_rk (q_len rfl) (r_rk (r_ld 1 H5 rfl rfl rfl) (r_rk (r_ld 1 H5 rfl rfl rfl) ?_)));refine L42.r_cvb H5 0 rfl rfl ?_;refine Zaw (by rw[l4];simp) ?_;refine put_spec (n:=f.da.length) (by omega) H5 λw7 S7 H7=>?_;refine r_rk (L42.r_cvb H7 0 rfl rfl rfl) (r_rk (r_ld 1 H7 rfl rfl rfl) (r_rk (r_ld 1 H7 rfl rfl rfl) ?_));refine Zaw (by simp[l4]) (Zaw (by simp[l4];omega) ?_);exact k w7 (S.trans (S8.trans (S5.trans S7))) H7.drop.drop
  ·refine put_spec (n:=f.da.length) (by omega) H8 λw7 S7 H7=>?_;refine r_rk (r_ld 0 H7 rfl rfl rfl) (r_rk (r_ld 0 H7 rfl rfl rfl) ?_);refine L42.Zf9 (n:=f.ty) hty H7 λb w5 S5 H5=>?_;refine r_rk (r_ld 1 H5 rfl rfl rfl) (r_rk (q_len rfl) (r_rk (r_ld 1 H5 rfl rfl rfl) (r_rk (r_ld 1 H5 rfl rfl rfl) ?_)));refine L42.r_cvb H5 0 rfl rfl ?_;refine Zaw (by rw[l4];simp) (Zaw (by simp[l4]) (Zaw (by simp[l4];omega) ?_));exact k w5 (S.trans (S8.trans (S7.trans S5))) H5.drop.drop
def cellsN (ty jb:Nat) (t:List UInt8) (e:Nat):List Value:=[nv ty,nv jb,S_ t,nv e]
theorem Zo1 {ty jb:Nat}{t:List UInt8}(H:Holds w L) (h1:jb<=4294967295) (h2:t.length<=65536) (hc:(ty=65\/ty=70)/\jb=0\/ty=66) (k:∀ w',Same w w'->Holds w' L->K (.tuple #[.agg (cellsN ty jb t 0).toArray,iv 0]) w') :
  Cl prog 190 #[.agg (cellsF ⟨ty,jb,t⟩).toArray] w K:=by
 refine Tz190 ?_;unfold Vz190;refine r_new H λfb w1 S1 H1=>?_;replace H1:Holds w1 (blk fb tFr (cellsF ⟨ty,jb,t⟩)::L):=H1;refine r_new H1 λob w2 S2 H2=>?_;rw[Zf3] at H2;refine r_fo0 (r_ld 1 H2 rfl rfl (r_fo0 (r_ld 1 H2 rfl rfl ?_)));refine r_bd (v:=.agg (cellsN ty jb [] 0).toArray) (by kernel_rfl) ?_;refine r_new H2 λab w3 S3 H3=>?_;rw[Zf3] at H3;refine r_stA 0 H3 (vs:=cellsN ty jb [] 0) rfl (Nat.le_refl 4) rfl rfl λw4 S4 H4=>?_;replace H4:Holds w4 (blk ab tAn (cellsN ty jb [] 0)::blk ob tAn [iv 0,iv 0,S_ [],iv 0]::blk fb tFr (cellsF ⟨ty,jb,t⟩)::L):=H4;refine r_ldA 2 H4 (cellsF ⟨ty,jb,t⟩) rfl rfl rfl ?_;refine Zdj (f:=⟨ty,jb,t⟩) H4 h1 h2 λw5 S5 H5=>?_;have S:=S1.trans (S2.trans (S3.trans (S4.trans S5)));clear S1 S2 S3 S4 S5 H H1 H2 H3 H4;refine Za0 (λv w'=>v=.bool true/\Same w w'/\Holds w' (blk ab tAn (cellsN ty jb t 0)::blk ob tAn [iv 0,iv 0,S_ [],iv 0]::blk fb tFr (cellsF ⟨ty,jb,t⟩)::L)) ?_ ?_
 rotate_left
 ·refine r_fo0 (r_ld 2 H5 rfl rfl ?_);refine Za0 (λv w'=>w5=w'/\v=.bool (decide (ty=65\/ty=70))) ?_ ?_
  rotate_left
  ·refine r_eql (r_ifE (λg=>r_ke ⟨rfl,by have g':(ty:Int)=65:=g;rw[decide_eq_true (.inl (by omega)),g];rfl⟩) λg=>r_eql (r_ke ⟨rfl,?_⟩))
   congr 1
   rw[Bool.eq_iff_iff,beq_iff_eq,decide_eq_true_iff];have g':¬ (ty:Int)=65:=g;show (ty:Int)=70↔_;omega
  rintro _ _ _ ⟨rfl,rfl⟩;refine r_ifD (λg=>?_) λg=>?_
  ·refine r_fo0 (r_ld 2 H5 rfl rfl (r_fo0 (r_st 0 H5 rfl (by simp[cellsN]) rfl λw6 S6 H6=>?_)));refine r_vt (r_fo0 (r_ld 2 H6 rfl rfl (r_eql (r_ke ⟨?_,S.trans S6,H6⟩))))
   congr 1
   rw[beq_iff_eq];show (jb:Int)=0;omega
  ·refine r_eql (r_vtE (by show (ty:Int)=66;omega) ?_);refine r_fo0 (r_ld 2 H5 rfl rfl (r_fo0 (r_st 0 H5 rfl (by simp[cellsN]) rfl λw6 S6 H6=>?_)));exact r_ke ⟨rfl,S.trans S6,H6⟩
 clear H5 S;rintro _ _ w6 ⟨rfl,S,H6⟩;refine r_not (r_vf ?_);refine r_ldA 0 H6 (cellsN ty jb t 0) rfl rfl rfl ?_;refine r_stA 1 H6 (vs:=cellsN ty jb t 0) rfl (Nat.le_refl 4) rfl rfl λw7 S7 H7=>?_;refine r_ldA 1 H7 (cellsN ty jb t 0) rfl rfl rfl ?_;exact k w7 (S.trans S7) H7.drop.drop.drop
theorem Znk {jb e:Nat}(H:Holds w L) (h1:jb<=4294967295) (he:1<=e) (h2:e<=255) (k:∀ w',Same w w'->Holds w' L->K (.tuple #[.agg (cellsN 69 jb [] e).toArray,iv 0]) w') :
  Cl prog 190 #[.agg (cellsF ⟨69,jb,[UInt8.ofNat e]⟩).toArray] w K:=by
 have hb:([UInt8.ofNat e].getD 0 0).toNat=e:=by
  show (UInt8.ofNat e).toNat=e;rw[UInt8.toNat_ofNat'];omega
 refine Tz190 ?_;unfold Vz190;refine r_new H λfb w1 S1 H1=>?_;replace H1:Holds w1 (blk fb tFr (cellsF ⟨69,jb,[UInt8.ofNat e]⟩)::L):=H1;refine r_new H1 λob w2 S2 H2=>?_;rw[Zf3] at H2;refine r_fo0 (r_ld 1 H2 rfl rfl (r_fo0 (r_ld 1 H2 rfl rfl ?_)));refine r_bd (v:=.agg (cellsN 69 jb [] 0).toArray) (by kernel_rfl) ?_;refine r_new H2 λab w3 S3 H3=>?_;rw[Zf3] at H3;refine r_stA 0 H3 (vs:=cellsN 69 jb [] 0) rfl (Nat.le_refl 4) rfl rfl λw4 S4 H4=>?_;replace H4:Holds w4 (blk ab tAn (cellsN 69 jb [] 0)::blk ob tAn [iv 0,iv 0,S_ [],iv 0]::blk fb tFr (cellsF ⟨69,jb,[UInt8.ofNat e]⟩)::L):=H4;refine r_ldA 2 H4 (cellsF ⟨69,jb,[UInt8.ofNat e]⟩) rfl rfl rfl ?_;refine Zdj (f:=⟨69,jb,[UInt8.ofNat e]⟩) H4 h1 (by show 1<=65536;decide) λw5 S5 H5=>?_;have S:=S1.trans (S2.trans (S3.trans (S4.trans S5)));clear S1 S2 S3 S4 S5 H H1 H2 H3 H4;refine Za0 (λv w'=>v=.bool true/\Same w w'/\Holds w' (blk ab tAn (cellsN 69 jb [] e)::blk ob tAn [iv 0,iv 0,S_ [],iv 0]::blk fb tFr (cellsF ⟨69,jb,[UInt8.ofNat e]⟩)::L)) ?_ ?_
 rotate_left
 ·refine r_fo0 (r_ld 2 H5 rfl rfl ?_);refine Za0 (λv w'=>w5=w'/\v=.bool false) ?_ ?_
  rotate_left
  ·exact r_eql (r_vfE (by show ¬ (69:Int)=65;decide) (r_eql (r_ke ⟨rfl,rfl⟩)))
  rintro _ _ _ ⟨rfl,rfl⟩;refine r_vf (r_eql (r_vfE (by show ¬ (69:Int)=66;decide) (r_eql (r_vfE (by show ¬ (69:Int)=67;decide) ?_))));refine Za0 (λv w'=>w5=w'/\v=.bool true) ?_ ?_
  rotate_left
  ·exact r_eql (r_vfE (by show ¬ (69:Int)=68;decide) (r_eql (r_ke ⟨rfl,rfl⟩)))
  rintro _ _ _ ⟨rfl,rfl⟩;refine r_vt ?_;refine Za0 (λv w'=>w5=w'/\v=.bool true) ?_ ?_
  rotate_left
  ·refine r_vt (r_fo0 (r_ld 2 H5 rfl rfl (q_len (r_eql (r_vtE rfl ?_)))));refine r_fo0 (r_ld 2 H5 rfl rfl (q_ix (m:=0) (by show 0 < 1;decide) ?_));rw[hb];refine r_gtr (r_ke ⟨rfl,?_⟩);rw[decide_eq_true (by omega)]
  rintro _ _ _ ⟨rfl,rfl⟩;refine r_vt (r_fo0 (r_ld 2 H5 rfl rfl (q_ix (m:=0) (by show 0 < 1;decide) ?_)));rw[hb];refine Zab (by omega) (by omega) (r_fo0 (r_st 0 H5 rfl (by simp[cellsN]) rfl λw6 S6 H6=>?_));exact r_ke ⟨rfl,S.trans S6,H6⟩
 clear H5 S;rintro _ _ w6 ⟨rfl,S,H6⟩;refine r_not (r_vf ?_);refine r_ldA 0 H6 (cellsN 69 jb [] e) rfl rfl rfl ?_;refine r_stA 1 H6 (vs:=cellsN 69 jb [] e) rfl (Nat.le_refl 4) rfl rfl λw7 S7 H7=>?_;refine r_ldA 1 H7 (cellsN 69 jb [] e) rfl rfl rfl ?_;exact k w7 (S.trans S7) H7.drop.drop.drop
end F33
instance:Row prog 79 5 (.int .u8 0):=⟨by kernel_rfl,⟨t5,by kernel_rfl,by kernel_rfl,by decide,by kernel_rfl⟩,rfl⟩
instance:Bytes prog 79 5 9:=⟨by kernel_rfl,by kernel_rfl,by kernel_rfl⟩
namespace W01
open Go.M01
variable {w:World}{L:List HProp}{K:KT}{b:Nat}
abbrev tB:Nat:=5
abbrev tW:Nat:=354
def WrR (b:Nat) (bs:List Bool) (k:Nat):HProp:=λh=>∃ wv,Sat [blk b tW [wv,.int .u8 (restB bs:Nat),nv bs.length],SL bv tB wv ((wholeB bs).drop k)] h
theorem Zms {bs:List Bool}{k:Nat}(H:Holds w (WrR b bs k::L)):∃ wv,Holds w (blk b tW [wv,.int .u8 (restB bs:Nat),nv bs.length]::SL bv tB wv ((wholeB bs).drop k)::L):=by
 obtain⟨wv,H⟩:=Holds.ex H;exact⟨wv,Holds.unpack H⟩
theorem Zeo {bs:List Bool}{k:Nat}{wv:Value}(H:Holds w (blk b tW [wv,.int .u8 (restB bs:Nat),nv bs.length]::SL bv tB wv ((wholeB bs).drop k)::L)):Holds w (WrR b bs k::L):=
 Holds.imp (Holds.pack (A:=[_,_]) H) λh hh=>⟨wv,hh⟩
theorem Zh6 (H:Holds w L) (post:∀ b w',Same w w'->Holds w' (WrR b [] 0::L)->K (.pointer (some ⟨b,0,none⟩)) w'):Cl prog 239 #[] w K:=by
 refine Tz239 ?_;unfold Vz239;refine r_bd (v:=.agg #[.slice none 0 0,.int .u8 0,nv 0]) (by kernel_rfl) ?_;refine r_new H λb w1 S1 H1=>?_;replace H1:Holds w1 (blk b tW [.slice none 0 0,.int .u8 0,nv 0]::L):=H1;exact post b _ S1 (Zeo ((H1.nilSL bv tB).swap))
theorem Zs4 {bs:List Bool}{k:Nat}{c:Bool}(H:Holds w (WrR b bs k::L)) (hn:bs.length<=1000000000000) (hk:k<=bs.length/8)
  (post:∀ w',Same w w'->Holds w' (WrR b (bs++[c]) k::L)->K (.tuple #[]) w'):Cl prog 244 #[.pointer (some ⟨b,0,none⟩),.int .u8 (c.toNat:Int)] w K:=by
 refine Tz244 ?_;unfold Vz244;obtain⟨wv,H⟩:=Zms H;have S:=Same.refl w;have hc:=Bool.toNat_le c;have hr:=Zse bs
 have hR:((bs.length:Int)).tmod 8=((bs.length%8:Nat):Int):=by
  rw[Int.tmod_eq_emod_of_nonneg (by omega)];simp
 have hm:bs.length%8 < 8:=Nat.mod_lt _ (by decide);have hsh:c.toNat*2^(7 - bs.length%8)%256 < 256:=Nat.mod_lt _ (by decide)
 have hls:(bs++[c]).length=bs.length+1:=by simp
 repeat (first|refine Zxf hR (by omega) ?_|refine r_nc ?_|refine r_fo0 ?_|(refine r_sub (by omega) (by omega) ?_)|(refine r_dr H ?_;clear H;intro _ S_ H;replace S:=S.trans S_;clear S_)|refine r_ld 0 H rfl rfl ?_)
 rw[show (7:Int) - ((bs.length%8:Nat):Int)=((7 - bs.length%8:Nat):Int) by omega];refine Zvr (by omega) ?_;refine Ztz hr hsh ?_
 repeat (first|refine r_nc ?_|refine r_fo0 ?_)
 refine r_st 0 H rfl (by simp) rfl λw2 S2 H2=>?_;replace H2:Holds w2 (blk b tW [wv,.int .u8 ((restB bs ||| (c.toNat*2^(7 - bs.length%8)%256):Nat):Int),nv bs.length]::SL bv tB wv ((wholeB bs).drop k)::L):=H2;replace S:=S.trans S2;clear H S2;have H:=H2;clear H2
 repeat (first|refine r_nc ?_|refine r_fo0 ?_|(refine Za1 (by omega) ?_)|refine r_ld 0 H rfl rfl ?_)
 refine r_st 0 H rfl (by simp) rfl λw2 S2 H2=>?_;replace H2:Holds w2 (blk b tW [wv,.int .u8 ((restB bs ||| (c.toNat*2^(7 - bs.length%8)%256):Nat):Int),nv (bs.length+1)]::SL bv tB wv ((wholeB bs).drop k)::L):=H2;replace S:=S.trans S2;clear H S2;have H:=H2;clear H2
 repeat (refine r_eql ?_)
 refine r_ifE (λh=>?_) λh=>?_
 ·obtain⟨p1,p2⟩:=Zsh bs c (by omega);have hx:restB bs ||| (c.toNat*2^(7 - bs.length%8)%256) < 2^8:=Nat.or_lt_two_pow (by simpa using hr) (by simpa using hsh);generalize restB bs ||| (c.toNat*2^(7 - bs.length%8)%256)=x at *
  have e:(Value.int .u8 (x:Int))=bv (UInt8.ofNat x):=by
   unfold bv;rw[UInt8.toNat_ofNat_of_lt' hx]
  rw[e] at H;obtain⟨oa,sp,rfl,H⟩:=H.open 1 rfl;rw[gW,gJ] at H
  repeat (first|refine r_nc ?_|refine r_fo0 ?_|(refine r_dr H ?_;clear H;intro _ S_ H;replace S:=S.trans S_;clear S_)|refine r_ld 0 H rfl rfl ?_)
  refine r_bs1 H rfl λb3 w3 S3 H3=>?_;replace S:=S.trans S3;refine r_rk (r_ld 1 H3 rfl rfl rfl) ?_;have hwl:=Zhl bs;refine r_ap (f:=bv) (ys:=[UInt8.ofNat x]) H3 2 0 rfl rfl rfl rfl rfl rfl (λ_=>rfl) (by rw[gS,gQ];omega) (by simp) λoa' sp' w4 S4 H4=>?_;replace S:=S.trans S4
  have hout:(wholeB bs).drop k++[UInt8.ofNat x]=(wholeB (bs++[c])).drop k:=by
   rw[p1,drop_append_of_le_length (by omega)]
  rw[hout,gW,gW,gJ] at H4
  have hlen:((wholeB bs).drop k).length+[UInt8.ofNat x].length=((wholeB (bs++[c])).drop k).length:=by
   rw[<-hout,gD]
  rw[hlen];clear H H3;have H:=H4.drop;clear H4
  repeat (first|refine r_nc ?_|refine r_fo0 ?_)
  refine r_st 0 H rfl (by simp) rfl λw5 S5 H5=>?_;replace S:=S.trans S5;clear H;have H:=H5;clear H5;rw[gJ,gJ] at H
  repeat (first|refine r_nc ?_|refine r_fo0 ?_)
  refine r_st 0 H rfl (by simp) rfl λw6 S6 H6=>?_;rw[gJ,gW,gJ] at H6;have H7:=H6.close 1 rfl;rw[gW,gJ] at H7;refine post _ (S.trans S6) (Zeo (wv:=.slice oa' ((wholeB (bs++[c])).drop k).length (((wholeB (bs++[c])).drop k).length+sp'.length)) ?_);rw[p2,hls];exact H7
 ·obtain⟨p1,p2,p3⟩:=Zvg bs c (by omega);rw[<-p2] at H;refine post _ S (Zeo (wv:=wv) ?_);rw[p1,hls];exact H
theorem Zmg {bs:List Bool}{k v n:Nat}(H:Holds w (WrR b bs k::L)) (hl:bs.length<=100000000000) (hk:k<=bs.length/8) (hn:n<=32) (hv:v < 2^n)
  (post:∀ w',Same w w'->Holds w' (WrR b (bs++bitsOf v n) k::L)->K (iv 0) w'):Cl prog 240 #[.pointer (some ⟨b,0,none⟩),uv v,nv n] w K:=by
 refine Tz240 ?_;unfold Vz240;have hp:(2:Nat)^n<=2^32:=Nat.pow_le_pow_right (by omega) hn
 repeat (first|(with_reducible first|refine Za2 ?_|refine r_vf ?_))
 refine r_cl (K:=λx w'=>w=w'/\x=.bool true) ?_ ?_
 ·refine Tz243 ?_;unfold Vz243
  repeat (first|refine Zv6 (by omega) (by omega) ?_|refine Zn9 (show n<=IntKind.u64.bits by show n<=64;omega) ?_|refine r_eql ?_|refine r_leq ?_|refine r_geq ?_|((with_reducible refine r_vtD ?h ?_);(case h=>omega)))
  exact⟨rfl,by rw[Nat.div_eq_of_lt hv];rfl⟩
 rintro _ _ ⟨rfl,rfl⟩
 repeat (first|(with_reducible first|refine Zao ?_|refine r_vf ?_))
 refine Zat (λx w'=>∃ i:Nat,i<=n/\x=nv i/\Same w w'/\Holds w' (WrR b (bs++(bitsOf v n).take i) k::L)) (λx _=>n - (intOf x).toNat) ⟨0,by omega,rfl,.refl w,by rw[List.take_zero,gU];exact H⟩ ?_;clear H;rintro _ _ w2 ⟨i,hi,rfl,S,H⟩
 repeat (refine r_lss ?_)
 refine r_ifD (λh=>?_) λh=>?_
 ·have hlt:i < n:=by omega
  repeat (first|(refine Za9 (by omega) (by omega) ?_)|(refine r_sub (by omega) (by omega) ?_))
  rw[show ((n - 1:Nat):Int) - (i:Int)=((n - 1 - i:Nat):Int) by omega];refine Zn9 (show n - 1 - i<=IntKind.u32.bits by show n - 1 - i<=32;omega) ?_;have hd:v/2^(n - 1 - i)<=v:=Nat.div_le_self _ _;refine Zt8 (t:=1) (by omega) (by omega) ?_;rw[Zx0];have hb:=Bool.toNat_le (v.testBit (n - 1 - i))
  repeat (refine Zac (by omega) (by omega) ?_)
  have hlen:(bs++(bitsOf v n).take i).length<=bs.length+32:=by
   rw[gD,gN,Zdl];omega
  have hlen2:bs.length<=(bs++(bitsOf v n).take i).length:=by rw[gD];omega
  refine Zs4 H (by omega) (by omega) λw3 S3 H3=>?_;rw[gI,<-Zsw v n i hlt] at H3
  repeat (first|refine r_ke ?_|(refine Za1 (by omega) ?_))
  refine⟨⟨i+1,by omega,rfl,S.trans S3,H3⟩,?_⟩;simp[nv,intOf];omega
 ·obtain rfl:i=n:=by omega
  rw[gK (by rw[Zdl];omega)] at H;exact post _ S H
theorem Zql {bs:List Bool}{k:Nat}(H:Holds w (WrR b bs k::L)) (post:∀ w',Same w w'->Holds w' (WrR b bs (bs.length/8)::L)->K (.string ⟨((wholeB bs).drop k).toArray⟩) w') :
  Cl prog 241 #[.pointer (some ⟨b,0,none⟩)] w K:=by
 refine Tz241 ?_;unfold Vz241;obtain⟨wv,H⟩:=Zms H;have S:=Same.refl w;obtain⟨oa,sp,rfl,H⟩:=H.open 1 rfl;rw[gW,gJ] at H
 repeat (first|refine r_cbs H 1 rfl rfl ?_|refine r_nc ?_|refine r_fo0 ?_|(with_reducible first|refine Za2 ?_|refine r_vf ?_)|refine r_ld 0 H rfl rfl ?_)
 refine r_st 0 H rfl (by simp) rfl λw2 S2 H2=>?_;rw[gJ,gJ] at H2;refine post w2 S2 (Zeo (wv:=.slice none 0 0) ?_);rw[drop_of_length_le (Nat.le_of_eq (Zhl bs))];exact ((H2.dropAt 1).nilSL bv tB).swap
end W01
end Go.Proofs.YthkaggnihbkmeaaGreatDoor
namespace Go.M02
def crcStep (s:Nat):Nat:=(s*2%4294967296) ^^^ (s/2147483648*79764919)
def crcN (s:Nat):Nat->Nat
 |0=>s
 |k+1=>crcStep (crcN s k)
def crcTab (b:Nat):Nat:=crcN (b*16777216) 8
def tabL:List Nat:=(List.range 256).map crcTab
theorem Zoj (s:Nat) (h:s < 4294967296):crcStep s < 4294967296:=by
 unfold crcStep
 have h1:s/2147483648<=1:=by omega
 have h2:s/2147483648*79764919<=1*79764919:=Nat.mul_le_mul_right _ h1;exact Nat.xor_lt_two_pow (n:=32) (by omega) (by omega)
theorem Zr2 (s:Nat) (h:s < 4294967296):∀ k,crcN s k < 4294967296
 |0=>h
 |k+1=>Zoj _ (Zr2 s h k)
theorem Zfn:tabL.length=256:=by simp[tabL]
theorem Zru (i:Nat) (h:i < 256):tabL[i]?=some (crcTab i):=by simp[tabL,h]
end Go.M02
namespace Go.Proofs.YthkaggnihbkmeaaGreatDoor
open Go Go.Vc Go.Proofs.Tryz
attribute [local irreducible] Vc.Nc Vc.Ld Vc.LdA Vc.St Vc.StA Vc.Fo Vc.Iaa Vc.Ias Vc.Ixs Vc.Ixa Vc.Fd Vc.FdA Vc.Bp Vc.Bb Vc.Bn Vc.Up Vc.Ci Vc.Lns Vc.Lnl Vc.Ex Vc.Sst Vc.Ssl Vc.New Vc.Vif Vc.VJoin Vc.VLoop Vc.KE Vc.Dr Vc.Rk Vc.Cl Vc.Cx Vc.Inv Vc.Be Vc.Cv Vc.Cw Vc.Mf Vc.Sl Vc.Lk Vc.Bd Vc.Bs Vc.Ms Vc.Mm Vc.Mu Vc.Me Vc.Es Vc.Rg Vc.Nx Vc.Ta Vc.Ap Vc.Usd Vc.Ust Vc.Cp Vc.Ln Vc.Bc Vc.Bmin Vc.Bmax Vc.Bdel Vc.Bclr Vc.Pk
namespace W02
open Go.M02
variable {w:World}{L:List HProp}{K:KT}
abbrev tTab:Nat:=345
theorem Zof (H:Holds w L) (post:∀ w',Same w w'->Holds w' L->K (.agg (tabL.map uv).toArray) w'):Cl prog 242 #[] w K:=by
 refine Tz242 ?_;unfold Vz242
 have hz:(zeroP prog tTab).cells.toList=(List.replicate 256 0).map uv:=by kernel_rfl
 refine r_new H λb1 w1 S1 H1=>?_;rw[hz] at H1;refine r_new H1 λb2 w2 S2 H2=>?_;rw[hz] at H2
 refine Zat (λx w'=>∃ i:Nat,i<=256/\x=nv i/\Same w w'/\Holds w' (blk b2 tTab ((filled tabL 0 256 i).map uv)::blk b1 tTab ((List.replicate 256 0).map uv)::L))
  (λx _=>256 - (intOf x).toNat) ⟨0,by omega,rfl,S1.trans S2,by rw[Zlm];exact H2⟩ ?_
 clear H H1 H2 S1 S2;rintro _ _ w3 ⟨i,hi,rfl,S,H⟩
 repeat (refine r_lss ?_)
 refine r_ifD (λh=>?_) λh=>?_
 ·have hlt:i < 256:=by omega
  refine Za8 (by omega) (by omega) ?_;refine Zmc (n:=24) (by omega) ?_;rw[show i*2^24%4294967296=crcN (i*16777216) 0 by show _=i*16777216;omega];refine Zb1 (λs x w'=>w3=w'/\∃ j:Nat,j<=8/\x=nv j/\s=uv (crcN (i*16777216) j)) (λ_ x _=>8 - (intOf x).toNat) ⟨rfl,0,by omega,rfl,rfl⟩ ?_;rintro _ _ _ _ ⟨rfl,j,hj,rfl,rfl⟩;have hc:=Zr2 (i*16777216) (by omega) j
  repeat (refine r_lss ?_)
  refine r_ifD (λh2=>?_) λh2=>?_
  ·have h3:crcN (i*16777216) j/2147483648<=1:=by omega
   have h4:crcN (i*16777216) j/2147483648*79764919<=1*79764919:=Nat.mul_le_mul_right _ h3;refine Zn9 (n:=31) (by decide) ?_;refine Zmc (n:=1) (by omega) ?_;refine Zrv (t:=79764919) (by omega) ?_;refine Zsy (by omega) (by omega) ?_
   repeat (first|refine r_ke ?_|(refine Za1 (by omega) ?_))
   refine⟨⟨rfl,j+1,by omega,rfl,rfl⟩,?_⟩;simp[nv,intOf];omega
  ·obtain rfl:j=8:=by omega
   repeat (refine Zal (by omega) ?_)
   refine r_st 0 H rfl (by rw[hS_,Znc (by omega) Zfn];omega) rfl λw4 S4 H4=>?_
   have hset:((filled tabL 0 256 i).map uv).set (0+i) (uv (crcN (i*16777216) 8))=(filled tabL 0 256 (i+1)).map uv:=by
    rw[Nat.zero_add,<-List.map_set];exact congrArg (List.map uv) (Znr (z:=0) hlt Zfn (Zru i hlt))
   rw[gJ,hset] at H4
   repeat (first|refine r_ke ?_|(refine Za1 (by omega) ?_))
   refine⟨⟨i+1,by omega,rfl,S.trans S4,H4⟩,?_⟩;simp[nv,intOf];omega
 ·obtain rfl:i=256:=by omega
  rw[Zo4 Zfn] at H
  have hl:(tabL.map uv).length=256:=by simp[Zfn]
  refine r_ldA 0 H (tabL.map uv) rfl (by rw[drop_zero,gK (by omega)]) hl ?_;refine r_stA 1 H (vs:=tabL.map uv) rfl (Nat.le_of_eq (by rw[hS_,List.length_replicate])) hl (by kernel_rfl) λw4 S4 H4=>?_
  have hset:setL ((List.replicate 256 0).map uv) 0 (tabL.map uv)=tabL.map uv:=by kernel_rfl
  rw[gW,gJ,hset] at H4;refine r_ldA 1 H4 (tabL.map uv) rfl (by rw[drop_zero,gK (by omega)]) hl ?_;exact post _ (S.trans S4) H4.drop.drop
end W02
namespace U38
open Go.M01 Go.M02 W01 W02
variable {w:World}{L:List HProp}{K:KT}{b:Nat}
theorem Ze8 {level unit:Int}(h1:1<=level) (h2:level<=9) (h3:24<=unit) (h4:unit<=100000) (post:∀ r:Nat,5<=r->r<=900000->(r:Int)=level*unit - 19->K (.tuple #[nv r,iv 0]) w) :
  Cl prog 220 #[iv level,iv unit] w K:=by
 refine Tz220 ?_;unfold Vz220;refine Za0 (λx w'=>w=w'/\x=.bool false) ?_ ?_
 ·rintro _ _ _ ⟨rfl,rfl⟩;have h5:1*24<=level*unit:=Int.mul_le_mul h1 h3 (by omega) (by omega);have h6:level*unit<=9*100000:=Int.mul_le_mul h2 h4 (by omega) (by omega);refine r_vf ?_;refine r_mul (by omega) (by omega) ?_;refine r_sub (by omega) (by omega) ?_;have:=post (level*unit - 19).toNat (by omega) (by omega) (by omega);rw[show nv (level*unit - 19).toNat=iv (level*unit - 19) by unfold nv iv;congr 1;omega] at this;exact this
 ·repeat (first|refine r_ke ?_|refine r_lss ?_|refine r_gtr ?_|((with_reducible refine r_vfD ?h ?_);(case h=>omega)))
  exact⟨rfl,by rw[decide_eq_false (by omega)]⟩
abbrev tPress:Nat:=315
abbrev tSplit:Nat:=333
abbrev tSum:Nat:=348
abbrev tPack:Nat:=352
abbrev tStream:Nat:=337
theorem Zlj (H:Holds w L) (post:∀ b w',Same w w'->Holds w' (blk b tSum (tabL.map uv++[uv 4294967295])::L)->K (.pointer (some ⟨b,0,none⟩)) w'):Cl prog 237 #[] w K:=by
 refine Tz237 ?_;unfold Vz237;refine Zof H λw2 S2 H2=>?_;refine r_bd (v:=.agg (tabL.map uv++[uv 4294967295]).toArray) (by kernel_rfl) ?_;refine r_new H2 λb w3 S3 H3=>?_;exact post b _ (S2.trans S3) H3
theorem Zl0 (H:Holds w L) (post:∀ b w',Same w w'->Holds w' (blk b tPack [.int .u8 0,nv 0]::L)->K (.pointer (some ⟨b,0,none⟩)) w'):Cl prog 238 #[] w K:=by
 refine Tz238 ?_;unfold Vz238;refine r_bd (v:=.agg #[.int .u8 0,nv 0]) (by kernel_rfl) ?_;refine r_new H λb w3 S3 H3=>?_;exact post b _ S3 H3
def SplR0 (b:Nat) (room:Nat):HProp:=λh=>∃ b1 b2,Sat [blk b tSplit [.slice none 0 0,.pointer (some ⟨b1,0,none⟩),nv 0,nv room,.pointer (some ⟨b2,0,none⟩)],blk b1 tSum (tabL.map uv++[uv 4294967295]),blk b2 tPack [.int .u8 0,nv 0]] h
theorem Znu {r:Nat}(H:Holds w (SplR0 b r::L)):∃ b1 b2,Holds w (blk b tSplit [.slice none 0 0,.pointer (some ⟨b1,0,none⟩),nv 0,nv r,.pointer (some ⟨b2,0,none⟩)]::blk b1 tSum (tabL.map uv++[uv 4294967295])::blk b2 tPack [.int .u8 0,nv 0]::L):=by
 obtain⟨b1,H⟩:=Holds.ex H;obtain⟨b2,H⟩:=Holds.ex H;exact⟨b1,b2,Holds.unpack H⟩
theorem Zgp {r b1 b2:Nat}(H:Holds w (blk b tSplit [.slice none 0 0,.pointer (some ⟨b1,0,none⟩),nv 0,nv r,.pointer (some ⟨b2,0,none⟩)]::blk b1 tSum (tabL.map uv++[uv 4294967295])::blk b2 tPack [.int .u8 0,nv 0]::L)):Holds w (SplR0 b r::L):=
 Holds.imp (Holds.pack (A:=[_,_,_]) H) λh hh=>⟨b1,b2,hh⟩
theorem Ziy {r:Nat}(H:Holds w L) (h1:5<=r) (h2:r<=900000) (post:∀ b w',Same w w'->Holds w' (SplR0 b r::L)->K (.tuple #[.pointer (some ⟨b,0,none⟩),iv 0]) w') :
  Cl prog 231 #[nv r] w K:=by
 refine Tz231 ?_;unfold Vz231;refine Za0 (λx w'=>w=w'/\x=.bool false) ?_ ?_
 ·rintro _ _ _ ⟨rfl,rfl⟩;refine r_vf ?_;refine Zlj H λb1 w1 S1 H1=>?_;refine r_bd (v:=.agg #[.slice none 0 0,.pointer (some ⟨b1,0,none⟩),nv 0]) (by kernel_rfl) ?_;refine Zl0 H1 λb2 w2 S2 H2=>?_;refine r_bd (v:=.agg #[.slice none 0 0,.pointer (some ⟨b1,0,none⟩),nv 0,nv r,.pointer (some ⟨b2,0,none⟩)]) (by kernel_rfl) ?_;refine r_new H2 λb w3 S3 H3=>?_;replace H3:Holds w3 (blk b tSplit [.slice none 0 0,.pointer (some ⟨b1,0,none⟩),nv 0,nv r,.pointer (some ⟨b2,0,none⟩)]::blk b2 tPack [.int .u8 0,nv 0]::blk b1 tSum (tabL.map uv++[uv 4294967295])::L):=H3;exact post b _ ((S1.trans S2).trans S3) (Zgp ((H3.front 2 rfl).swap))
 ·repeat (first|refine r_ke ?_|refine r_lss ?_|refine r_gtr ?_|((with_reducible refine r_vfD ?h ?_);(case h=>omega)))
  exact⟨rfl,by rw[decide_eq_false (by omega)]⟩
def bzh:ByteArray:=⟨#[66,90,104]⟩
def hdB:Nat->List Bool
 |0=>[]
 |i+1=>hdB i++bitsOf (bzh.data.toList.getD i 0).toNat 8
theorem Zle:∀ i,(hdB i).length=8*i
 |0=>rfl
 |i+1=>by rw[hdB,gD,Zle i,Zdl];omega
def headB (level:Nat):List Bool:=hdB 3++bitsOf (48+level) 8
theorem Zq4 (l:Nat):(headB l).length=32:=by rw[headB,gD,Zle,Zdl]
theorem Zh5 {level:Nat}(H:Holds w L) (h1:1<=level) (h2:level<=9) (post:∀ b bw w',Same w w'->Holds w' (blk b tStream [.pointer (some ⟨bw,0,none⟩),.int .u32 0,.bool false]::WrR bw (headB level) 0::L)->K (.tuple #[.pointer (some ⟨b,0,none⟩),iv 0]) w') :
  Cl prog 232 #[nv level] w K:=by
 refine Tz232 ?_;unfold Vz232;refine Za0 (λx w'=>w=w'/\x=.bool false) ?_ ?_
 ·rintro _ _ _ ⟨rfl,rfl⟩;refine r_vf ?_;refine Zh6 H λbw w1 S1 H1=>?_;refine r_bd (v:=.agg #[.pointer (some ⟨bw,0,none⟩),.int .u32 0,.bool false]) (by kernel_rfl) ?_;refine r_new H1 λb w2 S2 H2=>?_;replace H2:Holds w2 (blk b tStream [.pointer (some ⟨bw,0,none⟩),.int .u32 0,.bool false]::WrR bw (hdB 0) 0::L):=H2;refine Zat (λx w'=>∃ i:Nat,i<=3/\x=nv i/\Same w w'/\Holds w' (blk b tStream [.pointer (some ⟨bw,0,none⟩),.int .u32 0,.bool false]::WrR bw (hdB i) 0::L)) (λx _=>3 - (intOf x).toNat) ⟨0,by omega,rfl,S1.trans S2,H2⟩ ?_;clear H H1 H2 S1 S2;rintro _ _ w3 ⟨i,hi,rfl,S,H⟩;have hhl:=Zle i
  repeat (refine r_lss ?_)
  refine r_ifD (λh=>?_) λh=>?_
  ·have hsz:bzh.size=3:=rfl;have hby:(bzh.data.toList.getD i 0).toNat < 256:=UInt8.toNat_lt _
   repeat (first|refine Zak (s:=bzh) (by omega) ?_|refine r_nc ?_|refine r_fo0 ?_|(refine Za8 (by omega) (by omega) ?_)|(refine r_dr H ?_;clear H;intro _ S_ H;replace S:=S.trans S_;clear S_)|refine r_ld 0 H rfl rfl ?_)
   refine Zmg (n:=8) H.swap (by omega) (by omega) (by omega) (by omega) λw4 S4 H4=>?_
   repeat (first|refine r_ke ?_|(refine Za1 (by omega) ?_))
   refine⟨⟨i+1,by omega,rfl,S.trans S4,H4.swap⟩,?_⟩;simp[nv,intOf];omega
  ·obtain rfl:i=3:=by omega
   repeat (first|refine r_nc ?_|refine r_fo0 ?_|(refine Za8 (by omega) (by omega) ?_)|(refine r_add (by omega) (by omega) ?_)|refine r_ld 0 H rfl rfl ?_)
   rw[show (48:Int)+(level:Int)=((48+level:Nat):Int) by omega];refine Zmg (n:=8) H.swap (by omega) (by omega) (by omega) (by omega) λw4 S4 H4=>?_;exact post b bw _ (S.trans S4) H4.swap
 ·repeat (first|refine r_ke ?_|refine r_lss ?_|refine r_gtr ?_|((with_reducible refine r_vfD ?h ?_);(case h=>omega)))
  exact⟨rfl,by rw[decide_eq_false (by omega)]⟩
theorem Zgv {bw k:Nat}{bs:List Bool}{r:List Value}(H:Holds w (blk b tStream (.pointer (some ⟨bw,0,none⟩)::r)::WrR bw bs k::L))
  (post:∀ w',Same w w'->Holds w' (blk b tStream (.pointer (some ⟨bw,0,none⟩)::r)::WrR bw bs (bs.length/8)::L)->K (.string ⟨((wholeB bs).drop k).toArray⟩) w') :
  Cl prog 233 #[.pointer (some ⟨b,0,none⟩)] w K:=by
 refine Tz233 ?_;unfold Vz233
 repeat (first|refine r_nc ?_|refine r_fo0 ?_|(with_reducible first|refine Za2 ?_|refine r_vf ?_)|refine r_ld 0 H rfl rfl ?_)
 refine W01.Zql H.swap λw2 S2 H2=>?_;exact post _ S2 H2.swap
def PrR0 (b:Nat) (window room level:Nat) (inp:ByteArray):HProp:=λh=>∃ bs bt bw,Sat [blk b tPress [nv window,.string inp,.bool false,.pointer (some ⟨bs,0,none⟩),.bool false,.slice none 0 0,.pointer none,nv 0,.pointer (some ⟨bt,0,none⟩),.string ⟨(wholeB (headB level)).toArray⟩,.bool false,nv 0],
 SplR0 bs room,blk bt tStream [.pointer (some ⟨bw,0,none⟩),.int .u32 0,.bool false],WrR bw (headB level) 4] h
theorem Zqa {window room level:Nat}{inp:ByteArray}(H:Holds w (PrR0 b window room level inp::L)):∃ bs bt bw,Holds w (blk b tPress [nv window,.string inp,.bool false,.pointer (some ⟨bs,0,none⟩),.bool false,.slice none 0 0,.pointer none,nv 0,.pointer (some ⟨bt,0,none⟩),.string ⟨(wholeB (headB level)).toArray⟩,.bool false,nv 0] ::
 SplR0 bs room::blk bt tStream [.pointer (some ⟨bw,0,none⟩),.int .u32 0,.bool false]::WrR bw (headB level) 4::L):=by
 obtain⟨bs,H⟩:=Holds.ex H;obtain⟨bt,H⟩:=Holds.ex H;obtain⟨bw,H⟩:=Holds.ex H;exact⟨bs,bt,bw,Holds.unpack H⟩
theorem Zoq {window room level bs bt bw:Nat}{inp:ByteArray}(H:Holds w (blk b tPress [nv window,.string inp,.bool false,.pointer (some ⟨bs,0,none⟩),.bool false,.slice none 0 0,.pointer none,nv 0,.pointer (some ⟨bt,0,none⟩),.string ⟨(wholeB (headB level)).toArray⟩,.bool false,nv 0] ::
 SplR0 bs room::blk bt tStream [.pointer (some ⟨bw,0,none⟩),.int .u32 0,.bool false]::WrR bw (headB level) 4::L)):Holds w (PrR0 b window room level inp::L):=
 Holds.imp (Holds.pack (A:=[_,_,_,_]) H) λh hh=>⟨bs,bt,bw,hh⟩
theorem Zio {level unit window:Nat}(H:Holds w L) (h1:1<=level) (h2:level<=9) (h3:24<=unit) (h4:unit<=100000) (h5:64<=window) (h6:window<=1048576)
  (post:∀ b w',Same w w'->Holds w' (PrR0 b window (level*unit - 19) level ⟨#[]⟩::L)->K (.tuple #[.pointer (some ⟨b,0,none⟩),iv 0]) w') :
  Cl prog 225 #[nv level,nv unit,nv window] w K:=by
 refine Tz225 ?_;unfold Vz225;refine Ze8 (by omega) (by omega) (by omega) (by omega) λr g1 g2 g3=>?_
 have hr:r=level*unit - 19:=by
  have:((level*unit:Nat):Int)=(level:Int)*(unit:Int):=by simp
  omega
 repeat (first|(with_reducible first|refine Za4 ?_|refine Za3 ?_))
 refine Za0 (λx w'=>w=w'/\x=.bool false) ?_ ?_
 ·rintro _ _ _ ⟨rfl,rfl⟩;refine r_vf ?_;refine Ziy H g1 g2 λbs w1 S1 H1=>?_
  repeat (first|(with_reducible first|refine Za4 ?_|refine Za3 ?_))
  refine Zh5 H1 h1 h2 λbt bw w2 S2 H2=>?_
  repeat (first|(with_reducible first|refine Za4 ?_|refine Za3 ?_))
  refine Zgv H2 λw3 S3 H3=>?_;rw[Zq4,drop_zero] at *;refine r_bd (v:=.agg #[nv window,.string ⟨#[]⟩,.bool false,.pointer (some ⟨bs,0,none⟩),.bool false,.slice none 0 0,.pointer none,nv 0,.pointer (some ⟨bt,0,none⟩),.string ⟨(wholeB (headB level)).toArray⟩,.bool false,nv 0]) (by kernel_rfl) ?_;refine r_new H3 λb w4 S4 H4=>?_;replace H4:Holds w4 (blk b tPress [nv window,.string ⟨#[]⟩,.bool false,.pointer (some ⟨bs,0,none⟩),.bool false,.slice none 0 0,.pointer none,nv 0,.pointer (some ⟨bt,0,none⟩),.string ⟨(wholeB (headB level)).toArray⟩,.bool false,nv 0]::blk bt tStream [.pointer (some ⟨bw,0,none⟩),.int .u32 0,.bool false]::WrR bw (headB level) 4::SplR0 bs r::L):=H4;rw[hr] at H4;exact post b _ (((S1.trans S2).trans S3).trans S4) (Zoq ((H4.front 3 rfl).swap))
 ·repeat (first|refine r_neq ?_|((with_reducible refine r_vfN ?h ?_);(case h=>omega)))
  refine Tz221 ?_;unfold Vz221
  repeat (first|refine r_ke ?_|refine r_leq ?_|refine r_geq ?_|refine r_not ?_|((with_reducible refine r_vtD ?h ?_);(case h=>omega)))
  exact⟨rfl,by rw[decide_eq_true (by omega)];rfl⟩
theorem Zs8 {vb:Value}{n:Nat}(H:Holds w (blk b tPack [vb,nv n]::L)) (hv:sg vb=true) (post:∀ w',Same w w'->Holds w' (blk b tPack [vb,nv n]::L)->K (.agg #[vb,nv n]) w') :
  Cl prog 361 #[.pointer (some ⟨b,0,none⟩)] w K:=by
 refine Tz361 ?_;unfold Vz361
 have hz:(zeroP prog 350).cells.toList=[.int .u8 0,nv 0]:=by kernel_rfl
 refine r_new H λb1 w1 S1 H1=>?_;rw[hz] at H1;clear H;have H:=H1;have S:=S1
 repeat (first|refine r_ldA 1 H [vb,nv n] rfl rfl rfl ?_|refine r_nc ?_|refine r_fo0 ?_|(with_reducible first|refine Za2 ?_|refine r_vf ?_))
 refine r_stA 0 H (vs:=[vb,nv n]) rfl (by decide) rfl (by rw[List.all_cons,hv];rfl) λw3 S3 H3=>?_;replace H3:Holds w3 (blk b1 350 [vb,nv n]::blk b tPack [vb,nv n]::L):=H3;refine r_ldA 0 H3 [vb,nv n] rfl rfl rfl ?_;exact post _ (S.trans S3) H3.drop
end U38
end Go.Proofs.YthkaggnihbkmeaaGreatDoor
namespace Go.Proofs.YthkaggnihbkmeaaGreatDoor
open Go Go.Vc Go.Proofs.Tryz
namespace L42
open J30 Go.Tx
variable {w:World}{L:List HProp}{K:KT}{s t:List UInt8}{c:UInt8}
abbrev tSt:Nat:=9
instance rowSt:Row prog 273 9 (.string ⟨#[]⟩):=⟨by kernel_rfl,⟨t9,by kernel_rfl,by kernel_rfl,by decide,by kernel_rfl⟩,rfl⟩
theorem x156:Builder.Extra prog Tryz.lays156_ren:={
 sizeBuilder:=by kernel_rfl
 liesBuilder:=by kernel_rfl
 t5:=underlying5
 a5:=Tryz.isAgg5
 z5:=Tryz.sizeOf5
 v5:=Tryz.zeroValue5
 infoByte:=by kernel_rfl
 cellsByte:=by kernel_rfl
 sizeByte:=by kernel_rfl
 neB5:=by decide }
theorem Zf4 (c:UInt8):∀ l:List (List UInt8),Lib.join l [c]=joinC c l
 |[]=>rfl
 |[a]=>Lib.join_one a [c]
 |a::b::r=>by
  have ih:=Zf4 c (b::r);unfold Lib.join at ih ⊢;rw[joinC,<-ih];simp[List.intercalate]
theorem Zqf {l:List (List UInt8)}{v:Value}(i:Nat) (H:Holds w L) (hi:L[i]?=some (SL S_ tSt v l)) (hne:l≠[]) (hl:l.length<=1000000) (hj:(joinC c l).length<=100000000) (k:∀ w',Same w w'->Holds w' L->K (S_ (joinC c l)) w') :
  Cl prog 205 #[v,S_ [c]] w K:=by
 obtain⟨oa,sp,rfl,H1⟩:=H.open i hi;have hil:i < L.length:=(gH.1 hi).1
 cases oa with
 |none=>
  obtain⟨g,hg,_,_⟩:=H1.front i (Za6 hi);exact absurd hg.1 hne
 |some a=>
  obtain⟨g,hg,hs,_⟩:=H1.front i (Za6 hi);obtain⟨g1,g2,g3⟩:=hg;obtain⟨bk,o,spot⟩:=a;simp only at g1 g2;subst g1 g2;have hb:w.heap[bk]?=some (.cells (l.map S_++sp).toArray tSt):=hs _ _ g3;have hlt:bk < w.heap.size:=(Array.getElem?_eq_some_iff.1 hb).1
  let xs:List ByteArray:=l.map λx=>⟨x.toArray⟩
  have hxl:xs.length=l.length:=hS_ ..
  have hdat:xs.map (·.data.toList)=l:=by
   show (l.map _).map _=l;rw[map_map]
   conv=>rhs;rw[<-List.map_id l]
   exact List.map_congr_left λx _=>rfl
  have cc:=Go.Proofs.Any.strings_Join Tryz.lays156 x156 bk 0 (l.length+sp.length) xs ⟨#[c]⟩ w (λj x hx=>by
   rw[hV_] at hx
   cases hlj:l[j]? with
   |none=>rw[hlj] at hx;cases hx
   |some y=>
    rw[hlj] at hx;cases hx;have hjl:j < l.length:=(gH.1 hlj).1;unfold World.cell?;rw[hb];simp[List.getElem?_append,hjl]
    exact (gH.1 hlj).2) hlt (by omega) (by omega) (by rw[hdat];rw[Zf4];omega)
  rw[hxl] at cc;refine⟨Tryz.call205 _ _,cc.mono λe w' ⟨he,hbel⟩=>⟨_,he,?_⟩⟩;rw[hdat,Zf4];exact k w' ⟨hbel.os,hbel.tape,hbel.output,hbel.size⟩ (Zh0 hbel H)
end L42
attribute [local irreducible] Vc.Nc Vc.Ld Vc.LdA Vc.St Vc.StA Vc.Fo Vc.Iaa Vc.Ias Vc.Ixs Vc.Ixa Vc.Fd Vc.FdA Vc.Bp Vc.Bb Vc.Bn Vc.Up Vc.Ci Vc.Lns Vc.Lnl Vc.Ex Vc.Sst Vc.Ssl Vc.New Vc.Vif Vc.VJoin Vc.VLoop Vc.KE Vc.Dr Vc.Rk Vc.Cl Vc.Cx Vc.Inv Vc.Be Vc.Cv Vc.Cw Vc.Mf Vc.Sl Vc.Lk Vc.Bd Vc.Bs Vc.Ms Vc.Mm Vc.Mu Vc.Me Vc.Es Vc.Rg Vc.Nx Vc.Ta Vc.Ap Vc.Usd Vc.Ust Vc.Cp Vc.Ln Vc.Bc Vc.Bmin Vc.Bmax Vc.Bdel Vc.Bclr Vc.Pk
namespace F33
open Go.M31 J30 J31 J32 U38
variable {w:World}{L:List HProp}{K:KT}
theorem Zr3 {b c i:Nat}{ys:List Nat}(H:Holds w L) (hi:L[i]?=some (blk b 3 (ys.map nv))) (h0:ys≠[]) (hl:ys.length<=10) (hy:∀ y∈ys,y<=1000000000000000000) (k:∀ w',Same w w'->Holds w' L->K (S_ (joinF ys)) w'):Cl prog 173 #[.slice (some ⟨b,0,none⟩) ys.length c] w K:=by
 refine Tz173 ?_;unfold Vz173;refine r_lnl ?_;refine Zb1 (λo y w'=>∃ q:Nat,q<=ys.length/\y=nv q/\Same w w'/\Holds w' (SL L42.S_ L42.tSt o ((ys.take q).map Go.Tx.dig)::L)) (λ_ y _=>ys.length - (intOf y).toNat) ⟨0,by omega,rfl,.refl w,H.nilSL _ _⟩ ?_;clear H;rintro _ o _ w2 ⟨q,hq,rfl,S,H⟩;refine r_lss (r_ifD (λh=>?_) λh=>?_)
 ·have hlt:q < ys.length:=by omega
  have hy':ys[q]?=some ys[q]:=gA hlt;refine Zg2 (by omega) ?_;rw[Nat.mul_one];refine r_ld (i+1) H (v:=nv ys[q]) (by rw[gF];exact hi) (by rw[hV_,hy'];rfl) ?_;refine L42.Zkn ys[q] (hy _ (List.getElem_mem hlt)) H λw3 S3 H3=>?_;refine Zma (f:=L42.S_) H3 0 rfl (Go.Tx.dig ys[q]) (λ_=>rfl) (by simp;omega) λv2 w6 S6 H6=>?_;rw[gJ] at H6;refine Za1 (by omega) (r_ke ⟨⟨q+1,by omega,rfl,S.trans (S3.trans S6),?_⟩,?_⟩)
  ·rw[gO,hy',List.map_append];exact H6
  ·simp only[intOf,gC];omega
 ·obtain rfl:q=ys.length:=by omega
  rw[hF_] at H
  have hjl:∀ (l:List Nat),l.length<=10->(∀ y∈l,y<=1000000000000000000)->(Go.Tx.joinC 32 (l.map Go.Tx.dig)).length<=20*l.length:=by
   intro l
   induction l with
   |nil=>intro _ _;exact Nat.le_refl _
   |cons a r ih=>
    intro h1 h2
    have ha:=Go.Tx.dig_len 18 a (by have:=h2 a (hJ_ ..);have:(10:Nat)^(18+1)=10000000000000000000:=(by decide);omega)
    cases r with
    |nil=>show (Go.Tx.dig a).length<=20;omega
    |cons b r=>
     have:=ih (by simp at h1 ⊢;omega) λy hy=>h2 y (hK_ _ hy);show (Go.Tx.dig a++32::Go.Tx.joinC 32 ((b::r).map Go.Tx.dig)).length<=_;rw[gD,gY,gY (a:=a)];omega
  have hb:=hjl ys hl hy;refine L42.Zqf (c:=32) 0 H rfl (by simpa using h0) (by rw[hS_];omega) (by omega) λw3 S3 H3=>?_;exact k w3 (S.trans S3) H3.drop
section
variable {u wi lv:Nat}
def needN (u wi kd lv:Nat):Nat:=if kd=1 then wi+8*(lv*u - 19)+12000+3*(lv*u - 19)+1024 else if kd=2 then wi+4096+36*u+40960 else wi+4096+36*u+40960+32
theorem Zvz (n:Cf) (kd lv:Nat):needF n kd lv=needN n.un n.wi kd lv:=rfl
theorem Zif (h1:1<=lv) (h2:lv<=9) (h3:24<=u) (h4:u<=100000):24<=lv*u/\lv*u<=900000:=by
 constructor
 ·have:=Nat.mul_le_mul h1 h3;omega
 ·have:=Nat.mul_le_mul h2 h4;omega
theorem Zml {kd:Nat}(hk:kd=1/\1<=lv/\lv<=9\/(kd=2\/kd=3)/\lv=0) (h3:24<=u) (h4:u<=100000) (h6:wi<=1048576):1<=needN u wi kd lv/\needN u wi kd lv<=100000000:=by
 unfold needN;rcases hk with⟨rfl,h1,h2⟩|⟨rfl|rfl,rfl⟩
 ·have:=Zif h1 h2 h3 h4;rw[if_pos rfl];omega
 ·rw[if_neg (by decide),if_pos rfl];omega
 ·rw[if_neg (by decide),if_neg (by decide)];omega
theorem Zor {kd:Nat}(H:Holds w L) (hk:kd=1/\1<=lv/\lv<=9\/(kd=2\/kd=3)/\lv=0) (h3:24<=u) (h4:u<=100000) (h5:64<=wi) (h6:wi<=1048576) (k:∀ w',Same w w'->Holds w' L->K (.tuple #[nv (needN u wi kd lv),iv 0]) w') :
  Cl prog 175 #[nv kd,nv lv,nv u,nv wi] w K:=by
 refine Tz175 ?_;unfold Vz175
 have unp:∀ {K:KT},(∀ w',Same w w'->Holds w' L->K (.tuple #[nv (wi+4096+36*u+40960),iv 0]) w')->Cl prog 208 #[nv u,nv wi,iv 4096] w K:=by
  intro K k;refine Tz208 ?_;unfold Vz208;refine r_cl (K:=λv w'=>(∃ x,v=.tuple #[x,iv 0])/\Same w w'/\Holds w' L) ?_ ?_
  ·refine Tz223 ?_;unfold Vz223;refine Ze8 (by omega) (by omega) (by omega) (by omega) λr g1 g2 g3=>?_
   repeat (first|refine r_neq ?_|(with_reducible first|refine Za4 ?_|refine Za3 ?_)|((with_reducible refine r_vfN ?h ?_);(case h=>omega)))
   refine r_bd (v:=.agg #[nv u,iv 0,iv 0,iv 0,.pointer none,.string ⟨#[]⟩,iv 0,.int .u32 0,.int .u32 0,.bool false,iv 0]) (by kernel_rfl) ?_;refine r_new H λb w2 S2 H2=>?_;exact⟨⟨_,rfl⟩,S2,H2.drop⟩
  rintro _ w1 ⟨⟨x,rfl⟩,S1,H1⟩;refine Za4 (Za3 ?_);refine Za0 (λx w'=>w1=w'/\x=.bool false) ?_ ?_
  rotate_left
  ·refine r_neq (r_vfN rfl ?_);refine Tz224 ?_;unfold Vz224;refine r_geq (r_vtD (by omega) (r_leq (r_vtD (by omega) (r_geq (r_vtD (by decide) (r_leq (r_not (r_ke ⟨rfl,?_⟩))))))));rfl
  rintro _ _ _ ⟨rfl,rfl⟩;refine r_vf (r_add (by omega) (by omega) (Zfa ((36*u:Nat):Int) (by omega) (by omega) (by omega) (r_add (by omega) (by omega) (r_add (by omega) (by omega) ?_))));have:=k w1 S1 H1;rw[show nv (wi+4096+36*u+40960)=iv ((wi:Int)+4096+((36*u:Nat):Int)+40960) by show iv _=iv _;congr 1 <;> omega] at this;exact this
 rcases hk with⟨rfl,h1,h2⟩|⟨rfl|rfl,rfl⟩
 ·have hp:=Zif h1 h2 h3 h4;refine r_eql (r_vtE rfl ?_);refine Tz207 ?_;unfold Vz207;refine Ze8 (by omega) (by omega) (by omega) (by omega) λr g1 g2 g3=>?_
  have hr:r=lv*u - 19:=by
   have:((lv*u:Nat):Int)=(lv:Int)*(u:Int):=by simp
   omega
  refine Za4 (Za3 ?_);refine Za0 (λx w'=>w=w'/\x=.bool false) ?_ ?_
  rotate_left
  ·refine r_neq (r_vfN rfl ?_);refine Tz221 ?_;unfold Vz221;refine r_geq (r_vtD (by omega) (r_leq (r_not (r_ke ⟨rfl,?_⟩))));rw[decide_eq_true (by omega)];rfl
  rintro _ _ _ ⟨rfl,rfl⟩;refine r_vf (Zfa ((8*r:Nat):Int) (by omega) (by omega) (by omega) (r_add (by omega) (by omega) ?_));refine Tz222 ?_;unfold Vz222;refine Za0 (λx w'=>w=w'/\x=.bool false) ?_ ?_
  rotate_left
  ·refine r_lss (r_vfD (by omega) (r_gtr (r_ke ⟨rfl,?_⟩)));rw[decide_eq_false (by omega)]
  rintro _ _ _ ⟨rfl,rfl⟩;refine r_vf (Zfa ((3*r:Nat):Int) (by omega) (by omega) (by omega) (r_add (by omega) (by omega) ?_));refine r_add (by omega) (by omega) (r_add (by omega) (by omega) (Za4 (Za3 ?_)));have:=k w (.refl w) H;unfold needN at this;rw[if_pos rfl,<-hr] at this;rw[show nv (wi+8*r+12000+3*r+1024)=iv ((wi:Int)+((8*r:Nat):Int)+(12000+((3*r:Nat):Int))+1024) by show iv _=iv _;congr 1 <;> omega] at this;exact this
 ·refine r_eql (r_vfE (by decide) (r_eql (r_vtE rfl ?_)));exact unp λw' S' H'=>Za4 (Za3 (k w' S' H'))
 ·refine r_eql (r_vfE (by decide) (r_eql (r_vfE (by decide) (r_eql (r_vtE rfl ?_)))));refine Tz209 ?_;unfold Vz209;refine unp λw' S' H'=>Za4 (Za3 (r_neq (r_vfN rfl (r_add (by omega) (by omega) (Za4 (Za3 ?_))))));have:=k w' S' H';unfold needN at this;rw[if_neg (by decide),if_neg (by decide)] at this;exact this
theorem Zoi {kd:Nat}(hk:kd=1/\1<=lv/\lv<=9\/(kd=2\/kd=3)/\lv=0) (h3:24<=u) (h4:u<=100000) (h5:64<=wi) (h6:wi<=1048576) (k:K (nv (needN u wi kd lv)) w) :
  Cl prog 87 #[nv kd,nv lv,nv u,nv wi] w K:=by
 refine Tz87 ?_;unfold Vz87
 have unp:∀ {K:KT},K (nv (wi+4096+36*u+40960)) w->Cl prog 139 #[nv u,nv wi,iv 4096] w K:=by
  intro K k;refine Tz139 ?_;unfold Vz139;refine r_add (by omega) (by omega) (Zfa ((36*u:Nat):Int) (by omega) (by omega) (by omega) (r_add (by omega) (by omega) (r_add (by omega) (by omega) ?_)));rw[show nv (wi+4096+36*u+40960)=iv ((wi:Int)+4096+((36*u:Nat):Int)+40960) by show iv _=iv _;congr 1 <;> omega] at k;exact k
 unfold needN at k;rcases hk with⟨rfl,h1,h2⟩|⟨rfl|rfl,rfl⟩
 ·have hp:=Zif h1 h2 h3 h4;rw[if_pos rfl] at k;refine r_eql (r_vtE rfl ?_);refine Tz138 ?_;unfold Vz138;refine Zfa ((lv*u:Nat):Int) (by simp) (by omega) (by omega) (r_sub (by omega) (by omega) ?_);rw[show ((lv*u:Nat):Int) - 19=((lv*u - 19:Nat):Int) by omega]
  have hr9:lv*u - 19<=900000:=by omega
  clear hp;generalize lv*u - 19=r at k hr9 ⊢;refine Zfa ((8*r:Nat):Int) (by omega) (by omega) (by omega) (r_add (by omega) (by omega) (r_add (by omega) (by omega) ?_));refine Zfa ((3*r:Nat):Int) (by omega) (by omega) (by omega) (r_add (by omega) (by omega) (r_add (by omega) (by omega) ?_));rw[show nv (wi+8*r+12000+3*r+1024)=iv ((wi:Int)+((8*r:Nat):Int)+12000+((3*r:Nat):Int)+1024) by show iv _=iv _;congr 1 <;> omega] at k;exact k
 ·rw[if_neg (by decide),if_pos rfl] at k;refine r_eql (r_vfE (by decide) (r_eql (r_vtE rfl ?_)));exact unp k
 ·rw[if_neg (by decide),if_neg (by decide)] at k;refine r_eql (r_vfE (by decide) (r_eql (r_vfE (by decide) ?_)));refine Tz140 ?_;unfold Vz140;refine unp (r_add (by omega) (by omega) ?_);exact k
end
theorem Zde {n:Nat}(hn:n < 4294967296) (H:Holds w L) (k:∀ w',Same w w'->Holds w' L->K (S_ (fourF n)) w'):Cl prog 36 #[nv n] w K:=by
 refine Tz36 ?_;unfold Vz36;refine r_quo (by omega) (by decide) (by omega) (Zac (by omega) (by omega) ?_);refine r_quo (by omega) (by decide) (by omega) (r_rem (by omega) (by decide) (Zac (by omega) (by omega) ?_));refine r_quo (by omega) (by decide) (by omega) (r_rem (by omega) (by decide) (Zac (by omega) (by omega) ?_));refine r_rem (by omega) (by decide) (Zac (by omega) (by omega) ?_)
 have hb:∀ m:Nat,m < 256->Value.int .u8 (m:Int)=bv (UInt8.ofNat m):=λm hm=>by
  rw[bvN]
  congr 1
  omega
 rw[show (n:Int)/16777216=((n/16777216:Nat):Int) by omega,show (n:Int)/65536%256=((n/65536%256:Nat):Int) by omega,show (n:Int)/256%256=((n/256%256:Nat):Int) by omega,show (n:Int)%256=((n%256:Nat):Int) by omega];rw[hb _ (by omega),hb _ (by omega),hb _ (by omega),hb _ (by omega)];refine r_bsK (e:=L42.tU8) [bv (UInt8.ofNat (n/16777216)),bv (UInt8.ofNat (n/65536%256)),bv (UInt8.ofNat (n/256%256)),bv (UInt8.ofNat (n%256))] H (by kernel_rfl) λb w1 S1 H1=>?_;exact r_cbs (L42.Zii (xs:=fourF n) H1) 0 rfl rfl (k w1 S1 H1.drop)
theorem Zda {f:Fr}(H:Holds w L) (hty:f.ty < 256) (h1:f.jb<=4294967295) (h2:f.da.length<=65536) (k:∀ w',Same w w'->Holds w' L->K (S_ (encF f)) w'):Cl prog 9 #[.agg (cellsF f).toArray] w K:=by
 have he:encF f=[UInt8.ofNat f.ty]++fourF f.jb++fourF f.da.length++f.da:=by unfold encF;simp
 rw[he] at k;have l4:∀ n,(fourF n).length=4:=λn=>rfl;refine Tz9 ?_;unfold Vz9;refine r_new H λfb w1 S1 H1=>?_;replace H1:Holds w1 (blk fb tFr (cellsF f)::L):=H1;refine r_dr H1 λw4 S4 H4=>?_;have S:=S1.trans S4;clear S1 S4 H H1;refine r_fo0 (r_ld 0 H4 rfl rfl (Zac (by omega) (by omega) ?_));refine r_fo0 (r_ld 0 H4 rfl rfl (r_fo0 (r_ld 0 H4 rfl rfl (q_len (r_fo0 (r_ld 0 H4 rfl rfl ⟨?_,?_⟩))))))
 ·refine L42.Zf9 (n:=f.ty) hty H4 λb w5 S5 H5=>?_;refine r_rk (r_ld 1 H5 rfl rfl rfl) (r_rk (q_len rfl) (r_rk (r_ld 1 H5 rfl rfl rfl) (r_rk (r_ld 1 H5 rfl rfl rfl) ?_)));refine L42.r_cvb H5 0 rfl rfl ?_;refine Zde (n:=f.jb) (by omega) H5 λw6 S6 H6=>?_;refine r_rk (L42.r_cvb H6 0 rfl rfl rfl) (r_rk (r_ld 1 H6 rfl rfl rfl) (r_rk (q_len rfl) (r_rk (r_ld 1 H6 rfl rfl rfl) (r_rk (r_ld 1 H6 rfl rfl rfl) ?_))));refine Zaw (by rw[l4];simp) ?_;refine Zde (n:=f.da.length) (by omega) H6 λw7 S7 H7=>?_;refine r_rk (L42.r_cvb H7 0 rfl rfl rfl) (r_rk (r_ld 1 H7 rfl rfl rfl) (r_rk (r_ld 1 H7 rfl rfl rfl) ?_));refine Zaw (by simp[l4]) (Zaw (by simp[l4];omega) ?_);exact k w7 (S.trans (S5.trans (S6.trans S7))) H7.drop.drop
 ·refine Zde (n:=f.jb) (by omega) H4 λw8 S8 H8=>?_;refine r_rk (r_ld 0 H8 rfl rfl rfl) (r_rk (q_len rfl) (r_rk (r_ld 0 H8 rfl rfl rfl) (r_rk (r_ld 0 H8 rfl rfl rfl) ⟨?_,?_⟩)))
  ·refine L42.Zf9 (n:=f.ty) hty H8 λb w5 S5 H5=>?_;refine r_rk (r_ld 1 H5 rfl rfl rfl) (r_rk (q_len rfl) (r_rk (r_ld 1 H5 rfl rfl rfl) (r_rk (r_ld 1 H5 rfl rfl rfl) ?_)));refine L42.r_cvb H5 0 rfl rfl ?_;refine Zaw (by rw[l4];simp) ?_;refine Zde (n:=f.da.length) (by omega) H5 λw7 S7 H7=>?_;refine r_rk (L42.r_cvb H7 0 rfl rfl rfl) (r_rk (r_ld 1 H7 rfl rfl rfl) (r_rk (r_ld 1 H7 rfl rfl rfl) ?_));refine Zaw (by simp[l4]) (Zaw (by simp[l4];omega) ?_);exact k w7 (S.trans (S8.trans (S5.trans S7))) H7.drop.drop
  ·refine Zde (n:=f.da.length) (by omega) H8 λw7 S7 H7=>?_;refine r_rk (r_ld 0 H7 rfl rfl rfl) (r_rk (r_ld 0 H7 rfl rfl rfl) ?_);refine L42.Zf9 (n:=f.ty) hty H7 λb w5 S5 H5=>?_;refine r_rk (r_ld 1 H5 rfl rfl rfl) (r_rk (q_len rfl) (r_rk (r_ld 1 H5 rfl rfl rfl) (r_rk (r_ld 1 H5 rfl rfl rfl) ?_)));refine L42.r_cvb H5 0 rfl rfl ?_;refine Zaw (by rw[l4];simp) (Zaw (by simp[l4]) (Zaw (by simp[l4];omega) ?_));exact k w5 (S.trans (S8.trans (S7.trans S5))) H5.drop.drop
end F33
end Go.Proofs.YthkaggnihbkmeaaGreatDoor
namespace Go.Proofs.YthkaggnihbkmeaaGreatDoor
open Go Go.Vc Go.Proofs.Tryz
theorem Zhk {α:Type}{F:α->List Value}{k:Nat}(hF:∀ x,(F x).length=k):∀ (xs:List α) (j:Nat) (x x':α) (q:Nat) (v:Value) (sp:List Value),xs[j]?=some x->q < k->F x'=(F x).set q v->
  (flatL F xs++sp).set (j*k+q) v=flatL F (xs.set j x')++sp
 |[],j,x,x',q,v,sp,h,_,_=>by simp at h
 |y::r,0,x,x',q,v,sp,h,hq,he=>by
  obtain rfl:y=x:=by simpa using h
  rw[gJ,flatL,flatL,he,Nat.zero_mul,Nat.zero_add,gI,gI,List.set_append_left _ _ (by rw[hF];exact hq)]
 |y::r,j+1,x,x',q,v,sp,h,hq,he=>by
  have ih:=Zhk hF r j x x' q v sp (by simpa using h) hq he;rw[gW,flatL,flatL,gI,gI,<-ih,List.set_append_right _ _ (by rw[hF,Nat.add_mul];omega)]
  congr 2
  rw[hF,Nat.add_mul];omega
attribute [local irreducible] Vc.Nc Vc.Ld Vc.LdA Vc.St Vc.StA Vc.Fo Vc.Iaa Vc.Ias Vc.Ixs Vc.Ixa Vc.Fd Vc.FdA Vc.Bp Vc.Bb Vc.Bn Vc.Up Vc.Ci Vc.Lns Vc.Lnl Vc.Ex Vc.Sst Vc.Ssl Vc.New Vc.Vif Vc.VJoin Vc.VLoop Vc.KE Vc.Dr Vc.Rk Vc.Cl Vc.Cx Vc.Inv Vc.Be Vc.Cv Vc.Cw Vc.Mf Vc.Sl Vc.Lk Vc.Bd Vc.Bs Vc.Ms Vc.Mm Vc.Mu Vc.Me Vc.Es Vc.Rg Vc.Nx Vc.Ta Vc.Ap Vc.Usd Vc.Ust Vc.Cp Vc.Ln Vc.Bc Vc.Bmin Vc.Bmax Vc.Bdel Vc.Bclr Vc.Pk
namespace G40
open J31 J32 J34
variable {w:World}{L:List HProp}{K:KT}
abbrev tLd:Nat:=132
abbrev tAc:Nat:=134
abbrev ptr (b:Nat):Value:=.pointer (some ⟨b,0,none⟩)
structure Ak where
 li:Nat
 us:Nat
 pk:Nat
def cellsK (a:Ak):List Value:=[nv a.li,nv a.us,nv a.pk]
variable {b:Nat}{u:Value}{as_:List Ak}{i:Nat}{a:Ak}
theorem of_spec (H:Holds w (blk b tLd [u]::RW cellsK 3 tAc u as_::L)) (hi:as_[i]?=some a)
  (k:∀ ba sp,Holds w (blk b tLd [u]::blk ba tAc (flatL cellsK as_++sp)::L)->K (.pointer (some ⟨ba,i*3,none⟩)) w):Cl prog 141 #[ptr b,nv i] w K:=by
 have hlt:i < as_.length:=(gH.1 hi).1;have H0:=H;obtain⟨oa,m,sp,hu,H1⟩:=H0.openRW 1 rfl;obtain⟨ba,rfl,hsp,Hb⟩:=H1.rwb 1 rfl (.inl (by omega));refine Tz141 ?_;unfold Vz141;refine Za0 (λx w'=>w=w'/\x=.bool false) ?_ ?_
 rotate_left
 ·repeat (first|refine r_nc ?_|refine r_fo0 ?_|refine r_lss ?_|(with_reducible first|refine Za2 ?_|refine r_vf ?_)|refine r_ld 0 H rfl rfl ?_|((with_reducible refine r_vfD ?h ?_);(case h=>omega)))
  rw[hu]
  repeat (first|refine r_ke ?_|refine r_lnl ?_|refine r_geq ?_)
  exact⟨rfl,by rw[decide_eq_false (by omega)]⟩
 rintro _ _ _ ⟨rfl,rfl⟩
 repeat (first|refine r_nc ?_|refine r_fo0 ?_|(with_reducible refine r_vf ?_)|refine r_ld 0 H rfl rfl ?_)
 rw[hu];refine Zg2 (by omega) ?_;exact k ba sp Hb
theorem flatK {sp:List Value}(hi:as_[i]?=some a):((flatL cellsK as_++sp).drop (i*3)).take 3=cellsK a:=by
 have hlt:i < as_.length:=(gH.1 hi).1;have h1:=Zdb (F:=cellsK) (k:=3) (λ_=>rfl) as_ i a hi
 have hq:i*3+3<=as_.length*3:=by omega
 have hlen:=Zb9 (F:=cellsK) (k:=3) (λ_=>rfl) as_;rw[drop_append_of_le_length (by omega),take_append_of_le_length (by rw[gS];omega)];exact h1
theorem Zoa (H:Holds w (blk b tLd [u]::RW cellsK 3 tAc u as_::L)) (hi:as_[i]?=some a)
  (k:∀ w',Same w w'->Holds w' (blk b tLd [u]::RW cellsK 3 tAc u as_::L)->K (nv a.li) w'):Cl prog 174 #[ptr b,nv i] w K:=by
 refine Tz174 ?_;unfold Vz174;refine Tz91 ?_;unfold Vz91;refine of_spec H hi λba sp Hb=>?_
 repeat (first|refine r_nc ?_|(with_reducible first|refine Za2 ?_|refine r_vf ?_))
 refine r_ldA 1 Hb (cellsK a) rfl (flatK hi) rfl ?_;refine r_inv (f:=206) (args:=#[.agg (cellsK a).toArray]) (by kernel_rfl) ?_;refine Tz206 ?_;unfold Vz206;refine r_new H λbx w2 S2 H2=>?_;replace H2:Holds w2 (blk bx tAc (cellsK a)::blk b tLd [u]::RW cellsK 3 tAc u as_::L):=H2;refine r_fo0 (r_ld 0 H2 rfl rfl ?_);exact k _ S2 H2.drop
theorem Zpw (H:Holds w (blk b tLd [u]::RW cellsK 3 tAc u as_::L)) (hi:as_[i]?=some a)
  (k:∀ w',Same w w'->Holds w' (blk b tLd [u]::RW cellsK 3 tAc u as_::L)->K (nv a.us) w'):Cl prog 49 #[ptr b,nv i] w K:=by
 refine Tz49 ?_;unfold Vz49;refine Tz91 ?_;unfold Vz91;refine of_spec H hi λba sp Hb=>?_
 repeat (first|refine r_nc ?_|(with_reducible first|refine Za2 ?_|refine r_vf ?_))
 refine r_ldA 1 Hb (cellsK a) rfl (flatK hi) rfl ?_;refine r_inv (f:=92) (args:=#[.agg (cellsK a).toArray]) (by kernel_rfl) ?_;refine Tz92 ?_;unfold Vz92;refine r_new H λbx w2 S2 H2=>?_;replace H2:Holds w2 (blk bx tAc (cellsK a)::blk b tLd [u]::RW cellsK 3 tAc u as_::L):=H2;refine r_fo (r_ld 0 H2 rfl rfl ?_);exact k _ S2 H2.drop
theorem may_spec {n:Nat}(hn:n<=1099511627776) (k:K (.bool true) w):Cl prog 68 #[nv n] w K:=by
 refine Tz68 ?_;unfold Vz68;refine r_geq (r_vtd (decide_eq_true (show (0:Int)<=(n:Int) by omega)) (r_leq ?_));rw[show decide ((n:Int)<=1099511627776)=true from decide_eq_true (by omega)];exact k
theorem Zey {ba:Nat}{sp:List Value}{a':Ak}{q:Nat}{v:Value}(hi:as_[i]?=some a) (hq:q < 3) (he:cellsK a'=(cellsK a).set q v) (H:Holds w (blk b tLd [u]::blk ba tAc ((flatL cellsK as_++sp).set (i*3+q) v)::L)) :
  Holds w (blk b tLd [u]::blk ba tAc (flatL cellsK (as_.set i a')++sp)::L):=by
 rw[Zhk (F:=cellsK) (k:=3) (λ_=>rfl) as_ i a a' q v sp hi hq he] at H;exact H
end G40
end Go.Proofs.YthkaggnihbkmeaaGreatDoor
namespace Go.Proofs.YthkaggnihbkmeaaGreatDoor
open Go Go.Vc Go.Proofs.Tryz
theorem Zcb {α:Type}:∀ {L:List α}{j:Nat}{Q:α},L[j]?=some Q->L.set j Q=L
 |[],j,Q,h=>by simp at h
 |x::r,0,Q,h=>by
  obtain rfl:x=Q:=by simpa using h
  rfl
 |x::r,j+1,Q,h=>by
  rw[gW,Zcb (by simpa using h)]
attribute [local irreducible] Vc.Nc Vc.Ld Vc.LdA Vc.St Vc.StA Vc.Fo Vc.Iaa Vc.Ias Vc.Ixs Vc.Ixa Vc.Fd Vc.FdA Vc.Bp Vc.Bb Vc.Bn Vc.Up Vc.Ci Vc.Lns Vc.Lnl Vc.Ex Vc.Sst Vc.Ssl Vc.New Vc.Vif Vc.VJoin Vc.VLoop Vc.KE Vc.Dr Vc.Rk Vc.Cl Vc.Cx Vc.Inv Vc.Be Vc.Cv Vc.Cw Vc.Mf Vc.Sl Vc.Lk Vc.Bd Vc.Bs Vc.Ms Vc.Mm Vc.Mu Vc.Me Vc.Es Vc.Rg Vc.Nx Vc.Ta Vc.Ap Vc.Usd Vc.Ust Vc.Cp Vc.Ln Vc.Bc Vc.Bmin Vc.Bmax Vc.Bdel Vc.Bclr Vc.Pk
namespace G40
open J31 J32 J34
variable {w:World}{L:List HProp}{K:KT}{b:Nat}{u:Value}{as_:List Ak}{i:Nat}{a:Ak}
theorem Zmu (H:Holds w (blk b tLd [u]::RW cellsK 3 tAc u as_::L)) (hi:as_[i]?=some a)
  (k:∀ ba m sp,u=.slice (some ⟨ba,0,none⟩) as_.length (as_.length+m)->sp.length=m*3->Holds w (blk b tLd [u]::blk ba tAc (flatL cellsK as_++sp)::L)->K (.pointer (some ⟨ba,i*3,none⟩)) w):Cl prog 141 #[ptr b,nv i] w K:=by
 have hlt:i < as_.length:=(gH.1 hi).1;have H0:=H;obtain⟨oa,m,sp,hu,H1⟩:=H0.openRW 1 rfl;obtain⟨ba,rfl,hsp,Hb⟩:=H1.rwb 1 rfl (.inl (by omega));refine Tz141 ?_;unfold Vz141;refine Za0 (λx w'=>w=w'/\x=.bool false) ?_ ?_
 rotate_left
 ·repeat (first|refine r_nc ?_|refine r_fo0 ?_|refine r_lss ?_|(with_reducible first|refine Za2 ?_|refine r_vf ?_)|refine r_ld 0 H rfl rfl ?_|((with_reducible refine r_vfD ?h ?_);(case h=>omega)))
  rw[hu]
  repeat (first|refine r_ke ?_|refine r_lnl ?_|refine r_geq ?_)
  exact⟨rfl,by rw[decide_eq_false (by omega)]⟩
 rintro _ _ _ ⟨rfl,rfl⟩
 repeat (first|refine r_nc ?_|refine r_fo0 ?_|(with_reducible refine r_vf ?_)|refine r_ld 0 H rfl rfl ?_)
 rw[hu];refine Zg2 (by omega) ?_;exact k ba m sp hu hsp Hb
theorem cellK {sp:List Value}{q:Nat}(hi:as_[i]?=some a) (hq:q < 3):(flatL cellsK as_++sp)[i*3+q]?=(cellsK a)[q]?:=by
 rw[<-flatK (sp:=sp) hi,List.getElem?_take,if_pos hq,hH_]
theorem lenK {sp:List Value}{q:Nat}(hi:as_[i]?=some a) (hq:q < 3):i*3+q < (flatL cellsK as_++sp).length:=by
 have hlt:i < as_.length:=(gH.1 hi).1;rw[gD,Zb9 (F:=cellsK) (k:=3) λ_=>rfl];omega
theorem backK {ba m:Nat}{sp:List Value}{xs:List Ak}(hu:u=.slice (some ⟨ba,0,none⟩) as_.length (as_.length+m)) (hs:sp.length=m*3) (hl:xs.length=as_.length) (H:Holds w (blk b tLd [u]::blk ba tAc (flatL cellsK xs++sp)::L)) :
  Holds w (blk b tLd [u]::RW cellsK 3 tAc u xs::L):=H.at 1 rfl λg hg=>⟨some ⟨ba,0,none⟩,m,sp,by rw[hu,hl],rfl,rfl,hs,hg⟩
theorem Zkd {n:Nat}(H:Holds w (blk b tLd [u]::RW cellsK 3 tAc u as_::L)) (hi:as_[i]?=some a) (hn:n<=a.li) (hu:a.us<=a.li) (hl:a.li<=1099511627776)
  (k1:a.li - a.us < n->∀ w',Same w w'->Holds w' (blk b tLd [u]::RW cellsK 3 tAc u as_::L)->K (iv 34) w')
  (k2:n<=a.li - a.us->∀ w',Same w w'->Holds w' (blk b tLd [u]::RW cellsK 3 tAc u (as_.set i ⟨a.li,a.us+n,max a.pk (a.us+n)⟩)::L)->K (iv 0) w'):Cl prog 211 #[ptr b,nv i,nv n] w K:=by
 have hlt:i < as_.length:=(gH.1 hi).1;refine Tz211 ?_;unfold Vz211;refine Zmu H hi λba m sp hu0 hsp H1=>?_;refine Za2 (r_vf (Za2 (r_vf ?_)));refine may_spec (by omega) (r_not (r_vf ?_));refine r_nc (r_fo (r_ld 1 H1 rfl (cellK hi (by decide)) (r_gtr (r_vfD (by omega) ?_))));refine r_dr H1 λw2 S2 H2=>?_;refine r_nc (r_fo (r_ld 1 H2 rfl (cellK hi (by decide)) ?_));refine r_nc (r_fo (r_ld 1 H2 rfl (cellK hi (by decide)) ?_));refine r_sub (by omega) (by omega) (r_gtr (r_ifD (λh=>?_) λh=>?_))
 ·exact k1 (by omega) w2 S2 (backK hu0 hsp rfl H2)
 refine r_nc (r_fo (r_ld 1 H2 rfl (cellK hi (by decide)) ?_));refine Zaa (a:=a.us) (b:=n) (by omega) ?_;refine r_nc (r_fo ?_);refine r_st 1 H2 rfl (lenK hi (by decide)) rfl λw3 S3 H3=>?_;have H4:=Zey (a':=⟨a.li,a.us+n,a.pk⟩) (q:=1) hi (by decide) rfl H3
 have hi2:(as_.set i ⟨a.li,a.us+n,a.pk⟩)[i]?=some ⟨a.li,a.us+n,a.pk⟩:=by rw[List.getElem?_set_self hlt]
 refine r_dr H4 λw5 S5 H5=>?_;refine r_nc (r_fo (r_ld 1 H5 rfl (cellK hi2 (by decide)) ?_));refine r_nc (r_fo (r_ld 1 H5 rfl (cellK hi2 (by decide)) ?_));refine r_max ?_;rw[show max (a.pk:Int) ((a.us+n:Nat):Int)=((max a.pk (a.us+n):Nat):Int) by omega];refine r_nc (r_fo ?_);refine r_st 1 H5 rfl (lenK hi2 (by decide)) rfl λw6 S6 H6=>?_;have H7:=Zey (a':=⟨a.li,a.us+n,max a.pk (a.us+n)⟩) (q:=2) hi2 (by decide) rfl H6;rw[set_set] at H7;exact k2 (by omega) w6 (S2.trans (S3.trans (S5.trans S6))) (backK hu0 hsp (by simp) H7)
theorem Zk6 {n:Nat}(H:Holds w (blk b tLd [u]::RW cellsK 3 tAc u as_::L)) (hi:as_[i]?=some a) (hn:n<=a.us) (hl:a.us<=1099511627776)
  (k:∀ w',Same w w'->Holds w' (blk b tLd [u]::RW cellsK 3 tAc u (as_.set i ⟨a.li,a.us - n,a.pk⟩)::L)->K (iv 0) w'):Cl prog 159 #[ptr b,nv i,nv n] w K:=by
 have hlt:i < as_.length:=(gH.1 hi).1;refine Tz159 ?_;unfold Vz159;refine Zmu H hi λba m sp hu0 hsp H1=>?_;refine Za2 (r_vf (Za2 (r_vf ?_)));refine Za0 (λx w'=>w=w'/\x=.bool false) ?_ ?_
 rotate_left
 ·refine r_lss (r_vfD (by omega) ?_);refine r_nc (r_fo (r_ld 1 H1 rfl (cellK hi (by decide)) (r_gtr (r_ke ⟨rfl,?_⟩))));rw[decide_eq_false (by omega)]
 rintro _ _ _ ⟨rfl,rfl⟩;refine r_vf (r_nc (r_fo (r_ld 1 H1 rfl (cellK hi (by decide)) ?_)));refine r_sub (by omega) (by omega) ?_;rw[show (a.us:Int) - (n:Int)=((a.us - n:Nat):Int) by omega];refine r_nc (r_fo ?_);refine r_st 1 H1 rfl (lenK hi (by decide)) rfl λw3 S3 H3=>?_;exact k w3 S3 (backK hu0 hsp (by simp) (Zey (a':=⟨a.li,a.us - n,a.pk⟩) (q:=1) hi (by decide) rfl H3))
def LedR (b:Nat) (as_:List Ak):HProp:=λh=>∃ u,Sat [blk b tLd [u],RW cellsK 3 tAc u as_] h
theorem Zen (H:Holds w L){j:Nat}(hj:L[j]?=some (LedR b as_)):∃ u,Holds w (blk b tLd [u]::RW cellsK 3 tAc u as_::L.eraseIdx j):=by
 obtain⟨u,H1⟩:=Holds.ex (H.front j hj);exact⟨u,Holds.unpack (A:=[_,_]) H1⟩
theorem Zcm {Q:HProp}{j:Nat}(hj:L[j]?=some Q) (H:Holds w (blk b tLd [u]::RW cellsK 3 tAc u as_::L.eraseIdx j)):Holds w (L.set j (LedR b as_)):=
 Sat.push j hj (Holds.imp (Holds.pack (A:=[_,_]) H) λh hh=>⟨u,hh⟩)
theorem Zn8 {j:Nat}(H:Holds w L) (hj:L[j]?=some (LedR b as_)) (hi:as_[i]?=some a) (k:∀ w',Same w w'->Holds w' L->K (nv a.li) w'):Cl prog 174 #[ptr b,nv i] w K:=by
 obtain⟨u,H1⟩:=Zen H hj;refine Zoa H1 hi λw2 S2 H2=>?_;have H3:=Zcm hj H2;rw[Zcb hj] at H3;exact k w2 S2 H3
theorem Zpl {j:Nat}(H:Holds w L) (hj:L[j]?=some (LedR b as_)) (hi:as_[i]?=some a) (k:∀ w',Same w w'->Holds w' L->K (nv a.us) w'):Cl prog 49 #[ptr b,nv i] w K:=by
 obtain⟨u,H1⟩:=Zen H hj;refine Zpw H1 hi λw2 S2 H2=>?_;have H3:=Zcm hj H2;rw[Zcb hj] at H3;exact k w2 S2 H3
theorem Zoc {j n:Nat}(H:Holds w L) (hj:L[j]?=some (LedR b as_)) (hi:as_[i]?=some a) (hn:n<=a.li) (hu:a.us<=a.li) (hl:a.li<=1099511627776)
  (k1:a.li - a.us < n->∀ w',Same w w'->Holds w' L->K (iv 34) w')
  (k2:n<=a.li - a.us->∀ w',Same w w'->Holds w' (L.set j (LedR b (as_.set i ⟨a.li,a.us+n,max a.pk (a.us+n)⟩)))->K (iv 0) w'):Cl prog 211 #[ptr b,nv i,nv n] w K:=by
 obtain⟨u,H1⟩:=Zen H hj;refine Zkd H1 hi hn hu hl (λh w2 S2 H2=>?_) λh w2 S2 H2=>k2 h w2 S2 (Zcm hj H2);have H3:=Zcm hj H2;rw[Zcb hj] at H3;exact k1 h w2 S2 H3
theorem Zny {j n:Nat}(H:Holds w L) (hj:L[j]?=some (LedR b as_)) (hi:as_[i]?=some a) (hn:n<=a.us) (hl:a.us<=1099511627776)
  (k:∀ w',Same w w'->Holds w' (L.set j (LedR b (as_.set i ⟨a.li,a.us - n,a.pk⟩)))->K (iv 0) w'):Cl prog 159 #[ptr b,nv i,nv n] w K:=by
 obtain⟨u,H1⟩:=Zen H hj;exact Zk6 H1 hi hn hl λw2 S2 H2=>k w2 S2 (Zcm hj H2)
end G40
namespace F33
open Go.M31 J30 J31 J32
variable {w:World}{L:List HProp}{K:KT}
open Ev in
theorem Zxd {ty jb e:Nat}{t:List Nat}:eqT prog 20 tAn (.g [.i .i64 ty,.i .i64 jb,.s t,.i .i64 e]) (.g [.i .i64 ty,.i .i64 jb,.s t,.i .i64 e])=some true:=by
 have hs:(prog).stoodInHeld tAn=false:=by kernel_rfl
 rw[eqT,underlying192]
 dsimp only
 rw[hs]
 dsimp only
 refine Ze9 (a:=.i .i64 ty) (by kernel_rfl) (by kernel_rfl) (Zm1 (k':=.i64) (by kernel_rfl)) ?_;refine Ze9 (a:=.i .i64 jb) (by kernel_rfl) (by kernel_rfl) (Zm1 (k':=.i64) (by kernel_rfl)) ?_;refine Ze9 (a:=.s t) (by kernel_rfl) (by kernel_rfl) (Zvj (by kernel_rfl)) ?_;refine Ze9 (a:=.i .i64 e) (by kernel_rfl) (by kernel_rfl) (Zm1 (k':=.i64) (by kernel_rfl)) ?_;rfl
theorem r_neN {ty jb e:Nat}{t:List UInt8}{A B:Operand}{K:Value->Prop}(k:K (.bool false)):Be prog .neq tAn A B (.agg (cellsN ty jb t e).toArray) (.agg (cellsN ty jb t e).toArray) w K:=by
 have hx:Ev.vl (λ_=>none) (.g [.i .i64 ty,.i .i64 jb,.s (t.map UInt8.toNat),.i .i64 e])=some (.agg (cellsN ty jb t e).toArray):=by
  have:Ev.str (t.map UInt8.toNat)=⟨t.toArray⟩:=by
   unfold Ev.str
   congr 2
   rw[map_map]
   have e:(UInt8.ofNat ∘ UInt8.toNat)=id:=by
    funext x
    exact UInt8.ofNat_toNat
   rw[e,List.map_id]
  show some (Value.agg [.int .i64 ty,.int .i64 jb,.string (Ev.str (t.map UInt8.toNat)),.int .i64 e].toArray)=_;rw[this];rfl
 refine Ev.Zto (σ:=λ_=>none) (P:=prog) (t:=tAn) (op:=.neq) (A:=A) (B:=B) (x:=some (.g [.i .i64 ty,.i .i64 jb,.s (t.map UInt8.toNat),.i .i64 e])) (y:=some (.g [.i .i64 ty,.i .i64 jb,.s (t.map UInt8.toNat),.i .i64 e])) (z:=.b false) (f:=λ_=>.agg (cellsN ty jb t e).toArray)
  underlying192 (λk h=>by cases h) (λh=>by cases h) (λh=>by cases h) (λe h=>by cases h) ?_ (λa h=>?_) (λa h=>?_) λv hv=>?_
 ·have hg:Ev.gdE prog tAn A B (.g [.i .i64 ty,.i .i64 jb,.s (t.map UInt8.toNat),.i .i64 e]) (.g [.i .i64 ty,.i .i64 jb,.s (t.map UInt8.toNat),.i .i64 e])=true:=by
   have:(prog).eqGuardType (prog).depth tAn=false:=by kernel_rfl
   unfold Ev.gdE
   dsimp only
   rw[this]
  unfold Ev.beX
  dsimp only
  rw[hg,Zxd];rfl
 ·obtain rfl:=Option.some.inj h;exact hx
 ·obtain rfl:=Option.some.inj h;exact hx
 ·obtain rfl:Value.bool false=v:=Option.some.inj hv;exact k
theorem Zli {ty jb:Nat}{t:List UInt8}(H:Holds w L) (h1:jb<=4294967295) (h2:t.length<=65536) (hc:(ty=65\/ty=70)/\jb=0\/ty=66) (k:∀ w',Same w w'->Holds w' L->K (.tuple #[.agg (cellsF ⟨ty,jb,t⟩).toArray,iv 0]) w') :
  Cl prog 153 #[.agg (cellsN ty jb t 0).toArray] w K:=by
 refine Tz153 ?_;unfold Vz153;refine r_new H λab w1 S1 H1=>?_;replace H1:Holds w1 (blk ab tAn (cellsN ty jb t 0)::L):=H1;refine r_new H1 λxb w2 S2 H2=>?_;rw[Zb6] at H2;refine r_fo0 (r_ld 1 H2 rfl rfl (r_fo0 (r_ld 1 H2 rfl rfl (r_fo0 (r_ld 1 H2 rfl rfl ?_)))));refine r_bd (v:=.agg (cellsF ⟨ty,jb,t⟩).toArray) (by kernel_rfl) ?_;refine r_new H2 λfb w3 S3 H3=>?_;rw[Zb6] at H3;refine r_stA 0 H3 (vs:=cellsF ⟨ty,jb,t⟩) rfl (Nat.le_refl 3) rfl rfl λw4 S4 H4=>?_;replace H4:Holds w4 (blk fb tFr (cellsF ⟨ty,jb,t⟩)::blk xb tFr (cellsF fr0)::blk ab tAn (cellsN ty jb t 0)::L):=H4;have S:=S1.trans (S2.trans (S3.trans S4));clear S1 S2 S3 S4 H H1 H2 H3;refine Zd8 (λw'=>w4=w') ?_ ?_
 rotate_left
 ·refine Za0 (λx w'=>w4=w'/\x=.bool false) ?_ ?_
  rotate_left
  ·exact r_fo0 (r_ld 2 H4 rfl rfl (r_geq (r_vfD (by show ¬ (1:Int)<=0;decide) (r_ke ⟨rfl,rfl⟩))))
  rintro _ _ _ ⟨rfl,rfl⟩;exact r_vf (r_ke rfl)
 rintro _ _ rfl;refine r_ldA 0 H4 (cellsF ⟨ty,jb,t⟩) rfl rfl rfl ?_;refine Zo1 H4 h1 h2 hc λw5 S5 H5=>?_;refine Za4 (Za3 ?_);refine r_new H5 λyb w6 S6 H6=>?_;rw[Zf3] at H6;refine r_stA 0 H6 (vs:=cellsN ty jb t 0) rfl (Nat.le_refl 4) rfl rfl λw7 S7 H7=>?_;replace H7:Holds w7 (blk yb tAn (cellsN ty jb t 0)::blk fb tFr (cellsF ⟨ty,jb,t⟩)::blk xb tFr (cellsF fr0)::blk ab tAn (cellsN ty jb t 0)::L):=H7;refine Za0 (λx w'=>w7=w'/\x=.bool false) ?_ ?_
 rotate_left
 ·refine r_neq (r_vfN rfl ?_);refine r_ldA 0 H7 (cellsN ty jb t 0) rfl rfl rfl (r_ldA 3 H7 (cellsN ty jb t 0) rfl rfl rfl ?_);exact r_neN (r_ke ⟨rfl,rfl⟩)
 rintro _ _ _ ⟨rfl,rfl⟩;refine r_vf (r_ldA 1 H7 (cellsF ⟨ty,jb,t⟩) rfl rfl rfl ?_);refine r_stA 2 H7 (vs:=cellsF ⟨ty,jb,t⟩) rfl (Nat.le_refl 3) rfl rfl λw8 S8 H8=>?_;refine r_ldA 2 H8 (cellsF ⟨ty,jb,t⟩) rfl rfl rfl ?_;exact k w8 (S.trans (S5.trans (S6.trans (S7.trans S8)))) H8.drop.drop.drop.drop
theorem Zm4 {jb e:Nat}(H:Holds w L) (h1:jb<=4294967295) (he:1<=e) (h2:e<=255) (k:∀ w',Same w w'->Holds w' L->K (.tuple #[.agg (cellsF ⟨69,jb,[UInt8.ofNat e]⟩).toArray,iv 0]) w') :
  Cl prog 153 #[.agg (cellsN 69 jb [] e).toArray] w K:=by
 refine Tz153 ?_;unfold Vz153;refine r_new H λab w1 S1 H1=>?_;replace H1:Holds w1 (blk ab tAn (cellsN 69 jb [] e)::L):=H1;refine r_new H1 λxb w2 S2 H2=>?_;rw[Zb6] at H2;refine r_fo0 (r_ld 1 H2 rfl rfl (r_fo0 (r_ld 1 H2 rfl rfl (r_fo0 (r_ld 1 H2 rfl rfl ?_)))));refine r_bd (v:=.agg (cellsF ⟨69,jb,[]⟩).toArray) (by kernel_rfl) ?_;refine r_new H2 λfb w3 S3 H3=>?_;rw[Zb6] at H3;refine r_stA 0 H3 (vs:=cellsF ⟨69,jb,[]⟩) rfl (Nat.le_refl 3) rfl rfl λw4 S4 H4=>?_;replace H4:Holds w4 (blk fb tFr (cellsF ⟨69,jb,[]⟩)::blk xb tFr (cellsF fr0)::blk ab tAn (cellsN 69 jb [] e)::L):=H4;have S:=S1.trans (S2.trans (S3.trans S4));clear S1 S2 S3 S4 H H1 H2 H3;refine Zd8 (λw'=>Same w w'/\Holds w' (blk fb tFr (cellsF ⟨69,jb,[UInt8.ofNat e]⟩)::blk xb tFr (cellsF fr0)::blk ab tAn (cellsN 69 jb [] e)::L)) ?_ ?_
 rotate_left
 ·refine Za0 (λx w'=>w4=w'/\x=.bool true) ?_ ?_
  rotate_left
  ·refine r_fo0 (r_ld 2 H4 rfl rfl (r_geq (r_vtD (by show (1:Int)<=(e:Int);omega) ?_)));refine r_fo0 (r_ld 2 H4 rfl rfl (r_leq (r_ke ⟨rfl,?_⟩)));rw[decide_eq_true (by show (e:Int)<=255;omega)]
  rintro _ _ _ ⟨rfl,rfl⟩;refine r_vt (r_fo0 (r_ld 0 H4 rfl rfl (r_fo0 (r_ld 2 H4 rfl rfl ?_))));refine Zac (by omega) (by omega) ?_;refine L42.r_one (n:=e) (by omega) H4 λw5 S5 H5=>?_;refine Zaw (by simp) ?_;refine r_fo0 (r_st 0 H5 rfl (by simp[cellsF]) rfl λw6 S6 H6=>?_);exact r_ke ⟨S.trans (S5.trans S6),H6⟩
 clear S H4;rintro _ w4 ⟨S,H4⟩;refine r_ldA 0 H4 (cellsF ⟨69,jb,[UInt8.ofNat e]⟩) rfl rfl rfl ?_;refine Znk H4 h1 he h2 λw5 S5 H5=>?_;refine Za4 (Za3 ?_);refine r_new H5 λyb w6 S6 H6=>?_;rw[Zf3] at H6;refine r_stA 0 H6 (vs:=cellsN 69 jb [] e) rfl (Nat.le_refl 4) rfl rfl λw7 S7 H7=>?_;replace H7:Holds w7 (blk yb tAn (cellsN 69 jb [] e)::blk fb tFr (cellsF ⟨69,jb,[UInt8.ofNat e]⟩)::blk xb tFr (cellsF fr0)::blk ab tAn (cellsN 69 jb [] e)::L):=H7;refine Za0 (λx w'=>w7=w'/\x=.bool false) ?_ ?_
 rotate_left
 ·refine r_neq (r_vfN rfl ?_);refine r_ldA 0 H7 (cellsN 69 jb [] e) rfl rfl rfl (r_ldA 3 H7 (cellsN 69 jb [] e) rfl rfl rfl ?_);exact r_neN (r_ke ⟨rfl,rfl⟩)
 rintro _ _ _ ⟨rfl,rfl⟩;refine r_vf (r_ldA 1 H7 (cellsF ⟨69,jb,[UInt8.ofNat e]⟩) rfl rfl rfl ?_);refine r_stA 2 H7 (vs:=cellsF ⟨69,jb,[UInt8.ofNat e]⟩) rfl (Nat.le_refl 3) rfl rfl λw8 S8 H8=>?_;refine r_ldA 2 H8 (cellsF ⟨69,jb,[UInt8.ofNat e]⟩) rfl rfl rfl ?_;exact k w8 (S.trans (S5.trans (S6.trans (S7.trans S8)))) H8.drop.drop.drop.drop
abbrev tLn:Nat:=88
abbrev tBd:Nat:=86
variable {ln pa cb wt:Nat}{out:List UInt8}
def cellsLn (pa cb wt:Nat) (p v:Value):List Value:=[nv 0,pt pa,pt cb,p,v,nv wt,.bool false]
def okB (ln:Nat) (p:Value):Prop:=p=.pointer none\/p=.pointer (some ⟨ln,3,none⟩)
def LnR (ln pa cb wt:Nat) (out:List UInt8):HProp:=λh=>∃ p v,okB ln p/\Sat [blk ln tLn (cellsLn pa cb wt p v),SF L42.tU8 v out] h
theorem Zar (H:Holds w L){j:Nat}(hj:L[j]?=some (LnR ln pa cb wt out)):∃ p v,okB ln p/\Holds w (blk ln tLn (cellsLn pa cb wt p v)::SF L42.tU8 v out::L.eraseIdx j):=by
 obtain⟨p,H1⟩:=Holds.ex (H.front j hj);obtain⟨v,H1⟩:=Holds.ex H1;obtain⟨hp,H1⟩:=Holds.pure H1;exact⟨p,v,hp,Holds.unpack (A:=[_,_]) H1⟩
theorem Zec {Q:HProp}{j:Nat}{p v:Value}(hj:L[j]?=some Q) (hp:okB ln p) (H:Holds w (blk ln tLn (cellsLn pa cb wt p v)::SF L42.tU8 v out::L.eraseIdx j)):Holds w (L.set j (LnR ln pa cb wt out)):=
 Sat.push j hj (Holds.imp (Holds.pack (A:=[_,_]) H) λh hh=>⟨p,v,hp,hh⟩)
theorem Zw9 {f:Nat}{v:Value}{fn:Func}(h:Ev.extK prog f=some (fn,.noEsc)) (k:K v w):Cx prog f #[v] w K:=
 r_cx (Ev.callExt (P:=prog) (w:=w) (w':=w) (args:=#[v]) (v:=v) h (Ev.Zi2 (Ev.Zdc h).2.2) rfl).2 k
theorem noesc:∃ fn,Ev.extK prog 215=some (fn,.noEsc):=⟨f215,by kernel_rfl⟩
theorem Zln {j:Nat}{s:List UInt8}(H:Holds w L) (hj:L[j]?=some (LnR ln pa cb wt out)) (hn:out.length+s.length<=1099511627776) (k:∀ v w',Same w w'->Holds w' (L.set j (LnR ln pa cb wt (out++s)))->K v w') :
  Cl prog 155 #[.pointer (some ⟨ln,3,none⟩),S_ s] w K:=by
 refine Tz155 ?_;unfold Vz155;obtain⟨p,v,hp,H1⟩:=Zar H hj;obtain⟨fn,hfn⟩:=noesc;refine r_cl (K:=λ_ w'=>∃ p,okB ln p/\Same w w'/\Holds w' (blk ln tLn (cellsLn pa cb wt p v)::SF L42.tU8 v out::L.eraseIdx j)) ?_ ?_
 ·refine Tz192 ?_;unfold Vz192;refine r_nc (r_fo (r_ld 0 H1 (v:=p) rfl rfl ?_));rcases hp with rfl|rfl
  ·refine Zam (r_vt ?_);refine Zur (t:=tBd) (i:=t86) (by kernel_rfl) (by kernel_rfl) (by kernel_rfl) (by decide) H1 0 rfl (by show 3 < 7;decide) ?_;refine Zw9 hfn ?_;refine Zvo (t:=tBd) (i:=t86) (by kernel_rfl) (by kernel_rfl) (by kernel_rfl) (by kernel_rfl) H1 0 rfl ?_;refine r_nc (r_fo ?_);refine r_st 0 H1 rfl (by show 3 < 7;decide) rfl λw2 S2 H2=>?_;exact⟨.pointer (some ⟨ln,3,none⟩),.inr rfl,S2,H2⟩
  ·refine Za2 (r_vf ?_);refine r_nc (r_fo (r_ld 0 H1 (v:=.pointer (some ⟨ln,3,none⟩)) rfl rfl ?_));refine Zws (i:=t86) (by kernel_rfl) (r_vf ?_);exact⟨.pointer (some ⟨ln,3,none⟩),.inr rfl,.refl w,H1⟩
 rintro _ w2 ⟨p,hp,S2,H2⟩;refine r_nc (r_fo (r_ld 0 H2 (v:=v) rfl rfl ?_));refine r_apF (by kernel_rfl) H2 1 rfl hn λv' w3 hv S3 H3=>?_;refine r_nc (r_fo ?_);refine r_st 0 H3 rfl (by show 4 < 7;decide) hv λw4 S4 H4=>?_;refine r_lns ?_;exact k _ _ (S2.trans (S3.trans S4)) (Zec hj hp H4)
theorem Zk1 {j:Nat}(H:Holds w L) (hj:L[j]?=some (LnR ln pa cb wt out)) (hn:out.length<=1099511627776) (k:∀ w',Same w w'->Holds w' L->K (S_ out) w'):Cl prog 48 #[.pointer (some ⟨ln,3,none⟩)] w K:=by
 refine Tz48 ?_;unfold Vz48;refine r_dr H λw1 S1 H0=>?_;obtain⟨p,v,hp,H2⟩:=Zar H0 hj;refine r_nc (r_fo (r_ld 0 H2 (v:=v) rfl rfl ?_));obtain⟨oa,sp,hv,_⟩:=H2.openF 1 rfl;refine Zwe (e:=L42.tU8) (pty:=173) (ity:=3) (by kernel_rfl) (by kernel_rfl) (by kernel_rfl) H2 1 rfl hn λpv w3 S3 H3 hust=>?_;refine r_nc (r_fo (r_ld 0 H3 (v:=v) rfl rfl ?_));refine r_rk (r_ld 0 H2 rfl rfl rfl) ?_;rw[hv];refine r_lnl (r_rk (r_lnl rfl) ?_);refine hust _ (λw4 S4 H4=>?_) _;have H5:=Zec hj hp H4;rw[Zcb hj] at H5;exact k _ ((S1.trans S3).trans S4) H5
theorem Zea {j ty jb e:Nat}{t da:List UInt8}(H:Holds w L) (hj:L[j]?=some (LnR ln pa cb wt out)) (h1:jb<=4294967295) (h2:t.length<=65536)
  (hc:((ty=65\/ty=70)/\jb=0\/ty=66)/\e=0/\da=t\/ty=69/\1<=e/\e<=255/\t=[]/\da=[UInt8.ofNat e]) (hn:out.length<=1000000000)
  (k:∀ w',Same w w'->Holds w' (L.set j (LnR ln pa cb wt (out++encF ⟨ty,jb,da⟩)))->K (.tuple #[]) w'):Cl prog 109 #[pt ln,.agg (cellsN ty jb t e).toArray] w K:=by
 refine Tz109 ?_;unfold Vz109;refine r_new H λab w1 S1 H1=>?_;replace H1:Holds w1 (blk ab tAn (cellsN ty jb t e)::L):=H1;refine r_ldA 0 H1 (cellsN ty jb t e) rfl rfl rfl ?_
 have hty:cli ty\/srv ty:=by unfold cli srv;omega
 have hdl:da.length<=65536:=by
  rcases hc with⟨_,_,rfl⟩|⟨_,_,_,_,rfl⟩
  ·exact h2
  ·show 1<=65536;decide
 have go:∀ w2,Same w1 w2->Holds w2 (blk ab tAn (cellsN ty jb t e)::L)->Ex (.tuple #[.agg (cellsF ⟨ty,jb,da⟩).toArray,iv 0]) 0 λx_4=>Ex (.tuple #[.agg (cellsF ⟨ty,jb,da⟩).toArray,iv 0]) 1 λx_5=>New (zeroP prog tFr) tFr w2 λf_6 w3=>
   StA 3 f_6 x_4 w3 λw4=>LdA 3 f_6 w4 λx_7=>Cl prog 154 #[x_7] w4 λx_8 w5=>Ex x_8 0 λx_9=>Ex x_8 1 λx_10=>Nc (pt ln) <| Fo 3 (pt ln) λx_11=>Cl prog 155 #[x_11,x_9] w5 λx_12 w6=>K (.tuple #[]) w6:=by
  intro w2 S2 H2;refine Za4 (Za3 ?_);refine r_new H2 λfb w3 S3 H3=>?_;rw[Zb6] at H3;refine r_stA 0 H3 (vs:=cellsF ⟨ty,jb,da⟩) rfl (Nat.le_refl 3) rfl rfl λw4 S4 H4=>?_;refine r_ldA 0 H4 (cellsF ⟨ty,jb,da⟩) rfl rfl rfl ?_;refine Zlz (f:=⟨ty,jb,da⟩) H4 hty h1 hdl λw5 S5 H5=>?_;refine Za4 (Za3 (r_nc (r_fo0 ?_)))
  have hj2:(blk fb tFr (cellsF ⟨ty,jb,da⟩)::blk ab tAn (cellsN ty jb t e)::L)[j+2]?=some (LnR ln pa cb wt out):=by
   rw[gF,gF];exact hj
  refine Zln H5 hj2 (by rw[Zay];show out.length+(9+da.length)<=_;omega) λv w6 S6 H6=>?_;exact k w6 (S1.trans (S2.trans (S3.trans (S4.trans (S5.trans S6))))) H6.drop.drop
 rcases hc with⟨hc,rfl,rfl⟩|⟨rfl,he1,he2,rfl,rfl⟩
 ·exact Zli H1 h1 h2 hc go
 ·exact Zm4 H1 h1 he1 he2 go
theorem Zkr {j jb e:Nat}(H:Holds w L) (hj:L[j]?=some (LnR ln pa cb wt out)) (h1:jb<=4294967295) (he1:1<=e) (he2:e<=255) (hn:out.length<=1000000000)
  (k:∀ w',Same w w'->Holds w' (L.set j (LnR ln pa cb wt (out++encF ⟨69,jb,[UInt8.ofNat e]⟩)))->K (.tuple #[]) w'):Cl prog 77 #[pt ln,nv jb,nv e] w K:=by
 refine Tz77 ?_;unfold Vz77;refine r_bd (v:=.agg (cellsN 69 jb [] e).toArray) (by kernel_rfl) ?_;exact Zea H hj h1 (by show 0<=65536;decide) (.inr ⟨rfl,he1,he2,rfl,rfl⟩) hn k
end F33
end Go.Proofs.YthkaggnihbkmeaaGreatDoor
namespace Go.Vc
theorem Zwo {P:Program}{w:World}{t e ty:TypeId}{inf:TypeInfo}{K:KT}(hu:P.underlying t=some (.slice e)) (hi:P.info? e=some inf) (h:K (.slice none 0 0) w):Ap P #[t,t] ty #[.slice none 0 0,.slice none 0 0] w K:=
 ⟨_,_,run_append_nothing w t t ty e inf hu hi none 0 0 (by omega) _ (Src.ofNil w hu 0),h⟩
end Go.Vc
namespace Go.Proofs.YthkaggnihbkmeaaGreatDoor
open Go Go.Vc Go.Proofs.Tryz
attribute [local irreducible] Vc.Nc Vc.Ld Vc.LdA Vc.St Vc.StA Vc.Fo Vc.Iaa Vc.Ias Vc.Ixs Vc.Ixa Vc.Fd Vc.FdA Vc.Bp Vc.Bb Vc.Bn Vc.Up Vc.Ci Vc.Lns Vc.Lnl Vc.Ex Vc.Sst Vc.Ssl Vc.New Vc.Vif Vc.VJoin Vc.VLoop Vc.KE Vc.Dr Vc.Rk Vc.Cl Vc.Cx Vc.Inv Vc.Be Vc.Cv Vc.Cw Vc.Mf Vc.Sl Vc.Lk Vc.Bd Vc.Bs Vc.Ms Vc.Mm Vc.Mu Vc.Me Vc.Es Vc.Rg Vc.Nx Vc.Ta Vc.Ap Vc.Usd Vc.Ust Vc.Cp Vc.Ln Vc.Bc Vc.Bmin Vc.Bmax Vc.Bdel Vc.Bclr Vc.Pk
namespace F33
open Go.M01 Go.M02 W01 W02 U38
variable {w:World}{L:List HProp}{K:KT}{b:Nat}
abbrev ptr (b:Nat):Value:=.pointer (some ⟨b,0,none⟩)
abbrev tSb:Nat:=442
theorem Zqj:(zeroP prog tSb).cells.toList=[S_ [],.int .u32 0,iv 0]:=by kernel_rfl
theorem Zvm:(zeroP prog 350).cells.toList=[.int .u8 0,iv 0]:=by kernel_rfl
theorem Zlq (H:Holds w L) (k:∀ w',Same w w'->Holds w' L->K (.tuple #[S_ [],iv 1]) w'):Cl prog 383 #[.agg #[.int .u8 0,iv 0]] w K:=by
 refine Tz383 ?_;unfold Vz383;refine r_new H λpb w1 S1 H1=>?_;replace H1:Holds w1 (blk pb 350 [.int .u8 0,iv 0]::L):=H1;refine Za0 (λx w'=>w1=w'/\x=.bool true) ?_ ?_
 rotate_left
 ·exact r_fo0 (r_ld 0 H1 rfl rfl (r_lss (r_vtD (by decide) (r_ke ⟨rfl,rfl⟩))))
 rintro _ _ _ ⟨rfl,rfl⟩;exact r_vt (k w1 S1 H1.drop)
theorem Zlr (H:Holds w (blk b tPack [.int .u8 0,nv 0]::L)) (k:∀ w',Same w w'->Holds w' (blk b tPack [.int .u8 0,nv 0]::L)->K (S_ []) w'):Cl prog 362 #[ptr b] w K:=by
 refine Tz362 ?_;unfold Vz362;refine Za2 (r_vf ?_);refine Tz375 ?_;unfold Vz375;refine r_nc (r_fo0 ?_);refine r_ldA 0 H [.int .u8 0,iv 0] rfl rfl rfl ?_;refine Zlq H λw1 S1 H1=>?_;refine Za4 (Za3 ?_);refine r_bd (v:=.agg #[.int .u8 0,iv 0]) (by kernel_rfl) ?_;refine r_nc (r_fo0 ?_);refine r_stA 0 H1 (vs:=[.int .u8 0,iv 0]) rfl (Nat.le_refl 2) rfl rfl λw2 S2 H2=>?_;exact k _ (S1.trans S2) H2
theorem Zlv {r:Nat}(H:Holds w (SplR0 b r::L)) (k:∀ w',Same w w'->Holds w' (SplR0 b r::L)->K (.slice none 0 0) w'):Cl prog 354 #[ptr b] w K:=by
 refine Tz354 ?_;unfold Vz354;obtain⟨b1,b2,H0⟩:=Znu H;refine Za2 (r_vf (r_nc (r_fo0 (r_ld 0 H0 rfl rfl ?_))));have H1:Holds w (blk b2 tPack [.int .u8 0,nv 0]::blk b tSplit [.slice none 0 0,.pointer (some ⟨b1,0,none⟩),nv 0,nv r,.pointer (some ⟨b2,0,none⟩)]::blk b1 tSum (tabL.map uv++[uv 4294967295])::L):=(by have h_:=Holds.ord 3 [2,0,1] H0 rfl;exact h_);refine Zs8 H1 rfl λw2 S2 H2=>?_;refine r_new H2 λrb w3 S3 H3=>?_;rw[Zvm] at H3;refine r_stA 0 H3 (vs:=[.int .u8 0,nv 0]) rfl (Nat.le_refl 2) rfl rfl λw4 S4 H4=>?_;replace H4:Holds w4 (blk rb 350 [.int .u8 0,iv 0]::blk b2 tPack [.int .u8 0,nv 0]::blk b tSplit [.slice none 0 0,.pointer (some ⟨b1,0,none⟩),nv 0,nv r,.pointer (some ⟨b2,0,none⟩)]::blk b1 tSum (tabL.map uv++[uv 4294967295])::L):=H4;refine Za0 (λx w'=>x=.slice none 0 0/\Same w w'/\Holds w' (blk b tSplit [.slice none 0 0,.pointer (some ⟨b1,0,none⟩),nv 0,nv r,.pointer (some ⟨b2,0,none⟩)]::blk b1 tSum (tabL.map uv++[uv 4294967295])::blk b2 tPack [.int .u8 0,nv 0]::L)) ?_ ?_
 rotate_left
 ·refine r_nc (r_fo0 (r_ld 2 H4 rfl rfl ?_));refine Zlr H4.drop λw5 S5 H5=>?_;refine Zai (r_vfD (λh=>h rfl) ?_);exact r_ke ⟨rfl,S2.trans (S3.trans (S4.trans S5)),(by have h_:=Holds.ord 3 [1,2,0] H5 rfl;exact h_)⟩
 rintro _ _ w5 ⟨rfl,S,H5⟩;refine r_nc (r_fo0 ?_);refine Tz364 ?_;unfold Vz364;refine r_new H5 λq w6 S6 H6=>?_;rw[Zqj] at H6;refine r_nc (r_fo0 (r_ld 1 H6 rfl rfl (r_lnl (r_eql (r_vtE rfl ?_)))));refine r_bd (v:=.agg #[S_ [],.int .u32 0,iv 0]) (by kernel_rfl) ?_;refine r_stA 0 H6 (vs:=[S_ [],.int .u32 0,iv 0]) rfl (Nat.le_refl 3) rfl rfl λw7 S7 H7=>?_;refine r_ldA 0 H7 [S_ [],.int .u32 0,iv 0] rfl rfl rfl ?_;refine Za4 (Za3 ?_);refine r_new H7 λnb w8 S8 H8=>?_;rw[Zqj] at H8;refine r_stA 0 H8 (vs:=[S_ [],.int .u32 0,iv 0]) rfl (Nat.le_refl 3) rfl rfl λw9 S9 H9=>?_;exact r_vf (k w9 (S.trans (S6.trans (S7.trans (S8.trans S9)))) (Zgp H9.drop.drop))
def cellsPr (win:Nat) (inp:List UInt8) (en:Bool) (bs:Nat) (fl:Bool) (bt:Nat) (head:List UInt8):List Value:=[nv win,S_ inp,.bool en,ptr bs,.bool fl,.slice none 0 0,.pointer none,nv 0,ptr bt,S_ head,.bool false,nv 0]
def PrQ (b win:Nat) (inp:List UInt8) (en:Bool) (head:List UInt8):HProp:=λh=>∃ bs fl bt room,Sat [blk b tPress (cellsPr win inp en bs fl bt head),SplR0 bs room] h
theorem Zcv {win:Nat}{inp head:List UInt8}{en:Bool}(H:Holds w (PrQ b win inp en head::L)):∃ bs fl bt room,Holds w (blk b tPress (cellsPr win inp en bs fl bt head)::SplR0 bs room::L):=by
 obtain⟨bs,H⟩:=Holds.ex H;obtain⟨fl,H⟩:=Holds.ex H;obtain⟨bt,H⟩:=Holds.ex H;obtain⟨room,H⟩:=Holds.ex H;exact⟨bs,fl,bt,room,Holds.unpack (A:=[_,_]) H⟩
theorem Zd5 {win bs bt room:Nat}{fl:Bool}{inp head:List UInt8}{en:Bool}(H:Holds w (blk b tPress (cellsPr win inp en bs fl bt head)::SplR0 bs room::L)):Holds w (PrQ b win inp en head::L):=
 Holds.imp (Holds.pack (A:=[_,_]) H) λh hh=>⟨bs,fl,bt,room,hh⟩
theorem Zvb:∀ lv,1<=lv->lv<=9->wholeB (headB lv)=headF 1 lv:=by
 have:∀ lv,lv < 10->1<=lv->wholeB (headB lv)=headF 1 lv:=by decide +kernel
 exact λlv h1 h2=>this lv (by omega) h1
theorem Zxb {win room lv:Nat}(h1:1<=lv) (h2:lv<=9) (H:Holds w (PrR0 b win room lv ⟨#[]⟩::L)):Holds w (PrQ b win [] false (headF 1 lv)::L):=by
 obtain⟨bs,bt,bw,H⟩:=Zqa H;rw[Zvb lv h1 h2] at H;exact Zd5 (bs:=bs) (fl:=false) (bt:=bt) (room:=room) (Holds.dropAt (Holds.dropAt H 2) 2)
section
variable {win:Nat}{inp head s:List UInt8}{en:Bool}
theorem Znp (H:Holds w (PrQ b win inp en head::L)) (k:K (.bool false) w):Cl prog 341 #[ptr b] w K:=by
 refine Tz341 ?_;unfold Vz341;obtain⟨bs,fl,bt,room,H0⟩:=Zcv H
 repeat (first|refine r_nc ?_|refine r_fo0 ?_|(with_reducible first|refine Zag ?_|refine r_vt ?_))
 refine r_ld 0 H0 rfl rfl ?_;exact k
theorem Zop (H:Holds w (PrQ b win inp false head::L)) (h6:win<=1048576) (hi:inp.length<=win) (hs:s.length<=1000000000) (k:∀ w',Same w w'->Holds w' (PrQ b win (inp++s.take (min s.length (win - inp.length))) false head::L)->K (nv (min s.length (win - inp.length))) w') :
  Cl prog 343 #[ptr b,S_ s] w K:=by
 refine Tz343 ?_;unfold Vz343;obtain⟨bs,fl,bt,room,H0⟩:=Zcv H;refine Za0 (λx w'=>w=w'/\x=.bool false) ?_ ?_
 rotate_left
 ·exact Za2 (r_vf (r_nc (r_fo0 (r_ld 0 H0 rfl rfl (r_ke ⟨rfl,rfl⟩)))))
 rintro _ _ _ ⟨rfl,rfl⟩;refine r_vf (r_dr H0 λw1 S1 H1=>?_);refine q_len (r_nc (r_fo0 (r_ld 0 H1 rfl rfl (r_nc (r_fo0 (r_ld 0 H1 rfl rfl (q_len ?_)))))));refine r_sub (by omega) (by omega) (r_min ?_);rw[show min (s.length:Int) ((win:Int) - (inp.length:Int))=((min s.length (win - inp.length):Nat):Int) by omega];refine r_dr H1 λw2 S2 H2=>?_;refine r_nc (r_fo0 (r_ld 0 H2 rfl rfl (q_T (by omega) ?_)));refine Zaw (by rw[gN];omega) ?_;refine r_nc (r_fo0 (r_st 0 H2 rfl (by simp[cellsPr]) rfl λw3 S3 H3=>?_));exact k w3 (S1.trans (S2.trans S3)) (Zd5 (fl:=fl) (bt:=bt) (room:=room) H3)
theorem Zm5 (H:Holds w (PrQ b win inp true head::L)) (k:K (iv 0) w):Cl prog 343 #[ptr b,S_ s] w K:=by
 refine Tz343 ?_;unfold Vz343;obtain⟨bs,fl,bt,room,H0⟩:=Zcv H;refine Za0 (λx w'=>w=w'/\x=.bool true) ?_ ?_
 rotate_left
 ·exact Za2 (r_vf (r_nc (r_fo0 (r_ld 0 H0 rfl rfl (r_ke ⟨rfl,rfl⟩)))))
 rintro _ _ _ ⟨rfl,rfl⟩;exact r_vt k
theorem Zr5 (H:Holds w (PrQ b win inp en head::L)) (k:∀ v w',Same w w'->Holds w' (PrQ b win inp true head::L)->K v w'):Cl prog 342 #[ptr b] w K:=by
 refine Tz342 ?_;unfold Vz342;obtain⟨bs,fl,bt,room,H0⟩:=Zcv H;refine Za0 (λx w'=>w=w'/\x=.bool en) ?_ ?_
 rotate_left
 ·exact Za2 (r_vf (r_nc (r_fo0 (r_ld 0 H0 rfl rfl (r_ke ⟨rfl,rfl⟩)))))
 rintro _ _ _ ⟨rfl,rfl⟩
 cases en with
 |true=>exact r_vt (k _ w (.refl w) H)
 |false=>
  refine r_vf (r_nc (r_fo0 (r_st 0 H0 rfl (by simp[cellsPr]) rfl λw1 S1 H1=>?_)));replace H1:Holds w1 (blk b tPress (cellsPr win inp true bs fl bt head)::SplR0 bs room::L):=H1;refine Tz350 ?_;unfold Vz350;refine Za0 (λx w'=>w1=w'/\∃ z:Bool,x=.bool z) ?_ ?_
  rotate_left
  ·refine r_nc (r_fo0 (r_ld 0 H1 (v:=.bool true) rfl rfl (r_vt ?_)));refine r_nc (r_fo0 (r_ld 0 H1 rfl rfl (Zad (r_ifD (λh=>?_) λh=>r_ke ⟨rfl,_,rfl⟩))));exact r_nc (r_fo0 (r_ld 0 H1 (v:=.bool fl) rfl rfl (r_not (r_ke ⟨rfl,_,rfl⟩))))
  rintro _ _ _ ⟨rfl,z,rfl⟩;refine r_vif (λ_=>?_) λ_=>k _ w1 S1 (Zd5 (fl:=fl) (bt:=bt) (room:=room) H1);refine r_dr H1 λw2 S2 H2=>?_;refine r_nc (r_fo0 (r_ld 0 H2 rfl rfl (r_nc (r_fo0 (r_ld 0 H2 rfl rfl ?_)))));refine Zlv H2.swap λw3 S3 H3=>?_;have H4:=H3.swap;refine r_rk (r_ld 0 H4 rfl rfl rfl) ?_;refine Zwo (inf:=t442) (e:=442) (by kernel_rfl) (by kernel_rfl) ?_;refine r_nc (r_fo0 (r_st 0 H4 rfl (by simp[cellsPr]) rfl λw5 S5 H5=>?_));refine r_nc (r_fo0 (r_st 0 H5 rfl (by simp[cellsPr]) rfl λw6 S6 H6=>?_));exact k _ w6 (S1.trans (S2.trans (S3.trans (S5.trans S6)))) (Zd5 (fl:=true) (bt:=bt) (room:=room) H6)
theorem Zie (H:Holds w (PrQ b win inp en head::L)) (k:∀ z w',Same w w'->Holds w' (PrQ b win inp en head::L)->K (.bool z) w'):Cl prog 347 #[ptr b] w K:=by
 refine Tz347 ?_;unfold Vz347;obtain⟨bs,fl,bt,room,H0⟩:=Zcv H;refine Za0 (λx w'=>w=w'/\x=.bool false) ?_ ?_
 rotate_left
 ·exact Za2 (r_vf (r_nc (r_fo0 (r_ld 0 H0 rfl rfl (r_ke ⟨rfl,rfl⟩)))))
 rintro _ _ _ ⟨rfl,rfl⟩;refine r_vf ?_
 have who:∀ {K:KT},K (.bool false) w->Cl prog 353 #[ptr b] w K:=by
  intro K k;refine Tz353 ?_;unfold Vz353;exact r_nc (r_fo0 (r_ld 0 H0 rfl rfl (r_lnl (r_gtr k))))
 refine Tz352 ?_;unfold Vz352;refine who (r_vf (r_nc (r_fo0 (r_ld 0 H0 (v:=.bool fl) rfl rfl ?_))))
 cases fl with
 |true=>exact r_vt (r_nc (r_fo0 (r_ld 0 H0 rfl rfl (Zai (k _ w (.refl w) H)))))
 |false=>
  refine r_vf (who (r_not (r_vt ?_)));exact r_nc (r_fo0 (r_ld 0 H0 rfl rfl (Zad (k _ w (.refl w) H))))
theorem Ziv (H:Holds w (PrQ b win inp en head::L)) (k:K (nv head.length) w):Cl prog 349 #[ptr b] w K:=by
 refine Tz349 ?_;unfold Vz349;obtain⟨bs,fl,bt,room,H0⟩:=Zcv H;exact Za2 (r_vf (r_nc (r_fo0 (r_ld 0 H0 rfl rfl (q_len k)))))
theorem Znq {n:Nat}(H:Holds w (PrQ b win inp en head::L)) (h1:1<=n) (h2:n<=head.length) (k:∀ w',Same w w'->Holds w' (PrQ b win inp en (head.drop n)::L)->K (S_ (head.take n)) w'):Cl prog 348 #[ptr b,nv n] w K:=by
 refine Tz348 ?_;unfold Vz348;obtain⟨bs,fl,bt,room,H0⟩:=Zcv H;refine Za0 (λx w'=>w=w'/\x=.bool false) ?_ ?_
 rotate_left
 ·refine Za2 (r_vf (r_lss (r_ke ⟨rfl,?_⟩)));rw[decide_eq_false (by omega)]
 rintro _ _ _ ⟨rfl,rfl⟩;refine r_vf (r_nc (r_fo0 (r_ld 0 H0 rfl rfl (q_len (r_min ?_)))));rw[show min (n:Int) (head.length:Int)=(n:Int) by omega];refine r_nc (r_fo0 (r_ld 0 H0 rfl rfl (q_T h2 ?_)));refine r_nc (r_fo0 (r_ld 0 H0 rfl rfl (q_D h2 ?_)));refine r_nc (r_fo0 (r_st 0 H0 rfl (by simp[cellsPr]) rfl λw2 S2 H2=>?_));exact k w2 S2 (Zd5 (fl:=fl) (bt:=bt) (room:=room) H2)
end
abbrev tExp:Nat:=320
abbrev tRd:Nat:=340
abbrev tUr:Nat:=305
abbrev tTs:Nat:=324
theorem Zfe {u:Nat}(H:Holds w L) (h3:24<=u) (h4:u<=100000) (post:∀ b w',Same w w'->Holds w' (blk b tUr [nv u,iv 0,iv 0,iv 0,.pointer none,.string ⟨#[]⟩,iv 0,.int .u32 0,.int .u32 0,.bool false,iv 0]::L)->K (.tuple #[ptr b,iv 0]) w') :
  Cl prog 223 #[nv u] w K:=by
 refine Tz223 ?_;unfold Vz223;refine Ze8 (by omega) (by omega) (by omega) (by omega) λr g1 g2 g3=>?_
 repeat (first|refine r_neq ?_|(with_reducible first|refine Za4 ?_|refine Za3 ?_)|((with_reducible refine r_vfN ?h ?_);(case h=>omega)))
 refine r_bd (v:=.agg #[nv u,iv 0,iv 0,iv 0,.pointer none,.string ⟨#[]⟩,iv 0,.int .u32 0,.int .u32 0,.bool false,iv 0]) (by kernel_rfl) ?_;refine r_new H λb w2 S2 H2=>?_;exact post b _ S2 H2
theorem Zh7 {s:ByteArray}(H:Holds w L) (post:∀ b w',Same w w'->Holds w' (blk b tRd [.string s,iv 0,iv 0]::L)->K (ptr b) w'):Cl prog 234 #[.string s] w K:=by
 refine Tz234 ?_;unfold Vz234;refine r_bd (v:=.agg #[.string s,iv 0,iv 0]) (by kernel_rfl) ?_;refine r_new H λb w2 S2 H2=>?_;exact post b _ S2 H2
theorem Zh4 {s:ByteArray}{r:List Value}(i:Nat) (H:Holds w L) (hi:L[i]?=some (blk b tRd (.string s::r))) (post:K (nv s.size) w):Cl prog 473 #[ptr b] w K:=by
 refine Tz473 ?_;unfold Vz473
 repeat (first|refine r_nc ?_|refine r_fo0 ?_|(with_reducible first|refine Za2 ?_|refine r_vf ?_))
 refine r_ld i H hi rfl ?_
 repeat (refine r_lns ?_)
 exact post
theorem more_spec {xs ys:List UInt8}{r:List Value}(H:Holds w (blk b tRd (.string ⟨xs.toArray⟩::r)::L)) (hs:xs.length+ys.length<=1000000000000) (post:∀ w',Same w w'->Holds w' (blk b tRd (.string ⟨(xs++ys).toArray⟩::r)::L)->K (iv 0) w') :
  Cl prog 474 #[ptr b,.string ⟨ys.toArray⟩] w K:=by
 refine Tz474 ?_;unfold Vz474
 repeat (first|refine r_nc ?_|refine r_fo0 ?_|(with_reducible first|refine Za2 ?_|refine r_vf ?_)|refine r_ld 0 H rfl rfl ?_)
 refine Zaw (by omega) ?_
 repeat (first|refine r_nc ?_|refine r_fo0 ?_)
 refine r_st 0 H rfl (Nat.succ_pos _) rfl λw2 S2 H2=>?_;exact post _ S2 H2
def cellsEx (win:Nat) (en:Bool) (bi br:Nat) (sh:Bool):List Value:=[nv win,nv 4096,.bool en,ptr bi,ptr br,.pointer none,.bool sh,.slice none 0 0,.bool false,iv 0,iv 0]
def ExQ (b win:Nat) (inp:List UInt8) (en:Bool):HProp:=λh=>∃ bi br sh,Sat [blk b tExp (cellsEx win en bi br sh),blk bi tRd [S_ inp,iv 0,iv 0]] h
section
variable {win:Nat}{inp s:List UInt8}{en:Bool}
theorem Zcr (H:Holds w (ExQ b win inp en::L)):∃ bi br sh,Holds w (blk b tExp (cellsEx win en bi br sh)::blk bi tRd [S_ inp,iv 0,iv 0]::L):=by
 obtain⟨bi,H⟩:=Holds.ex H;obtain⟨br,H⟩:=Holds.ex H;obtain⟨sh,H⟩:=Holds.ex H;exact⟨bi,br,sh,Holds.unpack (A:=[_,_]) H⟩
theorem Zef {bi br:Nat}{sh:Bool}(H:Holds w (blk b tExp (cellsEx win en bi br sh)::blk bi tRd [S_ inp,iv 0,iv 0]::L)):Holds w (ExQ b win inp en::L):=
 Holds.imp (Holds.pack (A:=[_,_]) H) λh hh=>⟨bi,br,sh,hh⟩
theorem Zji {unit:Nat}(H:Holds w L) (h3:24<=unit) (h4:unit<=100000) (h5:64<=win) (h6:win<=1048576)
  (post:∀ b w',Same w w'->Holds w' (ExQ b win [] false::L)->K (.tuple #[ptr b,iv 0]) w'):Cl prog 226 #[nv unit,nv win,iv 4096] w K:=by
 refine Tz226 ?_;unfold Vz226;refine Zfe H h3 h4 λbr w1 S1 H1=>?_
 repeat (first|(with_reducible first|refine Za4 ?_|refine Za3 ?_))
 refine Za0 (λx w'=>w1=w'/\x=.bool false) ?_ ?_
 rotate_left
 ·repeat (first|refine r_neq ?_|((with_reducible refine r_vfN ?h ?_);(case h=>omega)))
  refine Tz224 ?_;unfold Vz224
  repeat (first|refine r_ke ?_|refine r_leq ?_|refine r_geq ?_|refine r_not ?_|((with_reducible refine r_vtD ?h ?_);(case h=>omega)))
  exact⟨rfl,rfl⟩
 rintro _ _ _ ⟨rfl,rfl⟩;refine r_vf ?_;refine Zh7 H1 λbi w2 S2 H2=>?_;refine r_bd (v:=.agg (cellsEx win false bi br false).toArray) (by kernel_rfl) ?_;refine r_new H2 λb w3 S3 H3=>?_;exact post b _ ((S1.trans S2).trans S3) (Zef (br:=br) (sh:=false) (Holds.dropAt H3 2))
theorem Zhn (H:Holds w (ExQ b win inp en::L)) (k:K (.bool false) w):Cl prog 462 #[ptr b] w K:=by
 refine Tz462 ?_;unfold Vz462;obtain⟨bi,br,sh,H0⟩:=Zcr H
 repeat (first|refine r_nc ?_|refine r_fo0 ?_|(with_reducible first|refine Zag ?_|refine r_vt ?_))
 refine r_ld 0 H0 rfl rfl ?_;exact k
theorem Zkg (H:Holds w (ExQ b win inp en::L)) (k:K (iv 0) w):Cl prog 464 #[ptr b] w K:=by
 refine Tz464 ?_;unfold Vz464;obtain⟨bi,br,sh,H0⟩:=Zcr H;exact Za2 (r_vf (r_nc (r_fo0 (r_ld 0 H0 rfl rfl k))))
theorem Zi9 (H:Holds w (ExQ b win inp en::L)) (k:K (iv 0) w):Cl prog 471 #[ptr b] w K:=by
 refine Tz471 ?_;unfold Vz471;obtain⟨bi,br,sh,H0⟩:=Zcr H;exact Za2 (r_vf (r_nc (r_fo0 (r_ld 0 H0 rfl rfl (r_lnl k)))))
theorem Zej (H:Holds w (ExQ b win inp en::L)) (k:∀ z,K (.bool z) w):Cl prog 469 #[ptr b] w K:=by
 refine Tz469 ?_;unfold Vz469;obtain⟨bi,br,sh,H0⟩:=Zcr H;refine Za0 (λx w'=>w=w'/\x=.bool false) ?_ ?_
 rotate_left
 ·exact Za2 (r_vf (r_nc (r_fo0 (r_ld 0 H0 rfl rfl (r_ke ⟨rfl,rfl⟩)))))
 rintro _ _ _ ⟨rfl,rfl⟩;refine r_vf (r_nc (r_fo0 (r_ld 0 H0 rfl rfl (Zan (r_vf ?_)))));exact r_nc (r_fo0 (r_ld 0 H0 rfl rfl (k sh)))
theorem Zhq (H:Holds w (ExQ b win inp false::L)) (h6:win<=1048576) (hi:inp.length<=win) (hs:s.length<=1000000000) (k:∀ w',Same w w'->Holds w' (ExQ b win (inp++s.take (min s.length (win - inp.length))) false::L)->K (nv (min s.length (win - inp.length))) w') :
  Cl prog 465 #[ptr b,S_ s] w K:=by
 refine Tz465 ?_;unfold Vz465;obtain⟨bi,br,sh,H0⟩:=Zcr H;refine Za0 (λx w'=>w=w'/\x=.bool false) ?_ ?_
 rotate_left
 ·exact Za2 (r_vf (r_nc (r_fo0 (r_ld 0 H0 (v:=.bool false) rfl rfl (r_vf (r_nc (r_fo0 (r_ld 0 H0 (v:=.bool false) rfl rfl (r_ke ⟨rfl,rfl⟩)))))))))
 rintro _ _ _ ⟨rfl,rfl⟩;refine r_vf (r_dr H0 λw1 S1 H1=>?_);refine q_len (r_nc (r_fo0 (r_ld 0 H1 rfl rfl (r_nc (r_fo0 (r_ld 0 H1 rfl rfl ?_))))));refine Zh4 1 H1 rfl ?_;refine r_rk (r_ld 0 H1 rfl rfl rfl) (r_rk (q_len rfl) ?_);rw[sz];refine r_sub (by omega) (by omega) (r_min ?_);rw[show min (s.length:Int) ((win:Int) - (inp.length:Int))=((min s.length (win - inp.length):Nat):Int) by omega];generalize hn:min s.length (win - inp.length)=n at k ⊢;refine r_dr H1 λw2 S2 H2=>?_;refine r_nc (r_fo0 (r_ld 0 H2 rfl rfl (q_T (by omega) ?_)));refine more_spec (H2.front 1 rfl) (by rw[gN];omega) λw3 S3 H3=>?_;have H4:Holds w3 (blk b tExp (cellsEx win false bi br sh)::blk bi tRd [S_ (inp++s.take n),iv 0,iv 0]::L):=H3.swap;refine r_gtr (r_ifD (λh=>?_) λh=>k _ (S1.trans (S2.trans S3)) (Zef (br:=br) (sh:=sh) H4));refine r_nc (r_fo0 (r_st 0 H4 rfl (by simp[cellsEx]) rfl λw5 S5 H5=>?_));exact k _ (S1.trans (S2.trans (S3.trans S5))) (Zef (br:=br) (sh:=false) H5)
theorem Zh1 (H:Holds w (ExQ b win inp true::L)) (k:K (iv 0) w):Cl prog 465 #[ptr b,S_ s] w K:=by
 refine Tz465 ?_;unfold Vz465;obtain⟨bi,br,sh,H0⟩:=Zcr H;refine Za0 (λx w'=>w=w'/\x=.bool true) ?_ ?_
 rotate_left
 ·exact Za2 (r_vf (r_nc (r_fo0 (r_ld 0 H0 (v:=.bool true) rfl rfl (r_vt (r_ke ⟨rfl,rfl⟩))))))
 rintro _ _ _ ⟨rfl,rfl⟩;exact r_vt k
theorem Zje (H:Holds w (ExQ b win inp en::L)) (k:∀ v w',Same w w'->Holds w' (ExQ b win inp true::L)->K v w'):Cl prog 463 #[ptr b] w K:=by
 refine Tz463 ?_;unfold Vz463;obtain⟨bi,br,sh,H0⟩:=Zcr H;refine Za0 (λx w'=>w=w'/\x=.bool en) ?_ ?_
 rotate_left
 ·exact Za2 (r_vf (r_nc (r_fo0 (r_ld 0 H0 rfl rfl (r_ke ⟨rfl,rfl⟩)))))
 rintro _ _ _ ⟨rfl,rfl⟩
 cases en with
 |true=>exact r_vt (k _ w (.refl w) H)
 |false=>
  refine r_vf (r_nc (r_fo0 (r_st 0 H0 rfl (by simp[cellsEx]) rfl λw1 S1 H1=>?_)));refine r_nc (r_fo0 (r_st 0 H1 rfl (by simp[cellsEx]) rfl λw2 S2 H2=>?_));exact k _ w2 (S1.trans S2) (Zef (br:=br) (sh:=false) H2)
def TsQ (b win:Nat) (inp:List UInt8) (en:Bool):HProp:=λh=>∃ bx,Sat [blk b tTs [ptr bx,iv 0,S_ [],.bool false],ExQ bx win inp en] h
theorem Zcx (H:Holds w (TsQ b win inp en::L)):∃ bx,Holds w (blk b tTs [ptr bx,iv 0,S_ [],.bool false]::ExQ bx win inp en::L):=by
 obtain⟨bx,H⟩:=Holds.ex H;exact⟨bx,Holds.unpack (A:=[_,_]) H⟩
theorem Zgy {bx:Nat}(H:Holds w (blk b tTs [ptr bx,iv 0,S_ [],.bool false]::ExQ bx win inp en::L)):Holds w (TsQ b win inp en::L):=
 Holds.imp (Holds.pack (A:=[_,_]) H) λh hh=>⟨bx,hh⟩
theorem Zr1 {unit:Nat}(H:Holds w L) (h3:24<=unit) (h4:unit<=100000) (h5:64<=win) (h6:win<=1048576)
  (post:∀ b w',Same w w'->Holds w' (TsQ b win [] false::L)->K (.tuple #[ptr b,iv 0]) w'):Cl prog 227 #[nv unit,nv win] w K:=by
 refine Tz227 ?_;unfold Vz227;refine Zji H h3 h4 h5 h6 λbx w1 S1 H1=>?_;refine Za4 (Za3 (r_neq (r_vfN rfl ?_)));refine r_bd (v:=.agg #[ptr bx,iv 0]) (by kernel_rfl) ?_;refine r_bd (v:=.agg #[ptr bx,iv 0,S_ [],.bool false]) (by kernel_rfl) ?_;refine r_new H1 λb w3 S3 H3=>?_;exact post b _ (S1.trans S3) (Zgy H3)
theorem Zoh (H:Holds w (TsQ b win inp en::L)) (k:K (.bool false) w):Cl prog 494 #[ptr b] w K:=by
 refine Tz494 ?_;unfold Vz494;obtain⟨bx,H0⟩:=Zcx H
 repeat (first|refine r_nc ?_|refine r_fo0 ?_|(with_reducible first|refine Zag ?_|refine r_vt ?_))
 refine r_ld 0 H0 rfl rfl ?_;exact Zhn H0.swap k
theorem Zqu (H:Holds w (TsQ b win inp en::L)) (k:K (iv 0) w):Cl prog 496 #[ptr b] w K:=by
 refine Tz496 ?_;unfold Vz496;obtain⟨bx,H0⟩:=Zcx H;exact Za2 (r_vf (r_nc (r_fo0 (r_fo0 (r_ld 0 H0 rfl rfl (Zkg H0.swap k))))))
theorem Zip (H:Holds w (TsQ b win inp en::L)) (k:K (iv 0) w):Cl prog 503 #[ptr b] w K:=by
 refine Tz503 ?_;unfold Vz503;obtain⟨bx,H0⟩:=Zcx H;exact Za2 (r_vf (r_nc (r_fo0 (r_ld 0 H0 rfl rfl (q_len k)))))
theorem Zj5 (H:Holds w (TsQ b win inp en::L)) (k:∀ z,K (.bool z) w):Cl prog 501 #[ptr b] w K:=by
 refine Tz501 ?_;unfold Vz501;obtain⟨bx,H0⟩:=Zcx H;exact Za2 (r_vf (r_nc (r_fo0 (r_fo0 (r_ld 0 H0 rfl rfl (Zej H0.swap k))))))
theorem Zos (H:Holds w (TsQ b win inp false::L)) (h6:win<=1048576) (hi:inp.length<=win) (hs:s.length<=1000000000) (k:∀ w',Same w w'->Holds w' (TsQ b win (inp++s.take (min s.length (win - inp.length))) false::L)->K (nv (min s.length (win - inp.length))) w') :
  Cl prog 497 #[ptr b,S_ s] w K:=by
 refine Tz497 ?_;unfold Vz497;obtain⟨bx,H0⟩:=Zcx H
 repeat (first|refine r_nc ?_|refine r_fo0 ?_|(with_reducible first|refine Za2 ?_|refine r_vf ?_))
 refine r_ld 0 H0 rfl rfl ?_;exact Zhq H0.swap h6 hi hs λw2 S2 H2=>k w2 S2 (Zgy H2.swap)
theorem Zlu (H:Holds w (TsQ b win inp true::L)) (k:K (iv 0) w):Cl prog 497 #[ptr b,S_ s] w K:=by
 refine Tz497 ?_;unfold Vz497;obtain⟨bx,H0⟩:=Zcx H
 repeat (first|refine r_nc ?_|refine r_fo0 ?_|(with_reducible first|refine Za2 ?_|refine r_vf ?_))
 refine r_ld 0 H0 rfl rfl ?_;exact Zh1 H0.swap k
theorem Zr8 (H:Holds w (TsQ b win inp en::L)) (k:∀ v w',Same w w'->Holds w' (TsQ b win inp true::L)->K v w'):Cl prog 495 #[ptr b] w K:=by
 refine Tz495 ?_;unfold Vz495;obtain⟨bx,H0⟩:=Zcx H;exact Za2 (r_vf (r_nc (r_fo0 (r_fo0 (r_ld 0 H0 rfl rfl (Zje H0.swap λv w2 S2 H2=>k v w2 S2 (Zgy H2.swap)))))))
end
end F33
namespace F33
open Go.M01 Go.M02 W01 W02 U38
variable {w:World}{L:List HProp}{K:KT}{j:Nat}
abbrev tPp:Nat:=287
abbrev tXp:Nat:=290
abbrev tTp:Nat:=293
abbrev tJob:Nat:=186
abbrev tFlow:Nat:=228
abbrev tStr:Nat:=230
def MaQ (k b win:Nat) (inp:List UInt8) (en:Bool) (head:List UInt8):HProp:=if k=1 then PrQ b win inp en head else if k=2 then ExQ b win inp en else TsQ b win inp en
def tM (k:Nat):Nat:=if k=1 then tPp else if k=2 then tXp else tTp
def Kd (k:Nat) (head:List UInt8):Prop:=k=1\/(k=2\/k=3)/\head=[]
def JobQ (k j win:Nat) (inp:List UInt8) (en:Bool) (head:List UInt8):HProp:=λh=>∃ bm,Kd k head/\Sat [blk j tJob [nv k,.iface (tM k) (ptr bm)],MaQ k bm win inp en head] h
section
variable {k win:Nat}{inp head s:List UInt8}{en:Bool}
theorem Zbm (H:Holds w (JobQ k j win inp en head::L)):∃ bm,Kd k head/\Holds w (blk j tJob [nv k,.iface (tM k) (ptr bm)]::MaQ k bm win inp en head::L):=by
 obtain⟨bm,H⟩:=Holds.ex H;obtain⟨hk,H⟩:=Holds.pure H;exact⟨bm,hk,Holds.unpack (A:=[_,_]) H⟩
theorem Zb5 {bm:Nat}(hk:Kd k head) (H:Holds w (blk j tJob [nv k,.iface (tM k) (ptr bm)]::MaQ k bm win inp en head::L)):Holds w (JobQ k j win inp en head::L):=
 Holds.imp (Holds.pack (A:=[_,_]) H) λh hh=>⟨bm,hk,hh⟩
theorem Zq0 {lv unit:Nat}(H:Holds w L) (hk:k=1/\1<=lv/\lv<=9\/(k=2\/k=3)/\lv=0) (h3:24<=unit) (h4:unit<=100000) (h5:64<=win) (h6:win<=1048576)
  (post:∀ j w',Same w w'->Holds w' (JobQ k j win [] false (headF k lv)::L)->K (.tuple #[ptr j,iv 0]) w'):Cl prog 177 #[nv k,nv lv,nv unit,nv win] w K:=by
 refine Tz177 ?_;unfold Vz177
 have fin:∀ bm w',Kd k (headF k lv)->Same w w'->Holds w' (MaQ k bm win [] false (headF k lv)::L)->Bd prog tJob #[(0,nv k),(1,.iface (tM k) (ptr bm))] w' λx_5=>New x_5 tJob w' λx_6 w2=>K (.tuple #[x_6,iv 0]) w2:=by
  intro bm w' hk S' H';refine r_bd (v:=.agg #[nv k,.iface (tM k) (ptr bm)]) (by kernel_rfl) ?_;refine r_new H' λb w2 S2 H2=>?_;exact post b _ (S'.trans S2) (Zb5 hk H2)
 refine Tz212 ?_;unfold Vz212;rcases hk with⟨rfl,h1,h2⟩|⟨rfl|rfl,rfl⟩
 ·refine r_eql (r_vtE rfl ?_);refine Zio H h1 h2 h3 h4 h5 h6 λbm w1 S1 H1=>?_;refine Za4 (Za3 (Za4 (Za3 (r_neq (r_vfN rfl ?_)))));exact fin bm w1 (.inl rfl) S1 (Zxb h1 h2 H1)
 ·refine r_eql (r_vfE (by decide) (r_eql (r_vtE rfl ?_)));refine Zji H h3 h4 h5 h6 λbm w1 S1 H1=>?_;refine Za4 (Za3 (Za4 (Za3 (r_neq (r_vfN rfl ?_)))));exact fin bm w1 (.inr ⟨.inl rfl,rfl⟩) S1 H1
 ·refine r_eql (r_vfE (by decide) (r_eql (r_vfE (by decide) (r_eql (r_vtE rfl ?_)))));refine Zr1 H h3 h4 h5 h6 λbm w1 S1 H1=>?_;refine Za4 (Za3 (Za4 (Za3 (r_neq (r_vfN rfl ?_)))));exact fin bm w1 (.inr ⟨.inr rfl,rfl⟩) S1 H1
theorem Zcn (H:Holds w (JobQ k j win inp en head::L)) (post:K (.bool false) w):Cl prog 148 #[ptr j] w K:=by
 refine Tz148 ?_;unfold Vz148;obtain⟨bm,hk,H0⟩:=Zbm H;refine Zag (r_vt (r_nc (r_fo0 (r_ld 0 H0 rfl rfl ?_))));rcases hk with rfl|⟨rfl|rfl,rfl⟩
 ·refine r_inv (f:=341) (args:=#[ptr bm]) (by kernel_rfl) ?_;exact Znp H0.swap post
 ·refine r_inv (f:=462) (args:=#[ptr bm]) (by kernel_rfl) ?_;exact Zhn H0.swap post
 ·refine r_inv (f:=494) (args:=#[ptr bm]) (by kernel_rfl) ?_;exact Zoh H0.swap post
theorem Zdr (H:Holds w (JobQ k j win inp en head::L)) (post:K (.bool false) w):Cl prog 110 #[ptr j] w K:=by
 refine Tz110 ?_;unfold Vz110;exact Zcn H (r_vf post)
theorem Zrc (H:Holds w (JobQ k j win inp en head::L)) (post:K (iv 0) w):Cl prog 111 #[ptr j] w K:=by
 refine Tz111 ?_;unfold Vz111;obtain⟨bm,hk,H0⟩:=Zbm H;refine Za2 (r_vf (r_nc (r_fo0 (r_ld 0 H0 rfl rfl ?_))));rcases hk with rfl|⟨rfl|rfl,rfl⟩
 ·refine Ztk (z:=.nilIface) (i:=t287) underlying240 (by kernel_rfl) (by decide +kernel) (λw=>by kernel_rfl) ?_;exact Za4 (Za3 (r_vf post))
 ·refine r_ta (.tuple #[.iface tXp (ptr bm),.bool true]) (by kernel_rfl) ?_;refine Za4 (Za3 (r_vt ?_));refine r_inv (f:=464) (args:=#[ptr bm]) (by kernel_rfl) ?_;exact Zkg H0.swap post
 ·refine r_ta (.tuple #[.iface tTp (ptr bm),.bool true]) (by kernel_rfl) ?_;refine Za4 (Za3 (r_vt ?_));refine r_inv (f:=496) (args:=#[ptr bm]) (by kernel_rfl) ?_;exact Zqu H0.swap post
theorem Zf6 (H:Holds w (JobQ k j win inp en head::L)) (post:K (.bool false) w):Cl prog 189 #[ptr j] w K:=by
 refine Tz189 ?_;unfold Vz189;exact Zrc H (r_neq post)
theorem Ze6 (H:Holds w (JobQ k j win inp en head::L)) (post:K (nv head.length) w):Cl prog 156 #[ptr j] w K:=by
 refine Tz156 ?_;unfold Vz156;refine Za0 (λx w'=>w=w'/\x=.bool false) ?_ ?_
 rotate_left
 ·exact Za2 (r_vf (Zf6 H (r_ke ⟨rfl,rfl⟩)))
 rintro _ _ _ ⟨rfl,rfl⟩;obtain⟨bm,hk,H0⟩:=Zbm H;refine r_vf (r_nc (r_fo0 (r_ld 0 H0 rfl rfl ?_)));rcases hk with rfl|⟨rfl|rfl,rfl⟩
 ·refine r_inv (f:=349) (args:=#[ptr bm]) (by kernel_rfl) ?_;exact Ziv H0.swap post
 ·refine r_inv (f:=471) (args:=#[ptr bm]) (by kernel_rfl) ?_;exact Zi9 H0.swap post
 ·refine r_inv (f:=503) (args:=#[ptr bm]) (by kernel_rfl) ?_;exact Zip H0.swap post
theorem Zp0 {n:Nat}(H:Holds w (JobQ k j win inp en head::L)) (h1:1<=n) (h2:n<=head.length) (post:∀ w',Same w w'->Holds w' (JobQ k j win inp en (head.drop n)::L)->K (S_ (head.take n)) w'):Cl prog 152 #[ptr j,nv n] w K:=by
 refine Tz152 ?_;unfold Vz152;refine Za0 (λx w'=>w=w'/\x=.bool false) ?_ ?_
 rotate_left
 ·exact Za2 (r_vf (Zf6 H (r_ke ⟨rfl,rfl⟩)))
 rintro _ _ _ ⟨rfl,rfl⟩;obtain⟨bm,hk,H0⟩:=Zbm H;refine r_vf (r_nc (r_fo0 (r_ld 0 H0 rfl rfl ?_)));rcases hk with rfl|⟨_,rfl⟩
 ·refine r_inv (f:=348) (args:=#[ptr bm,nv n]) (by kernel_rfl) ?_;exact Znq H0.swap h1 h2 λw2 S2 H2=>post w2 S2 (Zb5 (.inl rfl) H2.swap)
 ·exact absurd h2 (by show ¬ n<=0;omega)
theorem Zia (H:Holds w (JobQ k j win inp en head::L)) (post:∀ z w',Same w w'->Holds w' (JobQ k j win inp en head::L)->K (.bool z) w'):Cl prog 59 #[ptr j] w K:=by
 refine Tz59 ?_;unfold Vz59;obtain⟨bm,hk,H0⟩:=Zbm H;refine Za2 (r_vf (r_nc (r_fo0 (r_ld 0 H0 rfl rfl ?_))));rcases hk with rfl|⟨rfl|rfl,rfl⟩
 ·refine r_inv (f:=347) (args:=#[ptr bm]) (by kernel_rfl) ?_;exact Zie H0.swap λz w2 S2 H2=>post z w2 S2 (Zb5 (.inl rfl) H2.swap)
 ·refine r_inv (f:=469) (args:=#[ptr bm]) (by kernel_rfl) ?_;exact Zej H0.swap λz=>post z w (.refl w) H
 ·refine r_inv (f:=501) (args:=#[ptr bm]) (by kernel_rfl) ?_;exact Zj5 H0.swap λz=>post z w (.refl w) H
theorem Zhj (H:Holds w (JobQ k j win inp false head::L)) (h6:win<=1048576) (hi:inp.length<=win) (hs:s.length<=1000000000) (post:∀ w',Same w w'->Holds w' (JobQ k j win (inp++s.take (min s.length (win - inp.length))) false head::L)->K (nv (min s.length (win - inp.length))) w') :
  Cl prog 149 #[ptr j,S_ s] w K:=by
 refine Tz149 ?_;unfold Vz149;refine Za0 (λx w'=>w=w'/\x=.bool false) ?_ ?_
 rotate_left
 ·exact Za2 (r_vf (Zcn H (r_ke ⟨rfl,rfl⟩)))
 rintro _ _ _ ⟨rfl,rfl⟩;obtain⟨bm,hk,H0⟩:=Zbm H;refine r_vf (r_nc (r_fo0 (r_ld 0 H0 rfl rfl ?_)));have hk0:=hk;rcases hk with rfl|⟨rfl|rfl,rfl⟩
 ·refine r_inv (f:=343) (args:=#[ptr bm,S_ s]) (by kernel_rfl) ?_;exact Zop H0.swap h6 hi hs λw2 S2 H2=>post w2 S2 (Zb5 hk0 H2.swap)
 ·refine r_inv (f:=465) (args:=#[ptr bm,S_ s]) (by kernel_rfl) ?_;exact Zhq H0.swap h6 hi hs λw2 S2 H2=>post w2 S2 (Zb5 hk0 H2.swap)
 ·refine r_inv (f:=497) (args:=#[ptr bm,S_ s]) (by kernel_rfl) ?_;exact Zos H0.swap h6 hi hs λw2 S2 H2=>post w2 S2 (Zb5 hk0 H2.swap)
theorem Zlg (H:Holds w (JobQ k j win inp true head::L)) (post:K (iv 0) w):Cl prog 149 #[ptr j,S_ s] w K:=by
 refine Tz149 ?_;unfold Vz149;refine Za0 (λx w'=>w=w'/\x=.bool false) ?_ ?_
 rotate_left
 ·exact Za2 (r_vf (Zcn H (r_ke ⟨rfl,rfl⟩)))
 rintro _ _ _ ⟨rfl,rfl⟩;obtain⟨bm,hk,H0⟩:=Zbm H;refine r_vf (r_nc (r_fo0 (r_ld 0 H0 rfl rfl ?_)));rcases hk with rfl|⟨rfl|rfl,rfl⟩
 ·refine r_inv (f:=343) (args:=#[ptr bm,S_ s]) (by kernel_rfl) ?_;exact Zm5 H0.swap post
 ·refine r_inv (f:=465) (args:=#[ptr bm,S_ s]) (by kernel_rfl) ?_;exact Zh1 H0.swap post
 ·refine r_inv (f:=497) (args:=#[ptr bm,S_ s]) (by kernel_rfl) ?_;exact Zlu H0.swap post
theorem Zjh (H:Holds w (JobQ k j win inp en head::L)) (post:∀ v w',Same w w'->Holds w' (JobQ k j win inp true head::L)->K v w'):Cl prog 150 #[ptr j] w K:=by
 refine Tz150 ?_;unfold Vz150;obtain⟨bm,hk,H0⟩:=Zbm H;refine Za2 (r_vf (r_nc (r_fo0 (r_ld 0 H0 rfl rfl ?_))));have hk0:=hk;rcases hk with rfl|⟨rfl|rfl,rfl⟩
 ·refine r_inv (f:=342) (args:=#[ptr bm]) (by kernel_rfl) ?_;exact Zr5 H0.swap λv w2 S2 H2=>post v w2 S2 (Zb5 hk0 H2.swap)
 ·refine r_inv (f:=463) (args:=#[ptr bm]) (by kernel_rfl) ?_;exact Zje H0.swap λv w2 S2 H2=>post v w2 S2 (Zb5 hk0 H2.swap)
 ·refine r_inv (f:=495) (args:=#[ptr bm]) (by kernel_rfl) ?_;exact Zr8 H0.swap λv w2 S2 H2=>post v w2 S2 (Zb5 hk0 H2.swap)
end
section
variable {f k win tk:Nat}{inp head rest s:List UInt8}{en:Bool}
def cellsW (j:Nat) (rest:List UInt8) (en:Bool) (tk:Nat):List Value:=[ptr j,S_ rest,.bool en,nv tk]
theorem Zrg (H:Holds w L) (post:∀ f w',Same w w'->Holds w' (blk f tFlow (cellsW j [] false 0)::L)->K (.tuple #[ptr f,iv 0]) w'):Cl prog 178 #[ptr j] w K:=by
 refine Tz178 ?_;unfold Vz178;refine Za2 (r_vf ?_);refine r_bd (v:=.agg (cellsW j [] false 0).toArray) (by kernel_rfl) ?_;exact r_new H λb w2 S2 H2=>post b w2 S2 H2
theorem Zne (H:Holds w (blk f tFlow (cellsW j rest en tk)::L)) (post:K (nv rest.length) w):Cl prog 107 #[ptr f] w K:=by
 refine Tz107 ?_;unfold Vz107;exact Za2 (r_vf (r_nc (r_fo0 (r_ld 0 H rfl rfl (q_len post)))))
theorem Zhx (H:Holds w (blk f tFlow (cellsW j rest false tk)::JobQ k j win inp false head::L)) (h6:win<=1048576) (hi:inp.length<=win) (hs:rest.length<=1000000000) (ht:tk<=1000000000)
  (post:∀ w',Same w w'->Holds w' (blk f tFlow (cellsW j (rest.drop (min rest.length (win - inp.length))) false (tk+min rest.length (win - inp.length)))::JobQ k j win (inp++rest.take (min rest.length (win - inp.length))) false head::L)->K (nv (min rest.length (win - inp.length))) w') :
  Cl prog 106 #[ptr f] w K:=by
 refine Tz106 ?_;unfold Vz106;refine Za2 (r_vf (r_nc (r_fo0 (r_ld 0 H rfl rfl (q_len (r_nc (r_fo0 (r_ld 0 H rfl rfl ?_))))))));refine Zcn H.swap (r_vf ?_);refine r_dr H λw1 S1 H1=>?_;refine r_nc (r_fo0 (r_ld 0 H1 rfl rfl (r_nc (r_fo0 (r_ld 0 H1 rfl rfl ?_)))));refine Zhj H1.swap h6 hi hs λw2 S2 H2=>?_;have H3:=H2.swap;generalize hn:min rest.length (win - inp.length)=n at post H3 ⊢;refine r_nc (r_fo0 (r_ld 0 H3 rfl rfl (q_D (by omega) ?_)));refine r_nc (r_fo0 (r_st 0 H3 rfl (by simp[cellsW]) rfl λw4 S4 H4=>?_));refine r_nc (r_fo0 (r_ld 0 H4 rfl rfl (Zaa (a:=tk) (b:=n) (by omega) ?_)));refine r_nc (r_fo0 (r_st 0 H4 rfl (by simp[cellsW]) rfl λw5 S5 H5=>?_));replace H5:Holds w5 (blk f tFlow (cellsW j (rest.drop n) false (tk+n))::JobQ k j win (inp++rest.take n) false head::L):=H5;refine Za0 (λx w'=>w5=w'/\x=.bool false) ?_ ?_
 rotate_left
 ·exact r_nc (r_fo0 (r_ld 0 H5 (v:=.bool false) rfl rfl (r_vf (r_ke ⟨rfl,rfl⟩))))
 rintro _ _ _ ⟨rfl,rfl⟩;exact r_vf (post w5 (S1.trans (S2.trans (S4.trans S5))) H5)
theorem Zgj (H:Holds w (blk f tFlow (cellsW j [] true tk)::JobQ k j win inp en head::L)) (h6:win<=1048576) (hi:inp.length<=win) (ht:tk<=1000000000)
  (post:∀ w',Same w w'->Holds w' (blk f tFlow (cellsW j [] true tk)::JobQ k j win inp true head::L)->K (iv 0) w') :
  Cl prog 106 #[ptr f] w K:=by
 refine Tz106 ?_;unfold Vz106;refine Za2 (r_vf (r_nc (r_fo0 (r_ld 0 H rfl rfl (q_len (r_nc (r_fo0 (r_ld 0 H rfl rfl ?_))))))));refine Zcn H.swap (r_vf ?_);refine r_dr H λw1 S1 H1=>?_;refine r_nc (r_fo0 (r_ld 0 H1 rfl rfl (r_nc (r_fo0 (r_ld 0 H1 rfl rfl ?_)))))
 cases en with
 |true=>
  refine Zlg H1.swap ?_;refine r_nc (r_fo0 (r_ld 0 H1 rfl rfl (q_D (t:=[]) (m:=0) (by simp) ?_)));refine r_nc (r_fo0 (r_st 0 H1 rfl (by simp[cellsW]) rfl λw4 S4 H4=>?_));refine r_nc (r_fo0 (r_ld 0 H4 rfl rfl (Zaa (a:=tk) (b:=0) (by omega) ?_)));refine r_nc (r_fo0 (r_st 0 H4 rfl (by simp[cellsW]) rfl λw5 S5 H5=>?_));replace H5:Holds w5 (blk f tFlow (cellsW j [] true tk)::JobQ k j win inp true head::L):=H5;refine Za0 (λx w'=>w5=w'/\x=.bool true) ?_ ?_
  rotate_left
  ·exact r_nc (r_fo0 (r_ld 0 H5 (v:=.bool true) rfl rfl (r_vt (r_nc (r_fo0 (r_ld 0 H5 rfl rfl (Zad (r_ke ⟨rfl,rfl⟩))))))))
  rintro _ _ _ ⟨rfl,rfl⟩;refine r_vt (r_nc (r_fo0 (r_ld 0 H5 rfl rfl ?_)));exact Zjh H5.swap λv w6 S6 H6=>post w6 (S1.trans (S4.trans (S5.trans S6))) H6.swap
 |false=>
  refine Zhj (s:=[]) H1.swap h6 hi (by simp) λw2 S2 H2=>?_;rw[show min ([]:List UInt8).length (win - inp.length)=0 by simp,List.take_nil,gU] at H2;rw[show min ([]:List UInt8).length (win - inp.length)=0 by simp];have H3:=H2.swap;refine r_nc (r_fo0 (r_ld 0 H3 rfl rfl (q_D (t:=[]) (m:=0) (by simp) ?_)));refine r_nc (r_fo0 (r_st 0 H3 rfl (by simp[cellsW]) rfl λw4 S4 H4=>?_));refine r_nc (r_fo0 (r_ld 0 H4 rfl rfl (Zaa (a:=tk) (b:=0) (by omega) ?_)));refine r_nc (r_fo0 (r_st 0 H4 rfl (by simp[cellsW]) rfl λw5 S5 H5=>?_));replace H5:Holds w5 (blk f tFlow (cellsW j [] true tk)::JobQ k j win inp false head::L):=H5;refine Za0 (λx w'=>w5=w'/\x=.bool true) ?_ ?_
  rotate_left
  ·exact r_nc (r_fo0 (r_ld 0 H5 (v:=.bool true) rfl rfl (r_vt (r_nc (r_fo0 (r_ld 0 H5 rfl rfl (Zad (r_ke ⟨rfl,rfl⟩))))))))
  rintro _ _ _ ⟨rfl,rfl⟩;refine r_vt (r_nc (r_fo0 (r_ld 0 H5 rfl rfl ?_)));exact Zjh H5.swap λv w6 S6 H6=>post w6 (S1.trans (S2.trans (S4.trans (S5.trans S6)))) H6.swap
theorem Zp6 (H:Holds w (blk f tFlow (cellsW j [] false tk)::JobQ k j win inp false head::L)) (h6:win<=1048576) (hi:inp.length<=win) (hs:s.length<=65536) (ht:tk<=1000000000)
  (post:∀ w',Same w w'->Holds w' (blk f tFlow (cellsW j (s.drop (min s.length (win - inp.length))) false (tk+min s.length (win - inp.length)))::JobQ k j win (inp++s.take (min s.length (win - inp.length))) false head::L)->K (iv 0) w') :
  Cl prog 182 #[ptr f,S_ s] w K:=by
 refine Tz182 ?_;unfold Vz182;refine Za2 (r_vf (r_nc (r_fo0 (r_ld 0 H (v:=.bool false) rfl rfl (r_vf ?_)))));refine r_nc (r_fo0 (r_ld 0 H rfl rfl (Zai (r_vfD (λh=>h rfl) ?_))));refine q_len (r_gtr (r_vfD (by omega) ?_));refine r_nc (r_fo0 (r_st 0 H rfl (by simp[cellsW]) rfl λw1 S1 H1=>?_));replace H1:Holds w1 (blk f tFlow (cellsW j s false tk)::JobQ k j win inp false head::L):=H1;exact Zhx H1 h6 hi (by omega) ht λw2 S2 H2=>post w2 (S1.trans S2) H2
theorem Zrt (H:Holds w (blk f tFlow (cellsW j [] false tk)::JobQ k j win inp false head::L)) (h6:win<=1048576) (hi:inp.length<=win) (ht:tk<=1000000000)
  (post:∀ w',Same w w'->Holds w' (blk f tFlow (cellsW j [] true tk)::JobQ k j win inp true head::L)->K (iv 0) w') :
  Cl prog 183 #[ptr f] w K:=by
 refine Tz183 ?_;unfold Vz183;refine Za2 (r_vf (r_nc (r_fo0 (r_ld 0 H (v:=.bool false) rfl rfl (r_vf ?_)))));refine r_nc (r_fo0 (r_st 0 H rfl (by simp[cellsW]) rfl λw1 S1 H1=>?_));replace H1:Holds w1 (blk f tFlow (cellsW j [] true tk)::JobQ k j win inp false head::L):=H1;exact Zgj H1 h6 hi ht λw2 S2 H2=>post w2 (S1.trans S2) H2
end
section
variable {st k win ch cr told n:Nat}{inp head:List UInt8}{en:Bool}
def cellsR (j ch cr told:Nat):List Value:=[ptr j,nv ch,nv cr,nv told]
theorem Zq5 (H:Holds w L) (h1:1<=ch) (h2:ch<=4096) (post:∀ st w',Same w w'->Holds w' (blk st tStr (cellsR j ch 0 0)::L)->K (.tuple #[ptr st,iv 0]) w'):Cl prog 179 #[ptr j,nv ch] w K:=by
 refine Tz179 ?_;unfold Vz179;refine Za2 (r_vf ?_);refine Za0 (λx w'=>w=w'/\x=.bool false) ?_ ?_
 rotate_left
 ·refine r_lss (r_vfD (by omega) (r_gtr (r_ke ⟨rfl,?_⟩)));rw[decide_eq_false (by omega)]
 rintro _ _ _ ⟨rfl,rfl⟩;refine r_vf ?_;refine r_bd (v:=.agg (cellsR j ch 0 0).toArray) (by kernel_rfl) ?_;exact r_new H λb w2 S2 H2=>post b w2 S2 H2
abbrev tI1:Nat:=3
theorem Zex {b x c i:Nat}{ys:List Nat}(H:Holds w L) (hi:L[i]?=some (blk b tI1 (ys.map nv))) (hl:ys.length<=10) (post:K (nv (ys.foldl min x)) w):Cl prog 188 #[nv x,.slice (some ⟨b,0,none⟩) ys.length c] w K:=by
 refine Tz188 ?_;unfold Vz188;refine r_lnl ?_;refine Zb1 (λm y w'=>∃ p q:Nat,q<=ys.length/\m=nv p/\y=nv q/\ys.foldl min x=(ys.drop q).foldl min p/\w=w') (λ_ y _=>ys.length - (intOf y).toNat) ⟨x,0,by omega,rfl,rfl,rfl,rfl⟩ ?_;rintro _ _ _ _ ⟨p,q,hq,rfl,rfl,he,rfl⟩;refine r_lss (r_ifD (λh=>?_) λh=>?_)
 ·have hlt:q < ys.length:=by omega
  have hy:ys[q]?=some ys[q]:=gA hlt;refine Zg2 (by omega) ?_;rw[Nat.mul_one];refine r_ld i H hi (v:=nv ys[q]) (by rw[hV_,hy];rfl) ?_;refine r_min ?_;rw[show min (p:Int) (ys[q]:Int)=((min p ys[q]:Nat):Int) by omega];refine Za1 (by omega) (r_ke ⟨⟨_,q+1,by omega,rfl,rfl,?_,rfl⟩,?_⟩)
  ·rw[he,drop_eq_getElem_cons hlt,List.foldl_cons]
  ·simp only[intOf,gC];omega
 ·obtain rfl:q=ys.length:=by omega
  rw[drop_length] at he;rw[he] at post;exact post
theorem Zl6 (H:Holds w (blk st tStr (cellsR j ch cr told)::L)) (hn:cr+n<=1099511627776) (post:∀ w',Same w w'->Holds w' (blk st tStr (cellsR j ch (cr+n) told)::L)->K (iv 0) w'):Cl prog 184 #[ptr st,nv n] w K:=by
 refine Tz184 ?_;unfold Vz184;refine Za2 (r_vf ?_);refine Za0 (λx w'=>w=w'/\x=.bool false) ?_ ?_
 rotate_left
 ·refine r_lss (r_vfD (by omega) (r_gtr (r_ke ⟨rfl,?_⟩)));rw[decide_eq_false (by omega)]
 rintro _ _ _ ⟨rfl,rfl⟩;refine r_vf (r_nc (r_fo0 (r_ld 0 H rfl rfl (Zaa (a:=cr) (b:=n) (by omega) ?_))));refine r_bsK (e:=tI1) [iv 1099511627776] H (by kernel_rfl) λb w2 S2 H2=>?_;refine Zex (ys:=[1099511627776]) (i:=0) H2 rfl (by show 1<=10;decide) ?_
 have hm:[1099511627776].foldl min (cr+n)=cr+n:=by show min (cr+n) 1099511627776=_;omega
 rw[hm];refine r_nc (r_fo0 (r_st 1 H2 rfl (by simp[cellsR]) rfl λw3 S3 H3=>?_));exact post w3 (S2.trans S3) H3.drop
theorem Zol (H:Holds w (blk st tStr (cellsR j ch cr told)::JobQ k j win inp en head::L)) (post:∀ w',Same w w'->Holds w' (blk st tStr (cellsR j ch cr told)::JobQ k j win inp en head::L)->K (nv (min (min head.length cr) ch)) w'):Cl prog 151 #[ptr st] w K:=by
 refine Tz151 ?_;unfold Vz151;refine Za2 (r_vf (r_dr H λw1 S1 H1=>⟨?_,?_⟩))
 ·refine r_nc (r_fo0 (r_ld 0 H1 rfl rfl ?_));refine Ze6 H1.swap ?_;refine r_nc (r_fo0 (r_ld 0 H1 rfl rfl (r_rk (r_ld 0 H1 rfl rfl rfl) ?_)));refine r_nc (r_fo0 (r_ld 0 H1 rfl rfl (r_rk (r_ld 0 H1 rfl rfl rfl) ?_)));refine r_bsK (e:=tI1) [nv cr,nv ch] H1 (by kernel_rfl) λb w2 S2 H2=>?_;refine r_rk (r_ld 1 H2 rfl rfl rfl) ?_;refine Zex (ys:=[cr,ch]) (i:=0) H2 rfl (by show 2<=10;decide) ?_;exact post w2 (S1.trans S2) H2.drop
 ·refine r_nc (r_fo0 (r_ld 0 H1 rfl rfl (r_nc (r_fo0 (r_ld 0 H1 rfl rfl (r_nc (r_fo0 (r_ld 0 H1 rfl rfl ?_))))))));refine r_bsK (e:=tI1) [nv cr,nv ch] H1 (by kernel_rfl) λb w2 S2 H2=>?_;refine r_rk (r_ld 1 H2 rfl rfl rfl) ?_;refine Ze6 (H2.front 2 rfl) ?_;refine r_rk (r_ld 1 H2 rfl rfl rfl) (r_rk (r_ld 1 H2 rfl rfl rfl) ?_);refine Zex (ys:=[cr,ch]) (i:=0) H2 rfl (by show 2<=10;decide) ?_;exact post w2 (S1.trans S2) H2.drop
theorem Zlf (H:Holds w (blk st tStr (cellsR j ch cr told)::JobQ k j win inp en head::L)) (hc:cr<=1099511627776) (ht:told+head.length<=1000)
  (k0:min (min head.length cr) ch=0->∀ w',Same w w'->Holds w' (blk st tStr (cellsR j ch cr told)::JobQ k j win inp en head::L)->K (.tuple #[S_ [],.bool false]) w')
  (k1:∀ n w',n=min (min head.length cr) ch->n≠0->Same w w'->Holds w' (blk st tStr (cellsR j ch (cr - n) (told+n))::JobQ k j win inp en (head.drop n)::L)->K (.tuple #[S_ (head.take n),.bool true]) w'):Cl prog 108 #[ptr st] w K:=by
 refine Tz108 ?_;unfold Vz108;refine Zol H λw1 S1 H1=>?_;generalize hn:min (min head.length cr) ch=n at k0 k1 ⊢;refine r_eql (r_ifE (λh=>?_) λh=>?_)
 ·exact k0 (by omega) w1 S1 H1
 ·refine r_nc (r_fo0 (r_ld 0 H1 rfl rfl (r_sub (by omega) (by omega) ?_)));rw[show (cr:Int) - (n:Int)=((cr - n:Nat):Int) by omega];refine r_nc (r_fo0 (r_st 0 H1 rfl (by simp[cellsR]) rfl λw2 S2 H2=>?_));refine r_nc (r_fo0 (r_ld 0 H2 rfl rfl (Zaa (a:=told) (b:=n) (by omega) ?_)));refine r_nc (r_fo0 (r_st 0 H2 rfl (by simp[cellsR]) rfl λw3 S3 H3=>?_));refine r_nc (r_fo0 (r_ld 0 H3 rfl rfl ?_));replace H3:Holds w3 (blk st tStr (cellsR j ch (cr - n) (told+n))::JobQ k j win inp en head::L):=H3;refine Zp0 H3.swap (by omega) (by omega) λw4 S4 H4=>?_;exact k1 n w4 rfl (by omega) (S1.trans (S2.trans (S3.trans S4))) H4.swap
end
end F33
end Go.Proofs.YthkaggnihbkmeaaGreatDoor
namespace Go.Proofs.YthkaggnihbkmeaaGreatDoor
open Go Go.Vc Go.Proofs.Tryz
theorem r_foA {off:Nat}{a:Addr}{K:Value->Prop}(h:K (.pointer (some (a.add off)))):Fo off (.pointer (some a)) K:=⟨_,rfl,h⟩
theorem Zwp {P:Program}{w:World}{L:List HProp}(i:Nat) (H:Holds w L){b o n c:Nat}{t be e ty:TypeId}{cs zs:List Value}{z:Value}{K:KT}(hi:L[i]?=some (blk b be cs)) (hu:P.underlying t=some (.slice e))
  (hz:(zeroValue e:Sem Value).run P w=.ok z w) (hzs:(Builtin.zeroCells z.cells n).toList=zs) (hn:n≠0) (ho:o+zs.length<=cs.length) (hs:zs.all sg=true)
  (k:∀ w',Same w w'->Holds w' (L.set i (blk b be (setL cs o zs)))->K (.tuple #[]) w'):Bclr P #[t] ty #[.slice (some ⟨b,o,none⟩) n c] w K:=by
 have h1:=Zb8 (P:=P) (a:=⟨b,o,none⟩) zs 0 w (λj hj=>by
  have e1:(⟨b,o,none⟩:Addr).add (0+j)=⟨b,o+j,none⟩:=by
   rw[Nat.zero_add];unfold Addr.add;split
   ·rename_i h;rw[h];rfl
   ·rfl
  rw[e1];refine⟨?_,H.frozen i hi (o+j)⟩;rw[H.cell i hi (o+j),gA (by omega)]
  rfl) hs
 refine⟨.tuple #[],setCells w ⟨b,o,none⟩ zs 0,?_,k _ (.setCells _ _ _ _) (Holds.setCells i zs 0 H hi)⟩;obtain⟨m,rfl⟩:∃ m,n=m+1:=⟨n - 1,by omega⟩;unfold Builtin.clear_;simp[run_underlying hu,hz,hzs,h1,Sem.run_bind,Result.andThen]
attribute [local irreducible] Vc.Nc Vc.Ld Vc.LdA Vc.St Vc.StA Vc.Fo Vc.Iaa Vc.Ias Vc.Ixs Vc.Ixa Vc.Fd Vc.FdA Vc.Bp Vc.Bb Vc.Bn Vc.Up Vc.Ci Vc.Lns Vc.Lnl Vc.Ex Vc.Sst Vc.Ssl Vc.New Vc.Vif Vc.VJoin Vc.VLoop Vc.KE Vc.Dr Vc.Rk Vc.Cl Vc.Cx Vc.Inv Vc.Be Vc.Cv Vc.Cw Vc.Mf Vc.Sl Vc.Lk Vc.Bd Vc.Bs Vc.Ms Vc.Mm Vc.Mu Vc.Me Vc.Es Vc.Rg Vc.Nx Vc.Ta Vc.Ap Vc.Usd Vc.Ust Vc.Cp Vc.Ln Vc.Bc Vc.Bmin Vc.Bmax Vc.Bdel Vc.Bclr Vc.Pk
namespace A40
open Go.M31 J31 J32 J34
variable {w:World}{L:List HProp}{K:KT}
abbrev tLv:Nat:=178
abbrev tTb:Nat:=128
abbrev tEy:Nat:=111
structure Lv where
 cn:Nat
 id:Nat
 tn:Nat
 nd:Nat
 hd:Nat
def cellsY (x:Lv):List Value:=[nv x.cn,nv x.id,nv x.tn,nv x.nd]
def cellsL (x:Lv):List Value:=[nv x.cn,nv x.id,nv x.tn,nv x.nd,nv x.hd]
def lv0:Lv:=⟨0,0,0,0,0⟩
theorem Zqy:(zeroP prog tLv).cells.toList=cellsL lv0:=by kernel_rfl
theorem Zg1:(zeroP prog tEy).cells.toList=cellsY lv0:=by kernel_rfl
instance rowLv:RowN prog 126 tLv 5:=⟨by kernel_rfl,⟨t178,.agg (cellsL lv0).toArray,by kernel_rfl,by kernel_rfl,by decide,by kernel_rfl,by kernel_rfl⟩⟩
instance rowInt:Row prog 66 3 (.int .i64 0):=⟨by kernel_rfl,⟨t3,by kernel_rfl,by kernel_rfl,by decide,by kernel_rfl⟩,rfl⟩
theorem lv_sg:∀ y:Lv,∀ u∈cellsL y,sg u=true:=by
 intro y u hu;simp only[cellsL,mem_cons,List.not_mem_nil,or_false] at hu
 rcases hu with rfl|rfl|rfl|rfl|rfl <;> rfl
abbrev LvIn:=S4r.InG cellsL 5
def placeL (p:Lv->Bool):List Lv->Nat->Option Nat
 |[],_=>none
 |x::r,i=>if p x then some i else placeL p r (i+1)
theorem Zl2 {p:Lv->Bool}{xs:List Lv}{j:Nat}{x:Lv}(h:xs[j]?=some x):placeL p (xs.drop j) j=if p x then some j else placeL p (xs.drop (j+1)) (j+1):=by
 obtain⟨hj,e⟩:=gH.1 h;rw[drop_eq_getElem_cons hj,e];rfl
def optI:Option Nat->Int
 |some i=>(i:Int)
 |none=>-1
theorem Zca {o:Option Addr}{c:Nat}{xs:List Lv}{p:Lv->Bool}{fv:Value}(H:Holds w L) (hA:LvIn L o xs) (hl:xs.length<=1000)
  (hf:∀ x∈xs,∀ {w:World} {K:KT},Holds w L->(∀ w',Same w w'->Holds w' L->K (.bool (p x)) w')->Inv prog (do let d <-Deferred.ofValue fv #[.agg (cellsL x).toArray];invoke d.target d.args) w K)
  (k:∀ w',Same w w'->Holds w' L->K (iv (optI (placeL p xs 0))) w'):Cl prog 146 #[.slice o xs.length c,fv] w K:=by
 refine Tz146 ?_;unfold Vz146;refine r_lnl ?_;refine Zat (λx w'=>∃ j:Nat,j<=xs.length/\x=nv j/\placeL p xs 0=placeL p (xs.drop j) j/\Same w w'/\Holds w' L) (λx _=>xs.length - (intOf x).toNat) ⟨0,by omega,rfl,rfl,.refl _,H⟩ ?_;clear H;rintro _ _ w1 ⟨j,hj,rfl,hp,S,H⟩;refine r_lss (r_ifD (λh=>?_) λh=>?_)
 ·have hlt:j < xs.length:=by omega
  obtain⟨x,hx⟩:∃ x,xs[j]?=some x:=⟨_,gA hlt⟩;refine S4r.r_ldG hA H hx rfl hlt ?_;refine hf x (mem_of_getElem? hx) H λw2 S2 H2=>?_;rw[Zl2 hx] at hp
  cases hb:p x with
  |true=>
   rw[if_pos hb] at hp;rw[hp] at k;exact r_vt (k w2 (S.trans S2) H2)
  |false=>
   rw[if_neg (by rw[hb];decide)] at hp;refine r_vf (Za1 (by omega) (r_ke ⟨⟨j+1,by omega,rfl,hp,S.trans S2,H2⟩,?_⟩));simp[nv,intOf];omega
 ·obtain rfl:j=xs.length:=by omega
  rw[drop_length] at hp;rw[hp] at k;exact k w1 S H
theorem Zch {p:Lv->Bool}:∀ {ys:List Lv}{q i:Nat},placeL p ys q=some i->q<=i/\i < q+ys.length
 |[],q,i,h=>by cases h
 |y::r,q,i,h=>by
  rw[placeL] at h;split at h
  ·cases h;simp
  ·have:=Zch h;simp;omega
variable {b jo last:Nat}{o:Option Addr}{c:Nat}{xs:List Lv}
abbrev TbP (b jo last:Nat) (v:Value):HProp:=blk b tTb [nv jo,nv last,v]
abbrev ptr (b:Nat):Value:=.pointer (some ⟨b,0,none⟩)
theorem Zfk {v:Value}(i:Nat) (H:Holds w L) (hi:L[i]?=some (TbP b jo last v)) (k:K v w):Cl prog 142 #[ptr b] w K:=by
 refine Tz142 ?_;unfold Vz142
 repeat (first|refine r_nc ?_|refine r_fo0 ?_|(with_reducible first|refine Za2 ?_|refine r_vf ?_))
 refine r_ld i H hi rfl ?_;exact k
theorem Find_spec {cn id:Nat}(H:Holds w (TbP b jo last (.slice o xs.length c)::L)) (hA:LvIn L o xs) (hl:xs.length<=1000)
  (k1:∀ i x w',placeL (λx=>x.cn==cn&&x.id==id) xs 0=some i->xs[i]?=some x->Same w w'->Holds w' (TbP b jo last (.slice o xs.length c)::L)->K (.tuple #[nv x.hd,iv 0]) w')
  (k2:∀ w',placeL (λx=>x.cn==cn&&x.id==id) xs 0=none->Same w w'->Holds w' (TbP b jo last (.slice o xs.length c)::L)->K (.tuple #[iv 0,iv 6]) w') :
  Cl prog 181 #[ptr b,nv cn,nv id] w K:=by
 refine Tz181 ?_;unfold Vz181;refine r_new H λbc w1 S1 H1=>r_new H1 λbi w2 S2 H2=>?_;replace H2:Holds w2 (blk bi 3 [nv id]::blk bc 3 [nv cn]::TbP b jo last (.slice o xs.length c)::L):=H2;have S:=S1.trans S2;clear H H1 S1 S2
 repeat (first|(with_reducible first|refine Za2 ?_|refine r_vf ?_))
 refine r_mf (.func (.func 213) #[] #[ptr bc,ptr bi]) (by kernel_rfl) ?_;refine Tz100 ?_;unfold Vz100;refine Zfk 2 H2 rfl ?_;refine Zca (p:=λx=>x.cn==cn&&x.id==id) H2 hA.up.up.up hl (λx hx w3 K3 H3 k3=>?_) λw3 S3 H3=>?_
 ·refine r_inv (f:=213) (args:=#[.agg (cellsL x).toArray,ptr bc,ptr bi]) (by kernel_rfl) ?_;refine Tz213 ?_;unfold Vz213;refine r_new H3 λbx w4 S4 H4=>?_;replace H4:Holds w4 (blk bx tLv (cellsL x)::blk bi 3 [nv id]::blk bc 3 [nv cn]::TbP b jo last (.slice o xs.length c)::L):=H4;refine r_fo0 (r_fo0 (r_ld 0 H4 rfl rfl (r_ld 2 H4 rfl rfl (r_eql ?_))))
  by_cases h1:x.cn=cn
  ·refine r_vtE (by rw[h1]) ?_;refine r_fo0 (r_fo (r_ld 0 H4 rfl rfl (r_ld 1 H4 rfl rfl (r_eql ?_))));have:=k3 _ S4 H4.drop;rw[show (x.cn==cn&&x.id==id)=(((x.id:Nat):Int)==((id:Nat):Int)) by rw[Bool.eq_iff_iff];simp[h1];omega] at this;exact this
  ·refine r_vfE (by omega) ?_;have:=k3 _ S4 H4.drop;rw[show (x.cn==cn&&x.id==id)=false by simp[h1]] at this;exact this
 ·cases hp:placeL (λx=>x.cn==cn&&x.id==id) xs 0 with
  |none=>
   refine r_lss (r_vtd (by decide) ?_);exact k2 _ hp (S.trans S3) H3.drop.drop
  |some i=>
   have hi:=Zch hp;obtain⟨x,hx⟩:∃ x,xs[i]?=some x:=⟨_,gA (show i < xs.length by omega)⟩;refine r_lss (r_vfd (by show decide ((i:Int) < 0)=false;exact decide_eq_false (by omega)) ?_);refine r_nc (r_fo (r_ld 2 H3 rfl rfl ?_));obtain⟨p,rfl,hc⟩:=hA w3 H3.drop.drop.drop _ _ hx;refine Zcj (show i < xs.length by omega) ?_;refine r_foA ?_;refine r_ldP (hc 4 (nv x.hd) rfl) ?_;exact k1 i x _ hp hx (S.trans S3) H3.drop.drop
theorem Zn1 {h:Nat}(H:Holds w (TbP b jo last (.slice o xs.length c)::L)) (hA:LvIn L o xs) (hl:xs.length<=1000){i:Nat}{x:Lv}
  (hp:placeL (λx=>x.hd==h) xs 0=some i) (hx:xs[i]?=some x)
  (k:∀ w',Same w w'->Holds w' (TbP b jo last (.slice o xs.length c)::L)->K (.tuple #[.agg (cellsY x).toArray,iv 0]) w') :
  Cl prog 55 #[ptr b,nv h] w K:=by
 refine Tz55 ?_;unfold Vz55;refine r_new H λbh w1 S1 H1=>r_new H1 λbz w2 S2 H2=>?_;rw[Zg1] at H2;replace H2:Holds w2 (blk bz tEy (cellsY lv0)::blk bh 3 [nv h]::TbP b jo last (.slice o xs.length c)::L):=H2;have S:=S1.trans S2;clear H H1 S1 S2
 repeat (first|(with_reducible first|refine Za2 ?_|refine r_vf ?_))
 refine r_mf (.func (.func 101) #[] #[ptr bh]) (by kernel_rfl) ?_;refine Tz100 ?_;unfold Vz100;refine Zfk 2 H2 rfl ?_;refine Zca (p:=λx=>x.hd==h) H2 hA.up.up.up hl (λx hx w3 K3 H3 k3=>?_) λw3 S3 H3=>?_
 ·refine r_inv (f:=101) (args:=#[.agg (cellsL x).toArray,ptr bh]) (by kernel_rfl) ?_;refine Tz101 ?_;unfold Vz101;refine r_new H3 λbx w4 S4 H4=>?_;replace H4:Holds w4 (blk bx tLv (cellsL x)::blk bz tEy (cellsY lv0)::blk bh 3 [nv h]::TbP b jo last (.slice o xs.length c)::L):=H4;refine r_fo0 (r_ld 0 H4 rfl rfl (r_ld 2 H4 rfl rfl (r_eql ?_)));have:=k3 _ S4 H4.drop;rw[show (x.hd==h)=(((x.hd:Nat):Int)==((h:Nat):Int)) by rw[Bool.eq_iff_iff];simp;omega] at this;exact this
 ·have hi:=Zch hp;rw[hp];refine r_lss (r_vfd (by show decide ((i:Int) < 0)=false;exact decide_eq_false (by omega)) ?_);refine r_nc (r_fo (r_ld 2 H3 rfl rfl ?_));obtain⟨p,rfl,hc⟩:=hA w3 H3.drop.drop.drop _ _ hx;refine Zcj (show i < xs.length by omega) (r_foA ?_);refine Zgm (cs:=(cellsY x).toArray) rfl (λj v hv=>?_) ?_
  ·rw[show (p.add (i*5)).add 0=p.add (i*5) by unfold Addr.add;simp]
   have hv':(cellsY x)[j]?=some v:=by simpa using hv
   refine hc j v ?_;have hj:j < 4:=(gH.1 hv').1;show (cellsY x++[nv x.hd])[j]?=some v;rw[gM hj];exact hv'
  refine r_stA 0 H3 (vs:=cellsY x) rfl (Nat.le_refl 4) rfl rfl λw4 S4 H4=>?_;refine r_ldA 0 H4 (cellsY x) rfl rfl rfl ?_;exact k _ ((S.trans S3).trans S4) H4.drop.drop
theorem Len_spec (H:Holds w (TbP b jo last (.slice o xs.length c)::L)) (k:K (nv xs.length) w):Cl prog 210 #[ptr b] w K:=by
 refine Tz210 ?_;unfold Vz210;refine Zfk 0 H rfl (r_lnl k)
def handles (p:Lv->Bool) (xs:List Lv):List Nat:=(xs.filter p).map (·.hd)
theorem Zkl {p:Lv->Bool}{xs:List Lv}{j:Nat}{x:Lv}(h:xs[j]?=some x):handles p (xs.take (j+1))=handles p (xs.take j)++if p x then [x.hd] else []:=by
 unfold handles;rw[gO,h]
 cases hb:p x <;> simp[hb]
theorem Zs7 {p:Lv->Bool}{fv:Value}(H:Holds w (TbP b jo last (.slice o xs.length c)::L)) (hA:LvIn L o xs) (hl:xs.length<=1000)
  (hf:∀ x∈xs,∀ {w:World} {M:List HProp} {K:KT},Holds w (M++L)->(∀ w',Same w w'->Holds w' (M++L)->K (.bool (p x)) w')->Inv prog (do let d <-Deferred.ofValue fv #[.agg (cellsL x).toArray];invoke d.target d.args) w K)
  (k:∀ v w',Same w w'->Holds w' (SL nv 3 v (handles p xs)::TbP b jo last (.slice o xs.length c)::L)->K v w'):Cl prog 93 #[ptr b,fv] w K:=by
 refine Tz93 ?_;unfold Vz93;refine Zfk 0 H rfl (r_lnl ?_);refine Zb1 (λo' x w'=>∃ j:Nat,j<=xs.length/\x=nv j/\Same w w'/\Holds w' (SL nv 3 o' (handles p (xs.take j))::TbP b jo last (.slice o xs.length c)::L)) (λ_ x _=>xs.length - (intOf x).toNat) ⟨0,by omega,rfl,.refl _,H.nilSL nv 3⟩ ?_;clear H;rintro _ v _ w1 ⟨j,hj,rfl,S,H⟩;refine r_lss (r_ifD (λh=>?_) λh=>?_)
 ·have hlt:j < xs.length:=by omega
  obtain⟨x,hx⟩:∃ x,xs[j]?=some x:=⟨_,gA hlt⟩
  have hlen:(handles p (xs.take j)).length<=1000:=by
   unfold handles;rw[hS_];exact Nat.le_trans (List.length_filter_le _ _) (by rw[gN];omega)
  refine S4r.r_ldG hA.up.up H hx rfl hlt ?_;refine r_new H λbx w2 S2 H2=>?_;rw[Zqy] at H2;refine r_stA 0 H2 (vs:=cellsL x) rfl (Nat.le_refl 5) rfl rfl λw3 S3 H3=>?_;replace H3:Holds w3 (blk bx tLv (cellsL x)::SL nv 3 v (handles p (xs.take j))::TbP b jo last (.slice o xs.length c)::L):=H3;refine r_ldA 0 H3 (cellsL x) rfl rfl rfl ?_;refine hf x (mem_of_getElem? hx) (M:=[_,_,_]) H3 λw4 S4 H4=>?_;replace H4:Holds w4 (blk bx tLv (cellsL x)::SL nv 3 v (handles p (xs.take j))::TbP b jo last (.slice o xs.length c)::L):=H4;have hS:=((S.trans S2).trans S3).trans S4;have ht:=Zkl (p:=p) hx
  cases hb:p x with
  |true=>
   rw[hb,if_pos rfl] at ht;refine r_vt (r_fo (r_ld 0 H4 (v:=nv x.hd) rfl rfl ?_));refine Zma H4.drop 0 rfl x.hd (λ_=>rfl) (by omega) λv5 w5 S5 H5=>?_;rw[<-ht] at H5;refine Za1 (by omega) (r_ke ⟨⟨j+1,by omega,rfl,hS.trans S5,H5⟩,?_⟩);simp[nv,intOf];omega
  |false=>
   rw[hb,if_neg (by decide),gU] at ht;refine r_vf (Za1 (by omega) (r_ke ⟨⟨j+1,by omega,rfl,hS,?_⟩,?_⟩))
   ·rw[ht];exact H4.drop
   simp[nv,intOf];omega
 ·obtain rfl:j=xs.length:=by omega
  rw[hF_] at H;exact k v w1 S H
theorem Add_spec {cn id tn nd:Nat}{v:Value}(H:Holds w (TbP b jo last v::RW cellsL 5 tLv v xs::L)) (hl:xs.length<=999) (hne:xs.length≠jo) (hla:last<=1000000)
  (hf:placeL (λx=>x.cn==cn&&x.id==id) xs 0=none)
  (k:∀ v' w',Same w w'->Holds w' (TbP b jo (last+1) v'::RW cellsL 5 tLv v' (xs++[⟨cn,id,tn,nd,last+1⟩])::L)->K (.tuple #[nv (last+1),iv 0]) w') :
  Cl prog 180 #[ptr b,.agg #[nv cn,nv id,nv tn,nv nd]] w K:=by
 obtain⟨o,m,sp,rfl,_⟩:=H.openRW 1 rfl;generalize hc:xs.length+m=c at H;refine Tz180 ?_;unfold Vz180;refine r_new H λbe w1 S1 H1=>?_;have H2:Holds w1 (TbP b jo last (.slice o xs.length c)::blk be tEy [nv cn,nv id,nv tn,nv nd]::RW cellsL 5 tLv (.slice o xs.length c) xs::L):=H1.front 1 rfl
 repeat (first|refine r_fo0 ?_|(with_reducible first|refine Za2 ?_|refine r_vf ?_))
 refine r_ld 1 H2 (v:=nv cn) rfl rfl (r_fo (r_ld 1 H2 (v:=nv id) rfl rfl ?_));refine Find_spec H2 (S4r.InG.own 1 rfl λ_=>rfl) (by omega) (λi x w3 h=>by rw[hf] at h;cases h) λw3 _ S3 H3=>?_;refine Za4 (Za3 (r_eql (r_vfE (by decide) ?_)));refine r_dr H3 λw4 S4 H4=>?_;refine r_nc (r_fo (r_ld 0 H4 rfl rfl (r_lnl (r_nc (r_fo0 (r_ld 0 H4 (v:=nv jo) rfl rfl (r_eql (r_vfE (by omega) ?_))))))));refine r_nc (r_fo (r_ld 0 H4 (v:=nv last) rfl rfl (Za1 (by omega) (r_nc (r_fo ?_)))));refine r_st 0 H4 rfl (by simp) rfl λw5 S5 H5=>?_;replace H5:Holds w5 (TbP b jo (last+1) (.slice o xs.length c)::blk be tEy [nv cn,nv id,nv tn,nv nd]::RW cellsL 5 tLv (.slice o xs.length c) xs::L):=H5;refine r_dr H5 λw6 S6 H6=>?_;refine r_nc (r_fo (r_ld 0 H6 (v:=.slice o xs.length c) rfl rfl ?_));refine r_ldA 1 H6 [nv cn,nv id,nv tn,nv nd] rfl rfl rfl ?_;refine r_nc (r_fo (r_ld 0 H6 (v:=nv (last+1)) rfl rfl ?_));refine r_bd (v:=.agg (cellsL ⟨cn,id,tn,nd,last+1⟩).toArray) (by kernel_rfl) ?_;refine r_bsK (e:=tLv) (cellsL ⟨cn,id,tn,nd,last+1⟩) H6 (by kernel_rfl) λb7 w7 S7 H7=>?_;refine r_rk (r_ld 1 H7 rfl rfl rfl) ?_;refine r_apN (F:=cellsL) (ys:=[⟨cn,id,tn,nd,last+1⟩]) H7 3 0 rfl rfl (by decide) (by simp[flatL,cellsL]) rfl (λ_=>rfl) lv_sg (by simp;omega) (by simp) (by decide) λv' w8 S8 H8=>?_;obtain⟨o',m',sp',rfl,_⟩:=H8.openRW 3 rfl;refine r_nc (r_fo ?_);refine r_st 1 H8 rfl (by simp) rfl λw9 S9 H9=>?_;refine r_nc (r_fo (r_ld 1 H9 (v:=nv (last+1)) rfl rfl ?_));exact k _ w9 (((((((S1.trans S3).trans S4).trans S5).trans S6).trans S7).trans S8).trans S9) (Holds.dropAt H9.drop 1)
end A40
end Go.Proofs.YthkaggnihbkmeaaGreatDoor
namespace Go.Proofs.YthkaggnihbkmeaaGreatDoor
open Go Go.Vc Go.Proofs.Tryz
theorem Zob {α:Type}{F:α->List Value}{k:Nat}(hF:∀ x,(F x).length=k):∀ (xs:List α) (j:Nat) (x:α) (sp:List Value),j < xs.length->setL (flatL F xs++sp) (j*k) (F x)=flatL F (xs.set j x)++sp:=by
 intro xs j x sp hj;have hl:(flatL F xs).length=xs.length*k:=Zb9 hF xs
 have hjk:j*k+k<=xs.length*k:=by rw[<-Nat.succ_mul];exact Nat.mul_le_mul_right _ hj
 rw[Zfl _ _ _ (by rw[gD,hl,hF];omega),hF]
 have key:∀ (xs:List α) (j:Nat),j < xs.length->(flatL F xs++sp).take (j*k)++F x++(flatL F xs++sp).drop (j*k+k)=flatL F (xs.set j x)++sp:=by
  intro xs
  induction xs with
  |nil=>intro j hj;exact absurd hj (Nat.not_lt_zero _)
  |cons y r ih=>
   intro j hj
   cases j with
   |zero=>
    rw[Nat.zero_mul,List.take_zero,hO_,Nat.zero_add,gJ,flatL,flatL,gI (F y),drop_append_of_le_length (by rw[hF];exact Nat.le_refl _),drop_of_length_le (by rw[hF];exact Nat.le_refl _),hO_,gI (F x)]
   |succ j=>
    have:=ih j (by simpa using hj);rw[gW,flatL,flatL,gI (F y),gI (F y),<-this,show (j+1)*k=k+j*k by rw[Nat.add_mul];omega];rw[List.take_append,hF,gK (by rw[hF];omega),show k+j*k - k=j*k by omega,show k+j*k+k=k+(j*k+k) by omega,drop_append,hF,drop_of_length_le (by rw[hF];omega),hO_,show k+(j*k+k) - k=j*k+k by omega];simp only[gI]
 exact key xs j hj
theorem Zwi {size:Nat}{a:Option Addr}{n c l:Nat}{k:IntKind}{K:Value->Prop}(h1:l<=n) (h2:n<=c) (hK:K (.slice (if c=l then a else a.map (·.add (l*size))) (n - l) (c - l))) :
  Ssl size (.slice a n c) (some (.int k (l:Int))) none K:=⟨a,n,c,l,n,rfl,⟨k,rfl⟩,rfl,h1,h2,hK⟩
attribute [local irreducible] Vc.Nc Vc.Ld Vc.LdA Vc.St Vc.StA Vc.Fo Vc.Iaa Vc.Ias Vc.Ixs Vc.Ixa Vc.Fd Vc.FdA Vc.Bp Vc.Bb Vc.Bn Vc.Up Vc.Ci Vc.Lns Vc.Lnl Vc.Ex Vc.Sst Vc.Ssl Vc.New Vc.Vif Vc.VJoin Vc.VLoop Vc.KE Vc.Dr Vc.Rk Vc.Cl Vc.Cx Vc.Inv Vc.Be Vc.Cv Vc.Cw Vc.Mf Vc.Sl Vc.Lk Vc.Bd Vc.Bs Vc.Ms Vc.Mm Vc.Mu Vc.Me Vc.Es Vc.Rg Vc.Nx Vc.Ta Vc.Ap Vc.Usd Vc.Ust Vc.Cp Vc.Ln Vc.Bc Vc.Bmin Vc.Bmax Vc.Bdel Vc.Bclr Vc.Pk
namespace A40
open Go.M31 J31 J32 J34
variable {w:World}{L:List HProp}{K:KT}
theorem Zga {p:Lv->Bool}:∀ {xs:List Lv}{q i:Nat},placeL p xs q=some i->∃ x,xs[i - q]?=some x/\p x=true
 |[],q,i,h=>by cases h
 |y::r,q,i,h=>by
  rw[placeL] at h;split at h
  ·rename_i hy;cases h;exact⟨y,by simp,hy⟩
  ·obtain⟨x,h1,h2⟩:=Zga h;have:=(Zch h).1;refine⟨x,?_,h2⟩;rw[show i - q=(i - (q+1))+1 by omega,gF];exact h1
theorem Zsr {v fv:Value}{xs:List Lv}{p:Lv->Bool}{i:Nat}(H:Holds w (RW cellsL 5 tLv v xs::L)) (hl:xs.length<=1000) (hp:placeL p xs 0=some i) (hu:∀ (q:Nat) x,xs[q]?=some x->i < q->p x=false)
  (hf:∀ x∈xs,∀ {w:World} {M:List HProp} {K:KT},Holds w (M++L)->(∀ w',Same w w'->Holds w' (M++L)->K (.bool (p x)) w')->Inv prog (do let d <-Deferred.ofValue fv #[.agg (cellsL x).toArray];invoke d.target d.args) w K)
  (k:∀ v' w',Same w w'->Holds w' (RW cellsL 5 tLv v' (xs.eraseIdx i)::L)->K v' w'):Cl prog 193 #[v,fv] w K:=by
 have hlt:i < xs.length:=by have:=Zch hp;omega
 obtain⟨oa,m,sp,rfl,H0⟩:=H.openRW 0 rfl;obtain⟨b,rfl,hsp,Hb⟩:=H0.rwb 0 rfl (.inl (by omega));generalize hc:xs.length+m=c at H;refine Tz193 ?_;unfold Vz193;have hA:LvIn (RW cellsL 5 tLv (.slice (some ⟨b,0,none⟩) xs.length c) xs::L) (some ⟨b,0,none⟩) xs:=S4r.InG.own 0 rfl λ_=>rfl;refine Zca (p:=p) H hA hl (λx hx w3 K3 H3 k3=>hf x hx (M:=[_]) H3 k3) λw1 S1 H1=>?_;rw[hp];refine r_eql (r_vfE (by show ¬ ((i:Nat):Int)=-1;omega) (Za1 (by omega) ?_));obtain⟨oa2,m2,sp2,hv2,H2⟩:=H1.openRW 0 rfl
 obtain rfl:m2=m:=by cases hv2;omega
 obtain rfl:oa2=some ⟨b,0,none⟩:=by cases hv2;rfl
 obtain⟨b2,hb2,hsp2,H3⟩:=H2.rwb 0 rfl (.inl (by omega))
 obtain rfl:b2=b:=by cases hb2;rfl
 have hlen:(xs.eraseIdx i).length=xs.length - 1:=by rw[List.length_eraseIdx,if_pos hlt]
 have hyl:∀ q,q < xs.length->((xs.eraseIdx i).take q++xs.drop q).length=xs.length:=by
  intro q hq;rw[gD,gN,gS,hlen];omega
 have h0:(xs.eraseIdx i).take i++xs.drop i=xs:=by
  have:(xs.eraseIdx i).take i=xs.take i:=by
   rw[List.eraseIdx_eq_take_drop_succ,take_append_of_le_length (by rw[gN];omega),List.take_take,Nat.min_self]
  rw[this,List.take_append_drop]
 refine Zb1 (λx y w'=>∃ q:Nat,i<=q/\q+1<=xs.length/\x=nv q/\y=nv (q+1)/\Same w w'/\Holds w' (blk b2 tLv (flatL cellsL ((xs.eraseIdx i).take q++xs.drop q)++sp2)::L)) (λ_ y _=>xs.length - (intOf y).toNat) ⟨i,Nat.le_refl _,hlt,rfl,rfl,S1,by rw[h0];exact H3⟩ ?_;clear H H0 Hb H1 H2 H3 S1;rintro _ _ _ w4 ⟨q,hiq,hq,rfl,rfl,S,H⟩;refine r_lnl (r_lss (r_ifD (λh=>?_) λh=>?_))
 ·have hlt2:q+1 < xs.length:=by omega
  obtain⟨x,hx⟩:∃ x,xs[q+1]?=some x:=⟨_,gA hlt2⟩
  have hy:((xs.eraseIdx i).take q++xs.drop q)[q+1]?=some x:=by
   rw[gT (by rw[gN];omega),gN,hlen,show min q (xs.length - 1)=q by omega,hH_,show q+(q+1 - q)=q+1 by omega];exact hx
  have hg:=Zdb (F:=cellsL) (k:=5) (λ_=>rfl) _ _ _ hy;have hfl:=Zb9 (F:=cellsL) (k:=5) (λ_=>rfl) ((xs.eraseIdx i).take q++xs.drop q);rw[hyl q (by omega)] at hfl;refine Zg2 hlt2 ?_;refine r_ldA 0 H (cellsL x) rfl ?_ rfl ?_
  ·rw[drop_append_of_le_length (by omega),take_append_of_le_length (by rw[gS];omega)];exact hg
  refine r_new H λvb w5 S5 H5=>?_;rw[Zqy] at H5;refine r_stA 0 H5 (vs:=cellsL x) rfl (Nat.le_refl 5) rfl rfl λw6 S6 H6=>?_;replace H6:Holds w6 (blk vb tLv (cellsL x)::blk b2 tLv (flatL cellsL ((xs.eraseIdx i).take q++xs.drop q)++sp2)::L):=H6;refine r_ldA 0 H6 (cellsL x) rfl rfl rfl ?_;refine hf x (mem_of_getElem? hx) (M:=[_,_]) H6 λw7 S7 H7=>?_;rw[hu (q+1) x hx (by omega)];refine r_not (r_vt ?_);replace H7:Holds w7 (blk vb tLv (cellsL x)::blk b2 tLv (flatL cellsL ((xs.eraseIdx i).take q++xs.drop q)++sp2)::L):=H7;refine r_ldA 0 H7 (cellsL x) rfl rfl rfl ?_;refine Zg2 (by omega) ?_;refine r_stA 1 H7 (vs:=cellsL x) rfl (by rw[gD,hfl];omega) rfl rfl λw8 S8 H8=>?_;rw[Zob (F:=cellsL) (k:=5) (λ_=>rfl) _ q x sp2 (by rw[hyl q (by omega)];omega)] at H8
  have he:((xs.eraseIdx i).take q++xs.drop q).set q x=(xs.eraseIdx i).take (q+1)++xs.drop (q+1):=by
   have e1:(xs.eraseIdx i)[q]?=some x:=by
    rw[List.getElem?_eraseIdx_of_ge hiq];exact hx
   rw[List.set_append_right _ _ (by rw[gN];omega),gN,hlen,show q - min q (xs.length - 1)=0 by omega,gO,e1];rw[drop_eq_getElem_cons (show q < xs.length by omega),gJ];simp
  rw[he] at H8;refine Za1 (by omega) (Za1 (by omega) (r_ke ⟨⟨q+1,by omega,by omega,rfl,rfl,S.trans (S5.trans (S6.trans (S7.trans S8))),H8.drop⟩,?_⟩));simp only[intOf,gC];omega
 ·obtain rfl:q=xs.length - 1:=by omega
  have hT:(xs.eraseIdx i).take (xs.length - 1)=xs.eraseIdx i:=gK (by omega)
  obtain⟨z,hz⟩:∃ z,xs.drop (xs.length - 1)=[z]:=by
   have:(xs.drop (xs.length - 1)).length=1:=by rw[gS];omega
   match hd:xs.drop (xs.length - 1),this with
   |[z],_=>exact⟨z,rfl⟩
  rw[hT,hz] at H;have hfl:=Zb9 (F:=cellsL) (k:=5) (λ_=>rfl) (xs.eraseIdx i);rw[hlen] at hfl
  have hfz:flatL cellsL (xs.eraseIdx i++[z])=flatL cellsL (xs.eraseIdx i)++cellsL z:=by
   have:∀ (ys:List Lv),flatL cellsL (ys++[z])=flatL cellsL ys++cellsL z:=by
    intro ys
    induction ys with
    |nil=>simp[flatL]
    |cons y r ih=>rw[List.cons_append,flatL,flatL,ih,gI]
   exact this _
  have hcl:c=xs.length+m2:=hc.symm;refine Zwi (by omega) (by omega) ?_
  have hne:¬ c=xs.length - 1:=by omega
  rw[if_neg hne]
  have ea:(some (⟨b2,0,none⟩:Addr)).map (·.add ((xs.length - 1)*5))=some ⟨b2,(xs.length - 1)*5,none⟩:=by
   show some _=some _
   congr 1
   unfold Addr.add;split
   ·rename_i h;rw[h]
   ·simp
  rw[ea];refine Zwp (t:=126) (e:=tLv) (z:=.agg (cellsL lv0).toArray) (zs:=cellsL lv0) 0 H rfl (by kernel_rfl) (by kernel_rfl) (by rw[show xs.length - (xs.length - 1)=1 by omega];kernel_rfl) (by omega) (by rw[hfz,gD,gD,hfl];show (xs.length - 1)*5+5<=(xs.length - 1)*5+5+_;omega) rfl λw5 S5 H5=>?_;refine Zmd (by omega) ?_;refine k _ w5 (S.trans S5) ?_
  have e5:setL (flatL cellsL (xs.eraseIdx i++[z])++sp2) ((xs.length - 1)*5) (cellsL lv0)=flatL cellsL (xs.eraseIdx i)++(cellsL lv0++sp2):=by
   rw[hfz,Zfl _ _ _ (by rw[gD,gD,hfl];show (xs.length - 1)*5+5<=(xs.length - 1)*5+5+_;omega)];rw[gI (flatL cellsL (xs.eraseIdx i)),take_append_of_le_length (by omega),gK (by omega),drop_append,drop_of_length_le (by omega),hfl,hO_];rw[show (xs.length - 1)*5+(cellsL lv0).length - (xs.length - 1)*5=5 by show (xs.length - 1)*5+5 - (xs.length - 1)*5=5;omega];rw[drop_append,drop_of_length_le (Nat.le_refl 5),hO_];show flatL cellsL (xs.eraseIdx i)++cellsL lv0++List.drop 0 sp2=_;rw[drop_zero,gI]
  rw[gJ,e5] at H5;refine Holds.imp H5 λg hg=>⟨some ⟨b2,0,none⟩,m2+1,cellsL lv0++sp2,?_,rfl,rfl,?_,hg⟩
  ·rw[hlen]
   congr 1
   omega
  ·rw[gD,hsp2];show 5+m2*5=(m2+1)*5;omega
def TabR (b jo last:Nat) (xs:List Lv):HProp:=λh=>∃ o c,Sat [TbP b jo last (.slice o xs.length c),RW cellsL 5 tLv (.slice o xs.length c) xs] h
variable {b jo last:Nat}{xs:List Lv}
theorem Zcf (H:Holds w L){j:Nat}(hj:L[j]?=some (TabR b jo last xs)):∃ o c,Holds w (TbP b jo last (.slice o xs.length c)::RW cellsL 5 tLv (.slice o xs.length c) xs::L.eraseIdx j):=by
 obtain⟨o,H1⟩:=Holds.ex (H.front j hj);obtain⟨c,H1⟩:=Holds.ex H1;exact⟨o,c,Holds.unpack (A:=[_,_]) H1⟩
theorem Zcd {Q:HProp}{j:Nat}{v:Value}(hj:L[j]?=some Q) (H:Holds w (TbP b jo last v::RW cellsL 5 tLv v xs::L.eraseIdx j)):Holds w (L.set j (TabR b jo last xs)):=by
 obtain⟨o,m,sp,rfl,_⟩:=H.openRW 1 rfl;exact Sat.push j hj (Holds.imp (Holds.pack (A:=[_,_]) H) λh hh=>⟨o,_,hh⟩)
theorem Zw3 {j cn id:Nat}(H:Holds w L) (hj:L[j]?=some (TabR b jo last xs)) (hl:xs.length<=1000)
  (k1:∀ i x w',placeL (λx=>x.cn==cn&&x.id==id) xs 0=some i->xs[i]?=some x->Same w w'->Holds w' L->K (.tuple #[nv x.hd,iv 0]) w')
  (k2:∀ w',placeL (λx=>x.cn==cn&&x.id==id) xs 0=none->Same w w'->Holds w' L->K (.tuple #[iv 0,iv 6]) w'):Cl prog 181 #[ptr b,nv cn,nv id] w K:=by
 obtain⟨o,c,H1⟩:=Zcf H hj
 have back:∀ w',Holds w' (TbP b jo last (.slice o xs.length c)::RW cellsL 5 tLv (.slice o xs.length c) xs::L.eraseIdx j)->Holds w' L:=λw' h=>by
  have:=Zcd hj h;rw[Zcb hj] at this;exact this
 exact Find_spec H1 (S4r.InG.own 0 rfl λ_=>rfl) hl (λi x w' h1 h2 S2 H2=>k1 i x w' h1 h2 S2 (back w' H2)) λw' h1 S2 H2=>k2 w' h1 S2 (back w' H2)
theorem Zwk {j h i:Nat}{x:Lv}(H:Holds w L) (hj:L[j]?=some (TabR b jo last xs)) (hl:xs.length<=1000) (hp:placeL (λx=>x.hd==h) xs 0=some i) (hx:xs[i]?=some x)
  (k:∀ w',Same w w'->Holds w' L->K (.tuple #[.agg (cellsY x).toArray,iv 0]) w'):Cl prog 55 #[ptr b,nv h] w K:=by
 obtain⟨o,c,H1⟩:=Zcf H hj;refine Zn1 H1 (S4r.InG.own 0 rfl λ_=>rfl) hl hp hx λw' S2 H2=>?_;have:=Zcd hj H2;rw[Zcb hj] at this;exact k w' S2 this
theorem Zwf {j:Nat}(H:Holds w L) (hj:L[j]?=some (TabR b jo last xs)) (k:K (nv xs.length) w):Cl prog 210 #[ptr b] w K:=by
 obtain⟨o,c,H1⟩:=Zcf H hj;exact Len_spec H1 k
theorem By_at {j t:Nat}(H:Holds w L) (hj:L[j]?=some (TabR b jo last xs)) (hl:xs.length<=1000) (k:∀ o c w',Same w w'->Holds w' L->K (.slice o (handles (λx=>x.tn==t) xs).length c) w'):Cl prog 50 #[ptr b,nv t] w K:=by
 obtain⟨o,c,H1⟩:=Zcf H hj;refine Tz50 ?_;unfold Vz50;refine r_new H1 λbt w1 S1 H2=>?_;replace H2:Holds w1 (blk bt 3 [nv t]::TbP b jo last (.slice o xs.length c)::RW cellsL 5 tLv (.slice o xs.length c) xs::L.eraseIdx j):=H2;refine r_mf (.func (.func 94) #[] #[ptr bt]) (by kernel_rfl) ?_;have H3:Holds w1 (TbP b jo last (.slice o xs.length c)::RW cellsL 5 tLv (.slice o xs.length c) xs::blk bt 3 [nv t]::L.eraseIdx j):=(by have h_:=Holds.ord 3 [1,2,0] H2 rfl;exact h_);refine Zs7 (p:=λx=>x.tn==t) H3 (S4r.InG.own 0 rfl λ_=>rfl) hl (λx hx w2 M K3 H4 k3=>?_) λv w2 S2 H4=>?_
 ·refine r_inv (f:=94) (args:=#[.agg (cellsL x).toArray,ptr bt]) (by kernel_rfl) ?_;refine Tz94 ?_;unfold Vz94;refine r_new H4 λbx w4 S4 H5=>?_;replace H5:Holds w4 (blk bx tLv (cellsL x)::(M++(RW cellsL 5 tLv (.slice o xs.length c) xs::blk bt 3 [nv t]::L.eraseIdx j))):=H5;refine r_fo0 (r_fo0 (r_ld 0 H5 rfl rfl ?_));refine r_ld (M.length+2) H5 (t:=3) (cs:=[nv t]) ?_ rfl ?_
  ·rw[gF,gT (by omega),show M.length+1 - M.length=1 by omega];rfl
  refine r_eql ?_;have:=k3 _ S4 H5.drop;rw[show (x.tn==t)=(((x.tn:Nat):Int)==((t:Nat):Int)) by rw[Bool.eq_iff_iff];simp;omega] at this;exact this
 ·obtain⟨o4,sp4,rfl,_⟩:=H4.open 0 rfl;have H5:=Zcd hj ((by have h_:=Holds.ord 4 [1,2] H4 rfl;exact h_):Holds w2 (TbP b jo last (.slice o xs.length c)::RW cellsL 5 tLv (.slice o xs.length c) xs::L.eraseIdx j));rw[Zcb hj] at H5;exact k o4 _ w2 (S1.trans S2) H5
theorem Zx3 {j cn id tn nd:Nat}(H:Holds w L) (hj:L[j]?=some (TabR b jo last xs)) (hl:xs.length<=999) (hne:xs.length≠jo) (hla:last<=1000000)
  (hf:placeL (λx=>x.cn==cn&&x.id==id) xs 0=none)
  (k:∀ w',Same w w'->Holds w' (L.set j (TabR b jo (last+1) (xs++[⟨cn,id,tn,nd,last+1⟩])))->K (.tuple #[nv (last+1),iv 0]) w') :
  Cl prog 180 #[ptr b,.agg #[nv cn,nv id,nv tn,nv nd]] w K:=by
 obtain⟨o,c,H1⟩:=Zcf H hj;exact Add_spec H1 hl hne hla hf λv' w' S2 H2=>k w' S2 (Zcd hj H2)
theorem Zvl {j h i:Nat}{x:Lv}(H:Holds w L) (hj:L[j]?=some (TabR b jo last xs)) (hl:xs.length<=1000) (hp:placeL (λx=>x.hd==h) xs 0=some i) (hx:xs[i]?=some x) (hu:∀ (q:Nat) y,xs[q]?=some y->i < q->y.hd≠h)
  (k:∀ w',Same w w'->Holds w' (L.set j (TabR b jo last (xs.eraseIdx i)))->K (.tuple #[.agg (cellsY x).toArray,iv 0]) w'):Cl prog 157 #[ptr b,nv h] w K:=by
 obtain⟨o,c,H1⟩:=Zcf H hj
 have hlt:i < xs.length:=by have:=Zch hp;omega
 refine Tz157 ?_;unfold Vz157;refine r_new H1 λbh w1 S1 H2=>?_;replace H2:Holds w1 (blk bh 3 [nv h]::TbP b jo last (.slice o xs.length c)::RW cellsL 5 tLv (.slice o xs.length c) xs::L.eraseIdx j):=H2;refine r_new H2 λxb w2 S2 H3=>?_;rw[Zg1] at H3;refine r_ld 1 H3 rfl rfl ?_;have H4:Holds w2 (TbP b jo last (.slice o xs.length c)::RW cellsL 5 tLv (.slice o xs.length c) xs::blk xb tEy (cellsY lv0)::blk bh 3 [nv h]::L.eraseIdx j):=(by have h_:=Holds.ord 4 [2,3,0,1] H3 rfl;exact h_);refine Zn1 H4 (S4r.InG.own 0 rfl λ_=>rfl) hl hp hx λw3 S3 H5=>?_;refine Za4 (Za3 ?_);refine r_new H5 λeb w4 S4 H6=>?_;rw[Zg1] at H6;refine r_stA 0 H6 (vs:=cellsY x) rfl (Nat.le_refl 4) rfl rfl λw5 S5 H7=>?_;replace H7:Holds w5 (blk eb tEy (cellsY x)::TbP b jo last (.slice o xs.length c)::RW cellsL 5 tLv (.slice o xs.length c) xs::blk xb tEy (cellsY lv0)::blk bh 3 [nv h]::L.eraseIdx j):=H7;refine r_eql (r_vtE rfl (r_nc (r_fo0 (r_ld 1 H7 rfl rfl ?_))));have S:=S1.trans (S2.trans (S3.trans (S4.trans S5)));clear S1 S2 S3 S4 S5 H1 H2 H3 H4 H5 H6
 refine r_cl (K:=λv w'=>Same w w'/\Holds w' (RW cellsL 5 tLv v xs::blk eb tEy (cellsY x)::TbP b jo last (.slice o xs.length c)::RW cellsL 5 tLv (.slice o xs.length c) xs::blk xb tEy (cellsY lv0)::blk bh 3 [nv h]::L.eraseIdx j)) ?_ ?_
 ·refine Tz194 ?_;unfold Vz194;have hA:LvIn (blk eb tEy (cellsY x)::TbP b jo last (.slice o xs.length c)::RW cellsL 5 tLv (.slice o xs.length c) xs::blk xb tEy (cellsY lv0)::blk bh 3 [nv h]::L.eraseIdx j) o xs:=S4r.InG.own 2 rfl λ_=>rfl;obtain⟨p,rfl,_⟩:=hA w5 H7 i x hx;refine r_be (v:=.bool false) (by kernel_rfl) (r_vf ?_);refine r_bsK (e:=tLv) [] H7 (by kernel_rfl) λbz w6 S6 H8=>?_;refine r_apG (F:=cellsL) (k:=5) (e:=tLv) H8 hA.up (λ_=>rfl) (by omega) hl λv w7 S7 H9=>?_;exact⟨S.trans (S6.trans S7),Holds.dropAt H9 1⟩
 rintro v w6 ⟨S,H8⟩;refine r_mf (.func (.func 195) #[] #[ptr bh]) (by kernel_rfl) ?_;refine Zsr (p:=λx=>x.hd==h) H8 hl hp (λq y hy hq=>by simpa using hu q y hy hq) (λy hy w7 M K3 H9 k3=>?_) λv' w7 S7 H9=>?_
 ·refine r_inv (f:=195) (args:=#[.agg (cellsL y).toArray,ptr bh]) (by kernel_rfl) ?_;refine Tz195 ?_;unfold Vz195;refine r_new H9 λbx w8 S8 H10=>?_;refine r_fo0 (r_ld 0 H10 (t:=tLv) (cs:=cellsL y) rfl rfl ?_);refine r_ld (M.length+1+4) H10 (t:=3) (cs:=[nv h]) ?_ rfl ?_
  ·rw[show M.length+1+4=(M.length+4)+1 by omega,gF,gT (by omega),show M.length+4 - M.length=4 by omega];rfl
  refine r_eql ?_;have:=k3 _ S8 H10.drop;rw[show (y.hd==h)=(((y.hd:Nat):Int)==((h:Nat):Int)) by rw[Bool.eq_iff_iff];simp;omega] at this;exact this
 ·refine r_nc (r_fo0 ?_)
  have hsg:sg v'=true:=by
   obtain⟨o4,m4,sp4,rfl,_⟩:=H9.openRW 0 rfl;rfl
  refine r_st 2 H9 rfl (by simp) hsg λw8 S8 H10=>?_;replace H10:Holds w8 (RW cellsL 5 tLv v' (xs.eraseIdx i)::blk eb tEy (cellsY x)::TbP b jo last v'::RW cellsL 5 tLv (.slice o xs.length c) xs::blk xb tEy (cellsY lv0)::blk bh 3 [nv h]::L.eraseIdx j):=H10;refine r_ldA 1 H10 (cellsY x) rfl rfl rfl ?_;refine r_stA 4 H10 (vs:=cellsY x) rfl (Nat.le_refl 4) rfl rfl λw9 S9 H11=>?_;refine r_ldA 4 H11 (cellsY x) rfl rfl rfl ?_;exact k w9 (S.trans (S7.trans (S8.trans S9))) (Zcd hj ((by have h_:=Holds.ord 6 [2,0] H11 rfl;exact h_):Holds w9 (TbP b jo last v'::RW cellsL 5 tLv v' (xs.eraseIdx i)::L.eraseIdx j)))
end A40
end Go.Proofs.YthkaggnihbkmeaaGreatDoor
namespace Go.Proofs.YthkaggnihbkmeaaGreatDoor
open Go Go.Vc Go.Proofs.Tryz
theorem r_ms0 {α:Type}{P:Program}{w:World}{L:List HProp}{t e:TypeId}{z:Value} [hr:Row P t e z] (H:Holds w L){f:α->Value}{x:α}(hz:z=f x){k k':IntKind}{n:Nat}{K:KT}(h1:n<=1099511627776)
  (h:∀ b w',Same w w'->Holds w' (slb f e (some ⟨b,0,none⟩) [] (List.replicate n (f x))::L)->K (.slice (some ⟨b,0,none⟩) 0 n) w'):Ms P t (.int k 0) (.int k' (n:Int)) w K:=by
 obtain⟨i,hi,hsz,hby,hzz⟩:=hr.inf
 have hrun:=run_make (P:=P) w t e i z hr.und hi hzz k k' 0 (n:Int) (Int.le_refl _) (by omega) (by
  have:(i.bytes:Int)*n<=32*n:=Int.mul_le_mul_of_nonneg_right (by omega) (by omega)
  omega) (by omega)
 refine⟨_,_,hrun,h _ _ (.alloc _ _) ?_⟩
 have hc:madeCells z.cells ((n:Int).toNat*i.size)=(List.replicate n (f x)).toArray:=by
  rw[hsz,Nat.mul_one,hr.one];apply Array.ext
  ·simp[madeCells]
  ·intro j h1 h2;simp[madeCells,hz,Nat.mod_one]
 have:=H.alloc (.cells (madeCells z.cells ((n:Int).toNat*i.size)) e);rw[hc] at this ⊢;refine Holds.imp this λg hg=>⟨rfl,rfl,?_⟩;exact hg
theorem Zxe {size:Nat}{a:Option Addr}{n c l:Nat}{k:IntKind}{K:Value->Prop}(h1:l<=n) (h2:n<=c) (hK:K (.slice (if c=l then a else a.map (·.add (l*size))) (n - l) (c - l))) :
  Ssl size (.slice a n c) (some (.int k (l:Int))) none K:=⟨a,n,c,l,n,rfl,⟨k,rfl⟩,rfl,h1,h2,hK⟩
theorem r_apZ {P:Program}{w:World}{t e ty:TypeId}{z:Value} [hr:Row P t e z] {oa b:Option Addr}{l c c':Nat}{K:KT}(hlc:l<=c) (h:K (.slice oa l c) w):Ap P #[t,t] ty #[.slice oa l c,.slice b 0 c'] w K:=by
 obtain⟨inf,hinf,hsz,hby,hzz⟩:=hr.inf
 have hsrc:Src P inf.size t (.slice b 0 c') 0 [] w:=by
  cases b with
  |none=>exact Src.ofNil w hr.und c'
  |some p=>exact Src.ofSlice w hr.und p 0 c' [] (by simp) (λj u hu=>by simp at hu) (λ_ h=>by cases h)
 exact⟨_,_,run_append_nothing w t t ty e inf hr.und hinf oa _ _ hlc _ hsrc,h⟩
theorem r_apP {α:Type}{P:Program}{w:World}{L:List HProp}{t e ty:TypeId}{z:Value} [hr:Row P t e z] (H:Holds w L) (i j:Nat){f:α->Value}{oa:Option Addr}{xs ys:List α}{sp:List Value}{l c m c' b2 o2:Nat}{cs:List Value}{K:KT}
  (hi:L[i]?=some (slb f e oa xs sp)) (hj:L[j]?=some (blk b2 e cs)) (hcs:(cs.drop o2).take m=ys.map f) (hm:m=ys.length) (hl:l=xs.length) (hc:c=xs.length+sp.length) (hs:∀ y,sg (f y)=true)
  (hn:xs.length+ys.length<=1099511627776)
  (h:∀ oa' sp' w',Same w w'->Holds w' (L.set i (slb f e oa' (xs++ys) sp'))->K (.slice oa' (xs.length+ys.length) (xs.length+ys.length+sp'.length)) w') :
  Ap P #[t,t] ty #[.slice oa l c,.slice (some ⟨b2,o2,none⟩) m c'] w K:=by
 by_cases h0:ys=[]
 ·subst h0;subst hm hl hc;refine r_apZ (by omega) ?_
  have:=h oa sp w (.refl _) (by
   rw[gU,show L.set i (slb f e oa xs sp)=L from by
    have e1:L[i]'(gH.1 hi).1=_:=(gH.1 hi).2
    rw[<-e1,List.set_getElem_self]]
   exact H)
  exact this
 ·exact r_apO H i j hi hj hcs hm hl hc hs hn (List.length_pos_iff.2 h0) h
attribute [local irreducible] Vc.Nc Vc.Ld Vc.LdA Vc.St Vc.StA Vc.Fo Vc.Iaa Vc.Ias Vc.Ixs Vc.Ixa Vc.Fd Vc.FdA Vc.Bp Vc.Bb Vc.Bn Vc.Up Vc.Ci Vc.Lns Vc.Lnl Vc.Ex Vc.Sst Vc.Ssl Vc.New Vc.Vif Vc.VJoin Vc.VLoop Vc.KE Vc.Dr Vc.Rk Vc.Cl Vc.Cx Vc.Inv Vc.Be Vc.Cv Vc.Cw Vc.Mf Vc.Sl Vc.Lk Vc.Bd Vc.Bs Vc.Ms Vc.Mm Vc.Mu Vc.Me Vc.Es Vc.Rg Vc.Nx Vc.Ta Vc.Ap Vc.Usd Vc.Ust Vc.Cp Vc.Ln Vc.Bc Vc.Bmin Vc.Bmax Vc.Bdel Vc.Bclr Vc.Pk
namespace Q40
open J31 J32 J34
variable {w:World}{L:List HProp}{K:KT}
abbrev tQu:Nat:=224
abbrev tI:Nat:=3
abbrev ptr (b:Nat):Value:=.pointer (some ⟨b,0,none⟩)
instance rowI:Row prog 66 3 (.int .i64 0):=⟨by kernel_rfl,⟨t3,by kernel_rfl,by kernel_rfl,by decide,by kernel_rfl⟩,rfl⟩
abbrev cN (n:Nat):List Value:=[nv n]
abbrev NsIn:=S4r.InG cN 1
def placeN (n:Nat):List Nat->Nat->Option Nat
 |[],_=>none
 |x::r,i=>if n=x then some i else placeN n r (i+1)
theorem Zlk {n:Nat}{xs:List Nat}{j x:Nat}(h:xs[j]?=some x):placeN n (xs.drop j) j=if n=x then some j else placeN n (xs.drop (j+1)) (j+1):=by
 obtain⟨hj,e⟩:=gH.1 h;rw[drop_eq_getElem_cons hj,e];rfl
theorem Zcw {n:Nat}:∀ {xs:List Nat}{i:Nat},n∉xs->placeN n xs i=none
 |[],_,_=>rfl
 |x::r,i,h=>by
  rw[placeN,if_neg (λe=>h (by simp[e]))];exact Zcw λg=>h (by simp[g])
theorem Zcp {n:Nat}:∀ {xs:List Nat}{i:Nat},n∈xs->∃ j,placeN n xs i=some (i+j)/\xs[j]?=some n/\∀ q,q < j->xs[q]?≠some n
 |x::r,i,h=>by
  rw[placeN]
  by_cases e:n=x
  ·subst e;exact⟨0,by rw[if_pos rfl];rfl,rfl,λq hq=>absurd hq (Nat.not_lt_zero _)⟩
  ·rw[if_neg e];obtain⟨j,h1,h2,h3⟩:=Zcp (i:=i+1) ((mem_cons.1 h).resolve_left e);refine⟨j+1,by rw[h1];congr 1;omega,h2,λq hq=>?_⟩
   cases q with
   |zero=>intro g;exact e (Option.some.inj g).symm
   |succ q=>exact h3 q (by omega)
theorem Zg9 {n:Nat}:∀ {q:List Nat}{i j:Nat},placeN n q i=some (i+j)->q.eraseIdx j=q.erase n
 |[],_,_,h=>by cases h
 |x::r,i,j,h=>by
  rw[placeN] at h
  by_cases e:n=x
  ·subst e;rw[if_pos rfl] at h;have:=Option.some.inj h
   obtain rfl:j=0:=by omega
   simp
  ·rw[if_neg e] at h
   cases j with
   |zero=>
    exfalso
    by_cases hr:n∈r
    ·obtain⟨q,h1,_⟩:=Zcp (i:=i+1) hr;rw[h1] at h;have:=Option.some.inj h;omega
    ·rw[Zcw hr] at h;cases h
   |succ j=>
    have:=Zg9 (q:=r) (i:=i+1) (j:=j) (by rw[h];congr 1;omega);rw[List.eraseIdx_cons_succ,this,List.erase_cons_tail];simp;omega
def optI:Option Nat->Int
 |some i=>(i:Int)
 |none=>-1
theorem Zhd {o:Option Addr}{c n:Nat}{xs:List Nat}(H:Holds w L) (hA:NsIn L o xs) (hl:xs.length<=1000000) (k:K (iv (optI (placeN n xs 0))) w):Cl prog 187 #[.slice o xs.length c,nv n] w K:=by
 refine Tz187 ?_;unfold Vz187;refine r_lnl ?_;refine Zat (λx w'=>∃ j:Nat,j<=xs.length/\x=nv j/\placeN n xs 0=placeN n (xs.drop j) j/\w=w') (λx _=>xs.length - (intOf x).toNat) ⟨0,by omega,rfl,rfl,rfl⟩ ?_;rintro _ _ _ ⟨j,hj,rfl,hp,rfl⟩;refine r_lss (r_ifD (λh=>?_) λh=>?_)
 ·have hlt:j < xs.length:=by omega
  obtain⟨x,hx⟩:∃ x,xs[j]?=some x:=⟨_,gA hlt⟩;obtain⟨p,rfl,hc⟩:=hA w H _ _ hx;refine Zcj hlt (r_ldP (hc 0 (nv x) rfl) (r_eql ?_));rw[Zlk hx] at hp
  by_cases e:n=x
  ·rw[if_pos e] at hp;rw[hp] at k;exact r_vtE (by rw[e]) k
  ·rw[if_neg e] at hp;refine r_vfE (by omega) (Za1 (by omega) (r_ke ⟨⟨j+1,by omega,rfl,hp,rfl⟩,?_⟩));simp[nv,intOf];omega
 ·obtain rfl:j=xs.length:=by omega
  rw[drop_length] at hp;rw[hp] at k;exact k
variable {b lim:Nat}{v:Value}{q:List Nat}
abbrev QuP (b lim:Nat) (v:Value):HProp:=blk b tQu [nv lim,v]
theorem Zn5 {n:Nat}(H:Holds w (QuP b lim v::SL nv tI v q::L)) (hl:q.length<=1000000) (k:K (.bool (decide (n∈q))) w):Cl prog 198 #[ptr b,nv n] w K:=by
 obtain⟨o,sp,rfl,_⟩:=H.open 1 rfl;refine Tz198 ?_;unfold Vz198
 repeat (first|refine r_nc ?_|refine r_fo0 ?_|(with_reducible first|refine Zag ?_|refine r_vt ?_)|refine r_ld 0 H rfl rfl ?_)
 refine Tz216 ?_;unfold Vz216;refine Zhd H (S4r.SLIn (F:=cN) id 1 rfl (by simp) λ_=>rfl) hl ?_;refine r_geq ?_
 have:decide ((0:Int)<=optI (placeN n q 0))=decide (n∈q):=by
  by_cases h:n∈q
  ·obtain⟨j,h1,_⟩:=Zcp (i:=0) h;rw[h1,decide_eq_true h];exact decide_eq_true (show (0:Int)<=((0+j:Nat):Int) by omega)
  ·rw[Zcw h,decide_eq_false h];exact decide_eq_false (by decide)
 rw[this];exact k
theorem Len_spec (H:Holds w (QuP b lim v::SL nv tI v q::L)) (k:K (nv q.length) w):Cl prog 96 #[ptr b] w K:=by
 obtain⟨o,sp,rfl,_⟩:=H.open 1 rfl;refine Tz96 ?_;unfold Vz96
 repeat (first|refine r_nc ?_|refine r_fo0 ?_|refine r_lnl ?_|(with_reducible first|refine Za2 ?_|refine r_vf ?_)|refine r_ld 0 H rfl rfl ?_)
 exact k
theorem Zjs {n:Nat}(H:Holds w (QuP b lim v::SL nv tI v q::L)) (hl:q.length<=1000) (hlim:1000 < lim) (k:∀ v' w',Same w w'->Holds w' (QuP b lim v'::SL nv tI v' (q++[n])::L)->n∉q->K (iv 0) w')
  (k2:n∈q->K (iv 8) w):Cl prog 161 #[ptr b,nv n] w K:=by
 refine Tz161 ?_;unfold Vz161
 repeat (first|(with_reducible first|refine Za2 ?_|refine r_vf ?_))
 refine Zn5 H (by omega) ?_
 by_cases h:n∈q
 ·rw[decide_eq_true h];exact r_vt (k2 h)
 rw[decide_eq_false h];refine r_vf (r_dr H λw1 S1 H1=>?_);obtain⟨o,sp,rfl,_⟩:=H1.open 1 rfl;refine r_nc (r_fo (r_ld 0 H1 rfl rfl (r_lnl (r_nc (r_fo0 (r_ld 0 H1 (v:=nv lim) rfl rfl (r_eql (r_vfE (by omega) ?_))))))));refine r_nc (r_fo (r_ld 0 H1 rfl rfl ?_));refine Zma H1 1 rfl n (λ_=>rfl) (by omega) λv' w2 S2 H2=>?_;obtain⟨o',sp',rfl,_⟩:=H2.open 1 rfl;refine r_nc (r_fo ?_);refine r_st 0 H2 rfl (by simp) rfl λw3 S3 H3=>?_;exact k _ w3 ((S1.trans S2).trans S3) H3 h
theorem Zkm {i:Nat}(H:Holds w (SL nv tI v q::L)) (ha:i < q.length) (hl:q.length<=1000000) (k:∀ v' w',Same w w'->Holds w' (SL nv tI v' (q.eraseIdx i)::L)->K v' w'):Cl prog 186 #[v,nv i] w K:=by
 obtain⟨oa,sp,rfl,H1⟩:=H.open 0 rfl
 cases oa with
 |none=>
  obtain⟨h,hh,_,_⟩:=H1.front 0 (Za6 (L:=SL nv tI (.slice none q.length (q.length+sp.length)) q::L) rfl);have:=hh.1;subst this;exact absurd ha (Nat.not_lt_zero _)
 |some a=>
  obtain⟨h,⟨h2,h3,_⟩,_⟩:=H1.front 0 (Za6 (L:=SL nv tI (.slice (some a) q.length (q.length+sp.length)) q::L) rfl);obtain⟨b,o,st⟩:=a;simp only at h2 h3;subst h2;subst h3;have Hb:=H1.slb 0 (Za6 (L:=SL nv tI (.slice (some ⟨b,0,none⟩) q.length (q.length+sp.length)) q::L) rfl);replace Hb:Holds w (blk b tI (q.map nv++sp)::L):=Hb;refine Tz186 ?_;unfold Vz186;refine r_lnl (Za9 (by omega) (by omega) ?_);refine r_ms0 (f:=nv) (x:=0) Hb rfl (by omega) λb2 w2 S2 H2=>?_;refine Zmd (by omega) ?_;refine r_apP H2 0 1 (ys:=q.take i) (o2:=0) rfl rfl (by rw[drop_zero,take_append_of_le_length (by simp;omega),List.map_take]) (by rw[gN];omega) rfl (by simp) (λ_=>rfl) (by simp;omega) λoa3 sp3 w3 S3 H3=>?_;replace H3:Holds w3 (slb nv tI oa3 (q.take i) sp3::blk b tI (q.map nv++sp)::L):=H3;refine Za1 (by omega) (Zxe (by omega) (by omega) ?_);have hd:q.take i++q.drop (i+1)=q.eraseIdx i:=(List.eraseIdx_eq_take_drop_succ q i).symm
  have hlen:(q.take i).length=i:=by rw[gN];omega
  by_cases hc:q.length+sp.length=i+1
  ·rw[if_pos hc,show q.length - (i+1)=0 by omega];refine r_apZ (by simp) ?_;have hq:q.drop (i+1)=[]:=List.drop_eq_nil_of_le (by omega);rw[hq,gU] at hd;have H4:=Holds.dropAt (Holds.close H3 0 rfl) 1;rw[<-hd] at k;simp only[List.length_nil,Nat.zero_add] at *;exact k _ _ (S2.trans S3) H4
  ·rw[if_neg hc]
   have e1:(some (⟨b,0,none⟩:Addr)).map (·.add ((i+1)*1))=some ⟨b,i+1,none⟩:=by
    simp[Addr.add]
   rw[e1];refine r_apP H3 0 1 (ys:=q.drop (i+1)) (o2:=i+1) rfl rfl ?_ (by rw[gS]) (by simp) (by simp) (λ_=>rfl) (by simp;omega) λoa4 sp4 w4 S4 H4=>?_
   ·rw[drop_append_of_le_length (by simp;omega),take_append_of_le_length (by simp),List.map_drop,gK (by simp)]
   rw[hd] at H4;have H5:=Holds.dropAt (Holds.close H4 0 rfl) 1;have:=k _ _ ((S2.trans S3).trans S4) H5;rw[<-hd,gD] at this;exact this
theorem Zg4 {n:Nat}(H:Holds w (QuP b lim v::SL nv tI v q::L)) (hl:q.length<=1000000)
  (k:∀ v' w',Same w w'->Holds w' (QuP b lim v'::SL nv tI v' (q.erase n)::L)->n∈q->K (iv 0) w') (k2:n∉q->K (iv 6) w):Cl prog 147 #[ptr b,nv n] w K:=by
 obtain⟨o,sp,rfl,_⟩:=H.open 1 rfl;refine Tz147 ?_;unfold Vz147
 repeat (first|refine r_nc ?_|refine r_fo0 ?_|(with_reducible first|refine Za2 ?_|refine r_vf ?_)|refine r_ld 0 H rfl rfl ?_)
 refine Zhd H (S4r.SLIn (F:=cN) id 1 rfl (by simp) λ_=>rfl) hl ?_
 by_cases h:n∈q
 ·obtain⟨j,h1,h2,_⟩:=Zcp (i:=0) h;have hj:j < q.length:=(gH.1 h2).1;have he:=Zg9 h1;rw[Nat.zero_add] at h1;rw[h1];refine r_lss (r_vfd (by show decide ((j:Int) < 0)=false;exact decide_eq_false (by omega)) ?_);refine r_nc (r_fo (r_ld 0 H rfl rfl ?_));refine Zkm (i:=j) H.swap hj hl λv' w1 S1 H1=>?_;rw[he] at H1;obtain⟨o',sp',rfl,_⟩:=H1.open 0 rfl;refine r_nc (r_fo ?_);refine r_st 1 H1 rfl (by simp) rfl λw2 S2 H2=>?_;exact k _ w2 (S1.trans S2) (Holds.swap H2) h
 ·rw[Zcw h];exact r_lss (r_vtd (by decide) (k2 h))
end Q40
namespace Q40
open J31 J32 J34
variable {w:World}{L:List HProp}{K:KT}
abbrev tTe:Nat:=145
abbrev tSc:Nat:=142
abbrev tPt:Nat:=143
abbrev lim0:Nat:=1099511627776
structure Te where
 tb:Nat
 qb:Nat
 qu:Nat
 cr:Nat
 v:Value
 q:List Nat
def TeR (t:Te):HProp:=λh=>Sat [blk t.tb tTe [ptr t.qb,nv t.qu,nv t.cr],QuP t.qb lim0 t.v,SL nv tI t.v t.q] h
theorem Zis {t:Te}(H:Holds w (TeR t::L)):Holds w (blk t.tb tTe [ptr t.qb,nv t.qu,nv t.cr]::QuP t.qb lim0 t.v::SL nv tI t.v t.q::L):=Holds.unpack H
theorem Zel {t:Te}(H:Holds w (blk t.tb tTe [ptr t.qb,nv t.qu,nv t.cr]::QuP t.qb lim0 t.v::SL nv tI t.v t.q::L)):Holds w (TeR t::L):=Holds.pack (A:=[_,_,_]) H
def ScL (sb rb:Nat) (v rv:Value) (ring:List Nat) (ts:List Te):List HProp:=
 blk sb tSc [v,ptr rb]::SL ptr tPt v (ts.map (·.tb))::QuP rb lim0 rv::SL nv tI rv ring::ts.map TeR
variable {sb rb:Nat}{v rv:Value}{ring:List Nat}{ts:List Te}
def placeT (n:Nat):List Te->Nat->Option Nat
 |[],_=>none
 |t::r,i=>if n∈t.q then some i else placeT n r (i+1)
theorem Zlh {n:Nat}{ts:List Te}{j:Nat}{t:Te}(h:ts[j]?=some t):placeT n (ts.drop j) j=if n∈t.q then some j else placeT n (ts.drop (j+1)) (j+1):=by
 obtain⟨hj,e⟩:=gH.1 h;rw[drop_eq_getElem_cons hj,e];rfl
theorem Zha {n:Nat}(H:Holds w (ScL sb rb v rv ring ts++L)) (hl:ts.length<=1000) (hq:∀ t∈ts,t.q.length<=1000000) (k:∀ w',Same w w'->Holds w' (ScL sb rb v rv ring ts++L)->K (iv (optI (placeT n ts 0))) w') :
  Cl prog 160 #[ptr sb,nv n] w K:=by
 obtain⟨o,sp,rfl,_⟩:=H.open 1 rfl;rw[hS_] at H k;generalize hc:ts.length+sp.length=c at H k;refine Tz160 ?_;unfold Vz160;refine r_new H λbj w1 S1 H1=>?_;replace H1:Holds w1 (blk bj 3 [nv n]::(ScL sb rb (.slice o ts.length c) rv ring ts++L)):=H1;refine r_nc (r_fo0 (r_ld 1 H1 (v:=.slice o ts.length c) rfl rfl ?_));refine r_mf (.func (.func 197) #[] #[ptr bj]) (by kernel_rfl) ?_;refine Tz196 ?_;unfold Vz196;refine r_lnl ?_;refine Zat (λx w'=>∃ j:Nat,j<=ts.length/\x=nv j/\placeT n ts 0=placeT n (ts.drop j) j/\Same w w'/\Holds w' (blk bj 3 [nv n]::(ScL sb rb (.slice o ts.length c) rv ring ts++L))) (λx _=>ts.length - (intOf x).toNat) ⟨0,by omega,rfl,rfl,S1,H1⟩ ?_;clear H H1 S1;rintro _ _ w2 ⟨j,hj,rfl,hp,S,H⟩;refine r_lss (r_ifD (λh=>?_) λh=>?_)
 ·have hlt:j < ts.length:=by omega
  obtain⟨t,ht⟩:∃ t,ts[j]?=some t:=⟨_,gA hlt⟩;have hA:S4r.InG (λb:Nat=>[ptr b]) 1 (blk bj 3 [nv n]::(ScL sb rb (.slice o ts.length c) rv ring ts++L)) o (ts.map (·.tb)):=S4r.SLIn (f:=ptr) id 2 (c:=c) (n:=ts.length) rfl (by simp) λ_=>rfl
  have hx:(ts.map (·.tb))[j]?=some t.tb:=by rw[hV_,ht];rfl
  obtain⟨p,rfl,hcl⟩:=hA w2 H _ _ hx;refine Zcj hlt (r_ldP (hcl 0 (ptr t.tb) rfl) ?_);refine r_inv (f:=197) (args:=#[ptr t.tb,ptr bj]) (by kernel_rfl) ?_;refine Tz197 ?_;unfold Vz197;refine r_dr H λw3 S3 H3=>?_
  have hi:(blk bj 3 [nv n]::(ScL sb rb (.slice (some p) ts.length c) rv ring ts++L))[5+j]?=some (TeR t):=by
   rw[show 5+j=j+1+1+1+1+1 by omega];show (ts.map TeR++L)[j]?=_;rw[gM (by simpa using hlt),hV_,ht];rfl
  have H4:=Zis (H3.front (5+j) hi);refine r_nc (r_fo0 (r_ld 0 H4 (v:=ptr t.qb) rfl rfl (r_ld 0 H3 (v:=nv n) rfl rfl ?_)));refine Zn5 H4.drop (hq t (mem_of_getElem? ht)) ?_;rw[Zlh ht] at hp
  by_cases e:n∈t.q
  ·rw[if_pos e] at hp;rw[hp] at k;rw[decide_eq_true e];exact r_vt (k w3 (S.trans S3) H3.drop)
  ·rw[if_neg e] at hp;rw[decide_eq_false e];refine r_vf (Za1 (by omega) (r_ke ⟨⟨j+1,by omega,rfl,hp,S.trans S3,H3⟩,?_⟩));simp[nv,intOf];omega
 ·obtain rfl:j=ts.length:=by omega
  rw[drop_length] at hp;rw[hp] at k;exact k w2 S H.drop
theorem Sc_at {j:Nat}{t:Te}(ht:ts[j]?=some t):(ScL sb rb v rv ring ts++L)[4+j]?=some (TeR t):=by
 have hlt:j < ts.length:=(gH.1 ht).1;rw[show 4+j=j+1+1+1+1 by omega];show (ts.map TeR++L)[j]?=_;rw[gM (by simpa using hlt),hV_,ht];rfl
theorem Ztn {j:Nat}{t:Te}(ht:ts[j]?=some t) (H:Holds w (ScL sb rb v rv ring ts++L)):Holds w (TeR t::(ScL sb rb v rv ring ts++L).eraseIdx (4+j)):=H.front (4+j) (Sc_at ht)
theorem Zre {j:Nat}{t t':Te}(ht:ts[j]?=some t) (hb:t'.tb=t.tb) (H:Holds w (TeR t'::(ScL sb rb v rv ring ts++L).eraseIdx (4+j))):Holds w (ScL sb rb v rv ring (ts.set j t')++L):=by
 have H2:Holds w ((ScL sb rb v rv ring ts++L).set (4+j) (TeR t')):=Sat.push (4+j) (Sc_at ht) H;have hlt:j < ts.length:=(gH.1 ht).1
 have e:(ScL sb rb v rv ring ts++L).set (4+j) (TeR t')=ScL sb rb v rv ring (ts.set j t')++L:=by
  rw[show 4+j=j+1+1+1+1 by omega]
  have e1:(ts.set j t').map (·.tb)=ts.map (·.tb):=by
   apply List.ext_getElem?;intro q;rw[hV_,hV_,List.getElem?_set];split
   ·rename_i h;subst h;rw[ht];simp[hb]
   ·rfl
  show _::_::_::_::(ts.map TeR++L).set j (TeR t')=_::SL ptr tPt v ((ts.set j t').map (·.tb))::_::_::((ts.set j t').map TeR++L);rw[e1,List.set_append_left _ _ (by simpa using hlt),List.map_set]
 rw[e] at H2;exact H2
theorem of_spec {j:Nat}{t:Te}(ht:ts[j]?=some t) (H:Holds w (ScL sb rb v rv ring ts++L)) (k:K (ptr t.tb) w):Cl prog 104 #[ptr sb,nv j] w K:=by
 have hlt:j < ts.length:=(gH.1 ht).1;obtain⟨o,sp,rfl,_⟩:=H.open 1 rfl;rw[hS_] at H;generalize hc:ts.length+sp.length=c at H;refine Tz104 ?_;unfold Vz104;refine Za0 (λx w'=>w=w'/\x=.bool false) ?_ ?_
 rotate_left
 ·repeat (first|refine r_nc ?_|refine r_fo0 ?_|refine r_ke ?_|refine r_lnl ?_|refine r_lss ?_|refine r_geq ?_|(with_reducible first|refine Za2 ?_|refine r_vf ?_)|refine r_ld 0 H rfl rfl ?_|((with_reducible refine r_vfD ?h ?_);(case h=>omega)))
  exact⟨rfl,by rw[decide_eq_false (by omega)]⟩
 rintro _ _ _ ⟨rfl,rfl⟩;refine r_vf (r_nc (r_fo0 (r_ld 0 H (v:=.slice o ts.length c) rfl rfl ?_)));have hA:S4r.InG (λb:Nat=>[ptr b]) 1 (ScL sb rb (.slice o ts.length c) rv ring ts++L) o (ts.map (·.tb)):=S4r.SLIn (f:=ptr) id 1 (c:=c) (n:=ts.length) rfl (by simp) λ_=>rfl
 have hx:(ts.map (·.tb))[j]?=some t.tb:=by rw[hV_,ht];rfl
 obtain⟨p,rfl,hcl⟩:=hA w H _ _ hx;exact Zcj hlt (r_ldP (hcl 0 (ptr t.tb) rfl) k)
theorem Zgx {n:Nat}:∀ {ts:List Te}{i:Nat},placeT n ts i=none->∀ t∈ts,n∉t.q
 |[],_,_,t,h=>by cases h
 |t::r,i,hp,u,h=>by
  rw[placeT] at hp;split at hp
  ·cases hp
  ·rename_i hn;rcases mem_cons.1 h with rfl|h
   ·exact hn
   ·exact Zgx hp u h
theorem Add_spec {j n:Nat}{t:Te}(ht:ts[j]?=some t) (H:Holds w (ScL sb rb v rv ring ts++L)) (hl:ts.length<=1000) (hq:∀ t∈ts,t.q.length<=1000) (hr:ring.length<=1000)
  (k1:∀ w',placeT n ts 0≠none->Same w w'->Holds w' (ScL sb rb v rv ring ts++L)->K (iv 8) w')
  (k2:∀ v' rv' w',placeT n ts 0=none->Same w w'->Holds w' (ScL sb rb v rv' (if j∈ring then ring else ring++[j]) (ts.set j { t with v:=v',q:=t.q++[n] })++L)->K (iv 0) w') :
  Cl prog 113 #[ptr sb,nv j,nv n] w K:=by
 refine Tz113 ?_;unfold Vz113;refine of_spec ht H ?_
 repeat (first|(with_reducible first|refine Za2 ?_|refine r_vf ?_))
 refine Zha H hl (λt h=>Nat.le_trans (hq t h) (by omega)) λw1 S1 H1=>?_
 cases hp:placeT n ts 0 with
 |some i=>
  refine r_geq (r_vtd (by show decide ((0:Int)<=((i:Nat):Int))=true;exact decide_eq_true (by omega)) ?_);exact k1 w1 (by rw[hp];exact λh=>by cases h) S1 H1
 |none=>
  refine r_geq (r_vfd (by decide) ?_);have hm:=mem_of_getElem? ht;have H2:=Zis (Ztn ht H1);refine r_nc (r_fo0 (r_ld 0 H2 (v:=ptr t.qb) rfl rfl ?_));have H3:Holds w1 (QuP t.qb lim0 t.v::SL nv tI t.v t.q::blk t.tb tTe [ptr t.qb,nv t.qu,nv t.cr]::(ScL sb rb v rv ring ts++L).eraseIdx (4+j)):=(H2.front 2 rfl).front 2 rfl;refine Zjs H3 (hq t hm) (by decide) (λv' w2 S2 H4 _=>?_) λh=>absurd h (Zgx hp t hm);have H5:=Zre (t':={ t with v:=v',q:=t.q++[n] }) ht rfl (Zel (t:={ t with v:=v',q:=t.q++[n] }) (H4.front 2 rfl));refine r_nc (r_fo (r_ld 0 H5 (v:=ptr rb) rfl rfl ?_));have H6:Holds w2 (QuP rb lim0 rv::SL nv tI rv ring::blk sb tSc [v,ptr rb]::SL ptr tPt v ((ts.set j { t with v:=v',q:=t.q++[n] }).map (·.tb))::((ts.set j { t with v:=v',q:=t.q++[n] }).map TeR++L)):=(H5.front 3 rfl).front 3 rfl;refine Zjs H6 hr (by decide) (λrv' w3 S3 H7 hn=>?_) λh=>?_
  ·refine k2 v' rv' w3 hp ((S1.trans S2).trans S3) ?_;rw[if_neg hn];exact (H7.front 3 rfl).front 3 rfl
  ·refine k2 v' rv w2 hp (S1.trans S2) ?_;rw[if_pos h];exact H5
theorem Zt3 {j n:Nat}{t:Te}(ht:ts[j]?=some t) (hn:n∈t.q) (H:Holds w (ScL sb rb v rv ring ts++L)) (hl:ts.length<=1000) (hq:t.q.length<=1000) (hr:ring.length<=1000)
  (k1:∀ v' rv' w',t.q.erase n=[]->Same w w'->Holds w' (ScL sb rb v rv' (ring.erase j) (ts.set j { t with v:=v',q:=t.q.erase n,cr:=0 })++L)->K (.tuple #[]) w')
  (k2:∀ v' w',t.q.erase n≠[]->Same w w'->Holds w' (ScL sb rb v rv ring (ts.set j { t with v:=v',q:=t.q.erase n })++L)->K (.tuple #[]) w') :
  Cl prog 105 #[ptr sb,nv j,nv n] w K:=by
 have hlt:j < ts.length:=(gH.1 ht).1;have H0:=H;obtain⟨o,sp,hv,_⟩:=H.open 1 rfl;rw[hS_] at hv;generalize hc:ts.length+sp.length=c at hv;refine Tz105 ?_;unfold Vz105;refine r_nc (r_fo0 (r_ld 0 H (v:=v) rfl rfl ?_));have hA:S4r.InG (λb:Nat=>[ptr b]) 1 (ScL sb rb v rv ring ts++L) o (ts.map (·.tb)):=S4r.SLIn (f:=ptr) id 1 (c:=c) (n:=ts.length) (by rw[<-hv];rfl) (by simp) λ_=>rfl
 have hx:(ts.map (·.tb))[j]?=some t.tb:=by rw[hV_,ht];rfl
 obtain⟨p,rfl,hcl⟩:=hA w H _ _ hx;rw[hv];refine Zcj hlt (r_ldP (hcl 0 (ptr t.tb) rfl) ?_);have H2:=Zis (Ztn ht H);refine r_nc (r_fo0 (r_ld 0 H2 (v:=ptr t.qb) rfl rfl ?_));have H3:Holds w (QuP t.qb lim0 t.v::SL nv tI t.v t.q::blk t.tb tTe [ptr t.qb,nv t.qu,nv t.cr]::(ScL sb rb v rv ring ts++L).eraseIdx (4+j)):=(H2.front 2 rfl).front 2 rfl;refine Zg4 H3 (by omega) (λv' w1 S1 H4 _=>?_) λh=>absurd hn h;refine r_nc (r_fo0 (r_ld 2 H4 (v:=ptr t.qb) rfl rfl ?_));refine Len_spec H4 (r_eql ?_);have H5:Holds w1 (blk t.tb tTe [ptr t.qb,nv t.qu,nv t.cr]::QuP t.qb lim0 v'::SL nv tI v' (t.q.erase n)::(ScL sb rb v rv ring ts++L).eraseIdx (4+j)):=H4.front 2 rfl
 by_cases he:t.q.erase n=[]
 ·refine r_vtE (by rw[he];rfl) ?_;refine r_nc (r_fo0 ?_);refine r_st 0 H5 rfl (by simp) rfl λw2 S2 H6=>?_;have H7:=Zre (t':={ t with v:=v',q:=t.q.erase n,cr:=0 }) ht rfl (Zel (t:={ t with v:=v',q:=t.q.erase n,cr:=0 }) H6);refine r_nc (r_fo (r_ld 0 H7 (v:=ptr rb) rfl rfl ?_));have H8:Holds w2 (QuP rb lim0 rv::SL nv tI rv ring::blk sb tSc [v,ptr rb]::SL ptr tPt v ((ts.set j { t with v:=v',q:=t.q.erase n,cr:=0 }).map (·.tb))::((ts.set j { t with v:=v',q:=t.q.erase n,cr:=0 }).map TeR++L)):=(H7.front 3 rfl).front 3 rfl;refine Zg4 H8 (by omega) (λrv' w3 S3 H9 _=>?_) λh=>?_
  ·exact k1 v' rv' w3 he ((S1.trans S2).trans S3) ((H9.front 3 rfl).front 3 rfl)
  ·refine k1 v' rv w2 he (S1.trans S2) ?_;rw[List.erase_of_not_mem h];exact H7
 ·refine r_vfE (λg=>he (List.eq_nil_of_length_eq_zero (by omega))) ?_;exact k2 v' w1 he S1 (Zre (t':={ t with v:=v',q:=t.q.erase n }) ht rfl (Zel (t:={ t with v:=v',q:=t.q.erase n }) H5))
theorem Zg7 {n:Nat}:∀ {ts:List Te}{i m:Nat},placeT n ts i=some m->∃ j t,m=i+j/\ts[j]?=some t/\n∈t.q
 |[],_,_,h=>by cases h
 |t::r,i,m,h=>by
  rw[placeT] at h;split at h
  ·rename_i hn;cases h;exact⟨0,t,rfl,rfl,hn⟩
  ·obtain⟨j,u,h1,h2,h3⟩:=Zg7 h;exact⟨j+1,u,by omega,h2,h3⟩
theorem Zjv {n:Nat}(H:Holds w (ScL sb rb v rv ring ts++L)) (hl:ts.length<=1000) (hq:∀ t∈ts,t.q.length<=1000) (hr:ring.length<=1000)
  (k0:∀ w',placeT n ts 0=none->Same w w'->Holds w' (ScL sb rb v rv ring ts++L)->K (iv 6) w')
  (k1:∀ j t v' rv' w',placeT n ts 0=some j->ts[j]?=some t->t.q.erase n=[]->Same w w'->Holds w' (ScL sb rb v rv' (ring.erase j) (ts.set j { t with v:=v',q:=t.q.erase n,cr:=0 })++L)->K (iv 0) w')
  (k2:∀ j t v' w',placeT n ts 0=some j->ts[j]?=some t->t.q.erase n≠[]->Same w w'->Holds w' (ScL sb rb v rv ring (ts.set j { t with v:=v',q:=t.q.erase n })++L)->K (iv 0) w') :
  Cl prog 158 #[ptr sb,nv n] w K:=by
 refine Tz158 ?_;unfold Vz158
 repeat (first|(with_reducible first|refine Za2 ?_|refine r_vf ?_))
 refine Zha H hl (λt h=>Nat.le_trans (hq t h) (by omega)) λw1 S1 H1=>?_
 cases hp:placeT n ts 0 with
 |none=>exact r_lss (r_vtd (by decide) (k0 w1 hp S1 H1))
 |some m=>
  obtain⟨j,t,hm,ht,hn⟩:=Zg7 hp
  obtain rfl:m=j:=by omega
  refine r_lss (r_vfd (by show decide (((m:Nat):Int) < 0)=false;exact decide_eq_false (by omega)) ?_);exact Zt3 ht hn H1 hl (hq t (mem_of_getElem? ht)) hr (λv' rv' w2 he S2 H2=>k1 m t v' rv' w2 hp ht he (S1.trans S2) H2) λv' w2 he S2 H2=>k2 m t v' w2 hp ht he (S1.trans S2) H2
end Q40
end Go.Proofs.YthkaggnihbkmeaaGreatDoor
set_option maxRecDepth 1000000
namespace Go.Proofs.YthkaggnihbkmeaaGreatDoor
open Go Go.Vc Go.Proofs.Tryz
namespace S40
open Go.M31 J30 J31 J32 J34
section
variable {α:Type}{P:Program}{w:World}{L:List HProp}
theorem flatL_in {F:α->List Value}{k:Nat}(hF:∀ x,(F x).length=k):∀ (xs:List α) (q:Nat) (u:Value),(flatL F xs)[q]?=some u->∃ i j x,xs[i]?=some x/\(F x)[j]?=some u/\q=i*k+j
 |[],q,u,h=>by simp[flatL] at h
 |y::r,q,u,h=>by
  rw[flatL] at h;rcases hU_ q (F y).length with h1|h1
  ·rw[gM h1] at h;exact⟨0,q,y,rfl,h,by omega⟩
  ·rw[gT h1] at h;obtain⟨i,j,x,h2,h3,h4⟩:=flatL_in hF r _ u h;refine⟨i+1,j,x,by simpa using h2,h3,?_⟩;rw[hF] at h1 h4;rw[Nat.add_mul];omega
theorem r_apF {t e:TypeId}{k:Nat} [hr:RowN P t e k] (H:Holds w L){F:α->List Value}{ys:List α}{a:Option Addr}{b c':Nat}{ty:TypeId}{K:KT}(hT:InG F k L a ys) (hF:∀ y,(F y).length=k) (hn:0 < ys.length) (hs:ys.length<=1000)
  (h:∀ b' cap w',Same w w'->Holds w' L->K (.slice (some ⟨b',0,none⟩) ys.length cap) w'):Ap P #[t,t] ty #[.slice (some ⟨b,0,none⟩) 0 0,.slice a ys.length c'] w K:=by
 obtain⟨inf,z,hinf,hsz,hby,hzz,hzk⟩:=hr.inf;obtain⟨p,rfl,_⟩:=hT w H 0 ys[0] (gA hn);have hlen:=Zb9 (k:=k) hF
 have hnews:∀ q u,(flatL F ys)[q]?=some u->w.cell? (p.add q)=some u:=by
  intro q u hu;obtain⟨i,j,x,h1,h2,rfl⟩:=flatL_in hF ys q u hu;obtain⟨p',hp,h3⟩:=hT w H i x h1;obtain rfl:=Option.some.inj hp;rw[<-Addr.add_add];exact h3 j u h2
 have hmul:ys.length*inf.bytes<=140737488355328:=Nat.le_trans (Nat.mul_le_mul_left _ hby) (by omega);have hrun:=run_append_grow (P:=P) w t ty e inf z hr.und hinf hzz ⟨b,0,none⟩ 0 0 [] (by simp) (λj v hv=>by simp at hv) p ys.length c' (flatL F ys) (by rw[hlen,hsz]) hnews (by omega) (by omega) (growslice_fits (by omega) (by rw[Nat.zero_add];exact hmul));rw[Nat.zero_add] at hrun;exact⟨_,_,hrun,h _ _ _ ((Same.drew w).trans (.alloc _ _)) ((H.same (w':=w.drew) rfl).alloc _).drop⟩
end
attribute [local irreducible] Vc.Nc Vc.Ld Vc.LdA Vc.St Vc.StA Vc.Fo Vc.Iaa Vc.Ias Vc.Ixs Vc.Ixa Vc.Fd Vc.FdA Vc.Bp Vc.Bb Vc.Bn Vc.Up Vc.Ci Vc.Lns Vc.Lnl Vc.Ex Vc.Sst Vc.Ssl Vc.New Vc.Vif Vc.VJoin Vc.VLoop Vc.KE Vc.Dr Vc.Rk Vc.Cl Vc.Cx Vc.Inv Vc.Be Vc.Cv Vc.Cw Vc.Mf Vc.Sl Vc.Lk Vc.Bd Vc.Bs Vc.Ms Vc.Mm Vc.Mu Vc.Me Vc.Es Vc.Rg Vc.Nx Vc.Ta Vc.Ap Vc.Usd Vc.Ust Vc.Cp Vc.Ln Vc.Bc Vc.Bmin Vc.Bmax Vc.Bdel Vc.Bclr Vc.Pk
variable {w:World}{L:List HProp}{K:KT}
abbrev tT':Nat:=22
set_option maxRecDepth 1000000 in
instance:RowN prog 22 tT 5:=⟨underlying22,_,_,rfl,rfl,by decide,rfl,rfl⟩
set_option maxRecDepth 1000000 in
instance:RowN prog 130 134 3:=⟨underlying130,_,_,rfl,rfl,by decide,rfl,rfl⟩
instance rowP:Row prog 140 143 (.pointer none):=⟨by kernel_rfl,⟨t143,by kernel_rfl,by kernel_rfl,by decide,by kernel_rfl⟩,rfl⟩
theorem Zfy {f:FuncId}{g:Tn->Nat}{a:Option Addr}{ts:List Tn}{c:Nat}(H:Holds w L) (hT:TsIn L a ts) (hl:ts.length<=1000)
  (hf:∀ (t:Tn) (w:World) (L:List HProp) (K:KT),t∈ts->Holds w L->(∀ w',Same w w'->Holds w' L->K (nv (g t)) w')->Cl prog f #[.agg (cellsT t).toArray] w K)
  (hi:∀ (t:Tn) (w:World),(do let d <-Deferred.ofValue (.func (.func f) #[] #[]) #[.agg (cellsT t).toArray];invoke d.target d.args:Sem Next).run prog w=.ok (.enter f #[.agg (cellsT t).toArray]) w)
  (post:∀ v w',Same w w'->Holds w' (SL nv tI v (ts.map g)::L)->K v w'):Cl prog 30 #[.slice a ts.length c,.func (.func f) #[] #[]] w K:=by
 refine Tz30 ?_;unfold Vz30
 have hzT:(zeroP prog tT).cells.toList=[.string ⟨#[]⟩,.string ⟨#[]⟩,iv 0,iv 0,iv 0]:=by kernel_rfl
 repeat (refine r_lnl ?_)
 refine Zb1 (λo x w'=>∃ i:Nat,i<=ts.length/\x=nv i/\Same w w'/\Holds w' (SL nv tI o ((ts.take i).map g)::L)) (λ_ x _=>ts.length - (intOf x).toNat) ⟨0,by omega,rfl,.refl w,H.nilSL nv tI⟩ ?_;clear H;rintro _ v _ w2 ⟨i,hil,rfl,S,H⟩
 repeat (refine r_lss ?_)
 refine r_ifD (λh=>?_) λh=>?_
 ·have hlt:i < ts.length:=by omega
  obtain⟨t,ht⟩:∃ t,ts[i]?=some t:=⟨_,gA hlt⟩;refine r_ldT hT.up H ht hlt ?_;refine r_new H λbt w3 S3 H3=>?_;rw[hzT] at H3;refine r_stA 0 H3 (vs:=cellsT t) rfl (Nat.le_refl 5) rfl (Zb7 t) λw4 S4 H4=>?_;replace H4:Holds w4 (blk bt tT (cellsT t)::SL nv tI v ((ts.take i).map g)::L):=H4;replace S:=(S.trans S3).trans S4;clear H H3 S3 S4;have H:=H4;clear H4;refine r_ldA 0 H (cellsT t) rfl rfl rfl ?_;refine r_inv (f:=f) (args:=#[.agg (cellsT t).toArray]) (hi t _) (hf t _ _ _ (mem_of_getElem? ht) H λw5 S5 H5=>?_);refine Zma (f:=nv) H5.drop 0 rfl (g t) (λ_=>rfl) (by simp;omega) λv2 w6 S6 H6=>?_;rw[gJ] at H6
  repeat (first|refine r_ke ?_|(refine Za1 (by omega) ?_))
  refine⟨⟨i+1,by omega,rfl,(S.trans S5).trans S6,?_⟩,?_⟩
  ·rw[gO,ht];simpa using H6
  ·simp[nv,intOf];omega
 ·obtain rfl:i=ts.length:=by omega
  rw[hF_] at H;exact post _ _ S H
theorem Zgz {f:FuncId}{xs:List Nat}(j:Nat){v:Value}(H:Holds w L) (hj:L[j]?=some (SL nv tI v xs)) (hl:xs.length<=1000)
  (hf:∀ (x:Nat) (w:World) (K:KT),x∈xs->K (.bool false) w->Cl prog f #[nv x] w K)
  (hi:∀ (x:Nat) (w:World),(do let d <-Deferred.ofValue (.func (.func f) #[] #[]) #[nv x];invoke d.target d.args:Sem Next).run prog w=.ok (.enter f #[nv x]) w)
  (post:K (.bool false) w):Cl prog 66 #[v,.func (.func f) #[] #[]] w K:=by
 refine Tz66 ?_;unfold Vz66;refine Tz118 ?_;unfold Vz118;have H0:=H;obtain⟨oa,sp,rfl,H1⟩:=H0.open j hj;have hj1:=Za6 (Q:=slb nv tI oa xs sp) hj
 repeat (refine r_lnl ?_)
 refine Zat (λx w'=>∃ i:Nat,i<=xs.length/\x=nv i/\w=w') (λx _=>xs.length - (intOf x).toNat) ⟨0,by omega,rfl,rfl⟩ ?_;rintro _ _ _ ⟨i,hil,rfl,rfl⟩
 repeat (refine r_lss ?_)
 refine r_ifD (λh4=>?_) λh4=>?_
 ·have hlt:i < xs.length:=by omega
  obtain⟨x,hx⟩:∃ x,xs[i]?=some x:=⟨_,gA hlt⟩;refine Zht j H1 hj1 hlt (Nat.le_refl _) ?_;rintro b2 rfl;refine Zi4 j H1 hj1 hx ?_;refine r_inv (f:=f) (args:=#[nv x]) (hi x _) (hf x _ _ (mem_of_getElem? hx) ?_)
  repeat (first|refine r_ke ?_|(with_reducible refine r_vf ?_)|(refine Za1 (by omega) ?_))
  refine⟨⟨i+1,by omega,rfl,rfl⟩,?_⟩;simp[nv,intOf];omega
 ·repeat (refine r_geq ?_)
  exact post
end S40
end Go.Proofs.YthkaggnihbkmeaaGreatDoor
