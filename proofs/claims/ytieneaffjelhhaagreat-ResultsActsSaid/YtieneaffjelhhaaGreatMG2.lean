/- Several texts in one: Mn, Sv, Mw, M45, My3, Q21, Sw, Sh, Kr, S4r, W2o, W14, Z07, U05, W05, W06, W20, W17, Ka, P20, W02, B21, Kw, Km, Pc, M03, Me, Mf, Mg, Qs, W2p, W2q, R3b, W2x, U22, W2s, W2h, Kb. -/
import Derived.Test.YtieneaffjelhhaaGreatMG1
import Derived.Test.YtieneaffjelhhaaGreatMG0
import Derived.WalkKit
import Derived.Deep.AppendSrc
import Derived.Deep.Upon
import Derived.Lib.UnsafeStr
import Derived.Shelf.Lays
import Derived.Shelf.Strings.Repeat
import Derived.Ground.NamesProg
import Derived.Test.YtieneaffjelhhaaGreatProg
import Derived.Test.YtieneaffjelhhaaGreatFm
import Derived.Shelf.Vars
import Derived.Handed
set_option linter.unusedVariables false
set_option linter.unusedSimpArgs false
set_option linter.unusedSectionVars false
open Go.RowKit (intOf)
open List (drop_zero getElem?_eq_none getElem_mem length_cons length_nil map_append map_set mem_cons mem_map mem_range mem_singleton range_succ set_set)
namespace Go.Mh
open Go.M10
def sm (n:Nat) (f:Nat->Nat):Nat:=((List.range n).map f).sum
theorem Zdl (n:Nat) (f:Nat->Nat):sm (n+1) f=sm n f+f n:=by unfold sm;rw[range_succ,map_append,List.sum_append];simp
theorem Zg0 {f g:Nat->Nat}:∀ n,(∀ i,i < n->f i=g i)->sm n f=sm n g
 |0,_=>rfl
 |n+1,h=>by rw[Zdl,Zdl,Zg0 n λi hi=>h i (by omega),h n (by omega)]
theorem Zz3 (f g:Nat->Nat):∀ n,sm n (λi=>f i+g i)=sm n f+sm n g
 |0=>rfl
 |n+1=>by rw[Zdl,Zdl,Zdl,Zz3 f g n];omega
theorem Zrr (c:Nat) (f:Nat->Nat):∀ n,sm n (λi=>c*f i)=c*sm n f
 |0=>rfl
 |n+1=>by rw[Zdl,Zdl,Zrr c f n,Nat.mul_add]
structure Kr (n E:Nat) (s:HS) (k:Nat) (ρ δ:Nat->Nat):Prop where
 up:∀ i,i < n->Up s.I i (δ i) (ρ i)/\ρ i∈s.V/\δ i<=k
 sum:∀ x∈s.V,sm n (λi=>if ρ i=x then 2^(E - δ i) else 0)=2^E
theorem kr0 (w:List Nat) (E:Nat):Kr w.length E (h0 w) 0 id λ_=>0:=by
 refine⟨λi hi=>⟨.here i,mem_range.2 hi,Nat.le_refl _⟩,λx hx=>?_⟩;have hx:x < w.length:=mem_range.1 hx
 have h:∀ n,sm n (λi=>if id i=x then 2^(E - 0) else 0)=if x < n then 2^E else 0:=by
  intro n
  induction n with
  |zero=>rfl
  |succ n ih=>
   rw[Zdl,ih]
   by_cases q:n=x
   ·subst q;rw[if_neg (Nat.lt_irrefl _),if_pos (show id n=n from rfl),if_pos (Nat.lt_succ_self _),Nat.zero_add,Nat.sub_zero]
   ·rw[if_neg (show ¬ id n=x from q)]
    by_cases g:x < n
    ·rw[if_pos g,if_pos (by omega)];rfl
    ·rw[if_neg g,if_neg (by omega)]
 rw[h,if_pos hx]
theorem Yak {n E k:Nat}{s s':HS}{a b:Nat}{ρ δ:Nat->Nat}(hg:Good s) (j:Join s s' a b) (hk:k < E) (h:Kr n E s k ρ δ):∃ ρ' δ',Kr n E s' (k+1) ρ' δ':=by
 have hne:=Zj2 hg j;have hbm:b∈s.V:=List.mem_of_mem_erase j.lb.1;have hal:=hg.lt a j.la.1;have hbl:=hg.lt b hbm
 have hmem:∀ x,x∈s'.V↔x=s.W.length\/(x∈s.V/\x≠a/\x≠b):=by
  intro x;rw[j.V.mem_iff,mem_cons,(hg.nodup.erase a).mem_erase_iff,hg.nodup.mem_erase_iff]
  constructor
  ·rintro (h|⟨h1,h2,h3⟩)
   ·exact .inl h
   ·exact .inr ⟨h3,h2,h1⟩
  ·rintro (h|⟨h1,h2,h3⟩)
   ·exact .inl h
   ·exact .inr ⟨h3,h2,h1⟩
 have hpar:s'.I[a]?=some (some s.W.length)/\s'.I[b]?=some (some s.W.length):=by
  have hIl:=hg.len
  constructor
  ·rw[j.I,gM (by rw[hX_,hX_];omega),List.getElem?_set,if_neg (Ne.symm hne),List.getElem?_set_self (by omega)]
  ·rw[j.I,gM (by rw[hX_,hX_];omega),List.getElem?_set_self (by rw[hX_];omega)]
 refine⟨λi=>if ρ i=a\/ρ i=b then s.W.length else ρ i,λi=>if ρ i=a\/ρ i=b then δ i+1 else δ i,λi hi=>?_,λx hx=>?_⟩
 ·obtain⟨h1,h2,h3⟩:=h.up i hi;have h4:=h1.join hg j;show Up s'.I i (if ρ i=a\/ρ i=b then δ i+1 else δ i) (if ρ i=a\/ρ i=b then s.W.length else ρ i)/\(if ρ i=a\/ρ i=b then s.W.length else ρ i)∈s'.V/\(if ρ i=a\/ρ i=b then δ i+1 else δ i)<=k+1
  by_cases q:ρ i=a\/ρ i=b
  ·simp only[if_pos q];refine⟨h4.snoc ?_,(hmem _).2 (.inl rfl),by omega⟩;rcases q with q|q
   ·rw[q];exact hpar.1
   ·rw[q];exact hpar.2
  ·simp only[if_neg q];exact⟨h4,(hmem _).2 (.inr ⟨h2,λe=>q (.inl e),λe=>q (.inr e)⟩),by omega⟩
 ·rcases (hmem x).1 hx with rfl|⟨h1,h2,h3⟩
  ·have ha:=h.sum a j.la.1;have hb:=h.sum b hbm
   have e:sm n (λi=>2*if (if ρ i=a\/ρ i=b then s.W.length else ρ i)=s.W.length then 2^(E - if ρ i=a\/ρ i=b then δ i+1 else δ i) else 0) =
     sm n (λi=>(if ρ i=a then 2^(E - δ i) else 0)+if ρ i=b then 2^(E - δ i) else 0):=by
    refine Zg0 n λi hi=>?_;obtain⟨_,g2,g3⟩:=h.up i hi;have g4:=hg.lt _ g2
    have g5:2*2^(E - (δ i+1))=2^(E - δ i):=by
     rw[show E - δ i=(E - (δ i+1))+1 by omega,Nat.pow_succ,Nat.mul_comm]
    by_cases q1:ρ i=a
    ·have q2:¬ ρ i=b:=λe=>hne (q1.symm.trans e);have q3:ρ i=a\/ρ i=b:=.inl q1;simp only[if_pos q3,if_pos q1,if_neg q2,if_true];rw[g5,Nat.add_zero]
    ·by_cases q2:ρ i=b
     ·have q3:ρ i=a\/ρ i=b:=.inr q2;simp only[if_pos q3,if_neg q1,if_pos q2,if_true];rw[g5,Nat.zero_add]
     ·have q3:¬ (ρ i=a\/ρ i=b):=λe=>e.elim q1 q2
      have q4:¬ ρ i=s.W.length:=by omega
      simp only[if_neg q3,if_neg q1,if_neg q2,if_neg q4]
   rw[Zrr,Zz3,ha,hb] at e;omega
  ·rw[<-h.sum x h1];refine Zg0 n λi hi=>?_;obtain⟨_,g2,_⟩:=h.up i hi;have g4:=hg.lt _ g2;have g5:=hg.lt _ h1
   by_cases q:ρ i=a\/ρ i=b
   ·have q2:¬ ρ i=x:=λe=>by
     rcases q with q|q
     ·exact h2 (e.symm.trans q)
     ·exact h3 (e.symm.trans q)
    have q3:¬ s.W.length=x:=by omega
    simp only[if_pos q,if_neg q2,if_neg q3]
   ·simp only[if_neg q]
theorem Zvf {w:List Nat}{E k:Nat}{s:HS}(h:Joins (h0 w) k s) (hk:k<=E):∃ ρ δ,Kr w.length E s k ρ δ:=by
 induction h with
 |start=>exact⟨_,_,kr0 w E⟩
 |next h j ih=>
  obtain⟨ρ,δ,hK⟩:=ih (by omega);exact Yak (Zbz h).1 j (by omega) hK
theorem Zw6 (out:List Nat):share out=sm out.length λi=>2^(20 - out.getD i 0):=by
 unfold share sm
 congr 1
 apply List.ext_getElem?;intro i;rw[hV_,hV_];rcases hU_ i out.length with q|q
 ·rw[List.getElem?_range q,gA q];show some (2^(20 - out[i]))=some (2^(20 - out.getD i 0));rw[gB,gA q];rfl
 ·rw[getElem?_eq_none q,getElem?_eq_none (by simpa using q)];rfl
theorem Zkr {w out:List Nat}(hw:2<=w.length) (h:Depths w out) (h20:∀ x∈out,x<=20):Whole out:=by
 have hpos:=Zq2 hw h;refine⟨λx hx=>⟨hpos x hx,h20 x hx⟩,?_⟩;obtain⟨s,r,hj,hr,hl,hu⟩:=h;obtain⟨ρ,δ,hK⟩:=Zvf (E:=w.length+20) hj (by omega);have hg:=(Zbz hj).1
 have hroot:∀ p,s.I[r]?≠some (some p):=λp e=>by rw[hg.live r (by rw[hr];exact mem_singleton.2 rfl)] at e;cases e
 have hs:=hK.sum r (by rw[hr];exact mem_singleton.2 rfl)
 have e:sm w.length (λi=>if ρ i=r then 2^(w.length+20 - δ i) else 0)=sm w.length λi=>2^w.length*2^(20 - out.getD i 0):=by
  refine Zg0 _ λi hi=>?_;obtain⟨g1,g2,_⟩:=hK.up i hi
  have g3:ρ i=r:=by rw[hr] at g2;exact mem_singleton.1 g2
  rw[if_pos g3];rw[g3] at g1;have g4:=g1.uniq hroot (hu i hi)
  have g5:out.getD i 0<=20:=by rw[gB,gA (by omega)];exact h20 _ (getElem_mem _)
  rw[g4,<-Nat.pow_add]
  congr 1
  omega
 rw[hs,Zrr,Nat.pow_add] at e;have:=Nat.eq_of_mul_eq_mul_left (Nat.pow_pos (by decide)) e;rw[Zw6,hl,<-this]
theorem Zkx {w out:List Nat}(h:LensOf w out):2<=w.length->Whole out:=by
 induction h with
 |fit h hl=>exact λhw=>Zkr hw h hl
 |more h hl r ih=>exact λhw=>ih (by unfold halved;rw[hS_];exact hw)
end Go.Mh
namespace Go.Vc
variable {P:Program}{w:World}{L:List HProp}
def mk (b:Nat) (t:TypeId) (cs:List Value):HProp:=blkO b (.cells cs.toArray t (cs.length,cs.length+1))
theorem Zh6 (H:Holds w L) (i:Nat){b:Nat}{t:TypeId}{cs:List Value}(hi:L[i]?=some (mk b t cs)) (o:Nat):w.cell? ⟨b,o,none⟩=cs[o]?:=by
 have:=H.obj i hi;simp[World.cell?,this]
theorem Zlv (H:Holds w L) (i:Nat){b:Nat}{t:TypeId}{cs:List Value}(hi:L[i]?=some (mk b t cs)){o:Nat}(ho:o < cs.length):w.frozen? ⟨b,o,none⟩=false:=by
 have:=H.obj i hi;simp[World.frozen?,this];omega
theorem Zyc (H:Holds w L) (i:Nat){b:Nat}{t:TypeId}{cs:List Value}(hi:L[i]?=some (mk b t cs)) (o:Nat) (v:Value) :
  Holds (w.setCell ⟨b,o,none⟩ v) (L.set i (mk b t (cs.set o v))):=by
 have h:=H.obj i hi;refine H.upd i hi ?_ λc hc=>?_
 ·simp[World.setCell,Array.getElem?_modify,h]
 ·simp only[World.setCell,Array.getElem?_modify];rw[if_neg (by simpa using λh=>hc h.symm)]
theorem Zgw (i:Nat){b:Nat}{t:TypeId}:∀ (vs:List Value) (o:Nat){w:World}{L:List HProp}{cs:List Value},Holds w L->L[i]?=some (mk b t cs)->o+vs.length<=cs.length->
  Same w (w.setCells b o vs)/\Holds (w.setCells b o vs) (L.set i (mk b t (cs.take o++(vs++cs.drop (o+vs.length)))))
 |[],o,w,L,cs,H,hi,hl=>by
  refine⟨Same.refl w,?_⟩;rw[hO_,length_nil,Nat.add_zero,hN_];have hl:i < L.length:=(gH.1 hi).1;have e1:L[i]=_:=(gH.1 hi).2;rw[<-e1,List.set_getElem_self];exact H
 |v::vs,o,w,L,cs,H,hi,hl=>by
  rw[length_cons] at hl;have h1:=Zyc H i hi o v;obtain⟨S2,h2⟩:=Zgw i vs (o+1) h1 (Za1 hi) (by rw[hX_];omega);refine⟨(Same.setCell w _ v).trans S2,?_⟩;rw[set_set] at h2
  have e:(cs.set o v).take (o+1)++(vs++(cs.set o v).drop (o+1+vs.length))=cs.take o++(v::vs++cs.drop (o+(v::vs).length)):=by
   have h3:(cs.set o v)[o]?=some v:=by rw[List.getElem?_set_self (by omega)]
   rw[gO,h3,List.take_set_of_le (Nat.le_refl o),List.drop_set_of_lt (by omega),length_cons,show o+1+vs.length=o+(vs.length+1) by omega];simp
  rw[e] at h2;exact h2
def SM (e:TypeId) (v:Value) (xs:List UInt8):HProp:=λh=>∃ b sp,v=.slice (some ⟨b,0,none⟩) xs.length (xs.length+sp.length)/\mk b e (xs.map bv++sp) h
theorem Zha (H:Holds w L) (i:Nat){e:TypeId}{v:Value}{xs:List UInt8}(hi:L[i]?=some (SM e v xs)):∃ b sp,v=.slice (some ⟨b,0,none⟩) xs.length (xs.length+sp.length)/\Holds w (L.set i (mk b e (xs.map bv++sp))):=by
 obtain⟨g,⟨b,sp,hv,hg⟩,hs,hL⟩:=H.front i hi;exact⟨b,sp,hv,Sat.push i hi ⟨g,hg,hs,hL⟩⟩
theorem Znx (H:Holds w L) (i:Nat){e:TypeId}{b:Nat}{xs:List UInt8}{sp:List Value}(hi:L[i]?=some (mk b e (xs.map bv++sp))):Holds w (L.set i (SM e (.slice (some ⟨b,0,none⟩) xs.length (xs.length+sp.length)) xs)):=
 H.at i hi λg hg=>⟨b,sp,rfl,hg⟩
theorem Yd0 (i:Nat) (H:Holds w L){e:TypeId}{v:Value}{xs:List UInt8}{k:IntKind}{j:Nat}{x:UInt8}{K:Value->Prop}(hi:L[i]?=some (SM e v xs)) (hx:xs[j]?=some x) (h:K (bv x)) :
  Ias 1 v (.int k (j:Int)) λp=>Ld p w K:=by
 obtain⟨b,sp,rfl,H1⟩:=Zha H i hi;have hj:j < xs.length:=(gH.1 hx).1;refine r_ias (by omega) (by omega) ?_;rw[gC,Nat.zero_add,Nat.mul_one];refine r_ldP ?_ h;rw[Zh6 H1 i (Za1 hi),gM (by simpa using hj),hV_,hx];rfl
theorem Yd5 (i:Nat) (H:Holds w L){e:TypeId}{v:Value}{xs:List UInt8}{k:IntKind}{j:Nat}(x:UInt8){K:World->Prop}(hi:L[i]?=some (SM e v xs)) (hj:j < xs.length)
  (h:∀ w',Same w w'->Holds w' (L.set i (SM e v (xs.set j x)))->K w'):Ias 1 v (.int k (j:Int)) λp=>St p (bv x) w K:=by
 obtain⟨b,sp,rfl,H1⟩:=Zha H i hi;refine r_ias (by omega) (by omega) ?_;rw[gC,Nat.zero_add,Nat.mul_one]
 have hc:(xs.map bv++sp)[j]?=some (bv xs[j]):=by rw[gM (by simpa using hj),hV_,gA hj];rfl
 refine⟨_,bv xs[j],rfl,by rw[Zh6 H1 i (Za1 hi),hc],Zlv H1 i (Za1 hi) (by simp;omega),rfl,h _ (Same.setCell _ _ _) ?_⟩;have H2:=Zyc H1 i (Za1 hi) j (bv x);rw[set_set,List.set_append_left _ _ (by simpa using hj),<-map_set] at H2;have H3:=Znx H2 i (Za1 hi);rw[set_set,hX_] at H3;exact H3
theorem r_cpM {t e:TypeId}{z:Value} [hr:Row P t e z] (H:Holds w L) (q:Nat){b:Nat}{xs:List UInt8}{sp:List Value}{i:Nat}{ty:TypeId}{K:KT}
  (hq:L[q]?=some (mk b e (xs.map bv++sp))) (hi:i < xs.length) (h:∀ v w',Same w w'->Holds w' (L.set q (mk b e ((xs.take 1++(xs.take i++xs.drop (i+1))).map bv++sp)))->K v w') :
  Cp P #[t,t] ty #[.slice (if xs.length+sp.length=1 then some ⟨b,0,none⟩ else (some (⟨b,0,none⟩:Addr)).map (·.add (1*1))) (i+1 - 1) (xs.length+sp.length - 1),.slice (some ⟨b,0,none⟩) i (xs.length+sp.length)] w K:=by
 obtain⟨inf,hinf,hsz,hby,hzz⟩:=hr.inf
 have hinf1:(P.info? e).map (·.size)=some 1:=by rw[hinf];simp[hsz]
 rcases Nat.eq_zero_or_pos i with h0|h0
 ·subst h0;refine r_cp (run_copy_none w t t ty e _ _ _ _ 0 _ hr.und hinf1 rfl) (h _ _ (.refl _) ?_)
  rw[List.take_zero,hO_,Nat.zero_add,hN_,show L.set q (mk b e (xs.map bv++sp))=L from by
   have hl:q < L.length:=(gH.1 hq).1;have e1:L[q]=_:=(gH.1 hq).2
   rw[<-e1,List.set_getElem_self]]
  exact H
 ·have hne:¬ xs.length+sp.length=1:=by omega
  rw[if_neg hne];have ea:(some (⟨b,0,none⟩:Addr)).map (·.add (1*1))=some ⟨b,1,none⟩:=rfl;rw[ea]
  have hcl:((xs.take i).map bv).length=i:=by simp;omega
  have hcs:(xs.map bv++sp).length=xs.length+sp.length:=by simp
  have hrun:=run_copy_cells (P:=P) w t t ty e b 1 (i+1 - 1) (xs.length+sp.length - 1) ⟨b,0,none⟩ i (xs.length+sp.length) ((xs.take i).map bv) hr.und hinf1
   (by rw[hcl,Nat.add_sub_cancel];exact (Nat.min_self i).symm) (λj v hv=>by
    have e1:(⟨b,0,none⟩:Addr).add j=⟨b,j,none⟩:=by
     unfold Addr.add;split
     ·rename_i h;rw[h]
     ·simp
    rw[e1,Zh6 H q hq j]
    have hj:j < i:=by have:=(gH.1 hv).1;rw[hcl] at this;exact this
    rw[gM (by simp;omega),<-hv,hV_,hV_,hI_ hj])
   (λj hj=>by rw[Zh6 H q hq,gA (by rw[hcs];omega)];rfl)
   (λj hj=>Zlv H q hq (by rw[hcs];omega)) (λv hv=>by
    obtain⟨y,_,rfl⟩:=mem_map.1 hv
    rfl)
  obtain⟨S2,H2⟩:=Zgw q ((xs.take i).map bv) 1 H hq (by rw[hcl,hcs];omega);refine r_cp hrun (h _ _ S2 ?_)
  have e:(xs.map bv++sp).take 1++((xs.take i).map bv++(xs.map bv++sp).drop (1+((xs.take i).map bv).length))=(xs.take 1++(xs.take i++xs.drop (i+1))).map bv++sp:=by
   rw[hcl,List.take_append_of_le_length (by simp;omega),List.drop_append_of_le_length (by simp;omega)];simp[Nat.add_comm]
  rw[e] at H2;exact H2
theorem r_csb {t e d:TypeId} [hr:Bytes P t e d] (H:Holds w L){s:List UInt8}{K:KT}(h:∀ v w',Same w w'->Holds w' (SM e v s::L)->K v w'):Cw P d t (.string ⟨s.toArray⟩) w K:=by
 have hrun:=run_bytes_of_string (P:=P) w d t e ⟨s.toArray⟩ hr.str hr.und hr.el;refine⟨_,_,hrun,h _ _ ((Same.drew w).trans (.alloc _ _)) ?_⟩;have hcap:=grownCap_ge w (⟨s.toArray⟩:ByteArray).size 0 e
 have hsz:(⟨s.toArray⟩:ByteArray).size=s.length:=by show s.toArray.size=_;simp
 rw[hsz] at hcap ⊢;generalize grownCap w s.length 0 e=cap at hcap ⊢
 have hb:bytesRow ⟨s.toArray⟩ cap=(s.map bv++List.replicate (cap - s.length) (Value.int .u8 0)).toArray:=by
  unfold bytesRow;rw[hsz];apply Array.ext';simp
 have H2:=(H.same (w':=w.drew) rfl).alloc (.cells (bytesRow ⟨s.toArray⟩ cap) e ((bytesRow ⟨s.toArray⟩ cap).size,(bytesRow ⟨s.toArray⟩ cap).size+1));refine Holds.imp H2 λg hg=>⟨w.heap.size,List.replicate (cap - s.length) (Value.int .u8 0),?_,?_⟩
 ·rw[gP,show s.length+(cap - s.length)=cap by omega]
 ·unfold mk;rw[hb] at hg
  have e1:(s.map bv++List.replicate (cap - s.length) (Value.int .u8 0)).toArray.size=(s.map bv++List.replicate (cap - s.length) (Value.int .u8 0)).length:=by simp
  rw[e1] at hg;exact hg
end Go.Vc
namespace Go.Mw
open Go.Mz
def mE (x:List UInt8 × List Nat) (c:UInt8):List UInt8 × List Nat:=(frontB x.1 (x.1.idxOf c),x.2++[x.1.idxOf c])
def mtfE (o s:List UInt8):List UInt8 × List Nat:=s.foldl mE (o,[])
theorem Zgk (o s:List UInt8) (c:UInt8):mtfE o (s++[c])=mE (mtfE o s) c:=by simp[mtfE]
theorem Zuq {o:List UInt8}{i:Nat}(hi:i < o.length) (x:UInt8):x∈frontB o i↔x∈o:=by
 unfold frontB
 have e:o=o.take i++o.getD i 0::o.drop (i+1):=by
  conv=>lhs;rw[<-hN_ i o]
  rw[List.drop_eq_getElem_cons hi,gB,gA hi];rfl
 conv=>rhs;rw[e]
 simp only[mem_cons,hT_]
 constructor
 ·rintro (h|h|h)
  ·exact .inr (.inl h)
  ·exact .inl h
  ·exact .inr (.inr h)
 ·rintro (h|h|h)
  ·exact .inr (.inl h)
  ·exact .inl h
  ·exact .inr (.inr h)
theorem Zy9 {o:List UInt8}{c:UInt8}(h:c∈o):o.idxOf c < o.length:=List.idxOf_lt_length_of_mem h
theorem Zo0 {o s:List UInt8}(h:∀ c∈s,c∈o):(∀ x,x∈(mtfE o s).1↔x∈o)/\(mtfE o s).1.length=o.length/\(mtfE o s).2.length=s.length/\∀ p∈(mtfE o s).2,p < o.length:=by
 have key:∀ i,i<=s.length->(∀ x,x∈(mtfE o (s.take i)).1↔x∈o)/\(mtfE o (s.take i)).1.length=o.length/\(mtfE o (s.take i)).2.length=i/\∀ p∈(mtfE o (s.take i)).2,p < o.length:=by
  intro i
  induction i with
  |zero=>intro _;exact⟨λx=>Iff.rfl,rfl,rfl,λp hp=>by simp[mtfE] at hp⟩
  |succ i ih=>
   intro hi;obtain⟨h1,h2,h3,h4⟩:=ih (by omega)
   have hg:s.take (i+1)=s.take i++[s[i]]:=by rw[gO,gA (by omega)];rfl
   have hm:s[i]∈(mtfE o (s.take i)).1:=(h1 _).2 (h _ (getElem_mem _));have hlt:=Zy9 hm;rw[hg,Zgk];unfold mE;refine⟨λx=>by rw[Zuq hlt];exact h1 x,by rw[Zi3 hlt];exact h2,by rw[gD,h3];rfl,λp hp=>?_⟩;rcases hT_.1 hp with hp|hp
   ·exact h4 p hp
   ·rw[mem_singleton.1 hp];omega
 have:=key s.length (Nat.le_refl _)
 rwa [hF_] at this
def rowZ (m:Nat):List Nat:=if h:m=0 then [] else (if m%2=1 then 0 else 1)::rowZ ((m - 1)/2)
termination_by m
decreasing_by omega
theorem Zhj:rowZ 0=[]:=by rw[rowZ];rfl
theorem Zkf {m:Nat}(h:m≠0):rowZ m=(if m%2=1 then 0 else 1)::rowZ ((m - 1)/2):=by
 rw[rowZ,dif_neg h]
theorem Zfz (m:Nat):(rowZ m).length<=m:=by
 induction m using Nat.strongRecOn with
 |_ m ih=>
  by_cases h:m=0
  ·subst h;rw[Zhj];exact Nat.le_refl _
  ·rw[Zkf h,length_cons];have:=ih ((m - 1)/2) (by omega);omega
theorem Znb (m:Nat):∀ c∈rowZ m,c<=1:=by
 induction m using Nat.strongRecOn with
 |_ m ih=>
  by_cases h:m=0
  ·subst h;rw[Zhj];intro c hc;cases hc
  ·rw[Zkf h];intro c hc;rcases mem_cons.1 hc with hc|hc
   ·rw[hc];split <;> omega
   ·exact ih _ (by omega) c hc
def zE (x:List Nat × Nat) (p:Nat):List Nat × Nat:=if p=0 then (x.1,x.2+1) else (x.1++rowZ x.2++[p+1],0)
def zenc (l:List Nat):List Nat × Nat:=l.foldl zE ([],0)
theorem Zf5 (l:List Nat) (p:Nat):zenc (l++[p])=zE (zenc l) p:=by simp[zenc]
def rowE (l:List Nat) (n:Nat):List Nat:=(zenc l).1++rowZ (zenc l).2++[n+1]
theorem Zp8 (l:List Nat):(zenc l).1.length+(zenc l).2<=l.length:=by
 have key:∀ i,i<=l.length->(zenc (l.take i)).1.length+(zenc (l.take i)).2<=i:=by
  intro i
  induction i with
  |zero=>intro _;exact Nat.le_refl _
  |succ i ih=>
   intro hi
   have hg:l.take (i+1)=l.take i++[l[i]]:=by rw[gO,gA (by omega)];rfl
   have h1:=ih (by omega);rw[hg,Zf5];unfold zE;have h2:=Zfz (zenc (l.take i)).2;split
   ·simp only;omega
   ·simp only[gD,gQ];omega
 have:=key l.length (Nat.le_refl _)
 rwa [hF_] at this
theorem Zup {l:List Nat}{n:Nat}(h:∀ p∈l,p < n):∀ c∈(zenc l).1,c<=max n 1:=by
 have key:∀ i,i<=l.length->∀ c∈(zenc (l.take i)).1,c<=max n 1:=by
  intro i
  induction i with
  |zero=>intro _ c hc;simp[zenc] at hc
  |succ i ih=>
   intro hi
   have hg:l.take (i+1)=l.take i++[l[i]]:=by rw[gO,gA (by omega)];rfl
   rw[hg,Zf5];unfold zE;split
   ·exact ih (by omega)
   ·intro c hc;have hp:=h l[i] (getElem_mem _);rcases hT_.1 hc with hc|hc
    ·rcases hT_.1 hc with hc|hc
     ·exact ih (by omega) c hc
     ·have:=Znb _ c hc;omega
    ·rw[mem_singleton.1 hc];omega
 have:=key l.length (Nat.le_refl _)
 rwa [hF_] at this
theorem Zoh (l:List Nat) (n:Nat):(rowE l n).length<=l.length+1:=by
 have h1:=Zp8 l;have h2:=Zfz (zenc l).2;unfold rowE;simp only[gD,gQ];omega
theorem Yah {l:List Nat}{n:Nat}(h:∀ p∈l,p < n) (hn:1<=n):∀ c∈rowE l n,c<=n+1:=by
 intro c hc;unfold rowE at hc;rcases hT_.1 hc with hc|hc
 ·rcases hT_.1 hc with hc|hc
  ·have:=Zup h c hc;omega
  ·have:=Znb _ c hc;omega
 ·rw[mem_singleton.1 hc];omega
end Go.Mw
namespace Go.M45
def lgP (n:Nat):Nat->Nat->Nat
 |0,b=>b
 |f+1,b=>if 2^b < n then lgP n f (b+1) else b
def lg (n:Nat):Nat:=lgP n n 0
theorem Zpm (n:Nat):∀ f b,(∀ j,j < b->2^j < n)->n<=2^(b+f)->(∀ j,j < lgP n f b->2^j < n)/\n<=2^lgP n f b
 |0,b,h,h2=>⟨h,h2⟩
 |f+1,b,h,h2=>by
  rw[lgP];split
  ·rename_i h3;refine Zpm n f (b+1) (λj hj=>?_) (by rw[show b+1+f=b+(f+1) by omega];exact h2);rcases hU_ j b with h4|h4
   ·exact h j h4
   ·have:j=b:=by omega
    rw[this];exact h3
  ·exact⟨h,by omega⟩
theorem Zgm (n:Nat):(∀ j,j < lg n->2^j < n)/\n<=2^lg n:=
 Zpm n n 0 (λj hj=>by omega) (by rw[Nat.zero_add];exact Nat.le_of_lt Nat.lt_two_pow_self)
theorem Yd7 (n b:Nat) (h1:∀ j,j < b->2^j < n) (h2:n<=2^b):b=lg n:=by
 obtain⟨h3,h4⟩:=Zgm n;rcases Nat.lt_trichotomy b (lg n) with h|h|h
 ·have:=h3 b h;omega
 ·exact h
 ·have:=h1 _ h;omega
theorem lg_le (n m:Nat) (h:n<=2^m):lg n<=m:=by
 rcases hU_ m (lg n) with h1|h1
 ·have:=(Zgm n).1 m h1;omega
 ·exact h1
def each (n:Nat):Nat:=(4+3*lg n)*(lg n+2)
theorem Yar (n:Nat) (h:n<=1048576):each n<=1408:=by
 have:=lg_le n 20 h;unfold each;exact Nat.mul_le_mul (show 4+3*lg n<=64 by omega) (show lg n+2<=22 by omega)
def mostS (n:Nat):Nat:=n*each n
theorem Zxc (n:Nat) (h:n<=1048576):mostS n<=1048576*1408:=Nat.mul_le_mul h (Yar n h)
end Go.M45
namespace Go.Mr
open Go.M18
def cM (m:Nat):Nat:=if h:m < 2 then 1 else 1+(cM (m/2)+cM (m - m/2)+(m/2+m))
termination_by m
decreasing_by all_goals omega
theorem Ybv {m:Nat}(h:2<=m):cM (m/2)+(cM (m - m/2)+(m/2+m)) < cM m:=by
 rw[cM.eq_1 m,dif_neg (by omega)];omega
theorem Yc6 (m:Nat):1<=cM m:=by
 rw[cM]
 split <;> omega
theorem cM_le:∀ (b m:Nat),1<=m->m<=2^b->2*cM m+2<=4*m+3*(m*b)
 |0,m,h1,h2=>by
  have:m=1:=by rw[Nat.pow_zero] at h2;omega
  subst this;rw[cM,dif_pos (by decide)];decide
 |b+1,m,h1,h2=>by
  by_cases h:m < 2
  ·have:m=1:=by omega
   subst this;rw[cM,dif_pos (by decide)];omega
  ·rw[Nat.pow_succ] at h2;have a1:=cM_le b (m/2) (by omega) (by omega);have a2:=cM_le b (m - m/2) (by omega) (by omega);rw[cM,dif_neg h]
   have e1:m*(b+1)=m*b+m:=by rw[Nat.mul_add,Nat.mul_one]
   have e2:m/2*b+(m - m/2)*b=m*b:=by rw[<-Nat.add_mul];congr 1;omega
   rw[e1];omega
def pl (n:Nat):Nat->Nat->Nat
 |0,_=>0
 |f+1,t=>if n<=t then 0 else pl n f (2*t)+1
def rp (n t:Nat):Nat:=if t=0 then pl n n 1+1 else pl n n t
theorem Zsc (n:Nat):∀ (f g t:Nat),1<=t->n<=t+f->n<=t+g->pl n f t=pl n g t
 |0,0,t,_,_,_=>rfl
 |0,g+1,t,h1,h2,_=>by
  show 0=if n<=t then 0 else _
  rw[if_pos (by omega)]
 |f+1,0,t,h1,_,h3=>by
  show (if n<=t then 0 else _)=0;rw[if_pos (by omega)]
 |f+1,g+1,t,h1,h2,h3=>by
  show (if n<=t then 0 else pl n f (2*t)+1)=(if n<=t then 0 else pl n g (2*t)+1);split
  ·rfl
  ·rw[Zsc n f g (2*t) (by omega) (by omega) (by omega)]
theorem Yb3 {n t:Nat}(h:t < n):rp n t=rp n (max 1 (2*t))+1:=by
 unfold rp
 by_cases h0:t=0
 ·subst h0;rfl
 ·rw[if_neg h0,if_neg (by omega),show max 1 (2*t)=2*t by omega];have:pl n n t=pl n (n+1) t:=Zsc n n (n+1) t (by omega) (by omega) (by omega);rw[this];show (if n<=t then 0 else pl n n (2*t)+1)=_;rw[if_neg (by omega)]
theorem pl_le (n:Nat):∀ (b f t:Nat),1<=t->n<=t*2^b->pl n f t<=b
 |_,0,_,_,_=>Nat.zero_le _
 |0,f+1,t,h1,h2=>by
  show (if n<=t then 0 else _)<=0;rw[if_pos (by simpa using h2)];exact Nat.le_refl 0
 |b+1,f+1,t,h1,h2=>by
  show (if n<=t then 0 else pl n f (2*t)+1)<=b+1;split
  ·omega
  ·have:=pl_le n b f (2*t) (by omega) (by rw[Nat.pow_succ] at h2;rw[Nat.mul_comm 2 t,Nat.mul_assoc,Nat.mul_comm 2];exact h2);omega
namespace Fine
def cost (p:Pt):Nat:=if p.mid=0 then cM (p.hi - p.lo) else (p.mid - p.lo)+(p.hi - p.lo)
def costs:List Pt->Nat
 |[]=>0
 |p::st=>cost p+costs st
def passC (n:Nat):Nat:=cM n+n
def mu (n:Nat) (x:SS):Nat:=if x.done=true then 0 else (rp n x.reach*passC n+costs x.stack+mCost x+(n - x.ranked))
variable {s:List UInt8}{x:SS}{k:Key}{n:Nat}
theorem mu_eq (h:x.done=false):mu n x=(rp n x.reach*passC n+costs x.stack+mCost x+(n - x.ranked)):=by
 unfold mu;rw[if_neg (by rw[h];exact Bool.false_ne_true)]
theorem join_mu (hb:Bs n x) (h:PhC k n x):mu n (joinS x)=mu n x:=by
 unfold joinS;split
 ·rfl
 ·rename_i p st e;split
  ·rename_i q;rcases h with h|⟨R,h⟩
   ·have hw:=h.wf;rw[e] at hw;obtain⟨⟨w1,w2⟩,hc,_⟩:=hw;unfold Cond at hc;rw[if_neg q.2] at hc;have c1:=hc.1;have c2:=hc.2.1
    have:costs (p::st)=(p.mid - p.lo)+(p.hi - p.lo)+costs st:=by
     show cost p+costs st=_;unfold cost;rw[if_neg q.2]
    rw[mu_eq hb.nd,mu_eq (x:={ x with merge:=p,stack:=st,laid:=0,first:=0,second:=p.mid }) hb.nd,Zb9 q.1,Zbl (x:={ x with merge:=p,stack:=st,laid:=0,first:=0,second:=p.mid }) (by show ¬ p.hi=0;omega),e,this];show (rp n x.reach*passC n+costs st+(p.mid - p.lo - 0+(p.hi - (p.lo+0+p.mid - p.mid)))+(n - x.ranked))=_;omega
   ·have:=h.m2;omega
  ·rfl
theorem begin_cost {lo hi:Nat}(h:2<=hi - lo):cost ⟨lo,0,(lo+hi)/2⟩+(cost ⟨(lo+hi)/2,0,hi⟩+cost ⟨lo,(lo+hi)/2,hi⟩) < cost ⟨lo,0,hi⟩:=by
 unfold cost;rw[if_pos rfl,if_pos rfl,if_pos rfl,if_neg (by show ¬ (lo+hi)/2=0;omega)];simp only
 have e1:(lo+hi)/2 - lo=(hi - lo)/2:=by omega
 have e2:hi - (lo+hi)/2=(hi - lo) - (hi - lo)/2:=by omega
 rw[e1,e2];have:=Ybv h;omega
theorem pass_mu {y:SS}(hd:x.done=false) (hyd:y.done=false) (h1:x.reach < n) (h2:y.reach=max 1 (2*x.reach)) (h3:y.stack=[⟨0,0,n⟩]) (h4:y.merge.hi=0) (h5:y.ranked=0) (h6:x.ranked < n):mu n y < mu n x:=by
 unfold mu;rw[hd,hyd,if_neg (by simp),if_neg (by simp),h3,h5]
 have e1:mCost y=0:=by unfold mCost;rw[if_pos h4]
 have e2:costs [⟨0,0,n⟩]=cM n:=by
  show cost ⟨0,0,n⟩+0=_;unfold cost;rw[if_pos rfl];rfl
 rw[e1,e2,h2];have h7:=Yb3 h1
 have h8:rp n x.reach*passC n=rp n (max 1 (2*x.reach))*passC n+passC n:=by rw[h7,Nat.add_mul,Nat.one_mul]
 have h9:passC n=cM n+n:=rfl;omega
theorem rank_mu (hd:x.done=false) (h:x.ranked < n):mu n (rank1 k x) < mu n x:=by
 unfold mu;rw[show (rank1 k x).done=x.done from rfl,hd,if_neg (by simp),if_neg (by simp)];show (rp n x.reach*passC n+costs x.stack+mCost x+(n - (x.ranked+1))) < _;omega
theorem step_ok (h:Inv s x):mu s.length (stepS (keyS s x) s.length x) < mu s.length x/\
  (((stepS (keyS s x) s.length x).done=true/\(stepS (keyS s x) s.length x).order=sortP s s.length)\/Inv s (stepS (keyS s x) s.length x)):=by
 have hj:=Znr h.bs h.ph;have hjm:=join_mu h.bs h.ph
 have hjk:keyS s (joinS x)=keyS s x/\Cls s (joinS x):=by
  unfold joinS;split
  ·exact⟨rfl,h.cls⟩
  ·split
   ·exact⟨rfl,h.cls⟩
   ·exact⟨rfl,h.cls⟩
 unfold stepS;rw[<-hjm];generalize joinS x=y at *;obtain⟨hb,hp,hm⟩:=hj;obtain⟨hk,hc⟩:=hjk;rw[<-hk] at hp ⊢;have hnd:=hb.nd;unfold restS
 by_cases q1:0 < y.merge.hi/\y.laid < y.merge.mid - y.merge.lo
 ·rw[if_pos q1];obtain⟨b1,b2⟩:=Zyg hb hp q1.1 q1.2;refine⟨?_,.inr ⟨b1,hc,b2⟩⟩;rw[mu_eq hnd,mu_eq (x:=layS y) hnd,Zbl (x:=y) (by omega),Zbl (x:=layS y) (by show ¬ y.merge.hi=0;omega)];show (rp s.length y.reach*passC s.length+costs y.stack+(y.merge.mid - y.merge.lo - (y.laid+1)+(y.merge.hi - toS y))+(s.length - y.ranked)) < _;omega
 ·rw[if_neg q1]
  by_cases q2:0 < y.merge.hi
  ·rw[if_pos q2];have q3:¬ y.laid < y.merge.mid - y.merge.lo:=λz=>q1 ⟨q2,z⟩;obtain⟨b1,b2⟩:=Zyh hb hp q2 q3
   have hcl:Cls s (putS (keyS s y) y):=by
    unfold putS moveS;split
    ·split <;> exact hc
    ·split <;> exact hc
   have hky:keyS s (putS (keyS s y) y)=keyS s y:=by
    unfold putS moveS;split
    ·split <;> rfl
    ·split <;> rfl
   refine⟨?_,.inr ⟨b1,hcl,by rw[hky];exact b2⟩⟩;rcases hp with hp|⟨R,hp⟩
   ·have:=hp.none;omega
   have hm1:=hp.m1;have hm2:=hp.m2;have hlay:=hp.lay
   obtain⟨v,f,c,e,_,_,_,_,t1,_⟩:=Zmg hb hp (by omega);obtain⟨_,_,_,l4,_⟩:=hp.late (by omega);unfold putS;rw[e];rw[mu_eq hnd,Zbl (x:=y) (by omega)];split
   ·rename_i q;rw[mu_eq (by exact hnd),Zb9 (by rfl)];show (rp s.length y.reach*passC s.length+costs y.stack+0+(s.length - y.ranked)) < _;omega
   ·rename_i q;rw[mu_eq (by exact hnd),Zbl (by show ¬ y.merge.hi=0;omega)];show (rp s.length y.reach*passC s.length+costs y.stack+(y.merge.mid - y.merge.lo - y.laid+(y.merge.hi - (y.merge.lo+f+c - y.merge.mid)))+(s.length - y.ranked)) < _;omega
  ·rw[if_neg q2]
   by_cases q3:y.stack≠[]
   ·rw[if_pos q3];obtain⟨b1,b2⟩:=Zox hb hp q2 q3 (hm (by omega))
    have hcl:Cls s (beginS y):=by
     unfold beginS;split
     ·exact hc
     ·split <;> exact hc
    have hky:keyS s (beginS y)=keyS s y:=by
     unfold beginS;split
     ·rfl
     ·split <;> rfl
    refine⟨?_,.inr ⟨b1,hcl,by rw[hky];exact b2⟩⟩;rcases hp with hp|⟨R,hp⟩
    rotate_left
    ·have:=hp.m2;omega
    unfold beginS;split
    ·rename_i e;exact absurd e q3
    ·rename_i p st e;have hw:=hp.wf;rw[e] at hw;have h0:=hw.1;have hmid:=hm (by omega) p st e;obtain⟨lo,mid,hi⟩:=p;simp only at hmid h0;subst hmid;have ec:costs (⟨lo,0,hi⟩::st)=cost ⟨lo,0,hi⟩+costs st:=rfl;rw[mu_eq hnd,Zb9 (show y.merge.hi=0 by omega),e,ec];split
     ·rename_i q;rw[mu_eq (by exact hnd),Zb9 (by show y.merge.hi=0;omega)]
      have h9:1<=cost ⟨lo,0,hi⟩:=by
       unfold cost;rw[if_pos rfl];exact Yc6 _
      show (rp s.length y.reach*passC s.length+costs st+0+(s.length - y.ranked)) < _;omega
     ·rename_i q;simp only at q;rw[mu_eq (by exact hnd),Zb9 (by show y.merge.hi=0;omega)];have h9:=begin_cost (lo:=lo) (hi:=hi) (by omega);show (rp s.length y.reach*passC s.length+(cost ⟨lo,0,(lo+hi)/2⟩+(cost ⟨(lo+hi)/2,0,hi⟩+(cost ⟨lo,(lo+hi)/2,hi⟩+costs st)))+0+(s.length - y.ranked)) < _;omega
   ·rw[if_neg q3];have q4:y.stack=[]:=Classical.byContradiction q3;have hi:Inv s y:=⟨hb,hc,hp⟩;obtain⟨_,_,hkn,hgo,_⟩:=Zmc hb hp q2 q4;unfold rankS;split
    ·rename_i q;have:=Zux hi q2 q4 q;simp only at this;rcases this with⟨p1,p2⟩|⟨p1,p2,p3,p4,p5,p6,p7⟩
     ·refine⟨?_,.inl ⟨p1,p2⟩⟩;unfold mu;rw[p1,hnd,if_pos rfl,if_neg (by simp)];omega
     ·have hr:(passS s.length (rank1 (keyS s y) y)).reach=max 1 (2*y.reach):=by
       unfold passS at p1 ⊢;split
       ·rename_i q5;rw[if_pos q5] at p1;cases p1
       ·rfl
      exact⟨pass_mu hnd p1 p3 hr p5 p6 p7 hkn,.inr p2⟩
    ·rename_i q;obtain⟨b1,b2⟩:=hgo (by omega);exact⟨rank_mu hnd hkn,.inr ⟨b1,hc,b2⟩⟩
theorem mu_start {n:Nat}(hn:2<=n):mu n (start n)<=M45.mostS n:=by
 unfold mu;rw[if_neg (by simp[start])];show rp n 0*passC n+(cost ⟨0,0,n⟩+0)+0+(n - 0)<=_
 have h1:cost ⟨0,0,n⟩=cM n:=by unfold cost;rw[if_pos rfl];rfl
 have h2:rp n 0<=M45.lg n+1:=by
  show pl n n 1+1<=_;have:=pl_le n (M45.lg n) n 1 (Nat.le_refl 1) (by rw[Nat.one_mul];exact (M45.Zgm n).2);omega
 have h3:=cM_le (M45.lg n) n (by omega) (M45.Zgm n).2
 have h4:passC n<=n*(4+3*M45.lg n):=by
  unfold passC
  have e:n*(4+3*M45.lg n)=4*n+3*(n*M45.lg n):=by rw[Nat.mul_add,Nat.mul_comm n 4,<-Nat.mul_assoc,Nat.mul_comm n 3,Nat.mul_assoc]
  rw[e];omega
 have h5:rp n 0*passC n+(cM n+n)<=(M45.lg n+2)*(n*(4+3*M45.lg n)):=by
  have h6:(rp n 0+1)*passC n<=(M45.lg n+2)*(n*(4+3*M45.lg n)):=Nat.mul_le_mul (by omega) h4;rw[Nat.add_mul,Nat.one_mul] at h6;exact h6
 have e2:M45.mostS n=(M45.lg n+2)*(n*(4+3*M45.lg n)):=by
  unfold M45.mostS M45.each;rw[<-Nat.mul_assoc,Nat.mul_comm]
 rw[h1,e2];omega
end Fine
end Go.Mr
namespace Go.Q21
open Go.M01 Go.Mb Go.Mp Go.M10 Go.Mz
theorem Zsj (l:List Bool):∀ a:Nat,l.foldl (λa b=>2*a+b.toNat) a=a*2^l.length+valB l:=by
 induction l with
 |nil=>intro a;simp[valB]
 |cons b l ih=>
  intro a;have h1:=ih (2*a+b.toNat);have h2:=ih (2*0+b.toNat);unfold valB;rw[List.foldl_cons,List.foldl_cons,h1,h2,length_cons,Nat.pow_succ,Nat.add_mul,Nat.add_mul,Nat.mul_comm 2 a,Nat.mul_assoc,Nat.mul_comm 2 (2^l.length)];omega
theorem Zx7 (a b:List Bool):valB (a++b)=valB a*2^b.length+valB b:=by
 have:=Zsj b (valB a);unfold valB at this ⊢;rw[List.foldl_append];exact this
theorem Zr9 {l:List Bool}{v n:Nat}(hl:l.length=n) (hv:valB l=v):l=bitsOf v n:=by
 subst hl hv;exact Zx1 (n:=l.length) rfl (Za4 _ _) (valB_bitsOf _ _ (Zd1 l)).symm
def cnt (q:List Bool) (i:Nat):Nat:=((List.range i).filter λi=>q.getD i false).length
theorem Zwn (q:List Bool) (i:Nat):cnt q (i+1)=cnt q i+(q.getD i false).toNat:=by
 unfold cnt;rw[range_succ,List.filter_append,gD]
 congr 1
 rw[List.filter_cons]
 cases q.getD i false <;> rfl
theorem cnt_le (q:List Bool):∀ i,i<=16->cnt q i<=(marksL q).length:=by
 have mono:∀ i k,cnt q i<=cnt q (i+k):=by
  intro i k
  induction k with
  |zero=>exact Nat.le_refl _
  |succ k ih=>rw[<-hG_,Zwn];omega
 intro i hi;have:=mono i (16 - i)
 rwa [show i+(16 - i)=16 by omega] at this
def below (T:Nat->Bool) (b:Nat):List UInt8:=((List.range b).filter T).map UInt8.ofNat
end Go.Q21
namespace Go.Vc
section
variable {P:Program}{w:World}{L:List HProp}
theorem Zj1:∀ (us cs:List Value) (o:Nat),o+us.length<=cs.length->setL cs o us=cs.take o++us++cs.drop (o+us.length)
 |[],cs,o,h=>by simp[setL]
 |u::us,cs,o,h=>by
  simp only[length_cons] at h;rw[setL,Zj1 us (cs.set o u) (o+1) (by rw[hX_];omega)]
  have h1:(cs.set o u).take (o+1)=cs.take o++[u]:=by
   rw[gO,List.getElem?_set_self (by omega)];simp only[Option.toList_some]
   congr 1
   exact List.take_set_of_le (Nat.le_refl o)
  have h2:(cs.set o u).drop (o+1+us.length)=cs.drop (o+(us.length+1)):=by
   rw[show o+1+us.length=o+(us.length+1) by omega];exact List.drop_set_of_lt (by omega)
  rw[h1,h2];simp
theorem Zei (b:Nat):∀ (vs:List Value) (w:World) (o:Nat),w.setCells b o vs=Vc.setCells w ⟨b,0,none⟩ vs o
 |[],w,o=>rfl
 |v::r,w,o=>by
  rw[World.setCells,Vc.setCells,Zei b r]
  have e1:(⟨b,0,none⟩:Addr).add o=⟨b,o,none⟩:=by
   unfold Addr.add;split
   ·rename_i h;rw[h]
   ·simp
  rw[e1]
theorem Ybb {t e tx:TypeId}{z:Value} [hr:Row P t e z] (hk:P.underlying tx=some .string) (H:Holds w L) (i:Nat){v:Value}{xs ys:List UInt8}{ty:TypeId}{K:KT}
  (hi:L[i]?=some (SL bv e v xs)) (hn:xs.length+ys.length<=1099511627776)
  (h:∀ v' w',Same w w'->Holds w' (L.set i (SL bv e v' (xs++ys)))->K v' w'):Ap P #[t,tx] ty #[v,.string ⟨ys.toArray⟩] w K:=by
 obtain⟨inf,hinf,hsz,hby,hzz⟩:=hr.inf
 have hb:byteCells ⟨ys.toArray⟩=ys.map bv:=by
  unfold byteCells;simp
 have hsrc:∀ w,Src P inf.size tx (.string ⟨ys.toArray⟩) ys.length (ys.map bv) w:=λw=>by
  have:=Src.ofString (P:=P) w hk ⟨ys.toArray⟩;rw[hb] at this;rw[hsz]
  have e:(⟨ys.toArray⟩:ByteArray).size=ys.length:=by show ys.toArray.size=_;simp
  rw[e] at this;exact this
 obtain⟨oa,sp,rfl,H1⟩:=H.open i hi;have hil:i < L.length:=(gH.1 hi).1
 by_cases hy:ys=[]
 ·subst hy;refine⟨_,_,run_append_nothing w t tx ty e inf hr.und hinf oa xs.length (xs.length+sp.length) (by omega) _ (hsrc w),h _ _ (.refl _) ?_⟩
  rw[gU,show L.set i (SL bv e (.slice oa xs.length (xs.length+sp.length)) xs)=L from by
   have e1:L[i]=_:=(gH.1 hi).2
   rw[<-e1,List.set_getElem_self]]
  exact H
 have hy0:0 < ys.length:=gZ.2 hy;have hmul:(xs.length+ys.length)*inf.bytes<=140737488355328:=Nat.le_trans (Nat.mul_le_mul_left _ hby) (by omega)
 have hold:(Builtin.firstCells inf.size xs.length (.slice oa xs.length (xs.length+sp.length))).run P w.drew=.ok (xs.map bv).toArray w.drew:=by
  cases oa with
  |none=>
   obtain⟨g,⟨h2,h3⟩,_⟩:=H1.front i (Za1 hi);subst h2;exact run_firstCells_none w.drew inf.size 0 0 _
  |some a=>
   obtain⟨g,⟨h2,h3,_⟩,_⟩:=H1.front i (Za1 hi);obtain⟨b,o,s⟩:=a;simp only at h2 h3;subst h2;subst h3;have Hb:=H1.slb i (Za1 hi);refine run_firstCells_some w.drew inf.size xs.length ⟨b,0,none⟩ xs.length _ (xs.map bv) (by simp[hsz]) ?_;intro k u hu
   have e1:(⟨b,0,none⟩:Addr).add k=⟨b,k,none⟩:=by
    unfold Addr.add;split
    ·rename_i h;rw[h]
    ·simp
   rw[set_set] at Hb;have hc:=Hb.cell i (Za1 hi) k;rw[gM (by simpa using (gH.1 hu).1),hu] at hc;rw[e1];exact hc
 rcases hU_ sp.length ys.length with hg|hg
 ·have hrun:=run_append_grow_src (P:=P) w t tx ty e inf z hr.und hinf hzz oa xs.length (xs.length+sp.length) (xs.map bv) hold _ ys.length _ (hsrc w) (by omega) (by omega) (growslice_fits (by omega) hmul);refine⟨_,_,hrun,?_⟩;have hcap:=grownCap_ge w (xs.length+ys.length) (xs.length+sp.length) e;generalize grownCap w (xs.length+ys.length) (xs.length+sp.length) e=cap at hcap ⊢
  have hz2:Builtin.zeroCells z.cells (cap - (xs.length+ys.length))=(List.replicate (cap - (xs.length+ys.length)) z).toArray:=by
   rw[hr.one];apply Array.ext
   ·simp[Builtin.zeroCells]
   ·intro j h1 h2;simp[Builtin.zeroCells,Nat.mod_one]
  have hcells:((xs.map bv++ys.map bv).toArray++Builtin.zeroCells z.cells (cap - (xs.length+ys.length)))=((xs++ys).map bv++List.replicate (cap - (xs.length+ys.length)) z).toArray:=by
   rw[hz2];simp
  rw[hcells];have H2:=(H.same (w':=w.drew) rfl).alloc (.cells ((xs++ys).map bv++List.replicate (cap - (xs.length+ys.length)) z).toArray e);have H4:=(Holds.imp H2 (Q:=slb bv e (some ⟨w.heap.size,0,none⟩) (xs++ys) (List.replicate (cap - (xs.length+ys.length)) z)) λg hg=>⟨rfl,rfl,hg⟩);have H5:=H4.dropAt (i+1);rw[List.eraseIdx_cons_succ] at H5;have H6:Holds _ (L.set i (slb bv e (some ⟨w.heap.size,0,none⟩) (xs++ys) (List.replicate (cap - (xs.length+ys.length)) z))):=Sat.push i hi H5;have H7:=H6.close i (Za1 hi);rw[set_set] at H7
  have hc2:(xs++ys).length+(List.replicate (cap - (xs.length+ys.length)) z).length=cap:=by simp;omega
  have hl2:(xs++ys).length=xs.length+ys.length:=gD;rw[hc2,hl2] at H7;exact h _ _ ((Same.drew w).trans (.alloc _ _)) H7
 ·cases oa with
  |none=>
   obtain⟨g,⟨h2,h3⟩,_⟩:=H1.front i (Za1 hi);subst h3;simp at hg;exact absurd hg hy
  |some a=>
   obtain⟨g,⟨h2,h3,_⟩,_⟩:=H1.front i (Za1 hi);obtain⟨b,o,s⟩:=a;simp only at h2 h3;subst h2;subst h3;have Hb:=H1.slb i (Za1 hi);rw[set_set] at Hb;have hgi:=Za1 (Q:=blk b e (xs.map bv++sp)) hi
   have hrun:=run_append_room_src (P:=P) w t tx ty e inf hr.und hinf b 0 xs.length (xs.length+sp.length) _ ys.length _ (hsrc w) (by omega)
    (λj hj=>by
     rw[hS_] at hj
     rw[Hb.cell i hgi,hsz,Nat.mul_one,Nat.zero_add,gA (by rw[gD,hS_];omega)];rfl)
    (λj hj=>Hb.frozen i hgi _)
   refine⟨_,_,hrun,?_⟩;rw[Zei,hsz,Nat.mul_one,Nat.zero_add];have H3:=Holds.setCells (o:=0) i (ys.map bv) xs.length Hb hgi;rw[set_set,Zj1 _ _ _ (by simp;omega)] at H3
   have e2:(xs.map bv++sp).take (0+xs.length)++ys.map bv++(xs.map bv++sp).drop (0+xs.length+(ys.map bv).length)=(xs++ys).map bv++sp.drop ys.length:=by
    simp[List.take_append,List.drop_append]
   rw[e2] at H3;have H4:=Holds.slb' (f:=bv) (e:=e) (b:=b) (xs:=xs++ys) (sp:=sp.drop ys.length) H3 i (Za1 hi);rw[set_set] at H4;have H5:=H4.close i (Za1 hi);rw[set_set] at H5
   have hl:(xs++ys).length+(sp.drop ys.length).length=xs.length+sp.length:=by simp;omega
   have hl2:(xs++ys).length=xs.length+ys.length:=gD;rw[hl,hl2] at H5;exact h _ _ (Same.setCells _ _ _ _) H5
end
end Go.Vc
/-
 DERIVED: THE SHELF's CONTRACTS AT THIS DUMP,IN PLAIN WORDS (tools/lay-plain.mjs out of 'YtieneaffjelhhaaGreatShx.lean',which tools/lay-shelf.mjs wrote): THE SAME DECLARATIONS UNDER THE SAME NAMES: 'import','namespace','open','def','theorem' AND NOTHING ELSE: no command of the shelf's: FOR A HAND-IN. Each laying: the table of numbers ('.._ren') and one theorem,a field a fact of the dump's own or the kernel's comparison;each contract: ONE APPLICATION.
-/
namespace Go.Proofs
open Go.Shelf
def Tryz.lays105_ren:Go.Shelf.Ren:=⟨fun|105=>198|212=>215|99=>216|165=>217|166=>218|170=>219|169=>220|263=>239|264=>240|206=>241|240=>242|241=>243|276=>253|277=>254|n=>n,fun|9=>9|3=>3|4=>4|20=>20|0=>0|46=>181|109=>281|5=>5|72=>286|76=>290|51=>65|146=>300|53=>182|148=>302|70=>284|37=>84|75=>289|127=>200|164=>308|80=>105|n=>n,fun|n=>n⟩
theorem Tryz.lays105:Go.Proofs.Lays.n105 Tryz.prog Tryz.lays105_ren:={
 mixed:=by kernel_rfl
 f99:=Tryz.func216.trans (congrArg some (by kernel_rfl))
 f105:=Tryz.func198.trans (congrArg some (by kernel_rfl))
 f165:=Tryz.func217.trans (congrArg some (by kernel_rfl))
 f166:=Tryz.func218.trans (congrArg some (by kernel_rfl))
 f169:=Tryz.func220.trans (congrArg some (by kernel_rfl))
 f170:=Tryz.func219.trans (congrArg some (by kernel_rfl))
 f206:=Tryz.func241.trans (congrArg some (by kernel_rfl))
 f212:=Tryz.func215.trans (congrArg some (by kernel_rfl))
 f240:=Tryz.func242.trans (congrArg some (by kernel_rfl))
 f241:=Tryz.func243.trans (congrArg some (by kernel_rfl))
 f263:=Tryz.func239.trans (congrArg some (by kernel_rfl))
 f264:=Tryz.func240.trans (congrArg some (by kernel_rfl))
 f276:=Tryz.func253.trans (congrArg some (by kernel_rfl))
 f277:=Tryz.func254.trans (congrArg some (by kernel_rfl))
 t0:=Tryz.underlying0
 a0:=Tryz.isAgg0
 z0:=Tryz.sizeOf0
 v0:=Tryz.zeroValue0
 t3:=Tryz.underlying3
 a3:=Tryz.isAgg3
 z3:=Tryz.sizeOf3
 v3:=Tryz.zeroValue3
 t4:=Tryz.underlying4
 a4:=Tryz.isAgg4
 z4:=Tryz.sizeOf4
 v4:=Tryz.zeroValue4
 t5:=Tryz.underlying5
 a5:=Tryz.isAgg5
 z5:=Tryz.sizeOf5
 v5:=Tryz.zeroValue5
 t9:=Tryz.underlying9
 a9:=Tryz.isAgg9
 z9:=Tryz.sizeOf9
 v9:=Tryz.zeroValue9
 t20:=Tryz.underlying20
 a20:=Tryz.isAgg20
 z20:=Tryz.sizeOf20
 v20:=Tryz.zeroValue20
 t37:=Tryz.underlying84
 a37:=Tryz.isAgg84
 z37:=Tryz.sizeOf84
 v37:=Tryz.zeroValue84
 t46:=Tryz.underlying181
 a46:=Tryz.isAgg181
 z46:=Tryz.sizeOf181
 v46:=Tryz.zeroValue181
 t51:=Tryz.underlying65
 a51:=Tryz.isAgg65
 z51:=Tryz.sizeOf65
 v51:=Tryz.zeroValue65
 t53:=Tryz.underlying182
 a53:=Tryz.isAgg182
 z53:=Tryz.sizeOf182
 v53:=Tryz.zeroValue182
 t70:=Tryz.underlying284
 a70:=Tryz.isAgg284
 z70:=Tryz.sizeOf284
 v70:=Tryz.zeroValue284
 t72:=Tryz.underlying286
 a72:=Tryz.isAgg286
 z72:=Tryz.sizeOf286
 v72:=Tryz.zeroValue286
 t75:=Tryz.underlying289
 a75:=Tryz.isAgg289
 z75:=Tryz.sizeOf289
 v75:=Tryz.zeroValue289
 t76:=Tryz.underlying290
 a76:=Tryz.isAgg290
 z76:=Tryz.sizeOf290
 v76:=Tryz.zeroValue290
 t109:=Tryz.underlying281
 a109:=Tryz.isAgg281
 z109:=Tryz.sizeOf281
 v109:=Tryz.zeroValue281
 t127:=Tryz.underlying200
 a127:=Tryz.isAgg200
 z127:=Tryz.sizeOf200
 v127:=Tryz.zeroValue200
 t146:=Tryz.underlying300
 a146:=Tryz.isAgg300
 z146:=Tryz.sizeOf300
 v146:=Tryz.zeroValue300
 t148:=Tryz.underlying302
 a148:=Tryz.isAgg302
 z148:=Tryz.sizeOf302
 v148:=Tryz.zeroValue302
 t164:=Tryz.underlying308
 a164:=Tryz.isAgg308
 z164:=Tryz.sizeOf308
 v164:=Tryz.zeroValue308 }
end Go.Proofs
namespace Go.Vc
section
variable {α:Type}{P:Program}{w:World}{L:List HProp}{F:α->List Value}{k:Nat}{e:TypeId}{v:Value}{xs:List α}
def RO (F:α->List Value) (k:Nat) (e:TypeId) (v:Value) (xs:List α):HProp:=λh=>
 (xs=[]/\v=.slice none 0 0)\/∃ (b:Nat) (pre:List Value) (m:Nat) (sp:List Value),v=.slice (some ⟨b,pre.length,none⟩) xs.length (xs.length+m)/\m*k<=sp.length/\blk b e (pre++flatL F xs++sp) h
theorem Holds.openRO (H:Holds w L) (i:Nat) (hi:L[i]?=some (RO F k e v xs)):(xs=[]/\v=.slice none 0 0)\/∃ (b:Nat) (pre:List Value) (m:Nat) (sp:List Value),v=.slice (some ⟨b,pre.length,none⟩) xs.length (xs.length+m)/\m*k<=sp.length/\Holds w (L.set i (blk b e (pre++flatL F xs++sp))):=by
 obtain⟨g,hg,hs,hL⟩:=H.front i hi;rcases hg with⟨h1,h2⟩|⟨b,pre,m,sp,hv,hm,hg⟩
 ·exact .inl ⟨h1,h2⟩
 ·exact .inr ⟨b,pre,m,sp,hv,hm,Sat.push i hi ⟨g,hg,hs,hL⟩⟩
theorem Holds.sgRO (H:Holds w L) (i:Nat) (hi:L[i]?=some (RO F k e v xs)):sg v=true:=by
 rcases H.openRO i hi with⟨_,rfl⟩|⟨_,_,_,_,rfl,_,_⟩ <;> rfl
theorem Holds.toRO (H:Holds w L) (i:Nat) (hi:L[i]?=some (RW F k e v xs)):Holds w (L.set i (RO F k e v xs)):=H.at i hi λg hg=>by
 obtain⟨oa,m,sp,hv,hg⟩:=hg;subst hv
 cases oa with
 |none=>
  obtain⟨h1,h2⟩:=hg;subst h1;subst h2;exact .inl ⟨rfl,rfl⟩
 |some a=>
  obtain⟨b,o,s⟩:=a;obtain⟨h1,h2,h3,h4⟩:=hg;simp only at h1 h2;subst h1;subst h2;exact .inr ⟨b,[],m,sp,rfl,by omega,h4⟩
theorem Holds.nilRO (H:Holds w L) (F:α->List Value) (k:Nat) (e:TypeId):Holds w (RO F k e (.slice none 0 0) []::L):=Holds.toRO (H.nilRW F k e) 0 rfl
theorem Zga (b o n:Nat):(⟨b,o,none⟩:Addr).add n=⟨b,o+n,none⟩:=by
 unfold Addr.add;split
 ·rename_i h;rw[h];rfl
 ·rfl
theorem Zr5 (hF:∀ x,(F x).length=k){q j:Nat}{x:α}{u:Value}(hx:xs[q]?=some x) (hu:(F x)[j]?=some u):(flatL F xs)[q*k+j]?=some u:=by
 have hj:j < k:=by have:=(gH.1 hu).1;rw[hF] at this;exact this
 have h:=congrArg (λl=>l[j]?) (Zcj hF xs q x hx);simp only[hI_ hj,hH_] at h;rw[h,hu]
theorem r_lnO (i:Nat) (H:Holds w L){K:Value->Prop}(hi:L[i]?=some (RO F k e v xs)) (h:K (nv xs.length)):Lnl v K:=by
 rcases H.openRO i hi with⟨rfl,rfl⟩|⟨b,pre,m,sp,rfl,_,_⟩
 ·exact r_lnl h
 ·exact r_lnl h
theorem Zyb (i:Nat) (H:Holds w L){K:Value->Prop}(hi:L[i]?=some (RO F k e v xs)) (hF:∀ x,(F x).length=k){q j:Nat}{kk:IntKind}{x:α}{u:Value}(hx:xs[q]?=some x) (hu:(F x)[j]?=some u) (h:K u) :
  Ias k v (.int kk (q:Int)) λy=>Fo j y λz=>Ld z w K:=by
 rcases H.openRO i hi with⟨rfl,rfl⟩|⟨b,pre,m,sp,rfl,_,Hb⟩
 ·cases hx
 ·have hq:=(gH.1 hx).1;refine Ztf hq ?_;rw[Zga];refine r_fo (r_ld i Hb (Za1 hi) ?_ h);have hc:=Zr5 hF hx hu;rw[gI,gT (by omega),gM (by have:=(gH.1 hc).1;omega),show pre.length+q*k+j - pre.length=q*k+j by omega];exact hc
theorem Yba (i:Nat) (H:Holds w L){x:α}{r:List α}{kk:IntKind}{K:Value->Prop}(hi:L[i]?=some (RO F k e v (x::r))) (hF:∀ x,(F x).length=k) (h:∀ v',Holds w (L.set i (RO F k e v' r))->K v') :
  Ssl k v (some (.int kk 1)) none K:=by
 rcases H.openRO i hi with⟨h1,_⟩|⟨b,pre,m,sp,rfl,hm,Hb⟩
 ·cases h1
 ·have hgi:(L.set i (blk b e (pre++flatL F (x::r)++sp)))[i]?=some _:=Za1 hi;show Ssl k _ (some (.int kk ((1:Nat):Int))) none K;refine⟨_,_,_,1,(x::r).length,rfl,⟨kk,rfl⟩,rfl,by rw[length_cons];omega,by rw[length_cons];omega,?_⟩
  by_cases hc:(x::r).length+m=1
  ·rw[if_pos hc];rw[length_cons] at hc;obtain rfl:r=[]:=List.eq_nil_of_length_eq_zero (by omega)
   obtain rfl:m=0:=by simp at hc;exact hc
   refine h _ ?_
   have:=Hb.at i hgi (Q:=RO F k e (.slice (some ⟨b,pre.length,none⟩) 0 0) []) λg hg=>.inr ⟨b,pre,0,flatL F [x]++sp,rfl,by omega,by
    have e1:pre++flatL F ([]:List α)++(flatL F [x]++sp)=pre++flatL F [x]++sp:=by simp[flatL]
    rw[e1];exact hg⟩
   rw[set_set] at this;exact this
  ·rw[if_neg hc];refine h _ ?_
   have e0:(some (⟨b,pre.length,none⟩:Addr)).map (·.add (1*k))=some ⟨b,(pre++F x).length,none⟩:=by
    rw[Option.map_some,Zga,gD,hF,Nat.one_mul]
   rw[e0]
   have:=Hb.at i hgi (Q:=RO F k e (.slice (some ⟨b,(pre++F x).length,none⟩) ((x::r).length - 1) ((x::r).length+m - 1)) r) λg hg=>.inr ⟨b,pre++F x,m,sp,by rw[length_cons];congr 1;omega,hm,by
    have e1:pre++F x++flatL F r++sp=pre++flatL F (x::r)++sp:=by simp[flatL]
    rw[e1];exact hg⟩
   rw[set_set] at this;exact this
theorem Zyw {t:TypeId} [hr:RowN P t e k] (H:Holds w L) (i j:Nat){ys:List α}{m' c' b2:Nat}{cs:List Value}{ty:TypeId}{K:KT}
  (hi:L[i]?=some (RO F k e v xs)) (hj:L[j]?=some (blk b2 e cs)) (hij:j≠i) (hcs:cs.take (ys.length*k)=flatL F ys) (hm:m'=ys.length) (hF:∀ y,(F y).length=k) (hs:∀ y,∀ u∈F y,sg u=true)
  (hn:xs.length+ys.length<=68719476736) (hne:0 < ys.length)
  (h:∀ v' w',Same w w'->Holds w' (L.set i (RO F k e v' (xs++ys)))->K v' w') :
  Ap P #[t,t] ty #[v,.slice (some ⟨b2,0,none⟩) m' c'] w K:=by
 subst hm;obtain⟨inf,z,hinf,hsz,hby,hzz,hzk⟩:=hr.inf;have hlen:=Zck (k:=k) hF
 have hsg:∀ u∈flatL F ys,u.oneCell'=true:=by
  intro u hu;clear hcs hne hn h
  induction ys with
  |nil=>simp[flatL] at hu
  |cons y r ih=>
   rw[flatL,hT_] at hu;rcases hu with hu|hu
   ·exact Zib (hs y u hu)
   ·exact ih hu
 have hnews:∀ q u,(flatL F ys)[q]?=some u->w.cell? ((⟨b2,0,none⟩:Addr).add q)=some u:=by
  intro q u hu;rw[Zga,Nat.zero_add,H.cell j hj q]
  have hq:q < ys.length*k:=by have:=(gH.1 hu).1;rw[hlen] at this;exact this
  rw[<-hu,<-hcs,hI_ hq]
 have hsrc:Src P inf.size t (.slice (some ⟨b2,0,none⟩) ys.length c') ys.length (flatL F ys) w:=Src.ofSlice w hr.und ⟨b2,0,none⟩ ys.length c' (flatL F ys) (by rw[hlen,hsz]) hnews hsg;have hmul:(xs.length+ys.length)*inf.bytes<=140737488355328:=Nat.le_trans (Nat.mul_le_mul_left _ hby) (by omega)
 have fin:∀ (b' cap:Nat) (w':World) (pre sp':List Value),xs.length+ys.length<=cap->(cap - (xs.length+ys.length))*k<=sp'.length->Same w w'->
   Holds w' (blk b' e (pre++flatL F (xs++ys)++sp')::L.eraseIdx i)->K (.slice (some ⟨b',pre.length,none⟩) (xs.length+ys.length) cap) w':=by
  intro b' cap w' pre sp' hc hsp S' H'
  have H4:=Holds.imp H' (Q:=RO F k e (.slice (some ⟨b',pre.length,none⟩) (xs.length+ys.length) cap) (xs++ys)) λg hg=>.inr ⟨b',pre,cap - (xs.length+ys.length),sp',by
   rw[gD];congr 1;omega,hsp,hg⟩
  exact h _ _ S' (Sat.push i hi H4)
 rcases H.openRO i hi with⟨h1,h2⟩|⟨b,pre,m,sp,rfl,hmk,Hb⟩
 ·subst h1;subst h2;have hrun:=run_append_grow_src (P:=P) w t t ty e inf z hr.und hinf hzz none 0 0 [] (run_firstCells_none w.drew inf.size 0 0 0) _ ys.length _ hsrc (by omega) (by simp at hn;omega) (growslice_fits (by omega) (by simpa using hmul));refine⟨_,_,hrun,?_⟩;have hcap:=grownCap_ge w (0+ys.length) 0 e;generalize grownCap w (0+ys.length) 0 e=cap at hcap ⊢;have H2:=(H.same (w':=w.drew) rfl).alloc (.cells (([]++flatL F ys).toArray++Builtin.zeroCells z.cells (cap - (0+ys.length))) e);have H5:=H2.dropAt (i+1);rw[List.eraseIdx_cons_succ] at H5;refine fin _ cap _ [] (Builtin.zeroCells z.cells (cap - (0+ys.length))).toList hcap (Nat.le_of_eq (by rw[Zbs,hzk];rfl)) ((Same.drew w).trans (.alloc _ _)) ?_
  have hc:(([]++flatL F ys).toArray++Builtin.zeroCells z.cells (cap - (0+ys.length)))=([]++flatL F ([]++ys)++(Builtin.zeroCells z.cells (cap - (0+ys.length))).toList).toArray:=by simp
  rw[hc] at H5 ⊢;exact H5
 ·have hgi:(L.set i (blk b e (pre++flatL F xs++sp)))[i]?=some (blk b e (pre++flatL F xs++sp)):=Za1 hi
  have hold:∀ q u,(flatL F xs)[q]?=some u->w.cell? ((⟨b,pre.length,none⟩:Addr).add q)=some u:=by
   intro q u hu;rw[Zga,Hb.cell i hgi,gI,gT (by omega),gM (by have:=(gH.1 hu).1;omega),show pre.length+q - pre.length=q by omega];exact hu
  rcases hU_ m ys.length with hg|hg
  ·have hrun:=run_append_grow_src (P:=P) w t t ty e inf z hr.und hinf hzz (some ⟨b,pre.length,none⟩) xs.length (xs.length+m) (flatL F xs) (run_firstCells_some w.drew inf.size xs.length ⟨b,pre.length,none⟩ xs.length (xs.length+m) (flatL F xs) (by rw[hlen,hsz]) (by simpa using hold)) _ ys.length _ hsrc (by omega) (by omega) (growslice_fits (by omega) hmul);refine⟨_,_,hrun,?_⟩;have hcap:=grownCap_ge w (xs.length+ys.length) (xs.length+m) e;generalize grownCap w (xs.length+ys.length) (xs.length+m) e=cap at hcap ⊢;have H2:=(Hb.same (w':=w.drew) rfl).alloc (.cells ((flatL F xs++flatL F ys).toArray++Builtin.zeroCells z.cells (cap - (xs.length+ys.length))) e);have H5:=H2.dropAt (i+1);rw[List.eraseIdx_cons_succ,List.eraseIdx_set_eq] at H5;refine fin _ cap _ [] (Builtin.zeroCells z.cells (cap - (xs.length+ys.length))).toList hcap (Nat.le_of_eq (by rw[Zbs,hzk])) ((Same.drew w).trans (.alloc _ _)) ?_
   have hc:((flatL F xs++flatL F ys).toArray++Builtin.zeroCells z.cells (cap - (xs.length+ys.length)))=([]++flatL F (xs++ys)++(Builtin.zeroCells z.cells (cap - (xs.length+ys.length))).toList).toArray:=by
    rw[Zcf];simp
   rw[hc] at H5 ⊢;exact H5
  ·have hroom:ys.length*k<=m*k:=Nat.mul_le_mul_right _ hg
   have hrun:=run_append_room_src (P:=P) w t t ty e inf hr.und hinf b pre.length xs.length (xs.length+m) _ ys.length _ hsrc (by omega)
    (λq hq=>by
     rw[hlen] at hq
     rw[Hb.cell i hgi,hsz,gA (by rw[gD,gD,hlen];omega)];rfl)
    (λq hq=>Hb.frozen i hgi _)
   refine⟨_,_,hrun,?_⟩;rw[Zei,hsz];have H3:=Holds.setCells (o:=0) i (flatL F ys) (pre.length+xs.length*k) Hb hgi;rw[set_set,Zj1 _ _ _ (by rw[gD,gD,hlen,hlen];omega)] at H3
   have e2:(pre++flatL F xs++sp).take (0+(pre.length+xs.length*k))++flatL F ys++(pre++flatL F xs++sp).drop (0+(pre.length+xs.length*k)+(flatL F ys).length)=pre++flatL F (xs++ys)++sp.drop (ys.length*k):=by
    have e3:(pre++flatL F xs).length=pre.length+xs.length*k:=by rw[gD,hlen]
    rw[Nat.zero_add,<-e3,List.take_left' rfl,Zcf,<-List.drop_drop,List.drop_left' rfl,hlen];simp
   rw[e2] at H3;have H6:=H3.front i (Za1 hi);rw[List.eraseIdx_set_eq] at H6;refine fin b (xs.length+m) _ pre (sp.drop (ys.length*k)) (by omega) ?_ (Same.setCells _ _ _ _) H6;rw[gS,show xs.length+m - (xs.length+ys.length)=m - ys.length by omega,Nat.sub_mul];omega
theorem Ztk {t:TypeId} [hr:RowN P t e k] (H:Holds w L) (i:Nat){b:Option Addr}{c:Nat}{ty:TypeId}{K:KT}(hi:L[i]?=some (RO F k e v xs)) (h:K v w):Ap P #[t,t] ty #[v,.slice b 0 c] w K:=by
 obtain⟨inf,z,hinf,hsz,hby,hzz,hzk⟩:=hr.inf
 have hsrc:Src P inf.size t (.slice b 0 c) 0 [] w:=by
  cases b with
  |none=>exact Src.ofNil w hr.und c
  |some p=>exact Src.ofSlice w hr.und p 0 c [] (by simp) (λj u hu=>by simp at hu) (λ_ h=>by cases h)
 rcases H.openRO i hi with⟨rfl,rfl⟩|⟨b',pre,m,sp,rfl,_,_⟩
 ·exact⟨_,_,run_append_nothing w t t ty e inf hr.und hinf none _ _ (by omega) _ hsrc,h⟩
 ·exact⟨_,_,run_append_nothing w t t ty e inf hr.und hinf _ _ _ (by omega) _ hsrc,h⟩
end
end Go.Vc
namespace Go.Proofs.YtieneaffjelhhaaGreat
open Go Go.Vc Go.Proofs.Tryz
namespace S4r
section
variable {α:Type}{P:Program}{w:World}{L:List HProp}
def InG (F:α->List Value) (k:Nat) (L:List HProp) (a:Option Addr) (xs:List α):Prop:=
 ∀ w',Holds w' L->∀ i x,xs[i]?=some x->∃ p:Addr,a=some p/\∀ j v,(F x)[j]?=some v->w'.cell? ((p.add (i*k)).add j)=some v
theorem InG.up {F:α->List Value}{k:Nat}{a:Option Addr}{xs:List α}{Q:HProp}(h:InG F k L a xs):InG F k (Q::L) a xs:=λw' H=>h w' H.drop
theorem r_ldG {F:α->List Value}{k:Nat}{a:Option Addr}{xs:List α}{x:α}{i l c:Nat}{q:IntKind}{K:Value->Prop}(hT:InG F k L a xs) (H:Holds w L) (hx:xs[i]?=some x) (hk:(F x).length=k) (hi:i < l) (h:K (.agg (F x).toArray)) :
  Ias k (.slice a l c) (.int q (i:Int)) λy=>LdA k y w K:=by
 obtain⟨p,rfl,hc⟩:=hT w H i x hx;refine Ztf hi ?_;refine Zyp (cs:=(F x).toArray) (by simpa using hk) (λj v hv=>hc j v (by simpa using hv)) h
theorem InG.own {F:α->List Value}{k:Nat}{e:TypeId}{oa:Option Addr}{n c:Nat}{xs:List α}(i:Nat) (hi:L[i]?=some (RW F k e (.slice oa n c) xs)) (hF:∀ x,(F x).length=k):InG F k L oa xs:=by
 intro w' H' q x hx;obtain⟨oa',m,sp,hv,H1⟩:=H'.openRW i hi;cases hv;have hlt:q < xs.length:=(gH.1 hx).1;obtain⟨b,rfl,hsp,Hb⟩:=H1.rwb i (Za1 hi) (.inl (by omega));refine⟨⟨b,0,none⟩,rfl,λj v hj=>?_⟩
 have hjk:j < k:=by have:=(gH.1 hj).1;rw[hF] at this;exact this
 have h1:=Zcj hF xs q x hx
 have h2:(flatL F xs)[q*k+j]?=some v:=by
  have:((flatL F xs).drop (q*k)).take k=F x:=h1;rw[<-this,hI_ hjk,hH_] at hj;exact hj
 rw[Addr.add_add]
 have e1:(⟨b,0,none⟩:Addr).add (q*k+j)=⟨b,q*k+j,none⟩:=by
  unfold Addr.add;split
  ·rename_i h;rw[h]
  ·simp
 rw[e1,Hb.cell i (by rw[set_set];exact Za1 hi) (q*k+j),gM (gH.1 h2).1];exact h2
end
end S4r
end Go.Proofs.YtieneaffjelhhaaGreat
namespace Go.Proofs.YtieneaffjelhhaaGreat
open Go Go.Vc Go.Proofs.Tryz
attribute [local irreducible] Vc.Nc Vc.Ld Vc.LdA Vc.St Vc.StA Vc.Fo Vc.Iaa Vc.Ias Vc.Ixs Vc.Ixa Vc.Fd Vc.FdA Vc.Bp Vc.Bb Vc.Bn Vc.Up Vc.Ci Vc.Lns Vc.Lnl Vc.Ex Vc.Sst Vc.Ssl Vc.New Vc.Vif Vc.VJoin Vc.VLoop Vc.KE Vc.Dr Vc.Rk Vc.Cl Vc.Cx Vc.Inv Vc.Be Vc.Cv Vc.Cw Vc.Mf Vc.Sl Vc.Lk Vc.Bd Vc.Bs Vc.Ms Vc.Mm Vc.Mu Vc.Me Vc.Es Vc.Rg Vc.Nx Vc.Ta Vc.Ap Vc.Usd Vc.Ust Vc.Cp Vc.Ln Vc.Bc Vc.Bmin Vc.Bmax Vc.Bdel Vc.Bclr Vc.Pk
namespace T12
open F08 Rw Go.Mh
variable {w:World}{L:List HProp}{K:KT}
variable [Bnds]
def grp (l:List Nat) (g:Nat):List Nat:=(l.drop (g*50)).take 50
def nGr (l:List Nat):Nat:=(l.length+49)/50
def grps (l:List Nat):List (List Nat):=(List.range (nGr l)).map (grp l)
theorem Zpa (l:List Nat):(grps l).length=nGr l:=by simp[grps]
theorem Zzm {l:List Nat}{size:Nat}(hl:nGr l<=32767) (hx:∀ x∈l,x < size):Gp size (grps l):=by
 refine⟨by rw[Zpa];exact hl,λg hg=>?_,λg hg x hxg=>?_⟩
 ·obtain⟨i,_,rfl⟩:=mem_map.1 hg;unfold grp;rw[gN];omega
 ·obtain⟨i,_,rfl⟩:=mem_map.1 hg;exact hx x (List.mem_of_mem_drop (List.mem_of_mem_take hxg))
theorem Zk2 {v:Value}{l:List Nat}{i:Nat}(H:Holds w L) (hi:L[i]?=some (SL nv tI v l)) (hl:l.length<=100000000)
  (k:∀ gv w',Same w w'->Holds w' (RR gv (grps l)::L)->K gv w'):Cl prog 223 #[v] w K:=by
 refine Tz223 ?_;unfold Vz223;refine r_lnS i H hi (Zd8 (by omega) ?_);have hn:nGr l=(l.length+49)/50:=rfl;rw[<-hn]
 refine Zag (λgv x w'=>∃ u:Nat,x=nv u/\u<=nGr l/\Same w w'/\Holds w' (RR gv ((List.range u).map (grp l))::L)) (λ_ x _=>nGr l - (intOf x).toNat)
  ⟨0,rfl,Nat.zero_le _,.refl _,Zz6 H⟩ ?_
 clear H;rintro _ gv _ w1 ⟨u,rfl,hu,S1,H1⟩;refine r_lss (r_ifD (λh=>?_) λh=>?_)
 ·have hlt:u < nGr l:=by omega
  refine Zic H1 (i:=i+1) (by rw[gF];exact hi) hl (by omega) λrv w2 S2 H2=>?_;refine Za8 (Za9 ?_);refine Zyj 0 H2 rfl (by rw[hS_,hW_];omega) λgv2 w3 S3 H3=>?_;rw[gJ] at H3;refine Za0 (by omega) (r_ke ⟨⟨u+1,rfl,hlt,S1.trans (S2.trans S3),?_⟩,?_⟩)
  ·rw[range_succ,map_append];exact H3
  ·simp only[nv,intOf,gC];omega
 ·obtain rfl:u=nGr l:=by omega
  exact k _ _ S1 H1
inductive Rnds (gs:List (List Nat)) (size:Nat) (ts0:List (List Nat)):Nat->List Nat->List (List Nat)->Prop
 |zero:Rnds gs size ts0 0 [] ts0
 |succ {n:Nat} {p p':List Nat} {ts ts':List (List Nat)} (h:Rnds gs size ts0 n p ts) (r:Rnd gs size ts p' ts'):Rnds gs size ts0 (n+1) p' ts'
theorem Rnds.tb {gs ts0:List (List Nat)}{size n:Nat}{p1:List Nat}{ts1:List (List Nat)}(h:Rnds gs size ts0 n p1 ts1) (hT:Tb size ts0):Tb size ts1/\(1<=n->p1.length=gs.length/\∀ p∈p1,p < ts1.length):=by
 induction h with
 |zero=>exact⟨hT,λh=>by omega⟩
 |succ h r ih=>exact⟨r.tb ih.1,λ_=>r.lt ih.1⟩
def Cho (l:List Nat) (size:Nat) (picks:List Nat) (ts:List (List Nat)):Prop:=Rnds (grps l) size (firstL (cnt l size) l.length (num l.length)) 4 picks ts
theorem Zpd (l:List Nat) (size:Nat):Tb size (firstL (cnt l size) l.length (num l.length)):=by
 have hn:=Zug l.length;refine⟨by rw[Zhz];exact hn.1,by rw[Zhz];exact hn.2,λt ht=>?_,λt ht x hx=>?_⟩
 ·obtain⟨p,_,rfl⟩:=mem_map.1 ht;rw[Zfk,Zb8]
 ·obtain⟨p,_,rfl⟩:=mem_map.1 ht;obtain⟨v,_,rfl⟩:=mem_map.1 hx;unfold firstV
  split <;> omega
theorem Cho.ok {l picks:List Nat}{size:Nat}{ts:List (List Nat)}(h:Cho l size picks ts):Tb size ts/\picks.length=nGr l/\∀ p∈picks,p < ts.length:=by
 have:=Rnds.tb h (Zpd l size);have h2:=this.2 (by omega);rw[Zpa] at h2;exact⟨this.1,h2⟩
abbrev tCh:Nat:=251
theorem Of_spec {v:Value}{l:List Nat}{size i:Nat}(H:Holds w L) (hb:BndOk L) (hi:L[i]?=some (SL nv tI v l)) (h3:3<=size) (h258:size<=258) (h0:l≠[]) (hl:l.length<=1600000) (hx:∀ x∈l,x < size)
  (k:∀ ov pv picks ts w',Cho l size picks ts->Same w w'->Holds w' (RR ov ts::SL nv tI pv picks::L)->K (.tuple #[.agg #[ov,pv],iv 0]) w'):Cl prog 203 #[v,nv size] w K:=by
 refine Tz203 ?_;unfold Vz203
 have hz:(zeroP prog tCh).cells.toList=[.slice none 0 0,.slice none 0 0]:=by kernel_rfl
 have hl0:0 < l.length:=gZ.2 h0;have hng:nGr l=(l.length+49)/50:=rfl;refine r_new H λrb w1 S1 H1=>?_;rw[hz] at H1;refine Zho H1 (i:=i+1) (by rw[gF];exact hi) h3 h258 (by omega) hx λcv w2 S2 H2=>?_;refine Za8 (Za9 ?_);refine Za2 (λt w'=>w2=w'/\t=.bool false) ?_ ?_
 rotate_left
 ·refine r_neq (r_vfN (by omega) ?_);refine r_lnS (i+2) H2 (by rw[gF,gF];exact hi) (r_eql (r_ke ⟨rfl,by rw[show ((l.length:Int)==0)=false from beq_eq_false_iff_ne.2 (by omega)]⟩))
 rintro _ _ _ ⟨rfl,rfl⟩;refine r_vf ?_;refine r_lnS (i+2) H2 (by rw[gF,gF];exact hi) (Zd8 (by omega) ?_);refine r_gtr (r_vfD (by omega) ?_);refine Zk2 H2 (i:=i+2) (by rw[gF,gF];exact hi) (by omega) λgv w3 S3 H3=>?_;refine r_lnS (i+3) H3 (by rw[gF,gF,gF];exact hi) ?_;refine Zpy H3 (i:=1) hb.up.up.up rfl (by rw[Zb8];omega) (λx hx=>by have:=cnt_le _ _ x hx;omega) (by omega) (by omega) λfv w4 S4 H4=>?_;obtain⟨fx,rfl⟩:=rr_sw H4 (i:=0) rfl;refine r_bd (v:=.agg #[sw fx,.slice none 0 0]) (by kernel_rfl) ?_;refine r_new H4 λcb w5 S5 H5=>?_;rw[hz] at H5;refine r_stA 0 H5 (vs:=[sw fx,.slice none 0 0]) rfl (by decide) rfl rfl λw6 S6 H6=>?_;replace H6:Holds w6 (blk cb tCh [sw fx,.slice none 0 0]::RR (sw fx) (firstL (cnt l size) l.length (num l.length))::RR gv (grps l)::SL nv tI cv (cnt l size)::blk rb tCh [.slice none 0 0,.slice none 0 0]::L):=H6;have H7:=H6.nilSL nv tI
 have H8:Holds w6 (RR (sw fx) (firstL (cnt l size) l.length (num l.length))::SL nv tI (.slice none 0 0) []::blk cb tCh [sw fx,.slice none 0 0]::RR gv (grps l)::SL nv tI cv (cnt l size)::blk rb tCh [.slice none 0 0,.slice none 0 0]::L):=by have h_:=Holds.ord 3 [2,0,1] H7 rfl;exact h_
 refine Zac (λx w'=>∃ (m:Nat) (ov pv:Value) (picks:List Nat) (ts:List (List Nat)),x=nv m/\m<=4/\Rnds (grps l) size (firstL (cnt l size) l.length (num l.length)) m picks ts/\Same w w'/\
   Holds w' (RR ov ts::SL nv tI pv picks::blk cb tCh [ov,pv]::RR gv (grps l)::SL nv tI cv (cnt l size)::blk rb tCh [.slice none 0 0,.slice none 0 0]::L)) (λx _=>4 - (intOf x).toNat)
  ⟨0,sw fx,_,[],_,rfl,by omega,.zero,((((S1.trans S2).trans S3).trans S4).trans S5).trans S6,H8⟩ ?_
 clear H H1 H2 H3 H4 H5 H6 H7 H8 S1 S2 S3 S4 S5 S6;rintro _ _ w7 ⟨m,ov,pv,picks,ts,rfl,hm,hR,S7,H7⟩;refine r_lss (r_ifD (λh=>?_) λh=>?_)
 ·have hTb:=(Rnds.tb hR (Zpd l size)).1;refine r_fo0 (r_ld 2 H7 rfl rfl ?_);refine Zpn H7 (i:=3) (j:=0) rfl rfl (by omega) hTb h3 h258 (Zzm (by omega) hx) λpv2 ov2 picks2 ts2 w8 hr S8 H8=>?_;refine Za8 (Za9 ?_);obtain⟨ox,rfl⟩:=rr_sw H8 (i:=0) rfl;obtain⟨px,rfl⟩:=sl_sw H8 (i:=1) rfl;refine r_bd (v:=.agg #[sw ox,sw px]) (by kernel_rfl) ?_;refine r_stA 4 H8 (vs:=[sw ox,sw px]) rfl (by simp) rfl rfl λw9 S9 H9=>?_
  have H10:Holds w9 (RR (sw ox) ts2::SL nv tI (sw px) picks2::blk cb tCh [sw ox,sw px]::RR gv (grps l)::SL nv tI cv (cnt l size)::blk rb tCh [.slice none 0 0,.slice none 0 0]::L):=by
   have h_:=Holds.ord 8 [0,1,4,5,6,7] H9 rfl;exact h_
  refine Za0 (by omega) (r_ke ⟨⟨m+1,sw ox,sw px,picks2,ts2,rfl,by omega,.succ hR hr,S7.trans (S8.trans S9),H10⟩,?_⟩);simp only[nv,intOf,gC];omega
 ·obtain rfl:m=4:=by omega
  obtain⟨ox,rfl⟩:=rr_sw H7 (i:=0) rfl;obtain⟨px,rfl⟩:=sl_sw H7 (i:=1) rfl;refine r_ldA 2 H7 [sw ox,sw px] rfl rfl rfl ?_;refine r_stA 5 H7 (vs:=[sw ox,sw px]) rfl (by simp) rfl rfl λw8 S8 H8=>?_;refine r_ldA 5 H8 [sw ox,sw px] rfl rfl rfl ?_
  have H9:Holds w8 (RR (sw ox) ts::SL nv tI (sw px) picks::L):=by have h_:=Holds.ord 6 [0,1] H8 rfl;exact h_
  exact k _ _ _ _ _ hR (S7.trans S8) H9
theorem Zqg {v ov pv:Value}{l picks:List Nat}{ts:List (List Nat)}{size i a p:Nat}(H:Holds w L) (hi:L[i]?=some (SL nv tI v l)) (ha:L[a]?=some (RR ov ts)) (hp:L[p]?=some (SL nv tI pv picks)) (hT:Tb size ts) (hs:size<=258) (hl:l.length<=1600000) (hx:∀ x∈l,x < size)
  (hpl:picks.length=nGr l) (hpx:∀ q∈picks,q < ts.length) (k:∀ n w',n<=1099511627776->Same w w'->Holds w' L->K (.tuple #[nv n,iv 0]) w'):Cl prog 191 #[v,.agg #[ov,pv]] w K:=by
 refine Tz191 ?_;unfold Vz191;have hng:nGr l=(l.length+49)/50:=rfl;refine r_new H λcb w1 S1 H1=>?_;replace H1:Holds w1 (blk cb tCh [ov,pv]::L):=H1;refine r_dr H1 λw2 S2 H2=>?_
 have hi2:∀ A:HProp,(A::L)[i+1]?=some (SL nv tI v l):=λA=>by rw[gF];exact hi
 have hp2:∀ A:HProp,(A::L)[p+1]?=some (SL nv tI pv picks):=λA=>by rw[gF];exact hp
 have ha2:∀ A:HProp,(A::L)[a+1]?=some (RR ov ts):=λA=>by rw[gF];exact ha
 refine r_fo0 (r_ld 0 H2 rfl rfl ?_);refine r_lnS (p+1) H2 (hp2 _) ?_;refine r_lnS (i+1) H2 (hi2 _) (Zd8 (by omega) ?_);refine r_rk (r_lnS (p+1) H2 (hp2 _) rfl) (r_rk (r_ld 0 H2 rfl rfl rfl) ?_);refine r_neq (r_vfN (by omega) ?_);refine r_fo0 (r_ld 0 H2 rfl rfl ?_);refine r_lnS (p+1) H2 (hp2 _) ?_
 refine Zag (λtv x w'=>∃ u n:Nat,tv=nv n/\n<=1099511627776/\x=nv u/\u<=picks.length/\Same w w'/\Holds w' (blk cb tCh [ov,pv]::L)) (λ_ x _=>picks.length - (intOf x).toNat)
  ⟨0,0,rfl,by omega,rfl,Nat.zero_le _,S1.trans S2,H2⟩ ?_
 clear H H1 H2 S1 S2;rintro _ _ _ w3 ⟨u,n,rfl,hn,rfl,hu,S3,H3⟩;refine r_lss (r_ifD (λh=>?_) λh=>?_)
 ·have hlt:u < picks.length:=by omega
  have hq:=hpx _ (getElem_mem hlt);refine Zaa (p+1) H3 (hp2 _) (gA hlt) ?_;generalize picks[u]=q at *;refine Za2 (λt w'=>w3=w'/\t=.bool false) ?_ ?_
  rotate_left
  ·refine r_lss (r_vfD (by omega) ?_);refine r_fo0 (r_ld 0 H3 rfl rfl ?_);refine rr_ln (a+1) H3 (ha2 _) (r_geq (r_ke ⟨rfl,by rw[decide_eq_false (by omega)]⟩))
  rintro _ _ _ ⟨rfl,rfl⟩;refine r_vf ?_;refine Zic H3 (i:=i+1) (hi2 _) (by omega) (by omega) λgv w4 S4 H4=>?_;refine Za8 (Za9 ?_);refine r_fo0 (r_ld 1 H4 rfl rfl ?_);obtain⟨x,R,hld,H5,hcl,_⟩:=Zdj (a+2) H4 (by rw[gF];exact ha2 _) (Zes hq);refine hld _ _ λ_ hp_=>hp_ _ ?_;have hm:=Zd4 hq
  have hgl:((l.drop (u*50)).take 50).length<=50:=by rw[gN];omega
  have hc:=Zj9 (hT.le _ hm) ((l.drop (u*50)).take 50);refine Zl0 H5 (i:=1) (j:=0) rfl rfl (by omega) (by have:=hT.sz _ hm;omega) (hT.le _ hm) (λy hy=>by rw[hT.sz _ hm];exact hx y (List.mem_of_mem_drop (List.mem_of_mem_take hy))) ?_;refine Za8 (Za9 ?_);refine r_neq (r_vfN (by omega) ?_);refine Zad (by omega) (r_min ?_);have H6:=hcl [] _ H5;generalize cost ((l.drop (u*50)).take 50) (ts.getD q [])=c at *;rw[show min ((n+c:Nat):Int) 1099511627776=((min (n+c) 1099511627776:Nat):Int) by omega];refine Za0 (by omega) (r_ke ⟨⟨u+1,_,rfl,by omega,rfl,by omega,S3.trans S4,H6.drop⟩,?_⟩);simp only[nv,intOf,gC];omega
 ·exact k n _ hn S3 H3.drop
end T12
namespace W14
open Go.M01 Go.M10 Go.Mv Go.Mh F08 Rw T12
variable {w:World}{L:List HProp}{K:KT}{wb n:Nat}{bs:List Bool}
variable [T12.Bnds]
theorem Zlm {l picks:List Nat}{size:Nat}{ts:List (List Nat)}(h3:3<=size) (h:Cho l size picks ts):∀ t∈ts,Whole t:=by
 unfold Cho at h
 cases h with
 |succ h r=>
  intro t ht;obtain⟨i,hi,rfl⟩:=List.getElem_of_mem ht;have h1:=r.lens i (by rw[<-r.len];exact hi);rw[gB,gA hi] at h1;exact Zkx h1 (by unfold O09.ones;rw[hS_,Zb8];omega)
def fnB (ab:Nat):Value:=.func (.func 208) #[] #[pt ab]
theorem Zg9 {ab v m T:Nat}(H:Holds w (blk ab tI [nv T]::L)) (hT:T<=1000000000) (hm:m<=32)
  (k:∀ w',Same w w'->Holds w' (blk ab tI [nv (T+m)]::L)->K (.tuple #[]) w'):Inv prog (do let d <-Deferred.ofValue (fnB ab) #[nv v,nv m];invoke d.target d.args) w K:=by
 refine r_inv (f:=208) (args:=#[nv v,nv m,pt ab]) (by kernel_rfl) ?_;refine Tz208 ?_;unfold Vz208;refine r_ld 0 H rfl rfl ?_;refine Zad (by omega) ?_;refine r_st 0 H rfl (by simp) rfl λw2 S2 H2=>?_;exact k _ S2 H2
theorem Zme {ab:Nat}{v:Value}{lens:List Nat}(H:Holds w (blk ab tI [nv 0]::SL nv tI v lens::L)) (hne:lens≠[]) (hll:lens.length<=258) (hs:Sized lens)
  (k:∀ T w',T<=1000000->Same w w'->Holds w' (blk ab tI [nv T]::SL nv tI v lens::L)->K (.tuple #[]) w'):Cl prog 207 #[v,fnB ab] w K:=by
 refine Tz207 ?_;unfold Vz207;have h0:0 < lens.length:=gZ.2 hne;have hsz:∀ i,i < lens.length->1<=lens.getD i 0/\lens.getD i 0<=20:=λi hi=>C10.Zbt hs hi
 have hget:∀ i,i < lens.length->lens[i]?=some (lens.getD i 0):=λi hi=>by rw[gB,gA hi];rfl
 have hf0:=hsz 0 h0;refine Zaa 1 H (j:=0) rfl (hget 0 h0) ?_;refine Zg9 (m:=5) H (by omega) (by omega) λw1 S1 H1=>?_;refine r_lnS 1 H1 rfl ?_
 refine Zag (λnw x w'=>∃ i a T:Nat,i<=lens.length/\x=nv i/\nw=nv a/\1<=a/\a<=20/\T<=5+100*i/\Same w w'/\Holds w' (blk ab tI [nv T]::SL nv tI v lens::L)) (λ_ x _=>lens.length - (intOf x).toNat)
  ⟨0,_,_,by omega,rfl,rfl,hf0.1,hf0.2,by omega,S1,H1⟩ ?_
 clear H H1 S1;rintro _ _ _ w2 ⟨i,a,T,hi,rfl,rfl,ha1,ha2,hT,S,H⟩;refine r_lss (r_ifD (λh=>?_) λh=>?_)
 rotate_left
 ·exact k T _ (by omega) S H
 have hlt:i < lens.length:=by omega
 have hxi:=hsz i hlt;refine Zaa 1 H rfl (hget i hlt) ?_;generalize lens.getD i 0=x at *
 refine Zac (λy w'=>∃ j:Nat,y=nv (a+j)/\j<=x - a/\Same w w'/\Holds w' (blk ab tI [nv (T+2*j)]::SL nv tI v lens::L)) (λy _=>100 - (intOf y).toNat)
  ⟨0,rfl,Nat.zero_le _,S,H⟩ ?_
 clear H S;rintro _ _ w3 ⟨j,rfl,hj,S,H⟩;refine r_lss (r_ifD (λh2=>?_) λh2=>?_)
 ·refine Zg9 (v:=2) (m:=2) H (by omega) (by omega) λw4 S4 H4=>?_;refine Za0 (by omega) ?_;refine r_ke ⟨⟨j+1,rfl,by omega,S.trans S4,by rw[show T+2*(j+1)=T+2*j+2 by omega];exact H4⟩,?_⟩;simp only[nv,intOf,gC];omega
 obtain rfl:j=x - a:=by omega
 refine Zac (λy w'=>∃ j:Nat,y=nv (max a x - j)/\j<=a - x/\Same w w'/\Holds w' (blk ab tI [nv (T+2*(x - a)+2*j)]::SL nv tI v lens::L)) (λy _=>(intOf y).toNat)
  ⟨0,by rw[show max a x - 0=a+(x - a) by omega],Nat.zero_le _,S,H⟩ ?_
 clear H S;rintro _ _ w4 ⟨j,rfl,hj2,S,H⟩;refine r_gtr (r_ifD (λh3=>?_) λh3=>?_)
 ·refine Zg9 (v:=3) (m:=2) H (by omega) (by omega) λw5 S5 H5=>?_;refine Zah (by omega) (by omega) ?_;refine r_ke ⟨⟨j+1,by rw[show max a x - j - 1=max a x - (j+1) by omega],by omega,S.trans S5,by rw[show T+2*(x - a)+2*(j+1)=T+2*(x - a)+2*j+2 by omega];exact H5⟩,?_⟩;simp only[nv,intOf,gC];omega
 ·obtain rfl:j=a - x:=by omega
  refine Zg9 (v:=0) (m:=1) H (by omega) (by omega) λw5 S5 H5=>?_;refine Za0 (by omega) ?_;refine r_ke ⟨⟨i+1,x,_,by omega,rfl,by rw[show max a x - (a - x)=x by omega],by omega,by omega,by omega,S.trans S5,H5⟩,?_⟩;simp only[nv,intOf,gC];omega
theorem Zpu {v:Value}{lens:List Nat}{j:Nat}(H:Holds w (SL nv tI v lens::L)) (h3:3<=lens.length) (h258:lens.length<=258) (hs:Sized lens)
  (k:∀ T w',T<=1000000->Same w w'->Holds w' (SL nv tI v lens::L)->K (.tuple #[nv T,iv 0]) w'):Cl prog 190 #[v] w K:=by
 refine Tz190 ?_;unfold Vz190;refine D11.Zo8 H 0 rfl h3 h258 hs ?_;refine Zal (r_vf ?_)
 have hz:(zeroP prog tI).cells.toList=[iv 0]:=by kernel_rfl
 refine r_new H λab w1 S1 H1=>?_;rw[hz] at H1;refine r_st 0 H1 rfl (by simp) rfl λw2 S2 H2=>?_;replace H2:Holds w2 (blk ab tI [nv 0]::SL nv tI v lens::L):=H2;refine r_mf (fnB ab) (by kernel_rfl) ?_;refine Zme H2 (λe=>by rw[e] at h3;simp at h3) h258 hs λT w3 hT S3 H3=>?_;refine r_ld 0 H3 rfl rfl ?_;exact k T _ hT ((S1.trans S2).trans S3) H3.drop
theorem Zrf {v:Value}{l:List Nat}{t:Nat}(H:Holds w (SL nv tI v l::L)) (ht:2<=t/\t<=6) (hl0:l≠[]) (hll:l.length<=32767) (hp:∀ p∈l,p < t)
  (k:∀ w',Same w w'->Holds w' (SL nv tI v l::L)->K (.bool true) w'):Cl prog 204 #[v,nv t] w K:=by
 have h0:0 < l.length:=gZ.2 hl0;refine Tz204 ?_;unfold Vz204;refine r_new H λtb w1 S1 H1=>?_;replace H1:Holds w1 (blk tb tI [nv t]::SL nv tI v l::L):=H1;refine Za2 (λx w'=>w1=w'/\x=.bool false) ?_ ?_
 rotate_left
 ·refine r_ld 0 H1 rfl rfl ?_;refine r_cl (K:=λx w'=>w1=w'/\x=.bool true) ?_ ?_
  ·refine Tz226 ?_;unfold Vz226;refine r_geq (r_vtD (by omega) ?_);exact r_leq ⟨rfl,by rw[decide_eq_true (by omega)]⟩
  rintro _ _ ⟨rfl,rfl⟩;refine Zal (r_vf ?_);refine r_lnS 1 H1 rfl ?_;refine r_eql (r_vfE (by omega) ?_);refine r_lnS 1 H1 rfl ?_;exact r_gtr (r_ke ⟨rfl,by rw[decide_eq_false (by omega)]⟩)
 rintro _ _ _ ⟨rfl,rfl⟩;refine r_vf ?_;refine r_mf (.func (.func 228) #[] #[pt tb]) (by kernel_rfl) ?_;refine D11.Zdh H1 1 rfl (by omega) (λx hx Q hQ=>?_) ?_
 ·have:=hp x hx;refine r_inv (f:=228) (args:=#[nv x,pt tb]) (by kernel_rfl) ?_;refine Tz228 ?_;unfold Vz228;refine r_lss (r_vfD (by omega) ?_);refine r_ld 0 H1 rfl rfl ?_;refine r_geq ?_;rw[decide_eq_false (by omega)];exact hQ
 ·exact Zci (k _ S1 H1.drop)
theorem Zr4 {v:Value}{l:List Nat}{t:Nat}(H:Holds w (SL nv tI v l::L)) (ht:2<=t/\t<=6) (hl0:l≠[]) (hll:l.length<=32767) (hp:∀ p∈l,p < t)
  (k:∀ T w',T<=1000000->Same w w'->Holds w' (SL nv tI v l::L)->K (.tuple #[nv T,iv 0]) w'):Cl prog 189 #[v,nv t] w K:=by
 refine Tz189 ?_;unfold Vz189;refine Zrf H ht hl0 hll hp λw1 S1 H1=>?_;refine Zal (r_vf ?_);refine P13.Zgp H1 (by omega) (λp h=>by have:=hp p h;omega) λpv w2 S2 H2=>?_
 have hinv:=Zf3 (o:=[0,1,2,3,4,5]) (l:=l) λc hc=>by
  have:=hp c hc
  rcases (show c=0\/c=1\/c=2\/c=3\/c=4\/c=5 by omega) with h|h|h|h|h|h <;> rw[h] <;> simp
 obtain⟨_,_,hpl,hp6⟩:=hinv;replace H2:Holds w2 (SL nv tI pv (pickE [0,1,2,3,4,5] l).2::SL nv tI v l::L):=H2;generalize hP:(pickE [0,1,2,3,4,5] l).2=P at *;refine r_lnS 0 H2 rfl ?_;refine Zag (λa x w'=>∃ i T:Nat,i<=P.length/\x=nv i/\a=nv T/\T<=18+7*i/\w2=w') (λ_ x _=>P.length - (intOf x).toNat) ⟨0,18,by omega,rfl,rfl,by omega,rfl⟩ ?_;rintro _ _ _ _ ⟨i,T,hi,rfl,rfl,hT,rfl⟩;refine r_lss (r_ifD (λh=>?_) λh=>?_)
 ·have hlt:i < P.length:=by omega
  have h6:=hp6 _ (getElem_mem hlt);refine Zaa 0 H2 rfl (gA hlt) ?_;generalize P[i]=p at *;simp only[length_cons,length_nil] at h6;refine Za0 (by omega) (Zad (by omega) (Za0 (by omega) (r_ke ⟨⟨i+1,_,by omega,rfl,rfl,by omega,rfl⟩,?_⟩)));simp only[nv,intOf,gC];omega
 ·exact k T _ (by omega) (S1.trans S2) H2.drop
structure Row (l:List Nat) (size:Nat):Prop where
 s3:3<=size
 s258:size<=258
 ne:l≠[]
 len:l.length<=1600000
 lt:∀ x∈l,x < size
 fin:∀ i,i < l.length->(l.getD i 0=size - 1↔i=l.length - 1)
theorem Zgr {v:Value}{l:List Nat}{size i:Nat}(H:Holds w L) (hb:BndOk L) (hi:L[i]?=some (SL nv tI v l)) (hR:Row l size)
  (k:∀ ox px picks ts w',Cho l size picks ts->Same w w'->Holds w' (RR (sw ox) ts::SL nv tI (sw px) picks::L)->K (.tuple #[.agg #[sw ox,sw px],iv 0]) w'):Cl prog 188 #[v,nv size] w K:=by
 refine Tz188 ?_;unfold Vz188;have h0:=gZ.2 hR.ne;have h3:=hR.s3;have h258:=hR.s258;have hlen:=hR.len
 have hz:(zeroP prog tCh).cells.toList=[.slice none 0 0,.slice none 0 0]:=by kernel_rfl
 refine r_new H λrb w1 S1 H1=>?_;rw[hz] at H1
 have hi1:(blk rb tCh [.slice none 0 0,.slice none 0 0]::L)[i+1]?=some (SL nv tI v l):=by rw[gF];exact hi
 refine Za2 (λt w'=>w1=w'/\t=.bool false) ?_ ?_
 rotate_left
 ·refine r_lnS (i+1) H1 hi1 (r_eql (r_vfE (by omega) ?_));refine Zah (by omega) (by omega) ?_;refine r_cl (K:=λx w'=>w1=w'/\x=nv (l.length - 1)) ?_ ?_
  ·refine Tz202 ?_;unfold Vz202;refine r_lnS (i+1) H1 hi1 ?_;refine Zac (λx w'=>∃ u:Nat,x=nv u/\u<=l.length - 1/\w1=w') (λx _=>l.length - (intOf x).toNat) ⟨0,rfl,Nat.zero_le _,rfl⟩ ?_;rintro _ _ _ ⟨u,rfl,hu,rfl⟩;refine r_lss (r_vtD (by omega) ?_);have hf:=hR.fin u (by omega);refine Zaa (i+1) H1 hi1 (x:=l.getD u 0) (by rw[gB,gA (by omega)];rfl) ?_;refine r_eql (r_ifE (λq=>?_) λq=>?_)
   ·have:u=l.length - 1:=hf.1 (by omega);exact⟨rfl,by rw[this]⟩
   ·have:u≠l.length - 1:=λe=>q (by have:=hf.2 e;omega);refine Za0 (by omega) (r_ke ⟨⟨u+1,rfl,by omega,rfl⟩,?_⟩);simp only[nv,intOf,gC];omega
  rintro _ _ ⟨rfl,rfl⟩;refine r_lnS (i+1) H1 hi1 (Zah (by omega) (by omega) ?_);refine r_neq (r_ke ⟨rfl,?_⟩);rw[show (((l.length - 1:Nat):Int) != ((l.length - 1:Nat):Int))=false from by simp]
 rintro _ _ _ ⟨rfl,rfl⟩;refine r_vf ?_;refine Of_spec H1 (i:=i+1) hb.up hi1 h3 h258 hR.ne hlen hR.lt λov pv picks ts w2 hC S2 H2=>?_;obtain⟨ox,rfl⟩:=rr_sw H2 (i:=0) rfl;obtain⟨px,rfl⟩:=sl_sw H2 (i:=1) rfl;refine Za8 (Za9 ?_);refine r_stA 2 H2 (vs:=[sw ox,sw px]) rfl (by simp) rfl rfl λw3 S3 H3=>?_;refine r_ldA 2 H3 [sw ox,sw px] rfl rfl rfl ?_;exact k _ _ _ _ _ hC ((S1.trans S2).trans S3) (Holds.dropAt H3 2)
theorem Zu6 {v:Value}{l:List Nat}{size i:Nat}(H:Holds w L) (hb:BndOk L) (hi:L[i]?=some (SL nv tI v l)) (hR:Row l size)
  (k:∀ T w',Same w w'->Holds w' L->K (.tuple #[nv T,iv 0]) w'):Cl prog 176 #[v,nv size] w K:=by
 refine Tz176 ?_;unfold Vz176;have hlen:=hR.len;have h3:=hR.s3;have h258:=hR.s258;have h0:=gZ.2 hR.ne;have hng:nGr l=(l.length+49)/50:=rfl
 have hz:(zeroP prog tCh).cells.toList=[.slice none 0 0,.slice none 0 0]:=by kernel_rfl
 refine Zgr H hb hi hR λox px picks ts w1 hC S1 H1=>?_;obtain⟨hT,hpl,hpx⟩:=hC.ok;have hwh:=Zlm h3 hC;have hn2:=hT.n2;have hn6:=hT.n6;refine Za8 (Za9 ?_);refine r_new H1 λcb w2 S2 H2=>?_;rw[hz] at H2;refine r_stA 0 H2 (vs:=[sw ox,sw px]) rfl (by simp) rfl rfl λw3 S3 H3=>?_;replace H3:Holds w3 (blk cb tCh [sw ox,sw px]::RR (sw ox) ts::SL nv tI (sw px) picks::L):=H3;refine r_neq (r_vfN rfl ?_);refine r_fo0 (r_ld 0 H3 rfl rfl ?_);refine r_fo0 (r_ld 0 H3 rfl rfl ?_);refine rr_ln 1 H3 rfl ?_
 have H4:Holds w3 (SL nv tI (sw px) picks::blk cb tCh [sw ox,sw px]::RR (sw ox) ts::L):=by have h_:=Holds.ord 3 [2,0,1] H3 rfl;exact h_
 refine Zr4 H4 ⟨hn2,hn6⟩ (λe=>by rw[e] at hpl;simp at hpl;omega) (by omega) hpx λT w4 hTl S4 H5=>?_;refine Za8 (Za9 ?_);refine r_fo0 (r_ld 1 H5 rfl rfl ?_);refine rr_ln 2 H5 rfl ?_
 refine Zag (λa x w'=>∃ u T:Nat,x=nv u/\u<=ts.length/\a=nv T/\T<=1000000+1000000*u/\Same w w'/\Holds w' (SL nv tI (sw px) picks::blk cb tCh [sw ox,sw px]::RR (sw ox) ts::L)) (λ_ x _=>ts.length - (intOf x).toNat)
  ⟨0,T,rfl,Nat.zero_le _,rfl,by omega,((S1.trans S2).trans S3).trans S4,H5⟩ ?_
 clear H H1 H2 H3 H4 H5 S1 S2 S3 S4 hTl T;rintro _ _ _ w5 ⟨u,T,rfl,hu,rfl,hTl,S5,H5⟩;refine r_lss (r_ifD (λh=>?_) λh=>?_)
 ·have hlt:u < ts.length:=by omega
  have hm:=Zd4 hlt;obtain⟨x,R,hld,H6,hcl,_⟩:=Zdj 2 H5 rfl (Zes hlt);refine hld _ _ λ_ hp_=>hp_ _ ?_;refine Zpu (j:=0) H6 (by rw[hT.sz _ hm];exact h3) (by rw[hT.sz _ hm];exact h258) (hwh _ hm).sized λT2 w6 hT2 S6 H7=>?_;refine Za8 (Za9 ?_);refine Zad (by omega) (Za0 (by omega) (r_ke ⟨⟨u+1,_,rfl,hlt,rfl,by omega,S5.trans S6,hcl [] _ H7⟩,?_⟩));simp only[nv,intOf,gC];omega
 ·refine r_ldA 1 H5 [sw ox,sw px] rfl rfl rfl ?_;refine Zqg H5 (i:=i+3) (a:=2) (p:=0) (by rw[gF,gF,gF];exact hi) rfl rfl hT h258 hlen hR.lt hpl hpx λc w6 hc S6 H6=>?_;refine Za8 (Za9 ?_);refine Zad (by omega) ?_;exact k _ _ (S5.trans S6) H6.drop.drop.drop
def rowC (l picks:List Nat) (ts:List (List Nat)) (i:Nat):List Bool:=codeB (ts.getD (picks.getD (i/50) 0) []) (l.getD i 0)
def rowsC (l picks:List Nat) (ts:List (List Nat)) (n:Nat):List Bool:=(List.range n).flatMap (rowC l picks ts)
def codeBits (l picks:List Nat) (ts:List (List Nat)):List Bool:=picksB picks ts.length++ts.flatMap lensB++rowsC l picks ts l.length
theorem Zi9 (l picks:List Nat) (ts:List (List Nat)) (n:Nat):rowsC l picks ts (n+1)=rowsC l picks ts n++rowC l picks ts n:=by unfold rowsC;rw[range_succ,List.flatMap_append];simp
theorem Zt6 (lens:List Nat) (i:Nat):(codeB lens i).length=lens.getD i 0:=by rw[codeB,Za4]
theorem Ztj {a:Nat}:∀ {lens:List Nat},(∀ x∈lens,x<=20)->∀ a,a<=20->(stepsB a lens).length<=41*lens.length:=by
 intro lens h
 have:∀ i,i<=lens.length->∀ a,a<=20->(stepsB a (lens.take i)).length<=41*i/\lastB a (lens.take i)<=20:=by
  intro i
  induction i with
  |zero=>intro _ a ha;simp[stepsB,lastB,ha]
  |succ i ih=>
   intro hi a ha
   have hg:lens.take (i+1)=lens.take i++[lens.getD i 0]:=by rw[gO,gB,gA (by omega)];rfl
   have hx:lens.getD i 0<=20:=by rw[gB,gA (by omega)];exact h _ (getElem_mem _)
   obtain⟨i1,i2⟩:=ih (by omega) a ha;have h1:=Zlb (lastB a (lens.take i)) (lens.getD i 0) i2 hx;rw[hg,Zd2,lastB_snoc];simp only[gD,gQ];omega
 intro a ha;have h2:=(this lens.length (Nat.le_refl _) a ha).1;rw[hF_] at h2;exact h2
theorem Zs8 {lens:List Nat}(h:∀ x∈lens,x<=20):(lensB lens).length<=5+41*lens.length:=by
 unfold lensB;rw[gD,Za4]
 have:lens.getD 0 0<=20:=by
  cases lens with
  |nil=>simp
  |cons x r=>exact h _ (hJ_ ..)
 have:=Ztj (a:=0) h _ this;omega
theorem Zhf {l picks:List Nat}{ts:List (List Nat)}{size:Nat}(hT:Tb size ts):∀ n,(rowsC l picks ts n).length<=20*n
 |0=>by simp[rowsC]
 |n+1=>by
  rw[Zi9,gD];have ih:=Zhf (l:=l) (picks:=picks) hT n
  have:(rowC l picks ts n).length<=20:=by
   unfold rowC;rw[Zt6];rcases hU_ (picks.getD (n/50) 0) ts.length with q|q
   ·exact Zjp (hT.le _ (Zd4 q)) _
   ·have e:ts.getD (picks.getD (n/50) 0) []=[]:=by rw[gB,getElem?_eq_none q];rfl
    rw[e];simp
  omega
theorem Zj5 {ts:List (List Nat)}{size:Nat}(hT:Tb size ts) (hs:size<=258):∀ u,((ts.take u).flatMap lensB).length<=20000*u
 |0=>by simp
 |u+1=>by
  have ih:=Zj5 hT hs u;rcases hU_ u ts.length with q|q
  ·have e:ts.take (u+1)=ts.take u++[ts.getD u []]:=by rw[gO,Zes q];rfl
   have h1:=Zs8 (hT.le _ (Zd4 q));rw[hT.sz _ (Zd4 q)] at h1;rw[e,List.flatMap_append,gD];simp only[List.flatMap_cons,List.flatMap_nil,gU];omega
  ·rw[gK (by omega),<-gK (i:=u) q];omega
theorem Zhy {picks:List Nat}{t:Nat}(ht:t<=6) (h:∀ p∈picks,p < t):(picksB picks t).length<=18+6*picks.length:=by
 unfold picksB
 have hinv:=Zf3 (o:=[0,1,2,3,4,5]) (l:=picks) λc hc=>by
  have:=h c hc
  rcases (show c=0\/c=1\/c=2\/c=3\/c=4\/c=5 by omega) with h|h|h|h|h|h <;> rw[h] <;> simp
 have h4:=Zgu hinv.2.2.2;rw[hinv.2.2.1] at h4;rw[gD,gD,Za4,Za4];simp only[length_cons,length_nil] at h4;omega
theorem Zkw {l picks:List Nat}{ts:List (List Nat)}{size:Nat}(hT:Tb size ts) (hs:size<=258) (hpx:∀ p∈picks,p < ts.length):(codeBits l picks ts).length<=18+6*picks.length+120000+20*l.length:=by
 unfold codeBits;have h1:=Zhy hT.n6 hpx;have h2:=Zj5 hT hs ts.length;rw[hF_] at h2;have h3:=Zhf (l:=l) (picks:=picks) hT l.length;have h6:=hT.n6;rw[gD,gD];omega
theorem Write_spec {v:Value}{l:List Nat}{size i:Nat}(H:Holds w (W01.WrR wb bs n::L)) (hb:BndOk L) (hi:L[i]?=some (SL nv tI v l)) (hR:Row l size) (hl:bs.length<=9000000000) (hn:n<=bs.length/8)
  (k:∀ picks ts w',Cho l size picks ts->Same w w'->Holds w' (W01.WrR wb (bs++codeBits l picks ts) n::L)->K (iv 0) w'):Cl prog 178 #[pt wb,v,nv size] w K:=by
 refine Tz178 ?_;unfold Vz178;have hlen:=hR.len;have h3:=hR.s3;have h258:=hR.s258;have h0:=gZ.2 hR.ne;have hng:nGr l=(l.length+49)/50:=rfl
 have hz:(zeroP prog tCh).cells.toList=[.slice none 0 0,.slice none 0 0]:=by kernel_rfl
 refine Zab (r_vf ?_);refine Zgr H (i:=i+1) hb.up (by rw[gF];exact hi) hR λox px picks ts w1 hC S1 H1=>?_;obtain⟨hT,hpl,hpx⟩:=hC.ok;have hwh:=Zlm h3 hC;have hn2:=hT.n2;have hn6:=hT.n6;refine Za8 (Za9 ?_);refine r_new H1 λcb w2 S2 H2=>?_;rw[hz] at H2;refine r_stA 0 H2 (vs:=[sw ox,sw px]) rfl (by simp) rfl rfl λw3 S3 H3=>?_;replace H3:Holds w3 (blk cb tCh [sw ox,sw px]::RR (sw ox) ts::SL nv tI (sw px) picks::W01.WrR wb bs n::L):=H3;refine r_neq (r_vfN rfl ?_);refine r_fo0 (r_ld 0 H3 rfl rfl ?_);refine r_fo0 (r_ld 0 H3 rfl rfl ?_);refine rr_ln 1 H3 rfl ?_
 have H4:Holds w3 (W01.WrR wb bs n::SL nv tI (sw px) picks::blk cb tCh [sw ox,sw px]::RR (sw ox) ts::L):=by have h_:=Holds.ord 4 [3,2,0,1] H3 rfl;exact h_
 have hp1:=Zhy hn6 hpx;refine P13.Write_spec H4 ⟨hn2,hn6⟩ (λe=>by rw[e] at hpl;simp at hpl;omega) (by omega) hpx (by omega) hn λw4 S4 H5=>?_;refine r_fo0 (r_ld 2 H5 rfl rfl ?_);refine rr_ln 3 H5 rfl ?_
 have H6:Holds w4 (W01.WrR wb (bs++picksB picks ts.length) n::SL pt C14.tCP (.slice none 0 0) []::C14.CodesS [] []::SL nv tI (sw px) picks::blk cb tCh [sw ox,sw px]::RR (sw ox) ts::L):=by
  have h1:Holds w4 (C14.CodesS [] []::W01.WrR wb (bs++picksB picks ts.length) n::SL nv tI (sw px) picks::blk cb tCh [sw ox,sw px]::RR (sw ox) ts::L):=Holds.pack (A:=[]) H5;have h2:=h1.nilSL pt C14.tCP;have h_:=Holds.ord 3 [2,0,1] h2 rfl;exact h_
 refine Zag (λcv x w'=>∃ (u:Nat) (cs:List Nat),x=nv u/\u<=ts.length/\cs.length=u/\Same w w'/\
   Holds w' (W01.WrR wb (bs++picksB picks ts.length++(ts.take u).flatMap lensB) n::SL pt C14.tCP cv cs::C14.CodesS cs (ts.take u)::SL nv tI (sw px) picks::blk cb tCh [sw ox,sw px]::RR (sw ox) ts::L)) (λ_ x _=>ts.length - (intOf x).toNat)
  ⟨0,[],rfl,Nat.zero_le _,rfl,((S1.trans S2).trans S3).trans S4,by
   rw[List.take_zero,List.flatMap_nil,gU];exact H6⟩ ?_
 clear H H1 H2 H3 H4 H5 H6 S1 S2 S3 S4;rintro _ cv _ w5 ⟨u,cs,rfl,hu,hcs,S5,H5⟩;have hfl:=Zj5 hT h258 u
 have hB:(bs++picksB picks ts.length++(ts.take u).flatMap lensB).length=bs.length+(picksB picks ts.length).length+((ts.take u).flatMap lensB).length:=by rw[gD,gD]
 refine r_lss (r_ifD (λh=>?_) λh=>?_)
 ·have hlt:u < ts.length:=by omega
  have hm:=Zd4 hlt
  have e:ts.take (u+1)=ts.take u++[ts.getD u []]:=by rw[gO,Zes hlt];rfl
  obtain⟨x,R,hld,H6,_,_,_,hRR⟩:=Zdj 5 H5 rfl (Zes hlt);refine hld _ _ λ_ hp_=>hp_ _ ?_;have hsz:=hT.sz _ hm;have hwt:=hwh _ hm;generalize ts.getD u []=t at *;refine D11.Write_spec (lens:=t) H6.swap (by omega) (by omega) hwt.sized (by omega) (by omega) λw6 S6 H7=>?_;refine C10.New_spec (lens:=t) H7 (j:=1) rfl (by omega) (by omega) hwt.sized (λe=>absurd hwt.share e) λ_ c w7 S7 H8=>?_;refine Za8 (Za9 ?_)
  have H9:Holds w7 ([C10.CodeR c t,W01.WrR wb (bs++picksB picks ts.length++(ts.take u).flatMap lensB++lensB t) n]++SL nv tI (sw x) t::SL pt C14.tCP cv cs::C14.CodesS cs (ts.take u)::SL nv tI (sw px) picks::blk cb tCh [sw ox,sw px]::R::L):=H8;have H10:=Zmp hRR _ 4 rfl H9;replace H10:Holds w7 (C10.CodeR c t::W01.WrR wb (bs++picksB picks ts.length++(ts.take u).flatMap lensB++lensB t) n::SL pt C14.tCP cv cs::C14.CodesS cs (ts.take u)::SL nv tI (sw px) picks::blk cb tCh [sw ox,sw px]::RR (sw ox) ts::L):=H10
  have H11:Holds w7 (C10.CodeR c t::C14.CodesS cs (ts.take u)::W01.WrR wb (bs++picksB picks ts.length++(ts.take u).flatMap lensB++lensB t) n::SL pt C14.tCP cv cs::SL nv tI (sw px) picks::blk cb tCh [sw ox,sw px]::RR (sw ox) ts::L):=by
   have h_:=Holds.ord 4 [0,3,1,2] H10 rfl;exact h_
  have H12:=C14.Ztd (by rw[hcs,gN];omega) H11;refine Zdc (f:=pt) H12 2 rfl c (λ_=>rfl) (by omega) λcv2 w8 S8 H13=>?_
  have H14:Holds w8 (W01.WrR wb (bs++picksB picks ts.length++(ts.take u).flatMap lensB++lensB t) n::SL pt C14.tCP cv2 (cs++[c])::C14.CodesS (cs++[c]) (ts.take u++[t])::SL nv tI (sw px) picks::blk cb tCh [sw ox,sw px]::RR (sw ox) ts::L):=by
   have h_:=Holds.ord 3 [1,2,0] H13 rfl;exact h_
  refine Za0 (by omega) (r_ke ⟨⟨u+1,cs++[c],rfl,hlt,by rw[gD,hcs];rfl,S5.trans (S6.trans (S7.trans S8)),?_⟩,?_⟩)
  ·rw[e,List.flatMap_append,<-gI (bs++picksB picks ts.length)];simp only[List.flatMap_cons,List.flatMap_nil,gU];exact H14
  ·simp only[nv,intOf,gC];omega
 obtain rfl:u=ts.length:=by omega
 rw[hF_] at H5 hfl hB;generalize hB0:bs++picksB picks ts.length++ts.flatMap lensB=B0 at *;refine r_lnS (i+6) H5 (by rw[gF,gF,gF,gF,gF,gF];exact hi) ?_
 refine Zac (λx w'=>∃ u:Nat,x=nv u/\u<=l.length/\Same w w'/\
   Holds w' (W01.WrR wb (B0++rowsC l picks ts u) n::SL pt C14.tCP cv cs::C14.CodesS cs ts::SL nv tI (sw px) picks::blk cb tCh [sw ox,sw px]::RR (sw ox) ts::L)) (λx _=>l.length - (intOf x).toNat)
  ⟨0,rfl,Nat.zero_le _,S5,by
   show Holds w5 (W01.WrR wb (B0++[]) n::_)
   rw[gU];exact H5⟩ ?_
 clear H5 S5 h;rintro _ _ w6 ⟨u,rfl,hu,S6,H6⟩;have hrl:=Zhf (l:=l) (picks:=picks) hT u;refine r_lss (r_ifD (λh=>?_) λh=>?_)
 ·have hlt:u < l.length:=by omega
  have hxl:=hR.lt _ (getElem_mem hlt);refine Zaa (i+6) H6 (by rw[gF,gF,gF,gF,gF,gF];exact hi) (x:=l.getD u 0) (by rw[gB,gA hlt];rfl) ?_;refine r_fo0 (r_ld 4 H6 rfl rfl ?_);refine r_quo (by omega) (by omega) (by omega) ?_;rw[show ((u:Nat):Int)/50=((u/50:Nat):Int) by omega]
  have hup:u/50 < picks.length:=by omega
  refine Zaa 3 H6 rfl (x:=picks.getD (u/50) 0) (by rw[gB,gA hup];rfl) ?_
  have hpq:picks.getD (u/50) 0 < ts.length:=by rw[gB,gA hup];exact hpx _ (getElem_mem hup)
  have hxu:l.getD u 0 < size:=by rw[gB,gA hlt];exact hxl
  have hrow:rowC l picks ts u=codeB (ts.getD (picks.getD (u/50) 0) []) (l.getD u 0):=rfl;generalize picks.getD (u/50) 0=q at *;generalize l.getD u 0=x at *
  have hcq:cs[q]?=some (cs.getD q 0):=by rw[gB,gA (by omega)];rfl
  refine Zaa 1 H6 rfl hcq ?_;generalize cs.getD q 0=c at *
  have H7:Holds w6 (W01.WrR wb (B0++rowsC l picks ts u) n::C14.CodesS cs ts::SL pt C14.tCP cv cs::SL nv tI (sw px) picks::blk cb tCh [sw ox,sw px]::RR (sw ox) ts::L):=by
   have h_:=Holds.ord 3 [0,2,1] H6 rfl;exact h_
  obtain⟨A,hA1,hA2⟩:=C14.Zsk (L:=SL pt C14.tCP cv cs::SL nv tI (sw px) picks::blk cb tCh [sw ox,sw px]::RR (sw ox) ts::L) hcq (Zes hpq);have H8:Holds w6 (W01.WrR wb (B0++rowsC l picks ts u) n::C10.CodeR c (ts.getD q [])::A):=Zcb hA1 H7;refine C10.Put_spec H8.swap (by rw[hT.sz _ (Zd4 hpq)];exact hxu) (by rw[gD];omega) (by rw[gD];omega) λw7 S7 H9=>?_;have H10:Holds w7 (W01.WrR wb (B0++rowsC l picks ts u++codeB (ts.getD q []) x) n::C14.CodesS cs ts::SL pt C14.tCP cv cs::SL nv tI (sw px) picks::blk cb tCh [sw ox,sw px]::RR (sw ox) ts::L):=Zcb hA2 H9.swap
  have H11:Holds w7 (W01.WrR wb (B0++rowsC l picks ts u++codeB (ts.getD q []) x) n::SL pt C14.tCP cv cs::C14.CodesS cs ts::SL nv tI (sw px) picks::blk cb tCh [sw ox,sw px]::RR (sw ox) ts::L):=by
   have h_:=Holds.ord 3 [0,2,1] H10 rfl;exact h_
  refine Za0 (by omega) (r_ke ⟨⟨u+1,rfl,hlt,S6.trans S7,?_⟩,?_⟩)
  ·rw[Zi9,hrow,<-gI];exact H11
  ·simp only[nv,intOf,gC];omega
 ·obtain rfl:u=l.length:=by omega
  refine k picks ts _ hC S6 ?_
  have H7:Holds w6 (W01.WrR wb (B0++rowsC l picks ts l.length) n::L):=by have h_:=Holds.ord 6 [0] H6 rfl;exact h_
  rw[<-hB0] at H7;unfold codeBits;rw[<-gI,<-gI];exact H7
end W14
namespace Z07
open Go.Mz
variable {w:World}{L:List HProp}{K:KT}{b:Nat}{z:ZS}
end Z07
namespace F06
open Go.Mz
variable {w:World}{L:List HProp}{K:KT}{b:Nat}{o:List UInt8}
abbrev tL:Nat:=267
def MtR (b:Nat) (o:List UInt8):HProp:=λh=>o.length<=256/\∃ ov,Sat [blk b tL [ov],SM tB ov o] h
theorem Zoq (H:Holds w (MtR b o::L)):o.length<=256/\∃ ov,Holds w (blk b tL [ov]::SM tB ov o::L):=by
 obtain⟨h,H⟩:=Holds.pure H;obtain⟨ov,H⟩:=Holds.ex H;exact⟨h,ov,Holds.unpack H⟩
theorem Zlk {ov:Value}(h:o.length<=256) (H:Holds w (blk b tL [ov]::SM tB ov o::L)):Holds w (MtR b o::L):=Holds.imp (Holds.pack (A:=[_,_]) H) λ_ hh=>⟨h,ov,hh⟩
theorem Zrg {T:Nat->Bool}(H:Holds w L) (hne:listed T≠[]) (k:∀ w',Same w w'->Holds w' L->K (.bool true) w'):Cl prog 192 #[.string ⟨(listed T).toArray⟩] w K:=by
 refine Tz192 ?_;unfold Vz192
 have hs:(⟨(listed T).toArray⟩:ByteArray).size=(listed T).length:=by show (listed T).toArray.size=_;simp
 have hl:=Ze3 T
 repeat (refine r_lns ?_)
 rw[hs];refine Zac (λx w'=>∃ i:Nat,i<=(listed T).length/\x=nv i/\Same w w'/\Holds w' L) (λx _=>(listed T).length - (intOf x).toNat) ⟨0,by omega,rfl,.refl w,H⟩ ?_;clear H;rintro _ _ w1 ⟨i,hi,rfl,S,H⟩
 repeat (refine r_lss ?_)
 refine r_ifD (λh=>?_) λh=>?_
 ·refine Za2 (λx w'=>x=.bool false/\Same w w'/\Holds w' L) ?_ ?_
  ·clear H S;rintro _ _ w2 ⟨rfl,S,H⟩
   repeat (first|refine r_ke ?_|(with_reducible refine r_vf ?_)|(refine Za0 (by omega) ?_))
   refine⟨⟨i+1,by omega,rfl,S,H⟩,?_⟩;simp[nv,intOf];omega
  ·repeat (first|refine r_gtr ?_|(refine r_dr H ?_;clear H;intro _ S_ H;replace S:=S.trans S_;clear S_))
   refine r_ifD (λh0=>?_) λh0=>?_
   ·repeat (first|refine r_ke ?_|refine r_leq ?_|(refine Zah (by omega) (by omega) ?_)|(refine Ze6 (by omega) ?_))
    have:=Zm8 T (i - 1) (by omega);rw[show i - 1+1=i by omega] at this;refine⟨?_,S,H⟩
    congr 1
    rw[decide_eq_false_iff_not];simp only[List.toList_toArray];omega
   ·repeat (refine r_ke ?_)
    exact⟨rfl,S,H⟩
 ·repeat (refine Zsw ?_)
  have:=k _ S H;rw[decide_eq_true (by rw[hs];exact λh=>hne (List.eq_nil_of_length_eq_zero h))];exact this
theorem New_spec {T:Nat->Bool}(H:Holds w L) (hne:listed T≠[]) (k:∀ b w',Same w w'->Holds w' (MtR b (listed T)::L)->K (.tuple #[pt b,iv 0]) w'):Cl prog 184 #[.string ⟨(listed T).toArray⟩] w K:=by
 refine Tz184 ?_;unfold Vz184;refine Zrg H hne λw1 S1 H1=>?_
 repeat (first|(with_reducible first|refine Zal ?_|refine r_vf ?_))
 refine r_csb (e:=tB) H1 λv w2 S2 H2=>?_;obtain⟨b2,sp,rfl,H3⟩:=Zha H2 0 rfl;refine r_bd (v:=.agg #[.slice (some ⟨b2,0,none⟩) (listed T).length ((listed T).length+sp.length)]) (by kernel_rfl) ?_;refine r_new H2 λb w3 S3 H4=>?_;exact k b _ ((S1.trans S2).trans S3) (Zlk (Ze3 T) H4)
theorem Zq4 {i:Nat}(H:Holds w (MtR b o::L)) (hi:i < o.length) (k:∀ w',Same w w'->Holds w' (MtR b (frontB o i)::L)->K (bv (o.getD i 0)) w'):Cl prog 201 #[pt b,nv i] w K:=by
 refine Tz201 ?_;unfold Vz201;obtain⟨hl,ov,H⟩:=Zoq H;have S:=Same.refl w
 repeat (first|refine r_nc ?_|refine r_fo0 ?_|refine r_ld 0 H rfl rfl ?_)
 refine Yd0 1 H rfl (x:=o.getD i 0) (by rw[gB,gA hi];rfl) ?_;obtain⟨b2,sp,rfl,H⟩:=Zha H 1 rfl;rw[gW,gJ] at H
 repeat (first|refine r_nc ?_|refine r_fo0 ?_|(refine Za0 (by omega) ?_)|(refine r_dr H ?_;clear H;intro _ S_ H;replace S:=S.trans S_;clear S_)|refine r_ld 0 H rfl rfl ?_)
 refine Zsn (l:=1) (h:=i+1) (by omega) (by omega) ?_
 repeat (first|refine r_nc ?_|refine r_fo0 ?_|refine r_ld 0 H rfl rfl ?_)
 refine Zp2 (by omega) ?_;refine r_cpM (z:=.int .u8 0) H 1 (xs:=o) (sp:=sp) rfl hi λv w2 S2 H2=>?_;replace S:=S.trans S2;clear H;have H:=H2;clear H2;rw[gW,gJ] at H;have H2:=Znx H 1 rfl;rw[gW,gJ] at H2
 have hl2:(o.take 1++(o.take i++o.drop (i+1))).length=o.length:=by simp;omega
 rw[hl2] at H2;clear H;have H:=H2;clear H2
 repeat (first|refine r_nc ?_|refine r_fo0 ?_|refine r_ld 0 H rfl rfl ?_)
 refine Yd5 1 H (j:=0) (o.getD i 0) rfl (by omega) λw3 S3 H3=>?_
 have e:(o.take 1++(o.take i++o.drop (i+1))).set 0 (o.getD i 0)=frontB o i:=by
  unfold frontB
  cases o with
  |nil=>simp at hi
  |cons x o=>rfl
 rw[gW,gJ,e] at H3;exact k _ (S.trans S3) (Zlk (by rw[Zi3 hi];exact hl) H3)
end F06
namespace U05
open Go.M01 Go.Mb Go.Mp Go.Mz Rb
variable {w:World}{L:List HProp}{K:KT}{b r:Nat}{B:List UInt8}{d at_ n:Nat}
theorem Zxy {j:Nat}(h:j < 256):(Value.int .u8 (j:Int))=bv (UInt8.ofNat j):=by
 unfold bv;rw[UInt8.toNat_ofNat_of_lt' (by simpa using h)]
theorem sg_bv (c:UInt8):sg (bv c)=true:=rfl
theorem Zfs {p:Nat->Bool}{j:Nat}:(List.range (j+1)).filter p=(List.range j).filter p++if p j then [j] else []:=by
 rw[range_succ,List.filter_append,List.filter_cons,List.filter_nil]
theorem Zmb {T:Nat->Bool}(H:Holds w L) (k:∀ w',Same w w'->Holds w' L->K (S_ (listed T)) w'):Cl prog 183 #[.agg ((boolsT T).map Value.bool).toArray] w K:=by
 refine Tz183 ?_;unfold Vz183;refine r_new H λb1 w1 S1 H1=>?_
 have hlen:((boolsT T).map Value.bool).length=256:=by rw[hS_,Ze0]
 have hcells:(Value.agg ((boolsT T).map Value.bool).toArray).cells.toList=(boolsT T).map Value.bool:=by simp[Value.cells]
 rw[hcells] at H1;refine r_ldA 0 H1 ((boolsT T).map Value.bool) rfl (by rw[drop_zero,gK (by omega)]) hlen ?_;refine Zag (λo x w'=>∃ i:Nat,i<=256/\x=nv i/\Same w w'/\Holds w' (SL bv tB o (((List.range i).filter T).map UInt8.ofNat)::L)) (λ_ x _=>256 - (intOf x).toNat) ⟨0,by omega,rfl,S1,(H1.drop).nilSL bv tB⟩ ?_;clear H H1 S1;rintro _ o _ w1 ⟨i,hi,rfl,S,H⟩
 repeat (refine r_lss ?_)
 refine r_ifD (λh=>?_) λh=>?_
 ·have hlt:i < 256:=by omega
  have hfl:(((List.range i).filter T).map UInt8.ofNat).length<=256:=by
   rw[hS_];exact Nat.le_trans (List.length_filter_le _ _) (by simp;omega)
  refine Znw (.bool (T i)) (by omega) (by omega) (by rw[gC,hV_,Zqm T hlt];rfl) ?_
  cases hc:T i with
  |true=>
   refine r_vt ?_
   repeat (refine Zld (by omega) (by omega) ?_)
   rw[Zxy hlt];refine Zdc H 0 rfl (UInt8.ofNat i) sg_bv (by omega) λv' w2 S2 H2=>?_;rw[gJ] at H2
   repeat (first|refine r_ke ?_|(refine Za0 (by omega) ?_))
   refine⟨⟨i+1,by omega,rfl,S.trans S2,?_⟩,?_⟩
   ·rw[Zfs,hc,if_pos rfl,map_append];exact H2
   ·simp[nv,intOf];omega
  |false=>
   refine r_vf ?_
   repeat (first|refine r_ke ?_|(refine Za0 (by omega) ?_))
   refine⟨⟨i+1,by omega,rfl,S,?_⟩,?_⟩
   ·rw[Zfs,hc];simp only[Bool.false_eq_true,if_false,gU];exact H
   ·simp[nv,intOf];omega
 ·obtain rfl:i=256:=by omega
  obtain⟨oa,sp,rfl,H2⟩:=H.open 0 rfl;refine r_cbs H2 0 rfl rfl ?_;exact k _ S H.drop
end U05
namespace U05
open Go.M01 Go.Mb Go.Mz Go.Mx Rb
variable {w:World}{L:List HProp}{K:KT}{b:Nat}
abbrev tUr:Nat:=256
abbrev tBo:Nat:=245
theorem Zm3 {s:List UInt8}(H:Holds w L) (hs:s.length<=1000000) (k:∀ w',Same w w'->Holds w' L->K (S_ (listed (upT s))) w'):Cl prog 173 #[S_ s] w K:=by
 refine Tz173 ?_;unfold Vz173
 have hsz:(⟨s.toArray⟩:ByteArray).size=s.length:=by show s.toArray.size=_;simp
 have hdl:(⟨s.toArray⟩:ByteArray).data.toList=s:=by simp
 have hz:(zeroP prog tBo).cells.toList=(boolsT (upT [])).map Value.bool:=by
  rw[show upT []=λ_=>false from rfl,Zm5]
  kernel_rfl
 refine r_new H λb w1 S1 H1=>?_;rw[hz] at H1;refine r_lns ?_;rw[hsz];refine Zac (λx w'=>∃ i:Nat,i<=s.length/\x=nv i/\Same w w'/\Holds w' (blk b tBo ((boolsT (upT (s.take i))).map Value.bool)::L)) (λx _=>s.length - (intOf x).toNat) ⟨0,Nat.zero_le _,rfl,S1,H1⟩ ?_;clear H H1 S1;rintro _ _ w2 ⟨i,hi,rfl,S,H⟩;refine r_lss (r_ifD (λh=>?_) λh=>?_)
 ·have hlt:i < s.length:=by omega
  have hc:=(s.getD i 0).toNat_lt;refine Ze6 (by rw[hsz];exact hlt) ?_;rw[hdl];refine Zb4 (by omega) ?_;refine r_st 0 H rfl (by rw[hS_,Ze0];omega) rfl λw3 S3 H3=>?_;replace H3:Holds w3 (blk b tBo (((boolsT (upT (s.take i))).map Value.bool).set (0+(s.getD i 0).toNat) (.bool true))::L):=H3
  have e:((boolsT (upT (s.take i))).map Value.bool).set (0+(s.getD i 0).toNat) (.bool true)=(boolsT (upT (s.take (i+1)))).map Value.bool:=by
   rw[Nat.zero_add,<-map_set,Zqk]
   have hg:s.take (i+1)=s.take i++[s.getD i 0]:=by rw[gO,gA hlt,gB,gA hlt];rfl
   rw[hg,Zlh λx hx=>(Zk7 hx).symm]
  rw[e] at H3;refine Za0 (by omega) ?_;refine r_ke ⟨⟨i+1,by omega,rfl,S.trans S3,H3⟩,?_⟩;simp only[nv,intOf,gC];omega
 ·obtain rfl:i=s.length:=by omega
  rw[hF_] at H;refine r_ldA 0 H ((boolsT (upT s)).map Value.bool) rfl (by rw[drop_zero,gK (by rw[hS_,Ze0];exact Nat.le_refl _)]) (by rw[hS_,Ze0]) ?_;refine Zmb H λw3 S3 H3=>?_;exact k _ (S.trans S3) H3.drop
theorem quo8 {c:Nat}(h:c < 256):bp .quo (.int .u8 (c:Int)) (.int .u8 16)=some (.int .u8 ((c/16:Nat):Int)):=by
 have e:(c:Int).tdiv 16=((c/16:Nat):Int):=by rw[Int.tdiv_eq_ediv_of_nonneg (by omega)];simp
 simp only[bp];rw[if_pos ⟨trivial,by decide⟩,e,wrapU8 (by omega) (by omega)]
theorem Zhu:∀ {cs vs:List Value},cs.length=vs.length->setL cs 0 vs=vs:=by
 have key:∀ (vs pre cs:List Value),cs.length=vs.length->setL (pre++cs) pre.length vs=pre++vs:=by
  intro vs
  induction vs with
  |nil=>intro pre cs h;simp at h;subst h;rfl
  |cons v vs ih=>
   intro pre cs h
   cases cs with
   |nil=>simp at h
   |cons c cs=>
    rw[setL,List.set_append_right _ _ (Nat.le_refl _),Nat.sub_self,gJ];have:=ih (pre++[v]) cs (by simpa using h);rw[gI,gD,gI] at this;exact this
 intro cs vs h;have:=key vs [] cs h;exact this
def rowsV (T:Nat->Bool):List Value:=(List.range 16).map λi=>uv (valB (bitR T i))
theorem Zai (T:Nat->Bool):(rowsV T).length=16:=by simp[rowsV]
theorem Zdf (T:Nat->Bool){i:Nat}(h:i < 16):(rowsV T)[i]?=some (uv (valB (bitR T i))):=by simp[rowsV,h]
theorem Zz7 (T:Nat->Bool) (i:Nat):valB (bitR T i) < 65536:=by have:=Zd1 (bitR T i);rwa [Zdv] at this
theorem Zui {s:List UInt8}(H:Holds w L) (hs:s.length<=1000000) (k:∀ w',Same w w'->Holds w' L->K (.agg (rowsV (upT s)).toArray) w'):Cl prog 193 #[S_ s] w K:=by
 refine Tz193 ?_;unfold Vz193
 have hsz:(⟨s.toArray⟩:ByteArray).size=s.length:=by show s.toArray.size=_;simp
 have hdl:(⟨s.toArray⟩:ByteArray).data.toList=s:=by simp
 have hz:(zeroP prog tUr).cells.toList=rowsV (upT []):=by kernel_rfl
 refine r_new H λxb w0 S0 H0=>?_;rw[hz] at H0;refine r_new H0 λb w1 S1 H1=>?_;rw[hz] at H1;refine r_lns ?_;rw[hsz];refine Zac (λx w'=>∃ i:Nat,i<=s.length/\x=nv i/\Same w w'/\Holds w' (blk b tUr (rowsV (upT (s.take i)))::blk xb tUr (rowsV (upT []))::L)) (λx _=>s.length - (intOf x).toNat) ⟨0,Nat.zero_le _,rfl,S0.trans S1,H1⟩ ?_;clear H H0 H1 S0 S1;rintro _ _ w2 ⟨i,hi,rfl,S,H⟩;refine r_lss (r_ifD (λh=>?_) λh=>?_)
 ·have hlt:i < s.length:=by omega
  have hg:s.take (i+1)=s.take i++[s.getD i 0]:=by rw[gO,gA hlt,gB,gA hlt];rfl
  refine Ze6 (by rw[hsz];exact hlt) ?_;rw[hdl];generalize s.getD i 0=c at *;have hc:=c.toNat_lt;refine r_bpK (.int .u8 ((c.toNat/16:Nat):Int)) (quo8 hc) ?_;refine Zb4 (by omega) ?_;refine r_ld 0 H (by rfl) (by rw[Nat.zero_add];exact Zdf _ (by omega)) ?_;refine Yc9 (by omega) (by omega) ?_;refine Yaz (s:=15) (t:=c.toNat%16) (by omega) (by omega) ?_;refine Zc8 (s:=1) (n:=15 - c.toNat%16) (by omega) ?_;have hp:2^(15 - c.toNat%16)<=2^15:=Nat.pow_le_pow_right (by decide) (by omega);have hr:=Zz7 (upT (s.take i)) (c.toNat/16);refine Znt (by omega) (by omega) ?_;rw[Nat.one_mul,Nat.mod_eq_of_lt (by omega),Ycw];refine Zb4 (by omega) ?_;refine r_st 0 H rfl (by rw[Zai];omega) rfl λw3 S3 H3=>?_;replace H3:Holds w3 (blk b tUr ((rowsV (upT (s.take i))).set (0+c.toNat/16) (uv (valB (bitR (upT (s.take i++[c])) (c.toNat/16)))))::blk xb tUr (rowsV (upT []))::L):=H3
  have e:(rowsV (upT (s.take i))).set (0+c.toNat/16) (uv (valB (bitR (upT (s.take i++[c])) (c.toNat/16))))=rowsV (upT (s.take (i+1))):=by
   rw[hg,Nat.zero_add];apply List.ext_getElem?;intro j;rw[List.getElem?_set]
   by_cases hj:c.toNat/16=j
   ·subst hj;rw[if_pos rfl,if_pos (by rw[Zai];omega),Zdf _ (by omega)]
   ·rw[if_neg hj]
    by_cases hj2:j < 16
    ·rw[Zdf _ hj2,Zdf _ hj2,Zvy hj2 (by omega)]
    ·rw[getElem?_eq_none (by rw[Zai];omega),getElem?_eq_none (by rw[Zai];omega)]
  rw[e] at H3;refine Za0 (by omega) ?_;refine r_ke ⟨⟨i+1,by omega,rfl,S.trans S3,H3⟩,?_⟩;simp only[nv,intOf,gC];omega
 ·obtain rfl:i=s.length:=by omega
  rw[hF_] at H;refine r_ldA 0 H (rowsV (upT s)) rfl (by rw[drop_zero,gK (by rw[Zai];exact Nat.le_refl _)]) (Zai _) ?_;refine r_stA 1 H (vs:=rowsV (upT s)) rfl (by rw[Zai];exact Nat.le_refl _) (Zai _) (by rw[List.all_eq_true];intro x hx;obtain⟨j,_,rfl⟩:=mem_map.1 hx;rfl) λw3 S3 H3=>?_;have e:setL (rowsV (upT [])) 0 (rowsV (upT s))=rowsV (upT s):=Zhu (by rw[Zai,Zai]);replace H3:Holds w3 (blk b tUr (rowsV (upT s))::blk xb tUr (setL (rowsV (upT [])) 0 (rowsV (upT s)))::L):=H3;rw[e] at H3;refine r_ldA 1 H3 (rowsV (upT s)) rfl (by rw[drop_zero,gK (by rw[Zai];exact Nat.le_refl _)]) (Zai _) ?_;exact k _ (S.trans S3) H3.drop.drop
theorem Zs0 (T:Nat->Bool) (i:Nat):valB (bitR T i) < 65536:=Zz7 T i
theorem Zpb (T:Nat->Bool) (j:Nat):valB (whichB T j) < 65536:=by have:=Zd1 (whichB T j);rwa [Zby] at this
theorem Write_spec {T:Nat->Bool}{bs:List Bool}{n:Nat}(H:Holds w (W01.WrR b bs n::L)) (hne:listed T≠[]) (hl:bs.length<=10000000000) (hn:n<=bs.length/8)
  (k:∀ w',Same w w'->Holds w' (W01.WrR b (bs++usedB T) n::L)->K (iv 0) w'):Cl prog 177 #[pt b,S_ (listed T)] w K:=by
 refine Tz177 ?_;unfold Vz177;have hll:=Ze3 T;refine Zab (r_vf ?_);refine F06.Zrg H hne λw1 S1 H1=>?_;refine Zal (r_vf ?_);refine Zui H1 (by omega) λw2 S2 H2=>?_
 have hz:(zeroP prog tUr).cells.toList=rowsV (upT []):=by kernel_rfl
 refine r_new H2 λab w3 S3 H3=>?_;rw[hz] at H3;refine r_stA 0 H3 (vs:=rowsV (upT (listed T))) rfl (by rw[Zai];exact Nat.le_refl _) (Zai _) (by rw[List.all_eq_true];intro x hx;obtain⟨j,_,rfl⟩:=mem_map.1 hx;rfl) λw4 S4 H4=>?_;have e:setL (rowsV (upT [])) 0 (rowsV (upT (listed T)))=rowsV (upT (listed T)):=Zhu (by rw[Zai,Zai]);replace H4:Holds w4 (blk ab tUr (setL (rowsV (upT [])) 0 (rowsV (upT (listed T))))::W01.WrR b bs n::L):=H4;rw[e] at H4
 have hrow:∀ i,i < 16->(rowsV (upT (listed T)))[i]?=some (uv (valB (bitR T i))):=λi hi=>by rw[Zdf _ hi,Ycb hi]
 have hRl:=Zai (upT (listed T));generalize rowsV (upT (listed T))=R at *;replace S1:=((S1.trans S2).trans S3).trans S4;clear H H1 H2 H3 S2 S3 S4
 have hRd:(R.drop 0).take 16=R:=by rw[drop_zero,gK (by omega)]
 refine r_ldA 0 H4 R rfl hRd hRl ?_;refine Zag (λv x w'=>∃ i:Nat,i<=16/\x=nv i/\v=uv (valB (whichB T i))/\w4=w') (λ_ x _=>16 - (intOf x).toNat) ⟨0,by omega,rfl,by rw[show valB (whichB T 0)=0 by unfold whichB;simp only[Nat.not_lt_zero,decide_false,Bool.false_and];decide];rfl,rfl⟩ ?_;rintro _ _ _ _ ⟨i,hi,rfl,rfl,rfl⟩;refine r_lss (r_ifD (λh=>?_) λh=>?_)
 ·have hlt:i < 16:=by omega
  have hr:=Zs0 T i;have hw:=Zpb T i;refine Znw (uv (valB (bitR T i))) (by omega) (by omega) (by rw[gC];exact hrow i hlt) ?_;refine r_neq (r_ifN (λh2=>?_) λh2=>?_)
  ·have hs:someB T i=true:=by
    cases hs:someB T i with
    |true=>rfl
    |false=>exact absurd (by rw[Zg4.2 hs];rfl) h2
   refine r_sub (by omega) (by omega) ?_;rw[show (15:Int) - (i:Int)=((15 - i:Nat):Int) by omega];refine Zc8 (s:=1) (n:=15 - i) (by omega) ?_;have hp:2^(15 - i)<=2^15:=Nat.pow_le_pow_right (by decide) (by omega);refine Znt (by omega) (by omega) ?_;rw[Nat.one_mul,Nat.mod_eq_of_lt (by omega),Zwm hlt hs];refine Za0 (by omega) ?_;refine r_ke ⟨⟨i+1,by omega,rfl,rfl,rfl⟩,?_⟩;simp only[nv,intOf,gC];omega
  ·have hs:someB T i=false:=Zg4.1 (by omega);refine Za0 (by omega) ?_;refine r_ke ⟨⟨i+1,by omega,rfl,by rw[Zql hs],rfl⟩,?_⟩;simp only[nv,intOf,gC];omega
 obtain rfl:i=16:=by omega
 have hw:=Zpb T 16;refine W01.Put_spec (n:=16) H4.swap (by omega) hn (by omega) (by omega) λw5 S5 H5=>?_
 have ew:bitsOf (valB (whichB T 16)) 16=whichB T 16:=by
  have:=Zoj (whichB T 16)
  rwa [Zby] at this
 rw[ew] at H5;refine r_ldA 1 H5 R rfl hRd hRl ?_
 refine Zac (λx w'=>∃ i:Nat,i<=16/\x=nv i/\Same w w'/\Holds w' (W01.WrR b (bs++whichB T 16++rowsB T i) n::blk ab tUr R::L)) (λx _=>16 - (intOf x).toNat)
  ⟨0,by omega,rfl,S1.trans S5,by rw[rowsB,gU];exact H5⟩ ?_
 clear H4 H5 S1 S5;rintro _ _ w6 ⟨i,hi,rfl,S,H⟩;have hrl:=Zh3 T i;have hwl:=Zby T 16
 have hal:(bs++whichB T 16++rowsB T i).length<=bs.length+16+16*16:=by rw[gD,gD];omega
 have hal2:bs.length<=(bs++whichB T 16++rowsB T i).length:=by rw[gD,gD];omega
 refine r_lss (r_ifD (λh=>?_) λh=>?_)
 ·have hlt:i < 16:=by omega
  have hr:=Zs0 T i;refine Znw (uv (valB (bitR T i))) (by omega) (by omega) (by rw[gC];exact hrow i hlt) ?_;refine r_neq (r_ifN (λh2=>?_) λh2=>?_)
  ·have hs:someB T i=true:=by
    cases hs:someB T i with
    |true=>rfl
    |false=>exact absurd (by rw[Zg4.2 hs];rfl) h2
   refine W01.Put_spec (n:=16) H (by omega) (by omega) (by omega) (by omega) λw7 S7 H7=>?_
   have er:bitsOf (valB (bitR T i)) 16=bitR T i:=by
    have:=Zoj (bitR T i)
    rwa [Zdv] at this
   rw[er] at H7;refine Za0 (by omega) ?_;refine r_ke ⟨⟨i+1,by omega,rfl,S.trans S7,by rw[rowsB,if_pos hs,<-gI];exact H7⟩,?_⟩;simp only[nv,intOf,gC];omega
  ·have hs:someB T i=false:=Zg4.1 (by omega);refine Za0 (by omega) ?_;refine r_ke ⟨⟨i+1,by omega,rfl,S,by rw[rowsB,if_neg (by rw[hs];decide),gU];exact H⟩,?_⟩;simp only[nv,intOf,gC];omega
 ·obtain rfl:i=16:=by omega
  refine k _ S ?_;have hf:=H.dropAt 1;unfold usedB;rw[<-gI];exact hf
end U05
end Go.Proofs.YtieneaffjelhhaaGreat
namespace Go.Vc
open Ev
variable {P:Program}{w:World}{L:List HProp}
theorem r_cx' {f:FuncId}{args:Array Value}{v:Value}{K:KT}(h:(callFunc f args).run P w=.ok (.value v) w) (k:K v w):Cx P f args w K:=⟨v,w,h,k⟩
theorem Zz2:∀ {l:List UInt8}{c:UInt8},c∈l->Lib.indexByte l c=(l.idxOf c:Nat)
 |[],c,h=>by cases h
 |b::l,c,h=>by
  unfold Lib.indexByte
  by_cases hb:b=c
  ·subst hb;simp
  ·have hm:c∈l:=by
    rcases mem_cons.1 h with h|h
    ·exact absurd h.symm hb
    ·exact h
   have ih:=Zz2 hm;rw[if_neg (by simpa using hb),ih,if_neg (by simp),List.idxOf_cons];rw[show (b==c)=false by simpa using hb];simp
theorem Ztl {b:Nat}{xs:List UInt8}{sp:List Value}{e:TypeId}(H:Holds w L) (i:Nat) (hi:L[i]?=some (mk b e (xs.map bv++sp))) :
  (Extern.Bytes.bytesOf (.slice (some ⟨b,0,none⟩) xs.length (xs.length+sp.length))).run P w=.ok ⟨xs.toArray⟩ w:=by
 have hl:=Ev.run_loadBytes (P:=P) (w:=w) (b:=b) (xs.map (·.toNat)) 0 .empty λj n hj=>by
  rw[hV_,Option.map_eq_some_iff] at hj;obtain⟨c,hc,rfl⟩:=hj;have hjl:=(gH.1 hc).1;rw[Nat.zero_add,Zh6 H i hi,gM (by simpa using hjl),hV_,hc];rfl
 rw[hS_] at hl;refine Eq.trans hl ?_
 congr 1
 apply Ze4;simp only[List.map_map,show (UInt8.ofNat ∘ λx:UInt8=>x.toNat)=id by funext x;simp,List.map_id];simp
theorem Yc5 {f:FuncId}{fn:Func}{e:TypeId}{v:Value}{xs:List UInt8}{c:UInt8}{K:KT}(hf:extK P f=some (fn,.idxB)) (H:Holds w L) (i:Nat) (hi:L[i]?=some (SM e v xs)) (hc:c∈xs)
  (k:K (nv (xs.idxOf c)) w):Cx P f #[v,bv c] w K:=by
 obtain⟨b,sp,rfl,H1⟩:=Zha H i hi;have hr:=Lib.run_indexByteString (P:=P) ⟨xs.toArray⟩ (c.toNat:Int) w;have hb:=Ztl (P:=P) H1 i (Za1 hi)
 have hr2:(Extern.BytealgIndexByte.indexByte #[.slice (some ⟨b,0,none⟩) xs.length (xs.length+sp.length),bv c]).run P w=.ok (.int .i64 (Lib.indexByte xs c)) w:=by
  rw[Zrt (y:=.string ⟨xs.toArray⟩) hb rfl,show bv c=Value.int .u8 (c.toNat:Int) from rfl];refine Eq.trans hr ?_;simp
 rw[Zz2 hc] at hr2;exact r_cx' (callExt hf (Zh4 (Zdp hf).2.2) hr2).2 k
end Go.Vc
namespace Go.Proofs.YtieneaffjelhhaaGreat
open Go Go.Vc Go.Proofs.Tryz
attribute [local irreducible] Vc.Nc Vc.Ld Vc.LdA Vc.St Vc.StA Vc.Fo Vc.Iaa Vc.Ias Vc.Ixs Vc.Ixa Vc.Fd Vc.FdA Vc.Bp Vc.Bb Vc.Bn Vc.Up Vc.Ci Vc.Lns Vc.Lnl Vc.Ex Vc.Sst Vc.Ssl Vc.New Vc.Vif Vc.VJoin Vc.VLoop Vc.KE Vc.Dr Vc.Rk Vc.Cl Vc.Cx Vc.Inv Vc.Be Vc.Cv Vc.Cw Vc.Mf Vc.Sl Vc.Lk Vc.Bd Vc.Bs Vc.Ms Vc.Mm Vc.Mu Vc.Me Vc.Es Vc.Rg Vc.Nx Vc.Ta Vc.Ap Vc.Usd Vc.Ust Vc.Cp Vc.Ln Vc.Bc Vc.Bmin Vc.Bmax Vc.Bdel Vc.Bclr Vc.Pk
namespace F06
open Go.Mz Go.Mw
variable {w:World}{L:List HProp}{K:KT}{b:Nat}{o:List UInt8}
theorem idxB:∃ fn,Ev.extK prog 221=some (fn,.idxB):=⟨f221,by kernel_rfl⟩
theorem Zt3 {c:UInt8}(H:Holds w (MtR b o::L)) (hc:c∈o) (k:∀ w',Same w w'->Holds w' (MtR b (frontB o (o.idxOf c))::L)->K (.tuple #[nv (o.idxOf c),iv 0]) w'):Cl prog 185 #[pt b,bv c] w K:=by
 refine Tz185 ?_;unfold Vz185;obtain⟨hl,ov,H1⟩:=Zoq H;obtain⟨fn,hfn⟩:=idxB;refine Zab (r_vf ?_);refine r_nc (r_fo0 (r_ld 0 H1 rfl rfl ?_));refine Tz200 ?_;unfold Vz200;refine Yc5 hfn H1 1 rfl hc ?_;refine r_lss (r_vfD (by omega) ?_);refine Zq4 H (Zy9 hc) λw2 S2 H2=>?_;exact k _ S2 H2
theorem Zzi (A:List Nat) (m x:Nat):(A++List.replicate (m+1) 0).set A.length x=A++[x]++List.replicate m 0:=by
 rw[List.set_append_right _ _ (Nat.le_refl _),Nat.sub_self,List.replicate_succ,gJ];simp
theorem Encode_spec {T:Nat->Bool}{s:List UInt8}(H:Holds w L) (hne:listed T≠[]) (hs:∀ c∈s,c∈listed T) (hl:s.length<=1000000)
  (k:∀ v w',Same w w'->Holds w' (SL nv tI v (mtfE (listed T) s).2::L)->K (.tuple #[v,iv 0]) w'):Cl prog 174 #[.string ⟨s.toArray⟩,.string ⟨(listed T).toArray⟩] w K:=by
 refine Tz174 ?_;unfold Vz174
 have hsz:(⟨s.toArray⟩:ByteArray).size=s.length:=by show s.toArray.size=_;simp
 have hdl:(⟨s.toArray⟩:ByteArray).data.toList=s:=by simp
 refine New_spec H hne λb w1 S1 H1=>?_;refine Za8 (Za9 ?_);refine r_neq (r_vfN rfl ?_);refine r_lns ?_;rw[hsz];refine r_ms (f:=nv) (x:=0) H1 rfl (by omega) (by omega) λq w2 S2 H2=>?_;rw[gC] at H2 ⊢;have H3:=H2.close 0 rfl;simp only[gJ,gP,length_nil,Nat.add_zero] at H3;generalize hv:Value.slice (some ⟨q,0,none⟩) s.length s.length=v at H3 ⊢;refine r_lnS 0 H3 rfl ?_;rw[gP]
 have hinv:∀ i,i<=s.length->(∀ x,x∈(mtfE (listed T) (s.take i)).1↔x∈listed T)/\(mtfE (listed T) (s.take i)).2.length=i:=λi hi=>by
  have:=Zo0 (o:=listed T) (s:=s.take i) λc hc=>hs c (List.mem_of_mem_take hc);exact⟨this.1,by rw[this.2.2.1,gN];omega⟩
 refine Zac (λx w'=>∃ i:Nat,i<=s.length/\x=nv i/\Same w w'/\Holds w' (SL nv tI v ((mtfE (listed T) (s.take i)).2++List.replicate (s.length - i) 0)::MtR b (mtfE (listed T) (s.take i)).1::L)) (λx _=>s.length - (intOf x).toNat)
  ⟨0,Nat.zero_le _,rfl,S1.trans S2,H3⟩ ?_
 clear H H1 H2 H3 S1 S2;rintro _ _ w3 ⟨i,hi,rfl,S,H⟩;obtain⟨hm,hln⟩:=hinv i hi;refine r_lss (r_ifD (λh=>?_) λh=>?_)
 ·have hlt:i < s.length:=by omega
  refine Ze6 (by rw[hsz];exact hlt) ?_;rw[hdl,gB,gA hlt,Option.getD_some];have hc:s[i]∈(mtfE (listed T) (s.take i)).1:=(hm _).2 (hs _ (getElem_mem _));refine Zt3 H.swap hc λw4 S4 H4=>?_;refine Za8 (Za9 ?_);refine r_neq (r_vfN rfl ?_);refine Zao 1 H4 (j:=i) ((mtfE (listed T) (s.take i)).1.idxOf s[i]) rfl (by rw[gD,hln,gP];omega) rfl λw5 S5 H5=>?_;refine Za0 (by omega) ?_
  have hg:s.take (i+1)=s.take i++[s[i]]:=by rw[gO,gA hlt];rfl
  have e1:((mtfE (listed T) (s.take i)).2++List.replicate (s.length - i) 0).set i ((mtfE (listed T) (s.take i)).1.idxOf s[i])=(mtfE (listed T) (s.take (i+1))).2++List.replicate (s.length - (i+1)) 0:=by
   rw[hg,Zgk];have:=Zzi (mtfE (listed T) (s.take i)).2 (s.length - (i+1)) ((mtfE (listed T) (s.take i)).1.idxOf s[i]);rw[hln,show s.length - (i+1)+1=s.length - i by omega] at this;exact this
  have e2:frontB (mtfE (listed T) (s.take i)).1 ((mtfE (listed T) (s.take i)).1.idxOf s[i])=(mtfE (listed T) (s.take (i+1))).1:=by rw[hg,Zgk];rfl
  replace H5:Holds w5 (MtR b (frontB (mtfE (listed T) (s.take i)).1 ((mtfE (listed T) (s.take i)).1.idxOf s[i]))::SL nv tI v (((mtfE (listed T) (s.take i)).2++List.replicate (s.length - i) 0).set i ((mtfE (listed T) (s.take i)).1.idxOf s[i]))::L):=H5;rw[e1,e2] at H5;refine r_ke ⟨⟨i+1,by omega,rfl,(S.trans S4).trans S5,H5.swap⟩,?_⟩;simp only[nv,intOf,gC];omega
 ·obtain rfl:i=s.length:=by omega
  rw[hF_,Nat.sub_self,List.replicate_zero,gU] at H;exact k _ _ S (Holds.dropAt H 1)
end F06
namespace Z07
open Go.Mz Go.Mw
variable {w:World}{L:List HProp}{K:KT}
theorem Zp7 {m:Nat}(H:Holds w L) (hm:m<=1000000) (k:∀ v w',Same w w'->Holds w' (SL nv tI v (rowZ m)::L)->K v w'):Cl prog 187 #[nv m] w K:=by
 refine Tz187 ?_;unfold Vz187
 refine Zag (λx o w'=>∃ (j:Nat) (A:List Nat),x=nv j/\j<=m/\A.length+j<=m/\A++rowZ j=rowZ m/\Same w w'/\Holds w' (SL nv tI o A::L)) (λx _ _=>(intOf x).toNat)
  ⟨m,[],rfl,Nat.le_refl _,by simp,rfl,.refl w,H.nilSL nv tI⟩ ?_
 clear H;rintro _ _ o w1 ⟨j,A,rfl,hj,hA,hrow,S,H⟩;refine r_gtr (r_ifD (λh=>?_) λh=>?_)
 rotate_left
 ·obtain rfl:j=0:=by omega
  rw[Zhj,gU] at hrow;subst hrow;exact k _ _ S H
 have hj0:j≠0:=by omega
 rw[Zkf hj0] at hrow;refine Za2 (λx w'=>w1=w'/\x=nv (if j%2=1 then 0 else 1)) ?_ ?_
 rotate_left
 ·have hr:((j:Nat):Int).tmod 2=((j%2:Nat):Int):=by rw[Int.tmod_eq_emod_of_nonneg (by omega)];simp
  refine Zi6 hr (by omega) ?_;refine r_eql (r_ifE (λh2=>?_) λh2=>?_)
  ·exact r_ke ⟨rfl,by rw[if_pos (by omega)];rfl⟩
  ·exact r_ke ⟨rfl,by rw[if_neg (by omega)];rfl⟩
 rintro _ _ _ ⟨rfl,rfl⟩;refine Zdc H 0 rfl (if j%2=1 then 0 else 1) (λ_=>rfl) (by omega) λv2 w2 S2 H2=>?_
 have hc1:(if j%2=1 then 0 else 1:Nat)<=1:=by split <;> omega
 refine r_sub (by omega) (by omega) ?_;refine r_sub (by omega) (by omega) ?_
 have hq:((j:Int) - ((if j%2=1 then 0 else 1:Nat):Int) - 1).tdiv 2=(((j - 1)/2:Nat):Int):=by
  by_cases h2:j%2=1
  ·rw[if_pos h2,Int.tdiv_eq_ediv_of_nonneg (by omega)];omega
  ·rw[if_neg h2,Int.tdiv_eq_ediv_of_nonneg (by omega)];omega
 refine Zor hq (by omega) (by omega) (by omega) ?_;refine r_ke ⟨⟨(j - 1)/2,A++[if j%2=1 then 0 else 1],rfl,by omega,by rw[gD,gQ];omega,by rw[gI];exact hrow,S.trans S2,H2⟩,?_⟩;simp only[nv,intOf,gC];omega
theorem Encode_spec {v:Value}{l:List Nat}{n:Nat}(H:Holds w (SL nv tI v l::L)) (h1:1<=n) (h2:n<=256) (hl:l.length<=1000000) (hp:∀ p∈l,p < n)
  (k:∀ v' w',Same w w'->Holds w' (SL nv tI v' (rowE l n)::SL nv tI v l::L)->K (.tuple #[v',iv 0]) w'):Cl prog 175 #[v,nv n] w K:=by
 refine Tz175 ?_;unfold Vz175;refine r_cl (K:=λx w'=>w=w'/\x=.bool true) ?_ ?_
 ·refine Tz186 ?_;unfold Vz186;refine r_geq (r_vtD (by omega) ?_);refine r_leq ?_;exact⟨rfl,by rw[decide_eq_true (by omega)]⟩
 rintro _ _ ⟨rfl,rfl⟩;refine Zal (r_vf ?_);refine r_lnS 0 H rfl ?_
 have hzl:∀ i,i<=l.length->(zenc (l.take i)).1.length+(zenc (l.take i)).2<=i:=λi hi=>by
  have:=Zp8 (l.take i);rw[gN] at this;omega
 refine Znp (λov zv x w'=>∃ i:Nat,i<=l.length/\x=nv i/\zv=nv (zenc (l.take i)).2/\Same w w'/\Holds w' (SL nv tI ov (zenc (l.take i)).1::SL nv tI v l::L)) (λ_ _ x _=>l.length - (intOf x).toNat)
  ⟨0,Nat.zero_le _,rfl,rfl,.refl w,H.nilSL nv tI⟩ ?_
 clear H;rintro _ ov _ _ w1 ⟨i,hi,rfl,rfl,S,H⟩;have hzi:=hzl i hi;refine r_lss (r_ifD (λh=>?_) λh=>?_)
 ·have hlt:i < l.length:=by omega
  have hg:l[i]?=some l[i]:=gA hlt
  have hgt:l.take (i+1)=l.take i++[l[i]]:=by rw[gO,hg];rfl
  have hpi:=hp _ (getElem_mem hlt);refine Zaa 1 H rfl hg ?_;refine Za2 (λx w'=>w1=w'/\x=.bool false) ?_ ?_
  rotate_left
  ·refine r_lss (r_vfD (by omega) ?_);exact r_geq (r_ke ⟨rfl,by rw[decide_eq_false (by omega)]⟩)
  rintro _ _ _ ⟨rfl,rfl⟩;refine r_vf ?_;refine r_eql (r_ifE (λh3=>?_) λh3=>?_)
  ·have e1:zenc (l.take (i+1))=((zenc (l.take i)).1,(zenc (l.take i)).2+1):=by
    rw[hgt,Zf5];unfold zE;rw[if_pos (by omega)]
   refine Za0 (by omega) ?_;refine Za0 (by omega) ?_;refine r_ke ⟨⟨i+1,by omega,rfl,by rw[e1],S,by rw[e1];exact H⟩,?_⟩;simp only[nv,intOf,gC];omega
  ·have e1:zenc (l.take (i+1))=((zenc (l.take i)).1++rowZ (zenc (l.take i)).2++[l[i]+1],0):=by
    rw[hgt,Zf5];unfold zE;rw[if_neg (by omega)]
   have hrl:=Zfz (zenc (l.take i)).2;refine Zp7 H (by omega) λrv w2 S2 H2=>?_;refine r_apS H2 1 0 (by decide) rfl rfl (λ_=>rfl) (by omega) λov2 w3 S3 H3=>?_;replace H3:Holds w3 (SL nv tI rv (rowZ (zenc (l.take i)).2)::SL nv tI ov2 ((zenc (l.take i)).1++rowZ (zenc (l.take i)).2)::SL nv tI v l::L):=H3;refine Za0 (by omega) ?_;refine Zdc H3.drop 0 rfl (l[i]+1) (λ_=>rfl) (by rw[gD];omega) λov3 w4 S4 H4=>?_;refine Za0 (by omega) ?_;refine r_ke ⟨⟨i+1,by omega,rfl,by rw[e1];rfl,((S.trans S2).trans S3).trans S4,by rw[e1];exact H4⟩,?_⟩;simp only[nv,intOf,gC];omega
 ·obtain rfl:i=l.length:=by omega
  rw[hF_] at H hzi ⊢;have hrl:=Zfz (zenc l).2;refine Zp7 H (by omega) λrv w2 S2 H2=>?_;refine r_apS H2 1 0 (by decide) rfl rfl (λ_=>rfl) (by omega) λov2 w3 S3 H3=>?_;replace H3:Holds w3 (SL nv tI rv (rowZ (zenc l).2)::SL nv tI ov2 ((zenc l).1++rowZ (zenc l).2)::SL nv tI v l::L):=H3;refine Za0 (by omega) ?_;refine Zdc H3.drop 0 rfl (n+1) (λ_=>rfl) (by rw[gD];omega) λov3 w4 S4 H4=>?_;exact k _ _ (((S.trans S2).trans S3).trans S4) H4
end Z07
namespace W20
open Go.M01 Go.Mb Go.M10 Go.Mz Go.Mw Go.Mx Go.Mv Go.Mh F08 Rw T12 W14
variable {w:World}{L:List HProp}{K:KT}{wb n:Nat}{bs:List Bool}
variable [T12.Bnds]
def symsOf (s:List UInt8):List UInt8:=listed (upT s)
def rowOf (s:List UInt8):List Nat:=rowE (mtfE (symsOf s) s).2 (symsOf s).length
theorem Zk0 {s:List UInt8}{c:UInt8}(h:c∈s):c∈symsOf s:=by
 have h1:c.toNat < 256:=c.toNat_lt
 have h2:UInt8.ofNat c.toNat=c:=by simp
 unfold symsOf listed;refine mem_map.2 ⟨c.toNat,List.mem_filter.2 ⟨mem_range.2 h1,?_⟩,h2⟩;unfold upT;rw[h2];exact decide_eq_true h
theorem Zo9 {s:List UInt8}(h:s≠[]):1<=(symsOf s).length/\(symsOf s).length<=256:=by
 refine⟨?_,Ze3 _⟩
 cases s with
 |nil=>exact absurd rfl h
 |cons c r=>exact List.length_pos_of_mem (Zk0 (hJ_ ..))
theorem Zeq (s:List UInt8):(mtfE (symsOf s) s).2.length=s.length/\∀ p∈(mtfE (symsOf s) s).2,p < (symsOf s).length:=by
 have:=Zo0 (o:=symsOf s) (s:=s) λc hc=>Zk0 hc;exact⟨this.2.2.1,this.2.2.2⟩
theorem Zys {s:List UInt8}(h:s≠[]) (hl:s.length<=1000000):W14.Row (rowOf s) ((symsOf s).length+2):=by
 obtain⟨h1,h2⟩:=Zo9 h;obtain⟨p1,p2⟩:=Zeq s;generalize hn:(symsOf s).length=n at *;have hrl:=Zoh (mtfE (symsOf s) s).2 n
 have hne:rowOf s=(zenc (mtfE (symsOf s) s).2).1++rowZ (zenc (mtfE (symsOf s) s).2).2++[n+1]:=by unfold rowOf rowE;rw[hn]
 have hro:rowOf s=rowE (mtfE (symsOf s) s).2 n:=by unfold rowOf;rw[hn]
 refine⟨by omega,by omega,by rw[hne];simp,by rw[hro];omega,λx hx=>by have:=Yah p2 h1 x (by rw[<-hro];exact hx);omega,λi hi=>?_⟩
 have hA:∀ x∈(zenc (mtfE (symsOf s) s).2).1++rowZ (zenc (mtfE (symsOf s) s).2).2,x<=n:=by
  intro x hx;rcases hT_.1 hx with hx|hx
  ·have:=Zup p2 x hx;omega
  ·have:=Znb _ x hx;omega
 rw[hne] at hi ⊢;generalize (zenc (mtfE (symsOf s) s).2).1++rowZ (zenc (mtfE (symsOf s) s).2).2=A at *;rw[gD,gQ] at hi ⊢;rw[gB];rcases hU_ i A.length with q|q
 ·rw[gM q,gA q];have:=hA _ (getElem_mem q);show A[i]=n+2 - 1↔_;omega
 ·rw[gT q,show i - A.length=0 by omega];show n+1=n+2 - 1↔_;omega
def blockBits (s:List UInt8) (origin sum:Nat) (picks:List Nat) (ts:List (List Nat)):List Bool:=bitsOf sum 32++[false]++bitsOf origin 24++usedB (upT s)++codeBits (rowOf s) picks ts
theorem Zlp (T:Nat->Bool):(usedB T).length<=272:=by
 unfold usedB;rw[gD,Zby];have:=Zh3 T 16;omega
theorem Zju {s:List UInt8}{origin sum:Nat}{picks:List Nat}{ts:List (List Nat)}(h:s≠[]) (hl:s.length<=1000000) (hC:Cho (rowOf s) ((symsOf s).length+2) picks ts):(blockBits s origin sum picks ts).length<=200000+30*s.length:=by
 obtain⟨hT,hpl,hpx⟩:=hC.ok;have hR:=Zys h hl;have h1:=Zkw (l:=rowOf s) hT hR.s258 hpx;have h2:=Zlp (upT s)
 have h3:(rowOf s).length<=s.length+1:=by
  have:=Zoh (mtfE (symsOf s) s).2 (symsOf s).length;rw[(Zeq s).1] at this;exact this
 have h4:nGr (rowOf s)=((rowOf s).length+49)/50:=rfl;unfold blockBits;simp only[gD,Za4,gQ];omega
theorem Turned_spec {s:List UInt8}{origin sum:Nat}(H:Holds w (W01.WrR wb bs n::L)) (hb:BndOk L) (h0:s≠[]) (hl:s.length<=900000) (ho:origin < s.length) (hs:sum < 4294967296) (hbl:bs.length<=8000000000) (hn:n<=bs.length/8)
  (k:∀ picks ts w',Cho (rowOf s) ((symsOf s).length+2) picks ts->Same w w'->Holds w' (W01.WrR wb (bs++blockBits s origin sum picks ts) n::L)->K (iv 0) w'):Cl prog 164 #[pt wb,.string ⟨s.toArray⟩,nv origin,uv sum] w K:=by
 refine Tz164 ?_;unfold Vz164;have hpos:=gZ.2 h0
 have hsz:(⟨s.toArray⟩:ByteArray).size=s.length:=by simp[ByteArray.size]
 have hR:=Zys h0 (by omega);have hsy:=Zo9 h0;refine Zab (r_vf ?_);refine Za2 (λt w'=>w=w'/\t=.bool false) ?_ ?_
 rotate_left
 ·refine Zm7 (r_vfD (by rw[hsz];omega) ?_)
  refine r_lns (by
   rw[hsz];refine r_gtr (r_vfD (by omega) ?_);refine r_lss (r_vfD (by omega) ?_);refine r_lns ?_;rw[hsz]
   exact r_geq (r_ke ⟨rfl,by rw[decide_eq_false (by omega)]⟩))
 rintro _ _ _ ⟨rfl,rfl⟩;refine r_vf ?_;refine U05.Zm3 H (by omega) λw1 S1 H1=>?_;refine F06.Encode_spec (T:=upT s) H1 (λe=>by have:=hsy.1;unfold symsOf at this;rw[e] at this;simp at this) (λc hc=>Zk0 hc) (by omega) λpv w2 S2 H2=>?_;refine Za8 (Za9 ?_)
 have hsz2:(⟨(listed (upT s)).toArray⟩:ByteArray).size=(symsOf s).length:=by simp[ByteArray.size,symsOf]
 refine r_lns ?_;rw[hsz2];refine Z07.Encode_spec H2 hsy.1 hsy.2 (by have:=(Zeq s).1;unfold symsOf at this;omega) (Zeq s).2 λrv w3 S3 H3=>?_;refine Za8 (Za9 ?_);replace H3:Holds w3 (SL nv tI rv (rowOf s)::SL nv tI pv (mtfE (symsOf s) s).2::W01.WrR wb bs n::L):=H3;refine r_lns ?_;rw[hsz2];refine Zad (a:=(symsOf s).length) (b:=2) (by omega) ?_;refine W14.Zu6 H3 (i:=0) hb.up.up.up rfl hR λT w4 S4 H4=>?_;refine Za8 (Za9 ?_);refine r_neq (r_vfN rfl ?_)
 have H5:Holds w4 (W01.WrR wb bs n::SL nv tI rv (rowOf s)::L):=by have h_:=Holds.ord 3 [2,0] H4 rfl;exact h_
 refine W01.Put_spec (v:=sum) (n:=32) H5 (by omega) hn (by omega) (by omega) λw5 S5 H6=>?_;refine W01.Put_spec (v:=0) (n:=1) H6 (by rw[gD,Za4];omega) (by rw[gD];omega) (by omega) (by omega) λw6 S6 H7=>?_;refine Zav (by omega) (by omega) ?_;refine W01.Put_spec (v:=origin) (n:=24) H7 (by rw[gD,gD,Za4,Za4];omega) (by rw[gD,gD];omega) (by omega) (by omega) λw7 S7 H8=>?_
 have e1:bitsOf 0 1=[false]:=by decide
 rw[e1] at H8;refine U05.Write_spec H8 (λe=>by have:=hsy.1;unfold symsOf at this;rw[e] at this;simp at this) (by simp only[gD,Za4,gQ];omega) (by simp only[gD];omega) λw8 S8 H9=>?_;refine r_lns ?_;rw[hsz2];refine Zad (a:=(symsOf s).length) (b:=2) (by omega) ?_;have hu:=Zlp (upT s);refine W14.Write_spec H9 (i:=0) hb.up rfl hR (by simp only[gD,Za4,gQ];omega) (by simp only[gD];omega) λpicks ts w9 hC S9 H10=>?_;refine k picks ts _ hC (S1.trans (S2.trans (S3.trans (S4.trans (S5.trans (S6.trans (S7.trans (S8.trans S9)))))))) ?_;have H11:=Holds.dropAt H10 1;unfold blockBits;simp only[<-gI];exact H11
def padB (l:List Bool):List Bool:=l++List.replicate ((8 - l.length%8)%8) false
theorem Zvi (l:List Bool):(padB l).length%8=0/\(padB l).length<=l.length+7:=by unfold padB;rw[gD,gP];omega
theorem Zvg (H:Holds w (W01.WrR wb bs n::L)) (hl:bs.length<=100000000000) (hn:n<=bs.length/8)
  (k:∀ w',Same w w'->Holds w' (W01.WrR wb (padB bs) n::L)->K (.tuple #[]) w'):Cl prog 155 #[pt wb] w K:=by
 refine Tz155 ?_;unfold Vz155
 refine Zjr (λj w'=>j<=(8 - bs.length%8)%8/\Same w w'/\Holds w' (W01.WrR wb (bs++List.replicate ((8 - bs.length%8)%8 - j) false) n::L)) ((8 - bs.length%8)%8) ⟨Nat.le_refl _,.refl _,by
  rw[Nat.sub_self,List.replicate_zero,gU];exact H⟩ ?_
 clear H;rintro _ j w1 _ ⟨hj,S1,H1⟩ hgo;generalize hi:(8 - bs.length%8)%8 - j=i at *;refine Zca (r_vt ?_);refine r_nc ?_;obtain⟨wv,H2⟩:=W01.Zk3 H1
 have hlen:(bs++List.replicate i false).length=bs.length+i:=by simp
 refine r_fo0 (r_ld 0 H2 rfl rfl ?_);rw[hlen];refine Zi6 (r:=(((bs.length+i)%8:Nat):Int)) (by rw[Int.tmod_eq_emod_of_nonneg (by omega)];omega) (by omega) ?_;refine r_neq (r_ifN (λh=>?_) λh=>?_)
 ·refine W01.bit_spec (c:=false) H1 (by rw[hlen];omega) (by rw[hlen];omega) λw2 S2 H3=>?_;refine r_ke (hgo (j - 1) _ (by omega) ⟨by omega,S1.trans S2,?_⟩);rw[show (8 - bs.length%8)%8 - (j - 1)=i+1 by omega,List.replicate_succ',<-gI];exact H3
 ·refine k _ S1 ?_;unfold padB;rw[show (8 - bs.length%8)%8=i by omega];exact H1
end W20
namespace S17
open Go.Mr Go.M18 S16
variable {w:World}{L:List HProp}{K:KT}{b sb:Nat}{s:List UInt8}{x:SS}
abbrev tTu:Nat:=218
def aheadB (s:List UInt8) (a:Nat):UInt8:=if a=0 then s.getD (s.length - 1) 0 else s.getD (a - 1) 0
theorem Ziy {a:Nat}(ha:a < s.length):aheadB s a=lastB (rot s a):=by
 unfold aheadB;split
 ·rename_i e;rw[e,Zv2];rfl
 ·rename_i e;have h:=Zhl (s:=s) (a:=a) ha (i:=s.length - 1) (by omega);unfold lastB;rw[Zcu s a (by omega),h]
  congr 1
  rw[Nat.mod_eq_sub_mod (by omega),show a+(s.length - 1) - s.length=a - 1 by omega,Nat.mod_eq_of_lt (by omega)]
theorem Yc8 {t e d:TypeId} [hr:Bytes prog t e d] (H:Holds w L) (i:Nat){v:Value}{xs:List UInt8}{K:Value->Prop}
  (hi:L[i]?=some (SL bv e v xs)) (h:K (.string ⟨xs.toArray⟩)):Cv prog t d v w K:=by
 obtain⟨oa,sp,rfl,H1⟩:=H.open i hi;have h0:Cw prog t d (.slice oa xs.length (xs.length+sp.length)) w (λv w'=>v=.string ⟨xs.toArray⟩/\w'=w):=r_cbs H1 i (Za1 hi) rfl ⟨rfl,rfl⟩;unfold Cw at h0;obtain⟨v,w',hr,rfl,rfl⟩:=h0;unfold Cv;exact⟨_,hr,h⟩
theorem Zpo {a:Nat}(h0:s≠[]) (hl:s.length<=1000000) (ha:a < s.length) (k:K (bv (aheadB s a)) w):Cl prog 162 #[St_ s,nv a] w K:=by
 refine Tz162 ?_;unfold Vz162
 have hsz:(⟨s.toArray⟩:ByteArray).size=s.length:=by simp[ByteArray.size]
 have hd:(⟨s.toArray⟩:ByteArray).data.toList=s:=by simp
 unfold aheadB at k;refine r_eql (r_ifE (λh=>?_) λh=>?_)
 ·rw[if_pos (by omega)] at k;refine r_lns ?_;rw[hsz];refine Zah (by omega) (by omega) ?_;refine Ze6 (by rw[hsz];omega) ?_;rw[hd];exact k
 ·rw[if_neg (by omega)] at k;refine Zah (by omega) (by omega) ?_;refine Ze6 (by rw[hsz];omega) ?_;rw[hd];exact k
def tuL (b:Nat) (s:List UInt8) (sb:Nat) (ov lv:Value) (o:Nat) (order:List Nat) (last:List UInt8):List HProp:=[blk b tTu [St_ s,pt sb,ov,lv,nv o],SL nv tI ov order,SL bv tB lv last]
theorem TDone_spec {ov lv:Value}{o:Nat}{order:List Nat}{last:List UInt8}(H:Holds w (tuL b s sb ov lv o order last++L)) (k:∀ w',Same w w'->Holds w' (tuL b s sb ov lv o order last++L)->K (.bool (decide (last.length=s.length))) w'):Cl prog 137 #[pt b] w K:=by
 refine Tz137 ?_;unfold Vz137
 have hsz:(⟨s.toArray⟩:ByteArray).size=s.length:=by simp[ByteArray.size]
 refine r_dr H λw1 S1 H1=>?_;refine Zca (r_vt ?_);refine r_nc (r_fo0 (r_ld 0 H1 rfl rfl ?_));refine r_lnS 2 H1 rfl ?_;refine r_nc (r_fo0 (r_ld 0 H1 rfl rfl ?_));refine r_lns ?_;rw[hsz];refine r_eql ?_;rw[show (((last.length:Nat):Int)==((s.length:Nat):Int))=decide (last.length=s.length) from by rw[Bool.eq_iff_iff,beq_iff_eq,decide_eq_true_iff];omega];exact k _ S1 H1
theorem sg_bv (c:UInt8):sg (bv c)=true:=rfl
theorem take_spec {ov lv:Value}{o a:Nat}{order:List Nat}{last:List UInt8}(H:Holds w (tuL b s sb ov lv o order last++L)) (h0:s≠[]) (hl:s.length<=4000) (hi:order[last.length]?=some a) (ha:a < s.length) (hll:last.length<=4000)
  (k:∀ lv' w',Same w w'->Holds w' (tuL b s sb ov lv' (if a=0 then last.length else o) order (last++[aheadB s a])++L)->K (.tuple #[]) w'):Cl prog 150 #[pt b] w K:=by
 refine Tz150 ?_;unfold Vz150;refine r_nc (r_fo0 (r_ld 0 H rfl rfl ?_));refine r_lnS 2 H rfl ?_;refine r_nc (r_fo0 (r_ld 0 H rfl rfl ?_));refine Zaa 1 H rfl hi ?_;refine Zbh (λw'=>Same w w'/\Holds w' (tuL b s sb ov lv (if a=0 then last.length else o) order last++L)) ?_ ?_
 ·rintro _ w1 ⟨S1,H1⟩;generalize (if a=0 then last.length else o)=o' at *;refine r_dr H1 λw2 S2 H2=>?_;refine r_nc (r_fo0 (r_ld 0 H2 rfl rfl ?_));refine r_nc (r_fo0 (r_ld 0 H2 rfl rfl ?_));refine Zpo h0 (by omega) ha ?_;refine r_rk (r_ld 0 H2 rfl rfl rfl) ?_;refine r_bs1 H2 (sg_bv _) λb3 w3 S3 H3=>?_;refine r_rk (r_ld 1 H3 rfl rfl rfl) ?_;obtain⟨oa,sp,rfl,H4⟩:=H3.open 3 rfl;refine r_ap (f:=bv) (xs:=last) (ys:=[aheadB s a]) (sp:=sp) H4 3 0 rfl rfl rfl rfl rfl rfl sg_bv (by simp;omega) (by simp) λoa' sp' w4 S4 H5=>?_;have H6:=H5.close 3 rfl
  have hlen:last.length+[aheadB s a].length=(last++[aheadB s a]).length:=by simp
  rw[hlen];refine r_nc (r_fo0 ?_);refine r_st 1 H6 rfl (by simp) rfl λw5 S5 H7=>?_;exact k _ w5 (S1.trans (S2.trans (S3.trans (S4.trans S5)))) H7.drop
 ·refine r_eql (r_ifE (λh=>?_) λh=>?_)
  ·refine r_nc (r_fo0 ?_);refine r_st 0 H rfl (by simp) rfl λw1 S1 H1=>?_;refine r_ke ⟨S1,?_⟩;rw[if_pos (by omega)];exact H1
  ·refine r_ke ⟨.refl _,?_⟩;rw[if_neg (by omega)];exact H
theorem Zl5 {s:List UInt8}{o o':Nat}(h:(sortP s s.length)[o]?=some 0) (h':(sortP s s.length)[o']?=some 0):o=o':=by
 obtain⟨p1,p2⟩:=gH.1 h;obtain⟨p3,p4⟩:=gH.1 h';exact (List.getElem_inj (Zmd s _)).1 (p2.trans p4.symm)
theorem TStep_spec {o:Nat}(H:Holds w (tuL b s sb (.slice none 0 0) (.slice none 0 0) o [] []++SoR sb s (startD s.length) 0::L)) (h0:s≠[]) (hl:s.length<=4000)
  (k:∀ ov lv o' v w',(sortP s s.length)[o']?=some 0->Same w w'->Holds w' (tuL b s sb ov lv o' (sortP s s.length) (lastL s)++L)->K v w'):Cl prog 138 #[pt b,iv 1099511627776] w K:=by
 refine Tz138 ?_;unfold Vz138;have hpos:=gZ.2 h0;have hlo:=Zc4 s s.length;refine Za2 (λt w'=>w=w'/\t=.bool false) ?_ ?_
 rotate_left
 ·exact Zab (r_vf (r_lss (r_ke ⟨rfl,rfl⟩)))
 rintro _ _ _ ⟨rfl,rfl⟩;refine r_vf ?_;refine r_nc (r_fo0 (r_ld 0 H rfl rfl ?_))
 have H0:Holds w (SoR sb s (startD s.length) 0::(tuL b s sb (.slice none 0 0) (.slice none 0 0) o [] []++L)):=by have h_:=Holds.ord 4 [3,0,1,2] H rfl;exact h_
 refine Step_spec H0 (Zks h0 hl) hl λy m w1 hf hm S1 H1=>?_;clear H H0
 have H2:Holds w1 (tuL b s sb (.slice none 0 0) (.slice none 0 0) o [] []++SoR sb s y m::L):=by have h_:=Holds.ord 4 [1,2,3,0] H1 rfl;exact h_
 clear H1;refine Zbh (λw'=>∃ ov,Same w w'/\Holds w' (tuL b s sb ov (.slice none 0 0) o (sortP s s.length) []++SoR sb s y m::L)) ?_ ?_
 rotate_left
 ·refine Za2 (λt w'=>w1=w'/\t=.bool true) ?_ ?_
  ·rintro _ _ _ ⟨rfl,rfl⟩;refine r_vt ?_;refine r_nc (r_fo0 (r_ld 0 H2 rfl rfl ?_))
   have H3:Holds w1 (SoR sb s y m::(tuL b s sb (.slice none 0 0) (.slice none 0 0) o [] []++L)):=by have h_:=Holds.ord 4 [3,0,1,2] H2 rfl;exact h_
   refine Zie H3 hf hl λov w2 S2 H4=>?_;obtain⟨oa,sp,rfl,_⟩:=H4.open 0 rfl;refine r_nc (r_fo0 ?_);refine r_st 2 H4 rfl (by simp) rfl λw3 S3 H5=>?_;refine r_ke ⟨.slice oa (sortP s s.length).length ((sortP s s.length).length+sp.length),S1.trans (S2.trans S3),?_⟩;have h_:=Holds.ord 5 [2,0,4,1] H5 rfl;exact h_
  ·refine r_nc (r_fo0 (r_ld 0 H2 rfl rfl ?_));refine r_be (v:=.bool true) (by kernel_rfl) (r_vt ?_);refine r_nc (r_fo0 (r_ld 0 H2 rfl rfl ?_))
   have H3:Holds w1 (SoR sb s y m::(tuL b s sb (.slice none 0 0) (.slice none 0 0) o [] []++L)):=by have h_:=Holds.ord 4 [3,0,1,2] H2 rfl;exact h_
   refine Done_spec H3 ?_;exact r_ke ⟨rfl,by rw[hf.1]⟩
 rintro _ w2 ⟨ov,S2,H3⟩;clear H2 S1
 obtain⟨oz,hoz⟩:∃ oz,(sortP s s.length)[oz]?=some 0:=by
  obtain⟨i,hi,e⟩:=List.getElem_of_mem ((Zc5 s s.length 0).2 hpos);exact⟨i,by rw[gA hi,e]⟩
 refine Zac (λg w'=>∃ (u o':Nat) (lv:Value),g=nv (m+u)/\u<=s.length/\(oz < u->o'=oz)/\Same w w'/\Holds w' (tuL b s sb ov lv o' (sortP s s.length) (((sortP s s.length).take u).map (aheadB s))++SoR sb s y m::L)) (λg _=>m+s.length - (intOf g).toNat)
  ⟨0,o,_,rfl,Nat.zero_le _,λh=>by omega,S2,H3⟩ ?_
 clear H3 S2;rintro _ _ w3 ⟨u,o',lv,rfl,hu,ho',S3,H3⟩
 have hlen:(((sortP s s.length).take u).map (aheadB s)).length=u:=by rw[hS_,gN,hlo];omega
 refine Za2 (λt w'=>Same w w'/\Holds w' (tuL b s sb ov lv o' (sortP s s.length) (((sortP s s.length).take u).map (aheadB s))++SoR sb s y m::L)/\t=.bool (decide (¬ u=s.length))) ?_ ?_
 ·rintro _ _ w4 ⟨S4,H4,rfl⟩;refine r_ifD (λh=>?_) λh=>?_
  ·have hlt:u < s.length:=by omega
   have hg:(sortP s s.length)[u]?=some ((sortP s s.length).getD u 0):=Zau (by rw[hlo];exact hlt);have ha:(sortP s s.length).getD u 0 < s.length:=(Zc5 s s.length _).1 (Zaz (by rw[hlo];exact hlt))
   have htk:(sortP s s.length).take (u+1)=(sortP s s.length).take u++[(sortP s s.length).getD u 0]:=by rw[gO,hg];rfl
   refine take_spec H4 h0 hl (a:=(sortP s s.length).getD u 0) (by rw[hlen];exact hg) ha (by rw[hlen];omega) λlv2 w5 S5 H5=>?_;refine Za0 (by omega) ?_;refine r_ke ⟨⟨u+1,_,lv2,by rw[hG_],hlt,λhz=>?_,S4.trans S5,by rw[htk,map_append];exact H5⟩,?_⟩
   ·rw[hlen]
    by_cases e:(sortP s s.length).getD u 0=0
    ·rw[if_pos e];rw[e] at hg;exact Zl5 hg hoz
    ·rw[if_neg e];refine ho' ?_;rcases hU_ oz u with q|q
     ·exact q
     ·have:oz=u:=by omega
      rw[this,hg] at hoz;exact absurd (Option.some.inj hoz) e
   ·simp only[nv,intOf,gC];omega
  ·obtain rfl:u=s.length:=by omega
   have h1:oz < s.length:=by rw[<-hlo];exact (gH.1 hoz).1
   rw[ho' h1] at H4
   have e1:((sortP s s.length).take s.length).map (aheadB s)=lastL s:=by
    rw[gK (by rw[hlo];exact Nat.le_refl _)];unfold lastL;exact List.map_congr_left λa ha=>Ziy ((Zc5 s s.length a).1 ha)
   rw[e1] at H4;exact k ov lv oz _ _ hoz S4 (by have h_:=Holds.ord 4 [0,1,2] H4 rfl;exact h_)
 ·refine r_nc (r_fo0 (r_ld 0 H3 rfl rfl ?_))
  have H4:Holds w3 (SoR sb s y m::(tuL b s sb ov lv o' (sortP s s.length) (((sortP s s.length).take u).map (aheadB s))++L)):=by have h_:=Holds.ord 4 [3,0,1,2] H3 rfl;exact h_
  refine Done_spec H4 ?_;rw[hf.1];refine r_vt ?_;refine r_lss (r_vtD (by omega) ?_);refine TDone_spec H3 λw4 S4 H5=>?_;rw[hlen];refine r_not (r_ke ⟨S3.trans S4,H5,?_⟩);rw[decide_not]
end S17
namespace S16
open Go.Mr Go.M18
variable {w:World}{L:List HProp}{K:KT}{b n q:Nat}{s:List UInt8}{x:SS}
def SoOk (s:List UInt8) (x:SS) (n:Nat):Prop:=n<=M45.mostS s.length/\(Fini s x\/(Inv s x/\x.reach<=2*s.length/\ldS s.length x<=4*(s.length*s.length)+s.length/\n+Fine.mu s.length x<=M45.mostS s.length))
theorem SoOk.start (h0:s≠[]) (hlen:s.length<=4000):SoOk s (startD s.length) 0:=by
 refine⟨Nat.zero_le _,?_⟩;rcases Zks h0 hlen with h|⟨h1,h2,h3,_⟩
 ·exact .inl h
 ·refine .inr ⟨h1,h2,h3,?_⟩;have h5:=h1.bs.two
  have e:startD s.length=Go.Mr.start s.length:=by unfold startD;rw[decide_eq_false (by omega)];rfl
  rw[e,Nat.zero_add];exact Fine.mu_start h5
theorem Zi1 (H:Holds w (SoR b s x n::L)) (hx:SoOk s x n) (hlen:s.length<=4000) (hq:q<=1099511627776)
  (k:∀ y m w',SoOk s y (n+m)->m<=q->(y.done=true\/m=q)->(m=0->y=x)->(x.done=true->m=0)->Same w w'->Holds w' (SoR b s y (n+m)::L)->K (nv m) w'):Cl prog 147 #[pt b,nv q] w K:=by
 refine Tz147 ?_;unfold Vz147;have hms:=M45.Zxc s.length (by omega);refine Zab (r_vf ?_);obtain⟨ov,cv,av,kv,H0⟩:=Zan H;refine r_nc (r_fo0 (r_ld 0 H0 rfl rfl ?_));clear H0 ov cv av kv;refine Zjr (λj w'=>∃ (y:SS) (m:Nat),j=q - m/\m<=q/\(m=0->y=x)/\(x.done=true->m=0)/\Same w w'/\Holds w' (SoR b s y (n+m)::L)/\SoOk s y (n+m)) q ⟨x,0,rfl,Nat.zero_le _,λ_=>rfl,λ_=>rfl,.refl _,H,hx⟩ ?_;clear H hx;rintro _ j w1 _ ⟨y,m,rfl,hm,h0,hx0,S1,H1,hy⟩ hgo;obtain⟨ov,cv,av,kv,H2⟩:=Zan H1;have hyn:=hy.1;refine Za2 (λt w'=>w1=w'/\t=.bool (decide (y.done=false/\m < q))) ?_ ?_
 ·rintro _ _ _ ⟨rfl,rfl⟩;refine r_ifD (λh=>?_) λh=>?_
  ·obtain⟨hd,hlt⟩:=h;rcases hy.2 with hf|⟨hI,hr,hl,hmu⟩
   ·rw[hf.1] at hd;cases hd
   refine step_spec H1 hI hlen hr hl (by omega) λw2 S2 H3=>?_;obtain⟨h5,h6⟩:=Fine.step_ok hI;refine r_ke (hgo (q - (m+1)) _ (by omega) ⟨_,m+1,rfl,hlt,(λe=>absurd e (Nat.succ_ne_zero m)),(λe=>by have:=h0 (hx0 e);rw[this,e] at hd;cases hd),S1.trans S2,H3,?_⟩);rcases h6 with h6|h6
   ·exact⟨by omega,.inl h6⟩
   ·obtain⟨h7,h8⟩:=Zkh hI hl hr h6.bs.nd;exact⟨by omega,.inr ⟨h6,h8,h7,by omega⟩⟩
  ·refine r_nc (r_fo0 (r_ld 0 H2 rfl rfl ?_));refine r_sub (by omega) (by omega) ?_;rw[show (((n+m:Nat)):Int) - ((n:Nat):Int)=((m:Nat):Int) by omega];refine k y m _ hy hm ?_ h0 hx0 S1 H1
   cases hd:y.done with
   |true=>exact .inl rfl
   |false=>exact .inr (by have:¬ m < q:=λe=>h ⟨hd,e⟩;omega)
 ·refine r_nc (r_fo0 (r_ld 0 H2 rfl rfl ?_))
  cases hd:y.done with
  |true=>exact Zal (r_vf (r_ke ⟨rfl,by rw[decide_eq_false (λe=>by cases e.1)]⟩))
  |false=>
   refine Zci (r_vt ?_);refine r_nc (r_fo0 (r_ld 0 H2 rfl rfl ?_));refine r_sub (by omega) (by omega) ?_;refine r_lss (r_ke ⟨rfl,?_⟩);rw[show decide ((((n+m:Nat)):Int) - ((n:Nat):Int) < ((q:Nat):Int))=decide (false=false/\m < q) from decide_eq_decide.2 ⟨λe=>⟨rfl,by omega⟩,λe=>by have:=e.2;omega⟩]
end S16
namespace S17
open Go.Mr Go.M18 S16
variable {w:World}{L:List HProp}{K:KT}{b q:Nat}{s:List UInt8}
inductive Tun where
 |sorts (n:Nat)
 |takes (n u:Nat)
def Tun.done (s:List UInt8):Tun->Bool
 |.sorts _=>false
 |.takes _ u=>decide (u=s.length)
def Tun.cnt:Tun->Nat
 |.sorts n=>n
 |.takes n u=>n+u
def Zer (s:List UInt8) (u o:Nat):Prop:=∀ oz,(sortP s s.length)[oz]?=some 0->oz < u->o=oz
def TuL (b:Nat) (s:List UInt8):Tun->(sb:Nat)->(y:SS)->(ov lv:Value)->(o:Nat)->List HProp
 |.sorts n,sb,y,ov,lv,o=>tuL b s sb (.slice none 0 0) (.slice none 0 0) o [] []++[SoR sb s y n]
 |.takes n u,sb,y,ov,lv,o=>tuL b s sb ov lv o (sortP s s.length) (((sortP s s.length).take u).map (aheadB s))++[SoR sb s y n]
def TuOk (s:List UInt8):Tun->SS->Value->Nat->Prop
 |.sorts n,y,ov,o=>SoOk s y n
 |.takes n u,y,ov,o=>Fini s y/\SoOk s y n/\u<=s.length/\Zer s u o/\∃ a l c,ov=.slice (some a) l c
theorem TuOk.le {t:Tun}{y:SS}{ov:Value}{o:Nat}(h:TuOk s t y ov o):t.cnt<=M45.mostS s.length+s.length:=by
 cases t with
 |sorts n=>exact Nat.le_trans h.1 (Nat.le_add_right _ _)
 |takes n u=>exact Nat.add_le_add h.2.1.1 h.2.2.1
def TuR (b:Nat) (s:List UInt8) (t:Tun):HProp:=λh=>∃ sb y ov lv o,TuOk s t y ov o/\Sat (TuL b s t sb y ov lv o) h
theorem Zg3 {t:Tun}(H:Holds w (TuR b s t::L)):∃ sb y ov lv o,TuOk s t y ov o/\Holds w (TuL b s t sb y ov lv o++L):=by
 obtain⟨sb,H⟩:=Holds.ex H;obtain⟨y,H⟩:=Holds.ex H;obtain⟨ov,H⟩:=Holds.ex H;obtain⟨lv,H⟩:=Holds.ex H;obtain⟨o,H⟩:=Holds.ex H;obtain⟨h,H⟩:=Holds.pure H;exact⟨sb,y,ov,lv,o,h,Holds.unpack H⟩
theorem Zcn {t:Tun}{sb:Nat}{y:SS}{ov lv:Value}{o:Nat}(h:TuOk s t y ov o) (H:Holds w (TuL b s t sb y ov lv o++L)):Holds w (TuR b s t::L):=
 Holds.imp (Holds.pack H) λg hg=>⟨sb,y,ov,lv,o,h,hg⟩
theorem Yby {t:Tun}(H:Holds w (TuR b s t::L)):t.cnt<=M45.mostS s.length+s.length:=by
 obtain⟨sb,y,ov,lv,o,h,_⟩:=Zg3 H;exact h.le
theorem Ze9 {t:Tun}(h0:s≠[]) (H:Holds w (TuR b s t::L)) (k:∀ w',Same w w'->Holds w' (TuR b s t::L)->K (.bool (t.done s)) w'):Cl prog 137 #[pt b] w K:=by
 obtain⟨sb,y,ov,lv,o,ho,H1⟩:=Zg3 H;have hpos:=gZ.2 h0
 cases t with
 |sorts n=>
  refine TDone_spec (L:=SoR sb s y n::L) H1 λw' S' H'=>?_;rw[decide_eq_false (show ¬ ([]:List UInt8).length=s.length by rw[length_nil];omega)];exact k w' S' (Zcn (t:=.sorts n) (ov:=ov) (lv:=lv) ho H')
 |takes n u=>
  have hu:=ho.2.2.1;refine TDone_spec (L:=SoR sb s y n::L) H1 λw' S' H'=>?_
  have e:(((sortP s s.length).take u).map (aheadB s)).length=u:=by rw[hS_,gN,Zc4];omega
  rw[e];exact k w' S' (Zcn (t:=.takes n u) ho H')
theorem Znd {t:Tun}(H:Holds w (TuR b s t::L)) (h0:s≠[]) (hl:s.length<=4000) (hd:t.done s=false) (hq1:1<=q) (hq:q<=1099511627776)
  (k:∀ t' g w',1<=g->g<=q->t'.cnt=t.cnt+g->Same w w'->Holds w' (TuR b s t'::L)->K (nv g) w'):Cl prog 138 #[pt b,nv q] w K:=by
 refine Tz138 ?_;unfold Vz138;have hpos:=gZ.2 h0;have hlo:=Zc4 s s.length;refine Za2 (λt w'=>w=w'/\t=.bool false) ?_ ?_
 rotate_left
 ·exact Zab (r_vf (r_lss (r_ke ⟨rfl,by rw[decide_eq_false (by omega)]⟩)))
 rintro _ _ _ ⟨rfl,rfl⟩;refine r_vf ?_;obtain⟨sb,y,ov,lv,o,ho,H1⟩:=Zg3 H
 have mid:∀ (u m:Nat) (y':SS) (n':Nat) (ov' lv':Value) (o':Nat) (w1:World),TuOk s (.takes n' u) y' ov' o'->t.cnt+m=n'+u->m<=q->(m=0->u < s.length)->Same w w1->Holds w1 (TuL b s (.takes n' u) sb y' ov' lv' o'++L)->
   VLoop 1 [nv m] w1 λ_ next6 gone_5 w4=>
    VJoin 1 (λ_ x_7 w5=>
    Vif x_7 (
    Cl prog 150 #[pt b] w5 λx_8 w6=>
    Bp .add gone_5 (.int .i64 1) λx_9=>
    KE [pt b,nv q] [pt b,nv q] <| next6 x_9 w6) (
    K gone_5 w5))
    (λJ10=>
    Nc (pt b) <|
    Fo 1 (pt b) λx_11=>
    Ld x_11 w4 λx_12=>
    Cl prog 148 #[x_12] w4 λx_13 w7=>
    Vif x_13 (
    Bp .lss gone_5 (nv q) λx_14=>
    Vif x_14 (
    Cl prog 137 #[pt b] w7 λx_15 w8=>
    Up .not x_15 λx_16=>
    KE [pt b,nv q,gone_5] [pt b,nv q,gone_5] <| J10 x_16 w8) (
    KE [pt b,nv q,gone_5] [pt b,nv q,gone_5] <| J10 (.bool false) w7)) (
    KE [pt b,nv q,gone_5] [pt b,nv q,gone_5] <| J10 (.bool false) w7)):=by
  intro u0 m y' n' ov' lv' o' w1 ho hc0 hm h1 S1 H1;refine Zac (λg w'=>∃ (u m' o'':Nat) (lv'':Value),g=nv m'/\t.cnt+m'=n'+u/\m'<=q/\(m'=0->u < s.length)/\TuOk s (.takes n' u) y' ov' o''/\Same w w'/\Holds w' (TuL b s (.takes n' u) sb y' ov' lv'' o''++L)) (λg _=>q - (intOf g).toNat) ⟨u0,m,o',lv',rfl,hc0,hm,h1,ho,S1,H1⟩ ?_;clear ho hm h1 S1 H1 hc0;rintro _ _ w2 ⟨u,m',o'',lv'',rfl,hc0,hm,h1,ho,S2,H2⟩;obtain⟨hf,hso,hu,hz,ha⟩:=ho
  have hlen:(((sortP s s.length).take u).map (aheadB s)).length=u:=by rw[hS_,gN,hlo];omega
  have H2':Holds w2 (tuL b s sb ov' lv'' o'' (sortP s s.length) (((sortP s s.length).take u).map (aheadB s))++(SoR sb s y' n'::L)):=H2;refine Za2 (λt w'=>Same w w'/\Holds w' (tuL b s sb ov' lv'' o'' (sortP s s.length) (((sortP s s.length).take u).map (aheadB s))++(SoR sb s y' n'::L))/\t=.bool (decide (m' < q/\¬ u=s.length))) ?_ ?_
  ·rintro _ _ w4 ⟨S4,H4,rfl⟩;refine r_ifD (λh=>?_) λh=>?_
   ·have hlt:u < s.length:=by omega
    have hg:(sortP s s.length)[u]?=some ((sortP s s.length).getD u 0):=Zau (by rw[hlo];exact hlt);have ha':(sortP s s.length).getD u 0 < s.length:=(Zc5 s s.length _).1 (Zaz (by rw[hlo];exact hlt))
    have htk:(sortP s s.length).take (u+1)=(sortP s s.length).take u++[(sortP s s.length).getD u 0]:=by rw[gO,hg];rfl
    refine take_spec H4 h0 hl (a:=(sortP s s.length).getD u 0) (by rw[hlen];exact hg) ha' (by rw[hlen];omega) λlv2 w5 S5 H5=>?_;refine Za0 (by omega) (r_ke ⟨⟨u+1,m'+1,(if (sortP s s.length).getD u 0=0 then (((sortP s s.length).take u).map (aheadB s)).length else o''),lv2,rfl,by omega,by omega,(λe=>absurd e (Nat.succ_ne_zero _)),⟨hf,hso,hlt,?_,ha⟩,S4.trans S5,?_⟩,?_⟩)
    ·intro oz hoz hlz;rw[hlen]
     by_cases e:(sortP s s.length).getD u 0=0
     ·rw[if_pos e];rw[e] at hg;exact Zl5 hg hoz
     ·rw[if_neg e];refine hz oz hoz ?_;rcases hU_ oz u with g|g
      ·exact g
      ·have:oz=u:=by omega
       rw[this,hg] at hoz;exact absurd (Option.some.inj hoz) e
    ·show Holds w5 (tuL b s sb ov' lv2 _ (sortP s s.length) (((sortP s s.length).take (u+1)).map (aheadB s))++(SoR sb s y' n'::L));rw[htk,map_append];exact H5
    ·simp only[nv,intOf,gC];omega
   ·refine k (.takes n' u) m' w4 ?_ hm hc0.symm S4 (Zcn (t:=.takes n' u) ⟨hf,hso,hu,hz,ha⟩ H4);rcases Nat.eq_zero_or_pos m' with e|e
    ·have:=h1 e;omega
    ·exact e
  ·refine r_nc (r_fo0 (r_ld 0 H2' rfl rfl ?_))
   have H4:Holds w2 (SoR sb s y' n'::(tuL b s sb ov' lv'' o'' (sortP s s.length) (((sortP s s.length).take u).map (aheadB s))++L)):=by have h_:=Holds.ord 4 [3,0,1,2] H2' rfl;exact h_
   refine Done_spec H4 ?_;rw[hf.1];refine r_vt (r_lss (r_ifD (λh=>?_) λh=>?_))
   ·refine TDone_spec H2' λw4 S4 H5=>?_;rw[hlen];refine r_not (r_ke ⟨S2.trans S4,H5,?_⟩);rw[<-decide_not,show decide (¬ u=s.length)=decide (m' < q/\¬ u=s.length) from decide_eq_decide.2 ⟨λe=>⟨by omega,e⟩,λe=>e.2⟩]
   ·refine r_ke ⟨S2,H2',?_⟩;rw[decide_eq_false (λe=>h (by have:=e.1;omega))]
 refine r_nc (r_fo0 ?_)
 cases t with
 |takes n u=>
  obtain⟨hf,hso,hu,hz,a,l,c,rfl⟩:=ho
  have hult:u < s.length:=by
   have:decide (u=s.length)=false:=hd;have:=of_decide_eq_false this;omega
  have H2:Holds w (tuL b s sb (.slice (some a) l c) lv o (sortP s s.length) (((sortP s s.length).take u).map (aheadB s))++(SoR sb s y n::L)):=H1;refine r_ld 0 H2 rfl rfl ?_
  have H3:Holds w (SoR sb s y n::(tuL b s sb (.slice (some a) l c) lv o (sortP s s.length) (((sortP s s.length).take u).map (aheadB s))++L)):=by have h_:=Holds.ord 4 [3,0,1,2] H2 rfl;exact h_
  refine Zi1 H3 hso hl hq λy' m w1 hso' hmq _ hm0 hxm S1 H4=>?_;obtain rfl:=hxm hf.1;obtain rfl:y=y':=(hm0 rfl).symm
  have H5:Holds w1 (tuL b s sb (.slice (some a) l c) lv o (sortP s s.length) (((sortP s s.length).take u).map (aheadB s))++(SoR sb s y n::L)):=by have h_:=Holds.ord 4 [1,2,3,0] H4 rfl;exact h_
  refine Zbh (λw'=>w1=w') ?_ ?_
  rotate_left
  ·refine Za2 (λt w'=>w1=w'/\t=.bool false) ?_ ?_
   ·rintro _ _ _ ⟨rfl,rfl⟩;exact r_vf (r_ke rfl)
   ·refine r_nc (r_fo0 (r_ld 0 H5 rfl rfl ?_));exact r_be (v:=.bool false) (by kernel_rfl) (r_vf (r_ke ⟨rfl,rfl⟩))
  rintro _ _ rfl;exact mid u 0 y n _ lv o w1 ⟨hf,hso,hu,hz,a,l,c,rfl⟩ rfl (Nat.zero_le _) (λ_=>hult) S1 H5
 |sorts n=>
  have H2:Holds w (tuL b s sb (.slice none 0 0) (.slice none 0 0) o [] []++(SoR sb s y n::L)):=H1;refine r_ld 0 H2 rfl rfl ?_
  have H3:Holds w (SoR sb s y n::(tuL b s sb (.slice none 0 0) (.slice none 0 0) o [] []++L)):=by have h_:=Holds.ord 4 [3,0,1,2] H2 rfl;exact h_
  refine Zi1 H3 ho hl hq λy' m w1 hso' hmq hdm hm0 hxm S1 H4=>?_
  have H5:Holds w1 (tuL b s sb (.slice none 0 0) (.slice none 0 0) o [] []++(SoR sb s y' (n+m)::L)):=by have h_:=Holds.ord 4 [1,2,3,0] H4 rfl;exact h_
  cases hyd:y'.done with
  |false=>
   have hmq':m=q:=by
    rcases hdm with e|e
    ·rw[hyd] at e;cases e
    ·exact e
   refine Zbh (λw'=>w1=w') ?_ ?_
   rotate_left
   ·refine Za2 (λt w'=>w1=w'/\t=.bool false) ?_ ?_
    ·rintro _ _ _ ⟨rfl,rfl⟩;exact r_vf (r_ke rfl)
    ·refine r_nc (r_fo0 (r_ld 0 H5 rfl rfl ?_));refine r_be (v:=.bool true) (by kernel_rfl) (r_vt ?_);refine r_nc (r_fo0 (r_ld 0 H5 rfl rfl ?_));refine Done_spec H4 ?_;exact r_ke ⟨rfl,by rw[hyd]⟩
   rintro _ _ rfl;refine Zac (λg w'=>w1=w'/\g=nv m) (λ_ _=>0) ⟨rfl,rfl⟩ ?_;rintro _ _ _ ⟨rfl,rfl⟩;refine Za2 (λt w'=>w1=w'/\t=.bool false) ?_ ?_
   ·rintro _ _ _ ⟨rfl,rfl⟩;exact r_vf (k (.sorts (n+m)) m w1 (by omega) (by omega) rfl S1 (Zcn (t:=.sorts (n+m)) (ov:=.slice none 0 0) (lv:=.slice none 0 0) hso' H5))
   ·refine r_nc (r_fo0 (r_ld 0 H5 rfl rfl ?_));refine Done_spec H4 ?_;rw[hyd];exact r_vf (r_ke ⟨rfl,rfl⟩)
  |true=>
   have hf:Fini s y':=by
    rcases hso'.2 with e|e
    ·exact e
    ·rw[e.1.bs.nd] at hyd;cases hyd
   refine Zbh (λw'=>∃ a l c,Same w w'/\Holds w' (tuL b s sb (.slice (some a) l c) (.slice none 0 0) o (sortP s s.length) []++(SoR sb s y' (n+m)::L))) ?_ ?_
   rotate_left
   ·refine Za2 (λt w'=>w1=w'/\t=.bool true) ?_ ?_
    ·rintro _ _ _ ⟨rfl,rfl⟩;refine r_vt ?_;refine r_nc (r_fo0 (r_ld 0 H5 rfl rfl ?_));refine Zie H4 hf hl λov w2 S2 H6=>?_;obtain⟨oa,sp,rfl,H7⟩:=H6.open 0 rfl
     obtain⟨a,rfl⟩:∃ a,oa=some a:=by
      cases oa with
      |some a=>exact⟨a,rfl⟩
      |none=>
       obtain⟨g,⟨e,_⟩,_⟩:=H7;have:=congrArg List.length e;rw[hlo,length_nil] at this;omega
     refine r_nc (r_fo0 ?_);refine r_st 2 H6 rfl (by simp) rfl λw3 S3 H8=>?_;refine r_ke ⟨a,(sortP s s.length).length,(sortP s s.length).length+sp.length,S1.trans (S2.trans S3),?_⟩;have h_:=Holds.ord 5 [2,0,4,1] H8 rfl;exact h_
    ·refine r_nc (r_fo0 (r_ld 0 H5 rfl rfl ?_));refine r_be (v:=.bool true) (by kernel_rfl) (r_vt ?_);refine r_nc (r_fo0 (r_ld 0 H5 rfl rfl ?_));refine Done_spec H4 ?_;exact r_ke ⟨rfl,by rw[hyd]⟩
   rintro _ w2 ⟨a,l,c,S2,H6⟩;exact mid 0 m y' (n+m) _ _ o w2 ⟨hf,hso',Nat.zero_le _,(λoz _ e=>absurd e (Nat.not_lt_zero _)),a,l,c,rfl⟩ rfl hmq (λ_=>hpos) S2 H6
theorem Zjv {n:Nat}(H:Holds w (TuR b s (.takes n s.length)::L)) (h0:s≠[]) (k:∀ o w',(sortP s s.length)[o]?=some 0->Same w w'->Holds w' (TuR b s (.takes n s.length)::L)->K (.tuple #[St_ (lastL s),nv o]) w'):Cl prog 151 #[pt b] w K:=by
 refine Tz151 ?_;unfold Vz151;have hpos:=gZ.2 h0;have hlo:=Zc4 s s.length;refine Ze9 h0 H λw1 S1 H1=>?_;rw[show Tun.done s (.takes n s.length)=true from decide_eq_true rfl];refine Zal (r_vf (r_dr H1 λw2 S2 H2=>?_));obtain⟨sb,y,ov,lv,o,ho,H3⟩:=Zg3 H2;have ho':=ho;obtain⟨hf,hso,hu,hz,ha⟩:=ho'
 obtain⟨oz,hoz⟩:∃ oz,(sortP s s.length)[oz]?=some 0:=by
  obtain⟨i,hi,e⟩:=List.getElem_of_mem ((Zc5 s s.length 0).2 hpos);exact⟨i,by rw[gA hi,e]⟩
 have h1:oz < s.length:=by rw[<-hlo];exact (gH.1 hoz).1
 obtain rfl:=hz oz hoz h1
 have e1:((sortP s s.length).take s.length).map (aheadB s)=lastL s:=by
  rw[gK (by rw[hlo];exact Nat.le_refl _)];unfold lastL;exact List.map_congr_left λa ha=>Ziy ((Zc5 s s.length a).1 ha)
 have H4:Holds w2 (tuL b s sb ov lv o (sortP s s.length) (((sortP s s.length).take s.length).map (aheadB s))++(SoR sb s y n::L)):=H3;rw[e1] at H4;refine r_nc (r_fo0 (r_ld 0 H4 rfl rfl ?_));refine Yc8 H4 2 rfl ?_;refine r_nc (r_fo0 (r_ld 0 H4 rfl rfl ?_));exact k o w2 hoz (S1.trans S2) (Zcn ho H3)
theorem Zr3 (H:Holds w L) (h0:s≠[]) (hl:s.length<=4000) (k:∀ b w',Same w w'->Holds w' (TuR b s (.sorts 0)::L)->K (.tuple #[pt b,iv 0]) w'):Cl prog 136 #[St_ s] w K:=by
 refine Tz136 ?_;unfold Vz136;have hpos:=gZ.2 h0
 have hsz:(⟨s.toArray⟩:ByteArray).size=s.length:=by simp[ByteArray.size]
 refine Zm7 (r_vfD (by rw[hsz];omega) ?_);refine New_spec H h0 hl λsb w1 S1 H1=>?_;refine Za8 (Za9 (r_neq (r_vfN rfl ?_)));refine r_bd (v:=.agg #[St_ s,pt sb,.slice none 0 0,.slice none 0 0,nv 0]) (by kernel_rfl) ?_;refine r_new H1 λb w2 S2 H2=>?_;have H3:=(H2.nilSL nv tI).nilSL bv tB;refine k b w2 (S1.trans S2) (Zcn (t:=.sorts 0) (sb:=sb) (y:=startD s.length) (ov:=.slice none 0 0) (lv:=.slice none 0 0) (o:=0) (SoOk.start h0 hl) ?_);have h_:=Holds.ord 4 [2,1,0,3] H3 rfl;exact h_
end S17
namespace P20
open Go.M01 Go.Mb Go.Mp Go.M10 Go.Mz Go.Q21
abbrev S_ (B:List UInt8):Value:=.string ⟨B.toArray⟩
abbrev pt (b:Nat):Value:=.pointer (some ⟨b,0,none⟩)
abbrev tB:Nat:=5
abbrev tI:Nat:=3
variable {w:World}{L:List HProp}{K:KT}
theorem sz (t:List UInt8):(⟨t.toArray⟩:ByteArray).size=t.length:=by show t.toArray.size=_;simp
theorem dl (t:List UInt8):(⟨t.toArray⟩:ByteArray).data.toList=t:=by simp
theorem q_len {t:List UInt8}{K:Value->Prop}(h:K (nv t.length)):Lns (S_ t) K:=r_lns (by rw[sz];exact h)
theorem q_ix {t:List UInt8}{k:IntKind}{m:Nat}{K:Value->Prop}(h1:m < t.length) (h:K (bv (t.getD m 0))):Ixs (S_ t) (.int k (m:Int)) K:=Ze6 (by rw[sz];exact h1) (by rw[dl];exact h)
theorem q_T {t:List UInt8}{k:IntKind}{m:Nat}{K:Value->Prop}(h1:m<=t.length) (h:K (S_ (t.take m))):Sst (S_ t) none (some (.int k (m:Int))) K:=Ycf (by rw[sz];exact h1) (by rw[dl];exact h)
theorem q_D {t:List UInt8}{k:IntKind}{m:Nat}{K:Value->Prop}(h1:m<=t.length) (h:K (S_ (t.drop m))):Sst (S_ t) (some (.int k (m:Int))) none K:=Zym (by rw[sz];exact h1) (by rw[dl];exact h)
theorem q_str (H:Holds w L) (c:UInt8){t e d:TypeId}{z:Value} [hr:Row prog t e z] [hb:Bytes prog t e d] (h:∀ w',Same w w'->Holds w' L->K (S_ [c]) w'):Bs prog t 1 #[(0,bv c)] w λy w2=>Cw prog t d y w2 K:=by
 refine r_bs1 H (by rfl) λb w2 S2 H2=>?_;refine r_cbs (xs:=[c]) (sp:=[]) (oa:=some ⟨b,0,none⟩) ((H2.imp λh hh=>(⟨rfl,rfl,hh⟩:(slb bv e (some ⟨b,0,none⟩) [c] []) h))) 0 rfl rfl ?_;exact h w2 S2 H2.drop
end P20
end Go.Proofs.YtieneaffjelhhaaGreat
namespace Go.M02
def crcStep (s:Nat):Nat:=(s*2%4294967296) ^^^ (s/2147483648*79764919)
def crcN (s:Nat):Nat->Nat
 |0=>s
 |k+1=>crcStep (crcN s k)
def crcTab (b:Nat):Nat:=crcN (b*16777216) 8
def tabL:List Nat:=(List.range 256).map crcTab
theorem Zqj (s:Nat) (h:s < 4294967296):crcStep s < 4294967296:=by
 unfold crcStep
 have h1:s/2147483648<=1:=by omega
 have h2:s/2147483648*79764919<=1*79764919:=Nat.mul_le_mul_right _ h1;exact Nat.xor_lt_two_pow (n:=32) (by omega) (by omega)
theorem Zfn (s:Nat) (h:s < 4294967296):∀ k,crcN s k < 4294967296
 |0=>h
 |k+1=>Zqj _ (Zfn s h k)
theorem Zd3:tabL.length=256:=by simp[tabL]
theorem Zof (i:Nat) (h:i < 256):tabL[i]?=some (crcTab i):=by simp[tabL,h]
end Go.M02
namespace Go.Proofs.YtieneaffjelhhaaGreat
open Go Go.Vc Go.Proofs.Tryz
attribute [local irreducible] Vc.Nc Vc.Ld Vc.LdA Vc.St Vc.StA Vc.Fo Vc.Iaa Vc.Ias Vc.Ixs Vc.Ixa Vc.Fd Vc.FdA Vc.Bp Vc.Bb Vc.Bn Vc.Up Vc.Ci Vc.Lns Vc.Lnl Vc.Ex Vc.Sst Vc.Ssl Vc.New Vc.Vif Vc.VJoin Vc.VLoop Vc.KE Vc.Dr Vc.Rk Vc.Cl Vc.Cx Vc.Inv Vc.Be Vc.Cv Vc.Cw Vc.Mf Vc.Sl Vc.Lk Vc.Bd Vc.Bs Vc.Ms Vc.Mm Vc.Mu Vc.Me Vc.Es Vc.Rg Vc.Nx Vc.Ta Vc.Ap Vc.Usd Vc.Ust Vc.Cp Vc.Ln Vc.Bc Vc.Bmin Vc.Bmax Vc.Bdel Vc.Bclr Vc.Pk
namespace W02
open Go.M02
variable {w:World}{L:List HProp}{K:KT}
abbrev tTab:Nat:=166
theorem Zf9 (H:Holds w L) (post:∀ w',Same w w'->Holds w' L->K (.agg (tabL.map uv).toArray) w'):Cl prog 86 #[] w K:=by
 refine Tz86 ?_;unfold Vz86
 have hz:(zeroP prog tTab).cells.toList=(List.replicate 256 0).map uv:=by kernel_rfl
 refine r_new H λb1 w1 S1 H1=>?_;rw[hz] at H1;refine r_new H1 λb2 w2 S2 H2=>?_;rw[hz] at H2
 refine Zac (λx w'=>∃ i:Nat,i<=256/\x=nv i/\Same w w'/\Holds w' (blk b2 tTab ((filled tabL 0 256 i).map uv)::blk b1 tTab ((List.replicate 256 0).map uv)::L))
  (λx _=>256 - (intOf x).toNat) ⟨0,by omega,rfl,S1.trans S2,by rw[Zed];exact H2⟩ ?_
 clear H H1 H2 S1 S2;rintro _ _ w3 ⟨i,hi,rfl,S,H⟩
 repeat (refine r_lss ?_)
 refine r_ifD (λh=>?_) λh=>?_
 ·have hlt:i < 256:=by omega
  refine Zav (by omega) (by omega) ?_;refine Zc8 (n:=24) (by omega) ?_;rw[show i*2^24%4294967296=crcN (i*16777216) 0 by show _=i*16777216;omega];refine Zag (λs x w'=>w3=w'/\∃ j:Nat,j<=8/\x=nv j/\s=uv (crcN (i*16777216) j)) (λ_ x _=>8 - (intOf x).toNat) ⟨rfl,0,by omega,rfl,rfl⟩ ?_;rintro _ _ _ _ ⟨rfl,j,hj,rfl,rfl⟩;have hc:=Zfn (i*16777216) (by omega) j
  repeat (refine r_lss ?_)
  refine r_ifD (λh2=>?_) λh2=>?_
  ·have h3:crcN (i*16777216) j/2147483648<=1:=by omega
   have h4:crcN (i*16777216) j/2147483648*79764919<=1*79764919:=Nat.mul_le_mul_right _ h3;refine Zfq (n:=31) (by decide) ?_;refine Zc8 (n:=1) (by omega) ?_;refine Zxi (t:=79764919) (by omega) ?_;refine Zgg (by omega) (by omega) ?_
   repeat (first|refine r_ke ?_|(refine Za0 (by omega) ?_))
   refine⟨⟨rfl,j+1,by omega,rfl,rfl⟩,?_⟩;simp[nv,intOf];omega
  ·obtain rfl:j=8:=by omega
   repeat (refine Zb4 (by omega) ?_)
   refine r_st 0 H rfl (by rw[hS_,Zb3 (by omega) Zd3];omega) rfl λw4 S4 H4=>?_
   have hset:((filled tabL 0 256 i).map uv).set (0+i) (uv (crcN (i*16777216) 8))=(filled tabL 0 256 (i+1)).map uv:=by
    rw[Nat.zero_add,<-map_set];exact congrArg (List.map uv) (Zb6 (z:=0) hlt Zd3 (Zof i hlt))
   rw[gJ,hset] at H4
   repeat (first|refine r_ke ?_|(refine Za0 (by omega) ?_))
   refine⟨⟨i+1,by omega,rfl,S.trans S4,H4⟩,?_⟩;simp[nv,intOf];omega
 ·obtain rfl:i=256:=by omega
  rw[Zcp Zd3] at H
  have hl:(tabL.map uv).length=256:=by simp[Zd3]
  refine r_ldA 0 H (tabL.map uv) rfl (by rw[drop_zero,gK (by omega)]) hl ?_;refine r_stA 1 H (vs:=tabL.map uv) rfl (Nat.le_of_eq (by rw[hS_,gP])) hl (by kernel_rfl) λw4 S4 H4=>?_
  have hset:setL ((List.replicate 256 0).map uv) 0 (tabL.map uv)=tabL.map uv:=by kernel_rfl
  rw[gW,gJ,hset] at H4;refine r_ldA 1 H4 (tabL.map uv) rfl (by rw[drop_zero,gK (by omega)]) hl ?_;exact post _ (S.trans S4) H4.drop.drop
end W02
namespace B20
open Go.M01 Go.Mb Go.Mp Go.M10 Go.Mz Rb
variable {w:World}{L:List HProp}{K:KT}{b rb cb zb mb r:Nat}{B:List UInt8}{d at_ n k:Nat}{lv:Value}
theorem r_cvb {t e d:TypeId} [hr:Bytes prog t e d] (H:Holds w L) (i:Nat){oa:Option Addr}{xs:List UInt8}{sp:List Value}{l c:Nat}{K:Value->Prop}
  (hi:L[i]?=some (slb bv e oa xs sp)) (hl:l=xs.length) (h:K (.string ⟨xs.toArray⟩)):Cv prog t d (.slice oa l c) w K:=by
 have h0:Cw prog t d (.slice oa l c) w (λv w'=>v=.string ⟨xs.toArray⟩/\w'=w):=r_cbs H i hi hl ⟨rfl,rfl⟩;unfold Cw at h0;obtain⟨v,w',hr,rfl,rfl⟩:=h0;unfold Cv;exact⟨_,hr,h⟩
end B20
namespace Kw
theorem Zhq {P:Program}{w:World}{g:Nat}{t:TypeId}{zero:Array Value}{k:IntKind}{ts:List TypeId}(h:w.ShapedOpen P) (hg:g < P.globals.size)
  (h0:((begin P (λ_ _=>0) default).world.heap[g]?).bind Obj.row?=some (zero,t)) (hb:P.buildable t=true) (hc:P.cellTypes P.depth t=some ts) (hu:∀ x∈ts,P.underlying x=some (.int k)) :
  ∃ (l:List Int) (e:TypeId) (z:Nat × Nat),l.length=zero.size/\w.heap[g]?=some (.cells (l.map (Value.int k)).toArray e z):=by
 obtain⟨cs,hh,hs,hr⟩:=h.1 g zero t hg h0;obtain⟨ts',hts,_,hall⟩:=hr hb;rw[hc] at hts;cases hts
 have each:∀ (i:Nat) (v:Value),cs[i]?=some v->∃ n:Int,v=Value.int k n:=by
  intro i v hv;obtain⟨u,hu1,hok⟩:=hall i v hv;have h1:=hu u (List.mem_of_getElem? hu1);unfold Cell.ok at hok;rw[h1] at hok
  cases v <;> simp at hok
  case int k' n=>exact⟨n,by rw[hok.1]⟩
 refine⟨cs.toList.map λv:Value=>match v with|Value.int _ n=>n|_=>0,t,(0,0),by simpa using hs,?_⟩;rw[hh]
 congr 2
 apply Array.ext
 ·simp
 ·intro i h1 h2;obtain⟨n,hn⟩:=each i cs[i] (Array.getElem?_eq_getElem h1);simp[hn]
def BndG (L:List HProp):Prop:=∃ l:List Int,l.length=4/\∀ w',Holds w' L->∃ e z,w'.heap[1]?=some (.cells (l.map iv).toArray e z)
theorem BndG.up {L:List HProp}{Q:HProp}(h:BndG L):BndG (Q::L):=let ⟨l,h1,h2⟩:=h;⟨l,h1,λw' H=>h2 w' H.drop⟩
theorem bnd_whole {W:World}(h:W.ShapedOpen prog):BndG [whole W]:=by
 have go:∃ (l:List Int) (e:TypeId) (z:Nat × Nat),l.length=4/\W.heap[1]?=some (.cells (l.map iv).toArray e z):=by
  have hlt:1 < prog.globals.size:=of_decide_eq_true (by kernel_rfl)
  exact Zhq (t:=311) (zero:=#[.int .i64 0,.int .i64 0,.int .i64 0,.int .i64 0]) (ts:=[3,3,3,3]) h hlt (by kernel_rfl) (by kernel_rfl) (by kernel_rfl) (λx hx=>by
     simp only[mem_cons,List.not_mem_nil,or_false,or_self] at hx;rw[hx]
     exact underlying3)
 obtain⟨l,e,z,hl,hh⟩:=go;refine⟨l,hl,?_⟩;intro w' H';obtain⟨g,hg,hgs,_⟩:=H';exact⟨e,z,hgs _ _ (hg _ _ hh)⟩
section
variable {H:Type}{enc:TypeId × Value->H}
end
end Kw
namespace K38
variable {w:World}{L:List HProp}{K:KT}
theorem Zqa {n:Int}(k:K (.bool (decide (1<=n/\n<=9))) w):Cl prog 35 #[iv n] w K:=by
 refine Tz35 ?_;unfold Vz35;refine r_geq (r_ifD (λh=>r_leq ?_) λh=>?_)
 ·rw[show decide (n<=9)=decide (1<=n/\n<=9) from decide_eq_decide.2 ⟨λe=>⟨h,e⟩,λe=>e.2⟩];exact k
 ·rw[decide_eq_false (λe=>h e.1)] at k;exact k
theorem Zkp {n:Int}(k:K (.bool (decide (24<=n/\n<=100000))) w):Cl prog 36 #[iv n] w K:=by
 refine Tz36 ?_;unfold Vz36;refine r_geq (r_ifD (λh=>r_leq ?_) λh=>?_)
 ·rw[show decide (n<=100000)=decide (24<=n/\n<=100000) from decide_eq_decide.2 ⟨λe=>⟨h,e⟩,λe=>e.2⟩];exact k
 ·rw[decide_eq_false (λe=>h e.1)] at k;exact k
theorem Zif {u n:Int}(k:K (.bool (decide ((24<=u/\u<=100000)/\64<=n/\n<=1048576))) w):Cl prog 26 #[iv u,iv n,iv 4096] w K:=by
 refine Tz26 ?_;unfold Vz26;refine Zkp (r_ifD (λh1=>r_geq (r_ifD (λh2=>r_leq (r_ifD (λh3=>?_) λh3=>?_)) λh2=>?_)) λh1=>?_)
 ·rw[decide_eq_true ⟨h1,h2,h3⟩] at k;exact r_geq (r_vtD (by decide) (r_leq k))
 ·rw[decide_eq_false (λe=>h3 e.2.2)] at k;exact k
 ·rw[decide_eq_false (λe=>h2 e.2.1)] at k;exact k
 ·rw[decide_eq_false (λe=>h1 e.1)] at k;exact k
theorem Zqp {l u n:Int}(k:K (.bool (decide ((1<=l/\l<=9)/\(24<=u/\u<=100000)/\64<=n/\n<=1048576))) w):Cl prog 25 #[iv l,iv u,iv n] w K:=by
 refine Tz25 ?_;unfold Vz25;refine Zqa (r_ifD (λh0=>?_) λh0=>?_)
 ·refine Zkp (r_ifD (λh1=>r_geq (r_ifD (λh2=>r_leq ?_) λh2=>?_)) λh1=>?_)
  ·rw[show decide (n<=1048576)=decide ((1<=l/\l<=9)/\(24<=u/\u<=100000)/\64<=n/\n<=1048576) from decide_eq_decide.2 ⟨λe=>⟨h0,h1,h2,e⟩,λe=>e.2.2.2⟩];exact k
  ·rw[decide_eq_false (λe=>h2 e.2.2.1)] at k;exact k
  ·rw[decide_eq_false (λe=>h1 e.2.1)] at k;exact k
 ·rw[decide_eq_false (λe=>h0 e.1)] at k;exact k
def MayP (k l u n:Int):Prop:=(k=1/\1<=l/\l<=9\/k=2\/k=3)/\(24<=u/\u<=100000)/\64<=n/\n<=1048576
theorem Zwf {k l u n:Int}(post:∀ c:Bool,(c=true->MayP k l u n)->K (.bool c) w):Cl prog 17 #[iv k,iv l,iv u,iv n] w K:=by
 refine Tz17 ?_;unfold Vz17;refine r_eql (r_ifE (λh1=>?_) λh1=>r_eql (r_ifE (λh2=>?_) λh2=>r_eql (r_ifE (λh3=>?_) λh3=>?_)))
 ·refine Zqp (post _ λe=>?_);have:=of_decide_eq_true e;exact⟨.inl ⟨h1,this.1⟩,this.2⟩
 ·refine Zif (post _ λe=>?_);exact⟨.inr (.inl h2),of_decide_eq_true e⟩
 ·refine Zif (post _ λe=>?_);exact⟨.inr (.inr h3),of_decide_eq_true e⟩
 ·exact post false λe=>by cases e
end K38
end Go.Proofs.YtieneaffjelhhaaGreat
namespace Go.Proofs.YtieneaffjelhhaaGreat
open Go Go.Vc Go.Proofs.Tryz
namespace P20
abbrev tPc:Nat:=82
def Fpc (x:UInt8 × Nat):List Value:=[bv x.1,nv x.2]
theorem Znm:(zeroP prog tPc).cells.toList=[.int .u8 0,iv 0]:=by kernel_rfl
end P20
end Go.Proofs.YtieneaffjelhhaaGreat
namespace Go.M02
theorem Yae {p q k:Nat}(hp:p<=1) (hq:q<=1):(p ^^^ q)*k=p*k ^^^ q*k:=by
 have h1:p=0\/p=1:=by omega
 have h2:q=0\/q=1:=by omega
 rcases h1 with rfl|rfl <;> rcases h2 with rfl|rfl <;> simp
theorem xor4 (w x y z:Nat):(w ^^^ x) ^^^ (y ^^^ z)=(w ^^^ y) ^^^ (x ^^^ z):=by
 rw[Nat.xor_assoc,Nat.xor_assoc];refine congrArg (λq=>w ^^^ q) ?_;rw[<-Nat.xor_assoc,Nat.xor_comm x y,Nat.xor_assoc]
theorem Znu {a b:Nat}(ha:a < 4294967296) (hb:b < 4294967296):crcStep (a ^^^ b)=crcStep a ^^^ crcStep b:=by
 have h1:(a ^^^ b)*2%4294967296=(a*2%4294967296) ^^^ (b*2%4294967296):=by
  have e1:(a ^^^ b)*2=(a*2) ^^^ (b*2):=by
   have:=Nat.shiftLeft_xor_distrib (i:=1) (a:=a) (b:=b);simpa [Nat.shiftLeft_eq] using this
  rw[e1];exact Nat.xor_mod_two_pow (n:=32)
 have h2:(a ^^^ b)/2147483648=(a/2147483648) ^^^ (b/2147483648):=Nat.xor_div_two_pow (n:=31);unfold crcStep;rw[h1,h2,Yae (by omega) (by omega)];exact xor4 _ _ _ _
theorem Zo6 {a b:Nat}(ha:a < 4294967296) (hb:b < 4294967296):∀ k,crcN (a ^^^ b) k=crcN a k ^^^ crcN b k
 |0=>rfl
 |k+1=>by rw[crcN,Zo6 ha hb k,Znu (Zfn a ha k) (Zfn b hb k)];rfl
theorem Zog {a:Nat}(ha:a < 16777216):∀ k,k<=8->crcN a k=a*2^k
 |0,_=>by simp[crcN]
 |k+1,hk=>by
  have h2:2^k<=2^7:=Nat.pow_le_pow_right (by decide) (by omega);have h3:a*2^k<=16777215*128:=Nat.mul_le_mul (by omega) h2;rw[crcN,Zog ha k (by omega),Nat.pow_succ,<-Nat.mul_assoc];generalize a*2^k=y at *;unfold crcStep;rw[Nat.div_eq_of_lt (by omega),Nat.zero_mul,Nat.xor_zero,Nat.mod_eq_of_lt (by omega)]
theorem split24 (x:Nat):x=(x%16777216) ^^^ (x/16777216*16777216):=by
 apply Nat.eq_of_testBit_eq;intro i;rw[Nat.testBit_xor];have h1:(x%16777216).testBit i=(decide (i < 24)&&x.testBit i):=Nat.testBit_mod_two_pow x 24 i
 have h2:(x/16777216*16777216).testBit i=(decide (24<=i)&&x.testBit i):=by
  have h3:x/16777216*16777216=(x >>> 24) <<< 24:=by rw[Nat.shiftLeft_eq,Nat.shiftRight_eq_div_pow]
  rw[h3,Nat.testBit_shiftLeft,Nat.testBit_shiftRight]
  by_cases h:24<=i
  ·simp[h]
  ·simp[h]
 rw[h1,h2]
 by_cases h:i < 24
 ·simp[h,show ¬ 24<=i by omega]
 ·simp[h,show 24<=i by omega]
def crcB (s:Nat) (c:UInt8):Nat:=crcN (s ^^^ c.toNat*16777216) 8
theorem Yb6 {s:Nat}(h:s < 4294967296) (c:UInt8):crcB s c < 4294967296:=by
 have hc:=c.toNat_lt;exact Zfn _ (Nat.xor_lt_two_pow (n:=32) (by omega) (by omega)) 8
theorem Zv7 {s:Nat}(h:s < 4294967296) (c:UInt8):(s*2^8%4294967296) ^^^ crcTab (s/16777216 ^^^ c.toNat)=crcB s c:=by
 have hc:=c.toNat_lt;have hx:s ^^^ c.toNat*16777216 < 4294967296:=Nat.xor_lt_two_pow (n:=32) (by omega) (by omega)
 have hlo:(s ^^^ c.toNat*16777216)%16777216=s%16777216:=by
  have:=Nat.xor_mod_two_pow (a:=s) (b:=c.toNat*16777216) (n:=24);rw[show (2:Nat)^24=16777216 from rfl] at this;rw[this,Nat.mul_mod_left,Nat.xor_zero]
 have hhi:(s ^^^ c.toNat*16777216)/16777216=s/16777216 ^^^ c.toNat:=by
  have:=Nat.xor_div_two_pow (a:=s) (b:=c.toNat*16777216) (n:=24);rw[show (2:Nat)^24=16777216 from rfl] at this;rw[this,Nat.mul_div_cancel _ (by decide)]
 have hh:s/16777216 ^^^ c.toNat < 256:=Nat.xor_lt_two_pow (n:=8) (by omega) (by omega);unfold crcB;rw[split24 (s ^^^ c.toNat*16777216),hlo,hhi,Zo6 (by omega) (by omega),Zog (by omega) 8 (by omega),crcTab];refine congrArg (λq=>q ^^^ crcN ((s/16777216 ^^^ c.toNat)*16777216) 8) ?_;omega
def crcF (s:Nat) (l:List UInt8):Nat:=l.foldl crcB s
theorem Zun (s:Nat) (l:List UInt8) (c:UInt8):crcF s (l++[c])=crcB (crcF s l) c:=by simp[crcF]
def crcOf (l:List UInt8):Nat:=4294967295 - crcF 4294967295 l
theorem Zpj (l:List UInt8):crcOf l < 4294967296:=by unfold crcOf;omega
def comb (t b:Nat):Nat:=(t*2%4294967296) ^^^ (t/2147483648) ^^^ b
theorem comb_lt {t b:Nat}(ht:t < 4294967296) (hb:b < 4294967296):comb t b < 4294967296:=by
 unfold comb;exact Nat.xor_lt_two_pow (n:=32) (Nat.xor_lt_two_pow (n:=32) (by omega) (by omega)) (by omega)
end Go.M02
namespace Go.M03
end Go.M03
namespace Go.Me
open Go.M01 Go.Mb Go.M03 Go.Mx
def pieceB (x:UInt8 × Nat):List UInt8:=List.replicate (min x.2 4) x.1++if 4<=x.2 then [UInt8.ofNat (x.2 - 4)] else []
theorem Zqh (x:UInt8 × Nat):(pieceB x).length<=5:=by
 unfold pieceB;rw[gD,gP];split
 ·simp;omega
 ·simp;omega
end Go.Me
namespace Go.Me
open Go.M01 Go.Mb Go.M03 Go.Mx
abbrev Bl:Type:=List UInt8 × List UInt8
end Go.Me
namespace Go.Me
open Go.M01 Go.Mb Go.M03 Go.Mx
theorem Zdk (x:UInt8 × Nat):(pieceB x).length<=5*x.2/\(pieceB x).length<=5:=by
 unfold pieceB
 split <;> simp <;> omega
variable {room:Nat}{s body tx:List UInt8}{bs:List Bl}{x:UInt8 × Nat}{c d:UInt8}
end Go.Me
namespace Go.Qs
open Go.M01 Go.Mb Go.Mp Go.M10 Go.Mz Go.M02 Go.M03
def magW:List Bool:=bitsOf 54156738319193 48
def endW:List Bool:=bitsOf 25779555029136 48
def headB (level:Nat):List Bool:=bitsOf 66 8++(bitsOf 90 8++(bitsOf 104 8++bitsOf (48+level) 8))
theorem headB_len (level:Nat):(headB level).length=32:=by unfold headB;simp only[gD,Za4]
variable {l rest:List Bool}{t:List UInt8}{k level:Nat}
theorem comb_lt {a c:Nat}(ha:a < 4294967296) (hc:c < 4294967296):comb a c < 4294967296:=by
 unfold comb;exact Nat.xor_lt_two_pow (n:=32) (Nat.xor_lt_two_pow (n:=32) (by show _ < 2^32;omega) (by show _ < 2^32;omega)) hc
end Go.Qs
namespace Go.Proofs.YtieneaffjelhhaaGreat
open Go Go.Vc Go.Proofs.Tryz
attribute [local irreducible] Vc.Nc Vc.Ld Vc.LdA Vc.St Vc.StA Vc.Fo Vc.Iaa Vc.Ias Vc.Ixs Vc.Ixa Vc.Fd Vc.FdA Vc.Bp Vc.Bb Vc.Bn Vc.Up Vc.Ci Vc.Lns Vc.Lnl Vc.Ex Vc.Sst Vc.Ssl Vc.New Vc.Vif Vc.VJoin Vc.VLoop Vc.KE Vc.Dr Vc.Rk Vc.Cl Vc.Cx Vc.Inv Vc.Be Vc.Cv Vc.Cw Vc.Mf Vc.Sl Vc.Lk Vc.Bd Vc.Bs Vc.Ms Vc.Mm Vc.Mu Vc.Me Vc.Es Vc.Rg Vc.Nx Vc.Ta Vc.Ap Vc.Usd Vc.Ust Vc.Cp Vc.Ln Vc.Bc Vc.Bmin Vc.Bmax Vc.Bdel Vc.Bclr Vc.Pk
namespace P20
open Go.M01 Go.Mb Go.Me Go.M03
variable {w:World}{L:List HProp}{K:KT}
def RepC:Prop:=∀ {w:World}{L:List HProp}{K:KT}{c:UInt8}{n:Nat},Holds w L->n<=255->(∀ w',Same w w'->Holds w' L->K (S_ (List.replicate n c)) w')->Cl prog 198 #[S_ [c],nv n] w K
theorem Zpq (hR:RepC){x:UInt8 × Nat}(H:Holds w L) (h:1<=x.2/\x.2<=255) (k:∀ w',Same w w'->Holds w' L->K (S_ (pieceB x)) w'):Cl prog 179 #[.agg (Fpc x).toArray] w K:=by
 refine Tz179 ?_;unfold Vz179;obtain⟨a,n⟩:=x;simp only at h;refine r_new H λb w1 S1 H1=>?_;replace H1:Holds w1 (blk b tPc [bv a,nv n]::L):=H1;refine r_fo0 (r_ld 0 H1 rfl rfl ?_);refine q_str H1 a λw2 S2 H2=>?_;refine r_fo0 (r_ld 0 H2 rfl rfl ?_);refine r_lss (r_ifD (λh4=>?_) λh4=>?_)
 ·refine r_fo0 (r_ld 0 H2 rfl rfl ?_);refine hR H2 (by omega) λw3 S3 H3=>?_;have:=k w3 (S1.trans (S2.trans S3)) H3.drop;unfold pieceB at this;simp only at this;rw[if_neg (by omega),gU,show min n 4=n by omega] at this;exact this
 ·have e:((n:Nat):Int) - 4=(((UInt8.ofNat (n - 4)).toNat:Nat):Int):=by
   simp only[UInt8.toNat_ofNat'];rw[Nat.mod_eq_of_lt (by omega)];omega
  have fin:∀ w',Same w w'->Holds w' L->K (S_ (List.replicate 4 a++[UInt8.ofNat (n - 4)])) w':=λw' S' H'=>by
   have:=k w' S' H';unfold pieceB at this;simp only at this;rw[if_pos (by omega),show min n 4=4 by omega] at this;exact this
  refine r_dr H2 λw5 S5 H5=>?_;refine r_fo0 (r_ld 0 H5 rfl rfl ?_);refine r_sub (by omega) (by omega) ?_;refine Zld (by omega) (by omega) ?_;rw[e];refine⟨?_,?_⟩
  ·refine hR (n:=4) H5 (by decide) λw6 S6 H6=>?_;refine r_rk (r_ld 0 H6 rfl rfl rfl) ?_;refine r_bs1 H6 rfl λb3 w7 S7 H7=>?_;refine B20.r_cvb (sp:=[]) (xs:=[UInt8.ofNat (n - 4)]) (oa:=some ⟨b3,0,none⟩) ((H7.imp λh hh=>(⟨rfl,rfl,hh⟩:(slb bv tB (some ⟨b3,0,none⟩) [UInt8.ofNat (n - 4)] []) h))) 0 rfl rfl ?_;refine Zgn (by simp) ?_;exact fin w7 (S1.trans (S2.trans (S5.trans (S6.trans S7)))) H7.drop.drop
  ·refine r_bs1 H5 rfl λb3 w7 S7 H7=>?_;have H8:Holds w7 (slb bv tB (some ⟨b3,0,none⟩) [UInt8.ofNat (n - 4)] []::blk b tPc [bv a,nv n]::L):=H7.imp λh hh=>(⟨rfl,rfl,hh⟩:(slb bv tB (some ⟨b3,0,none⟩) [UInt8.ofNat (n - 4)] []) h);refine B20.r_cvb (sp:=[]) (xs:=[UInt8.ofNat (n - 4)]) H8 0 rfl rfl ?_;refine hR (n:=4) H8 (by decide) λw9 S9 H9=>?_;refine r_rk (B20.r_cvb (sp:=[]) (xs:=[UInt8.ofNat (n - 4)]) H9 0 rfl rfl rfl) ?_;refine r_rk (r_ld 1 H9 rfl rfl rfl) ?_;refine Zgn (by simp) ?_;exact fin w9 (S1.trans (S2.trans (S5.trans (S7.trans S9)))) H9.drop.drop
theorem Zgq (hR:RepC){x:UInt8 × Nat}(H:Holds w L) (h:1<=x.2/\x.2<=255) (k:∀ w',Same w w'->Holds w' L->K (.tuple #[S_ (pieceB x),iv 0]) w'):Cl prog 166 #[.agg (Fpc x).toArray] w K:=by
 refine Tz166 ?_;unfold Vz166;refine r_new H λb w1 S1 H1=>?_;replace H1:Holds w1 (blk b tPc (Fpc x)::L):=H1;refine Za2 (λt w'=>w1=w'/\t=.bool false) ?_ ?_
 rotate_left
 ·refine r_fo0 (r_ld 0 H1 rfl rfl ?_);refine r_lss (r_vfD (by omega) ?_);refine r_fo0 (r_ld 0 H1 rfl rfl ?_);refine r_gtr (r_ke ⟨rfl,?_⟩);rw[decide_eq_false (by omega)]
 rintro _ _ _ ⟨rfl,rfl⟩;refine r_vf ?_;refine r_ldA 0 H1 (Fpc x) rfl rfl rfl ?_;refine Zpq hR H1 h λw2 S2 H2=>?_;exact k _ (S1.trans S2) H2.drop
theorem Zn9 {c:UInt8}(H:Holds w L) (k:∀ w',Same w w'->Holds w' L->K (.tuple #[S_ [],iv 1]) w'):Cl prog 166 #[.agg (Fpc (c,0)).toArray] w K:=by
 refine Tz166 ?_;unfold Vz166;refine r_new H λb w1 S1 H1=>?_;replace H1:Holds w1 (blk b tPc (Fpc (c,0))::L):=H1;refine Za2 (λt w'=>w1=w'/\t=.bool true) ?_ ?_
 rotate_left
 ·refine r_fo0 (r_ld 0 H1 rfl rfl ?_);refine r_lss (r_vtD (by show ((0:Nat):Int) < 1;decide) (r_ke ⟨rfl,rfl⟩))
 rintro _ _ _ ⟨rfl,rfl⟩;exact r_vt (k _ S1 H1.drop)
end P20
namespace P20
open Go.M01 Go.Mb Go.Me Go.M03
variable {w:World}{L:List HProp}{K:KT}{b:Nat}{c:UInt8}{n:Nat}
abbrev tPk:Nat:=171
theorem Zi7 {x:UInt8 × Nat}(H:Holds w (blk b tPk (Fpc x)::L)) (k:∀ w',Same w w'->Holds w' (blk b tPk (Fpc x)::L)->K (.agg (Fpc x).toArray) w'):Cl prog 142 #[pt b] w K:=by
 refine Tz142 ?_;unfold Vz142;refine r_new H λt w1 S1 H1=>?_;rw[Znm] at H1;refine Zab (r_vf (r_nc (r_fo0 ?_)));refine r_ldA 1 H1 (Fpc x) rfl rfl rfl ?_;refine r_stA 0 H1 (vs:=Fpc x) rfl (Nat.le_refl 2) rfl rfl λw2 S2 H2=>?_;replace H2:Holds w2 (blk t tPc (Fpc x)::blk b tPk (Fpc x)::L):=H2;refine r_ldA 0 H2 (Fpc x) rfl rfl rfl ?_;exact k _ (S1.trans S2) H2.drop
theorem Zdn (hR:RepC){x:UInt8 × Nat}(H:Holds w (blk b tPk (Fpc x)::L)) (h:1<=x.2/\x.2<=255) (k:∀ w',Same w w'->Holds w' (blk b tPk (Fpc (0,0))::L)->K (S_ (pieceB x)) w'):Cl prog 156 #[pt b] w K:=by
 refine Tz156 ?_;unfold Vz156;refine r_nc (r_fo0 ?_);refine r_ldA 0 H (Fpc x) rfl rfl rfl ?_;refine Zgq hR H h λw1 S1 H1=>?_;refine Za8 (Za9 ?_);refine r_bd (v:=.agg (Fpc (0,0)).toArray) (by kernel_rfl) ?_;refine r_nc (r_fo0 ?_);refine r_stA 0 H1 (vs:=Fpc (0,0)) rfl (Nat.le_refl 2) rfl rfl λw2 S2 H2=>?_;exact k _ (S1.trans S2) H2
theorem Zl2 (H:Holds w (blk b tPk (Fpc (c,0))::L)) (k:∀ w',Same w w'->Holds w' (blk b tPk (Fpc (0,0))::L)->K (S_ []) w'):Cl prog 156 #[pt b] w K:=by
 refine Tz156 ?_;unfold Vz156;refine r_nc (r_fo0 ?_);refine r_ldA 0 H (Fpc (c,0)) rfl rfl rfl ?_;refine Zn9 H λw1 S1 H1=>?_;refine Za8 (Za9 ?_);refine r_bd (v:=.agg (Fpc (0,0)).toArray) (by kernel_rfl) ?_;refine r_nc (r_fo0 ?_);refine r_stA 0 H1 (vs:=Fpc (0,0)) rfl (Nat.le_refl 2) rfl rfl λw2 S2 H2=>?_;exact k _ (S1.trans S2) H2
theorem Zq5 (hR:RepC){x:UInt8 × Nat}(H:Holds w (blk b tPk (Fpc x)::L)) (h:x.2<=255) (k:∀ w',Same w w'->Holds w' (blk b tPk (Fpc (0,0))::L)->K (S_ (if x.2=0 then [] else pieceB x)) w'):Cl prog 143 #[pt b] w K:=by
 refine Tz143 ?_;unfold Vz143;refine Zab (r_vf ?_);obtain⟨c,n⟩:=x;simp only at h k
 by_cases h0:n=0
 ·subst h0;rw[if_pos rfl] at k;exact Zl2 H k
 ·rw[if_neg h0] at k;exact Zdn hR H ⟨by show 1<=n;omega,h⟩ k
end P20
namespace R3b
open Go.M02 Go.M03
abbrev S_ (B:List UInt8):Value:=.string ⟨B.toArray⟩
abbrev pt (b:Nat):Value:=.pointer (some ⟨b,0,none⟩)
abbrev tB:Nat:=5
variable {w:World}{L:List HProp}{K:KT}{b r:Nat}{s:Nat}{t:List UInt8}
abbrev tS:Nat:=169
def smC (s:Nat):List Value:=[]++(tabL.map uv++[uv s])
def SumR (b s:Nat):HProp:=λh=>s < 4294967296/\blk b tS (smC s) h
theorem Zhc (H:Holds w (SumR b s::L)):s < 4294967296/\Holds w (blk b tS (smC s)::L):=Holds.pure H
theorem Zdy (h:s < 4294967296) (H:Holds w (blk b tS (smC s)::L)):Holds w (SumR b s::L):=Holds.imp H λ_ hh=>⟨h,hh⟩
theorem sm256:(smC s)[256]?=some (uv s):=by
 have:=Zxx (f:=uv) (xs:=tabL) (post:=[uv s]) (j:=0) [] Zd3;exact this
theorem smget {i:Nat}(h:i < 256):(smC s)[0+i]?=some (uv (crcTab i)):=Zu5 (f:=uv) [] (Zof i h)
theorem smset (v:Nat):(smC s).set 256 (uv v)=smC v:=by
 have:=Zvz (f:=uv) (xs:=tabL) (post:=[uv s]) (j:=0) [] (uv v) Zd3;exact this
theorem smlen:(smC s).length=257:=by
 unfold smC;rw[hO_,gD,hS_,Zd3];rfl
theorem New_spec (H:Holds w L) (k:∀ b w',Same w w'->Holds w' (SumR b 4294967295::L)->K (pt b) w'):Cl prog 69 #[] w K:=by
 refine Tz69 ?_;unfold Vz69;refine W02.Zf9 H λw1 S1 H1=>?_;refine r_bd (v:=.agg (smC 4294967295).toArray) (by kernel_rfl) ?_;refine r_new H1 λb w2 S2 H2=>?_;exact k b _ (S1.trans S2) (Zdy (by decide) H2)
theorem step_spec {c:UInt8}(H:Holds w (blk b tS (smC s)::L)) (hs:s < 4294967296) (k:K (uv (crcB s c)) w):Cl prog 180 #[pt b,uv s,bv c] w K:=by
 refine Tz180 ?_;unfold Vz180;have hc:=c.toNat_lt;refine Zc8 (n:=8) (by omega) ?_;refine Zfq (n:=24) (by decide) ?_;have h24:s/2^24=s/16777216:=rfl;rw[h24];have hh:s/16777216 ^^^ c.toNat < 256:=Nat.xor_lt_two_pow (n:=8) (by omega) (by omega)
 repeat (refine Zld (by omega) (by omega) ?_)
 refine Yao (by omega) (by omega) ?_;refine r_nc (Zb4 (by omega) ?_);refine r_ld 0 H rfl (smget hh) ?_;have ht:crcTab (s/16777216 ^^^ c.toNat) < 4294967296:=Zfn _ (by omega) 8;refine Zgg (by omega) ht ?_;rw[Zv7 hs];exact k
theorem Put_spec {c:UInt8}(H:Holds w (SumR b s::L)) (k:∀ w',Same w w'->Holds w' (SumR b (crcB s c)::L)->K (.tuple #[]) w'):Cl prog 167 #[pt b,bv c] w K:=by
 refine Tz167 ?_;unfold Vz167;obtain⟨hs,H⟩:=Zhc H;have S:=Same.refl w
 repeat (first|((with_reducible apply r_ld 0 H);(exact rfl);(with_reducible exact (sm256)))|refine r_nc ?_|refine r_fo0 ?_|(with_reducible first|refine Zca ?_|refine r_vt ?_)|(refine r_dr H ?_;clear H;intro _ S_ H;replace S:=S.trans S_;clear S_))
 refine step_spec H hs ?_
 repeat (first|refine r_nc ?_|refine r_fo0 ?_)
 refine r_st 0 H rfl (by rw[smlen];omega) rfl λw2 S2 H2=>?_;rw[gJ,smset] at H2;exact k _ (S.trans S2) (Zdy (Yb6 hs c) H2)
end R3b
namespace P20
open Go.M01 Go.Mb Go.Me Go.M02 Go.M03
variable {w:World}{L:List HProp}{K:KT}{p sm pk room size:Nat}{body tx:List UInt8}{bd:Value}{x:UInt8 × Nat}
abbrev tSp:Nat:=138
abbrev spC (bd:Value) (sm size room pk:Nat):List Value:=[bd,pt sm,nv size,nv room,pt pk]
abbrev SpL (p:Nat) (bd:Value) (sm pk room:Nat) (body tx:List UInt8) (x:UInt8 × Nat) (L:List HProp):List HProp:=
 blk p tSp (spC bd sm tx.length room pk)::SL bv tB bd body::R3b.SumR sm (crcF 4294967295 tx)::blk pk tPk (Fpc x)::L
theorem Zmm (hR:RepC){y:UInt8 × Nat}(H:Holds w (SpL p bd sm pk room body tx x L)) (hy:1<=y.2/\y.2<=255) (hb:body.length<=1000000) (ht:tx.length<=1000000)
  (k:∀ bd' w',Same w w'->Holds w' (SpL p bd' sm pk room (body++pieceB y) (tx++List.replicate y.2 y.1) x L)->K (.tuple #[]) w'):Cl prog 157 #[pt p,.agg (Fpc y).toArray] w K:=by
 refine Tz157 ?_;unfold Vz157;have h5:=Zqh y;refine r_new H λq w1 S1 H1=>?_;replace H1:Holds w1 (blk q tPc (Fpc y)::SpL p bd sm pk room body tx x L):=H1;refine r_ldA 0 H1 (Fpc y) rfl rfl rfl ?_;refine Zgq hR H1 hy λw2 S2 H2=>?_;refine Za8 (Za9 ?_);refine r_nc (r_fo0 (r_ld 1 H2 rfl rfl ?_));refine Ybb (e:=tB) (by kernel_rfl) H2 2 rfl (by omega) λbd' w3 S3 H3=>?_;replace H3:Holds w3 (blk q tPc (Fpc y)::blk p tSp (spC bd sm tx.length room pk)::SL bv tB bd' (body++pieceB y)::R3b.SumR sm (crcF 4294967295 tx)::blk pk tPk (Fpc x)::L):=H3;refine r_nc (r_fo0 ?_)
 obtain⟨oa,l,c,rfl⟩:∃ oa l c,bd'=.slice oa l c:=by
  obtain⟨oa,sp,rfl,_⟩:=H3.open 2 rfl;exact⟨oa,_,_,rfl⟩
 refine r_st 1 H3 rfl (by simp) rfl λw4 S4 H4=>?_;replace H4:Holds w4 (blk q tPc (Fpc y)::blk p tSp (spC (.slice oa l c) sm tx.length room pk)::SL bv tB (.slice oa l c) (body++pieceB y)::R3b.SumR sm (crcF 4294967295 tx)::blk pk tPk (Fpc x)::L):=H4;refine r_dr H4 λw5 S5 H5=>?_;refine r_nc (r_fo0 (r_ld 1 H5 rfl rfl ?_));refine r_fo0 (r_ld 0 H5 rfl rfl ?_);refine Zad (a:=tx.length) (b:=y.2) (by omega) ?_;refine r_nc (r_fo0 ?_);refine r_st 1 H5 rfl (by simp) rfl λw6 S6 H6=>?_;replace H6:Holds w6 (blk q tPc (Fpc y)::blk p tSp (spC (.slice oa l c) sm (tx.length+y.2) room pk)::SL bv tB (.slice oa l c) (body++pieceB y)::R3b.SumR sm (crcF 4294967295 tx)::blk pk tPk (Fpc x)::L):=H6;refine r_fo0 (r_ld 0 H6 rfl rfl ?_)
 refine Zdq (λj v w'=>∃ i,j=y.2 - i/\i<=y.2/\v=nv i/\Same w w'/\Holds w' (blk q tPc (Fpc y)::blk p tSp (spC (.slice oa l c) sm (tx.length+y.2) room pk)::SL bv tB (.slice oa l c) (body++pieceB y)::R3b.SumR sm (crcF 4294967295 (tx++List.replicate i y.1))::blk pk tPk (Fpc x)::L)) y.2
  ⟨0,rfl,Nat.zero_le _,rfl,S1.trans (S2.trans (S3.trans (S4.trans (S5.trans S6)))),by rw[List.replicate_zero,gU];exact H6⟩ ?_
 clear H H1 H2 H3 H4 H5 H6 S1 S2 S3 S4 S5 S6;rintro _ j _ w7 _ ⟨i,rfl,hi,rfl,S7,H7⟩ hgo;refine r_lss (r_ifD (λh=>?_) λh=>?_)
 ·refine r_dr H7 λw8 S8 H8=>?_;refine r_nc (r_fo0 (r_ld 1 H8 rfl rfl ?_));refine r_fo0 (r_ld 0 H8 rfl rfl ?_)
  have H9:Holds w8 (R3b.SumR sm (crcF 4294967295 (tx++List.replicate i y.1))::blk q tPc (Fpc y)::blk p tSp (spC (.slice oa l c) sm (tx.length+y.2) room pk)::SL bv tB (.slice oa l c) (body++pieceB y)::blk pk tPk (Fpc x)::L):=by
   have h_:=Holds.ord 5 [3,0,1,2,4] H8 rfl;exact h_
  refine R3b.Put_spec H9 λw9 S9 Ha=>?_
  have Hb:Holds w9 (blk q tPc (Fpc y)::blk p tSp (spC (.slice oa l c) sm (tx.length+y.2) room pk)::SL bv tB (.slice oa l c) (body++pieceB y)::R3b.SumR sm (crcB (crcF 4294967295 (tx++List.replicate i y.1)) y.1)::blk pk tPk (Fpc x)::L):=by
   have h_:=Holds.ord 5 [1,2,3,0,4] Ha rfl;exact h_
  refine Za0 (by omega) (r_ke (hgo (y.2 - (i+1)) _ _ (by omega) ⟨i+1,rfl,by omega,rfl,S7.trans (S8.trans S9),?_⟩));rw[List.replicate_succ',<-gI,Zun];exact Hb
 ·obtain rfl:i=y.2:=by omega
  refine k (.slice oa l c) _ S7 ?_
  have e:(tx++List.replicate y.2 y.1).length=tx.length+y.2:=by rw[gD,gP]
  show Holds w7 (blk p tSp (spC (.slice oa l c) sm (tx++List.replicate y.2 y.1).length room pk)::_);rw[e];exact H7.drop
theorem Zfu (H:Holds w (R3b.SumR sm (crcF 4294967295 tx)::L)) (k:K (uv (crcOf tx)) w):Cl prog 158 #[pt sm] w K:=by
 refine Tz158 ?_;unfold Vz158;obtain⟨hs,H⟩:=R3b.Zhc H;refine Zab (r_vf (r_nc (r_fo0 (r_ld 0 H rfl R3b.sm256 ?_))));exact Zy4 hs k
theorem Zlx (H:Holds w (R3b.SumR sm (crcF 4294967295 tx)::L)) (k:∀ w',Same w w'->Holds w' (R3b.SumR sm (crcF 4294967295 [])::L)->K (.tuple #[]) w'):Cl prog 159 #[pt sm] w K:=by
 refine Tz159 ?_;unfold Vz159;obtain⟨hs,H⟩:=R3b.Zhc H;refine Zca ?_;refine r_vt (r_nc (r_fo0 ?_));refine r_st 0 H rfl (by rw[R3b.smlen];decide) rfl λw1 S1 H1=>?_
 have H2:Holds w1 (blk sm R3b.tS (R3b.smC 4294967295)::L):=by
  have h_:=H1;rw[gJ] at h_;have e:=R3b.smset (s:=crcF 4294967295 tx) 4294967295;rw[<-e];exact h_
 exact k _ S1 (R3b.Zdy (by decide) H2)
end P20
namespace U22
open Go.M01 Go.Mb Go.Mp Go.M10 Go.Mz Go.M02 Go.M03 Rb
variable {w:World}{L:List HProp}{K:KT}{b r:Nat}{B:List UInt8}{d at_:Nat}
abbrev tUs:Nat:=148
theorem Zlt {a c:Nat}(ha:a < 4294967296) (hc:c < 4294967296) (k:K (uv (comb a c)) w):Cl prog 163 #[uv a,uv c] w K:=by
 refine Tz163 ?_;unfold Vz163;refine Zc8 (n:=1) (by omega) ?_;refine Zfq (n:=31) (by decide) ?_;have h31:a/2^31=a/2147483648:=rfl;rw[h31];refine Zgg (by omega) (by omega) ?_;have hx:(a*2^1%4294967296) ^^^ (a/2147483648) < 2^32:=Nat.xor_lt_two_pow (n:=32) (by omega) (by omega);refine Zgg hx hc ?_;exact k
end U22
end Go.Proofs.YtieneaffjelhhaaGreat
namespace Go.Vc
theorem Zxn {s t:Nat}{K:Value->Prop}(hs:s < 18446744073709551616) (ht:t < 18446744073709551616) (h:K (.int .u64 ((s &&& t:Nat):Int))):Bp .and (.int .u64 (s:Int)) (.int .u64 (t:Int)) K:=by
 refine⟨_,?_,h⟩;have hb:IntKind.u64.bits=64:=rfl;have hx:s &&& t<=s:=Nat.and_le_left;simp only[bp,if_true];rw[hb,BitVec.toNat_and,BitVec.toNat_ofInt,BitVec.toNat_ofInt]
 have e1:((s:Int)%((2^64:Nat):Int)).toNat=s:=by omega
 have e2:((t:Int)%((2^64:Nat):Int)).toNat=t:=by omega
 have hw:IntKind.u64.wrap ((s &&& t:Nat):Int)=((s &&& t:Nat):Int):=by
  show ((s &&& t:Nat):Int)%18446744073709551616=_;omega
 rw[e1,e2,hw]
end Go.Vc
namespace Go.Proofs.YtieneaffjelhhaaGreat
open Go Go.Vc Go.Proofs.Tryz
attribute [local irreducible] Vc.Nc Vc.Ld Vc.LdA Vc.St Vc.StA Vc.Fo Vc.Iaa Vc.Ias Vc.Ixs Vc.Ixa Vc.Fd Vc.FdA Vc.Bp Vc.Bb Vc.Bn Vc.Up Vc.Ci Vc.Lns Vc.Lnl Vc.Ex Vc.Sst Vc.Ssl Vc.New Vc.Vif Vc.VJoin Vc.VLoop Vc.KE Vc.Dr Vc.Rk Vc.Cl Vc.Cx Vc.Inv Vc.Be Vc.Cv Vc.Cw Vc.Mf Vc.Sl Vc.Lk Vc.Bd Vc.Bs Vc.Ms Vc.Mm Vc.Mu Vc.Me Vc.Es Vc.Rg Vc.Nx Vc.Ta Vc.Ap Vc.Usd Vc.Ust Vc.Cp Vc.Ln Vc.Bc Vc.Bmin Vc.Bmax Vc.Bdel Vc.Bclr Vc.Pk
namespace W2s
open Go.M01 Go.Mb Go.M02 Go.M03 Go.Qs T12 W14 W20 P20
variable {w:World}{L:List HProp}{K:KT}{b wb n tot:Nat}{bs:List Bool}
variable [T12.Bnds]
abbrev tSt:Nat:=142
abbrev stC (wb tot:Nat) (en:Bool):List Value:=[pt wb,uv tot,.bool en]
theorem New_spec {level:Nat}(H:Holds w L) (h1:1<=level/\level<=9) (k:∀ b wb w',Same w w'->Holds w' (blk b tSt (stC wb 0 false)::W01.WrR wb (headB level) 0::L)->K (.tuple #[pt b,iv 0]) w'):Cl prog 53 #[nv level] w K:=by
 refine Tz53 ?_;unfold Vz53;refine Za2 (λx w'=>w=w'/\x=.bool false) ?_ ?_
 rotate_left
 ·refine r_lss (r_vfD (by omega) ?_);refine r_gtr (r_ke ⟨rfl,?_⟩);rw[decide_eq_false (by omega)]
 rintro _ _ _ ⟨rfl,rfl⟩;refine r_vf ?_;refine W01.Ze7 H λwb w1 S1 H1=>?_;refine r_bd (v:=.agg (stC wb 0 false).toArray) (by kernel_rfl) ?_;refine r_new H1 λb w2 S2 H2=>?_;replace H2:Holds w2 (W01.WrR wb [] 0::blk b tSt (stC wb 0 false)::L):=H2.swap;refine Zdq (λj x w'=>∃ i,j=3 - i/\i<=3/\x=nv i/\Same w w'/\Holds w' (W01.WrR wb ((bitsL [66,90,104]).take (8*i)) 0::blk b tSt (stC wb 0 false)::L)) 3 ⟨0,rfl,by omega,rfl,S1.trans S2,H2⟩ ?_;clear H H1 H2 S1 S2;rintro _ j _ w3 _ ⟨i,rfl,hi,rfl,S3,H3⟩ hgo;refine r_lss (r_ifD (λh=>?_) λh=>?_)
 ·refine r_dr H3 λw4 S4 H4=>?_;refine r_nc (r_fo0 (r_ld 1 H4 rfl rfl ?_));refine q_ix (t:=[66,90,104]) (m:=i) (by simp;omega) ?_;refine Zav (by omega) (by have:=(([66,90,104]:List UInt8).getD i 0).toNat_lt;omega) ?_
  have h24:((bitsL [66,90,104]).take (8*i)).length=8*i:=by
   have:(bitsL [66,90,104]).length=24:=by decide
   rw[gN];omega
  refine W01.Put_spec (v:=(([66,90,104]:List UInt8).getD i 0).toNat) (n:=8) H4 (by rw[h24];omega) (by omega) (by omega) (by have:=(([66,90,104]:List UInt8).getD i 0).toNat_lt;omega) λw5 S5 H5=>?_;refine Za0 (by omega) (r_ke (hgo (3 - (i+1)) _ _ (by omega) ⟨i+1,rfl,by omega,rfl,S3.trans (S4.trans S5),?_⟩))
  have e:(bitsL [66,90,104]).take (8*(i+1))=(bitsL [66,90,104]).take (8*i)++bitsOf (([66,90,104]:List UInt8).getD i 0).toNat 8:=by
   rcases (show i=0\/i=1\/i=2 by omega) with rfl|rfl|rfl <;> decide
  rw[e];exact H5
 ·obtain rfl:i=3:=by omega
  refine r_nc (r_fo0 (r_ld 1 H3 rfl rfl ?_));refine r_add (by omega) (by omega) ?_;refine Zav (by omega) (by omega) ?_;rw[show (48:Int)+(level:Int)=((48+level:Nat):Int) by omega]
  have h24:((bitsL [66,90,104]).take (8*3)).length=24:=by decide
  refine W01.Put_spec (v:=48+level) (n:=8) H3 (by rw[h24];omega) (by omega) (by omega) (by omega) λw5 S5 H5=>?_;refine k b wb _ (S3.trans S5) ?_
  have e:(bitsL [66,90,104]).take (8*3)++bitsOf (48+level) 8=headB level:=by
   have:(bitsL [66,90,104]).take (8*3)=bitsOf 66 8++(bitsOf 90 8++bitsOf 104 8):=by decide
   rw[this];unfold headB;simp only[gI]
  rw[e] at H5;exact H5.swap
theorem magic_spec {m hi lo:Nat}{en:Bool}(hm:m=hi*16777216+lo) (hh:hi < 16777216) (hlo:lo < 16777216) (H:Holds w (blk b tSt (stC wb tot en)::W01.WrR wb bs n::L)) (hl:bs.length<=8000000000) (hn:n<=bs.length/8)
  (k:∀ w',Same w w'->Holds w' (blk b tSt (stC wb tot en)::W01.WrR wb (bs++bitsOf m 48) n::L)->K (.tuple #[]) w'):Cl prog 154 #[pt b,.int .u64 (m:Int)] w K:=by
 refine Tz154 ?_;unfold Vz154;refine r_nc (r_fo0 (r_ld 0 H rfl rfl ?_));refine Zfq (n:=24) (by decide) ?_;rw[show m/2^24=hi by omega];refine Zav (by omega) (by omega) ?_;refine W01.Put_spec (v:=hi) (n:=24) H.swap (by omega) hn (by omega) (by omega) λw1 S1 H1=>?_;refine r_nc (r_fo0 (r_ld 1 H1 rfl rfl ?_));refine Zxn (t:=16777215) (by omega) (by omega) ?_;rw[show m &&& 16777215=lo by rw[show 16777215=2^24 - 1 by decide,Nat.and_two_pow_sub_one_eq_mod];omega];refine Zav (by omega) (by omega) ?_;refine W01.Put_spec (v:=lo) (n:=24) H1 (by rw[gD,Za4];omega) (by rw[gD];omega) (by omega) (by omega) λw2 S2 H2=>?_;refine k _ (S1.trans S2) ?_
 have e:bs++bitsOf hi 24++bitsOf lo 24=bs++bitsOf m 48:=by
  rw[gI]
  congr 1
  refine Q21.Zr9 (by rw[gD,Za4,Za4]) ?_;rw[Q21.Zx7,Za4,Go.M10.valB_bitsOf _ _ (show hi < 2^24 by omega),Go.M10.valB_bitsOf _ _ (show lo < 2^24 by omega)];omega
 rw[e] at H2;exact H2.swap
theorem Turned_spec {s:List UInt8}{origin sum:Nat}(H:Holds w (blk b tSt (stC wb tot false)::W01.WrR wb bs n::L)) (hb:BndOk L) (h0:s≠[]) (hl:s.length<=900000) (ho:origin < s.length) (hs:sum < 4294967296) (ht:tot < 4294967296) (hbl:bs.length<=7000000000) (hn:n<=bs.length/8)
  (k:∀ picks ts w',Cho (W20.rowOf s) ((symsOf s).length+2) picks ts->Same w w'->Holds w' (blk b tSt (stC wb (comb tot sum) false)::W01.WrR wb (bs++(magW++blockBits s origin sum picks ts)) n::L)->K (iv 0) w'):Cl prog 152 #[pt b,S_ s,nv origin,uv sum] w K:=by
 refine Tz152 ?_;unfold Vz152;refine Za2 (λx w'=>w=w'/\x=.bool false) ?_ ?_
 rotate_left
 ·exact Zab (r_vf (r_nc (r_fo0 (r_ld 0 H rfl rfl (r_ke ⟨rfl,rfl⟩)))))
 rintro _ _ _ ⟨rfl,rfl⟩;refine r_vf ?_;refine Za2 (λx w'=>w=w'/\x=.bool false) ?_ ?_
 rotate_left
 ·refine q_len (r_gtr (r_vfD (by omega) ?_));refine r_lss (r_vfD (by omega) ?_);refine q_len (r_geq (r_ke ⟨rfl,?_⟩));rw[decide_eq_false (by omega)]
 rintro _ _ _ ⟨rfl,rfl⟩;refine r_vf ?_;refine magic_spec (m:=54156738319193) (hi:=3227993) (lo:=2511705) (by decide) (by decide) (by decide) H (by omega) hn λw1 S1 H1=>?_;refine r_nc (r_fo0 (r_ld 0 H1 rfl rfl ?_));refine U22.Zlt ht hs ?_;refine r_nc (r_fo0 ?_);refine r_st 0 H1 rfl (by simp) rfl λw2 S2 H2=>?_;replace H2:Holds w2 (blk b tSt (stC wb (comb tot sum) false)::W01.WrR wb (bs++bitsOf 54156738319193 48) n::L):=H2;refine r_nc (r_fo0 (r_ld 0 H2 rfl rfl ?_));refine W20.Turned_spec (L:=blk b tSt (stC wb (comb tot sum) false)::L) H2.swap hb.up h0 hl ho hs (by rw[gD,Za4];omega) (by rw[gD];omega) λpicks ts w3 hC S3 H3=>?_;refine k picks ts _ hC (S1.trans (S2.trans S3)) ?_;rw[gI] at H3;exact H3.swap
theorem End_spec (H:Holds w (blk b tSt (stC wb tot false)::W01.WrR wb bs n::L)) (ht:tot < 4294967296) (hbl:bs.length<=7000000000) (hn:n<=bs.length/8)
  (k:∀ w',Same w w'->Holds w' (blk b tSt (stC wb tot true)::W01.WrR wb (padB (bs++(endW++bitsOf tot 32))) n::L)->K (iv 0) w'):Cl prog 141 #[pt b] w K:=by
 refine Tz141 ?_;unfold Vz141;refine Za2 (λx w'=>w=w'/\x=.bool false) ?_ ?_
 rotate_left
 ·exact Zab (r_vf (r_nc (r_fo0 (r_ld 0 H rfl rfl (r_ke ⟨rfl,rfl⟩)))))
 rintro _ _ _ ⟨rfl,rfl⟩;refine r_vf ?_;refine magic_spec (m:=25779555029136) (hi:=1536581) (lo:=3690640) (by decide) (by decide) (by decide) H (by omega) hn λw1 S1 H1=>?_;refine r_dr H1 λw2 S2 H2=>?_;refine r_nc (r_fo0 (r_ld 0 H2 rfl rfl ?_));refine r_nc (r_fo0 (r_ld 0 H2 rfl rfl ?_));refine W01.Put_spec (v:=tot) (n:=32) H2.swap (by rw[gD,Za4];omega) (by rw[gD];omega) (by omega) (by omega) λw3 S3 H3=>?_;refine r_nc (r_fo0 (r_ld 1 H3 rfl rfl ?_));refine W20.Zvg H3 (by simp only[gD,Za4];omega) (by simp only[gD];omega) λw4 S4 H4=>?_;refine r_nc (r_fo0 ?_);refine r_st 1 H4 rfl (by simp) rfl λw5 S5 H5=>?_;replace H5:Holds w5 (W01.WrR wb (padB (bs++bitsOf 25779555029136 48++bitsOf tot 32)) n::blk b tSt (stC wb tot true)::L):=H5;refine k _ (S1.trans (S2.trans (S3.trans (S4.trans S5)))) ?_;rw[gI] at H5;exact H5.swap
theorem Take_spec {en:Bool}(H:Holds w (blk b tSt (stC wb tot en)::W01.WrR wb bs n::L)) (k:∀ w',Same w w'->Holds w' (blk b tSt (stC wb tot en)::W01.WrR wb bs (bs.length/8)::L)->K (S_ ((wholeB bs).drop n)) w'):Cl prog 54 #[pt b] w K:=by
 refine Tz54 ?_;unfold Vz54;refine Zab (r_vf (r_nc (r_fo0 (r_ld 0 H rfl rfl ?_))));refine W01.Take_spec H.swap λw1 S1 H1=>?_;exact k _ S1 H1.swap
end W2s
end Go.Proofs.YtieneaffjelhhaaGreat
namespace Go.Proofs.YtieneaffjelhhaaGreat
open Go Go.Vc Go.Proofs.Tryz
namespace P20
theorem x105:Builder.Extra prog Tryz.lays105_ren:={
 sizeBuilder:=by kernel_rfl
 liesBuilder:=by kernel_rfl
 t5:=Tryz.lays105.t5
 a5:=Tryz.lays105.a5
 z5:=Tryz.lays105.z5
 v5:=Tryz.lays105.v5
 infoByte:=by kernel_rfl
 cellsByte:=by kernel_rfl
 sizeByte:=by kernel_rfl
 neB5:=by decide }
theorem rep1 (c:UInt8):∀ n,Lib.repeatL [c] n=List.replicate n c
 |0=>rfl
 |n+1=>by
  show[c]++Lib.repeatL [c] n=_;rw[rep1 c n];rfl
theorem Zut:RepC:=by
 intro w L K c n H hn k;have h:=Any.strings_Repeat Tryz.lays105 x105 ⟨#[c]⟩ n w (by omega) (by show 1*n<=_;omega);rw[show Tryz.lays105_ren.f 105=198 from by kernel_rfl] at h;refine⟨Tryz.call198 _ _,h.mono λe w' ⟨he,hb⟩=>⟨_,he,?_⟩⟩;have e:Lib.repeatL (ByteArray.mk #[c]).data.toList n=List.replicate n c:=rep1 c n;rw[e]
 exact k w' ⟨hb.os,hb.tape,hb.output,hb.size⟩ (Sat.mono H λc o hc=>by
  show w'.heap[c]?=some o;have hc':w.heap[c]?=some o:=hc
  rw[hb.block c (Array.getElem?_eq_some_iff.1 hc').1,hc'])
end P20
end Go.Proofs.YtieneaffjelhhaaGreat
namespace Go.Proofs.YtieneaffjelhhaaGreat
open Go Go.Vc Go.Proofs.Tryz
section
variable {w:World}{L:List HProp}{K:KT}
end
attribute [local irreducible] Vc.Nc Vc.Ld Vc.LdA Vc.St Vc.StA Vc.Fo Vc.Iaa Vc.Ias Vc.Ixs Vc.Ixa Vc.Fd Vc.FdA Vc.Bp Vc.Bb Vc.Bn Vc.Up Vc.Ci Vc.Lns Vc.Lnl Vc.Ex Vc.Sst Vc.Ssl Vc.New Vc.Vif Vc.VJoin Vc.VLoop Vc.KE Vc.Dr Vc.Rk Vc.Cl Vc.Cx Vc.Inv Vc.Be Vc.Cv Vc.Cw Vc.Mf Vc.Sl Vc.Lk Vc.Bd Vc.Bs Vc.Ms Vc.Mm Vc.Mu Vc.Me Vc.Es Vc.Rg Vc.Nx Vc.Ta Vc.Ap Vc.Usd Vc.Ust Vc.Cp Vc.Ln Vc.Bc Vc.Bmin Vc.Bmax Vc.Bdel Vc.Bclr Vc.Pk
namespace P20
open Go.M01 Go.Mb Go.Me Go.M02 Go.M03
variable {w:World}{L:List HProp}{K:KT}{p sm pk room:Nat}{body tx s:List UInt8}{bd:Value}{x:UInt8 × Nat}
abbrev tSb:Nat:=209
def Fsb (x:Bl):List Value:=[S_ x.1,uv (crcOf x.2),nv x.2.length]
theorem Zbf:(zeroP prog tSb).cells.toList=[S_ [],uv 0,iv 0]:=by kernel_rfl
abbrev Zsb:List Value:=[S_ [],uv 0,iv 0]
theorem Zo3:∀ y:Bl,∀ u∈Fsb y,sg u=true:=by
 intro y u hu;simp only[Fsb,mem_cons,List.not_mem_nil,or_false] at hu
 rcases hu with rfl|rfl|rfl <;> rfl
instance rowSb:RowN prog 106 tSb 3:=⟨by kernel_rfl,⟨t209,.agg #[S_ [],uv 0,iv 0],by kernel_rfl,by kernel_rfl,by decide,by kernel_rfl,by kernel_rfl⟩⟩
theorem Zma (H:Holds w (SpL p bd sm pk room [] tx x L)) (k:∀ w',Same w w'->Holds w' (SpL p bd sm pk room [] tx x L)->K (.tuple #[.agg Zsb.toArray,.bool false]) w'):Cl prog 145 #[pt p] w K:=by
 refine Tz145 ?_;unfold Vz145;refine r_new H λq w1 S1 H1=>?_;rw[Zbf] at H1;refine r_nc (r_fo0 (r_ld 1 H1 rfl rfl ?_));refine r_lnS 2 H1 rfl ?_;refine r_eql (r_vtE rfl ?_);refine r_bd (v:=.agg Zsb.toArray) (by kernel_rfl) ?_;refine r_stA 0 H1 (vs:=Zsb) rfl (Nat.le_refl 3) rfl rfl λw2 S2 H2=>?_;replace H2:Holds w2 (blk q tSb Zsb::SpL p bd sm pk room [] tx x L):=H2;refine r_ldA 0 H2 Zsb rfl rfl rfl ?_;exact k _ (S1.trans S2) H2.drop
theorem Zgv (h0:body≠[]) (H:Holds w (SpL p bd sm pk room body tx x L)) (k:∀ w',Same w w'->Holds w' (SpL p (.slice none 0 0) sm pk room [] [] x L)->K (.tuple #[.agg (Fsb (body,tx)).toArray,.bool true]) w'):Cl prog 145 #[pt p] w K:=by
 refine Tz145 ?_;unfold Vz145;have hp:0 < body.length:=gZ.2 h0;obtain⟨oa,sp,rfl,H⟩:=H.open 1 rfl;replace H:Holds w (blk p tSp (spC (.slice oa body.length (body.length+sp.length)) sm tx.length room pk)::slb bv tB oa body sp::R3b.SumR sm (crcF 4294967295 tx)::blk pk tPk (Fpc x)::L):=H;generalize hbd:Value.slice oa body.length (body.length+sp.length)=bd at *;refine r_new H λq w1 S1 H1=>?_;rw[Zbf] at H1;refine r_nc (r_fo0 (r_ld 1 H1 rfl rfl ?_));rw[<-hbd];refine r_lnl (r_eql (r_vfE (by omega) ?_));refine Za2 (λv w'=>∃ nb,v=pt nb/\Same w w'/\Holds w' (blk nb tSb (Fsb (body,tx))::blk q tSb Zsb::blk p tSp (spC bd sm tx.length room pk)::slb bv tB oa body sp::R3b.SumR sm (crcF 4294967295 tx)::blk pk tPk (Fpc x)::L)) ?_ ?_
 rotate_left
 ·refine r_dr H1 λw2 S2 H2=>?_;refine r_nc (r_fo0 (r_ld 1 H2 rfl rfl ?_))
  have cv:∀ {wz:World} {i:Nat} {Lz:List HProp} {Kz:Value->Prop},Holds wz Lz->Lz[i]?=some (slb bv tB oa body sp)->Kz (S_ body)->Cv prog 84 9 bd wz Kz:=by
   intro wz i Lz Kz Hz hz kz;rw[<-hbd];exact B20.r_cvb Hz i hz rfl kz
  refine cv (i:=2) H2 rfl ?_;refine r_nc (r_fo0 (r_ld 1 H2 rfl rfl ?_));refine r_nc (r_fo0 (r_ld 1 H2 rfl rfl ?_));refine⟨?_,?_⟩
  ·refine Zfu (tx:=tx) (by have h_:=Holds.ord 4 [3,0,1,2] H2 rfl;exact h_) ?_;refine r_rk (r_ld 1 H2 rfl rfl rfl) ?_;refine r_rk (cv (i:=2) H2 rfl rfl) ?_;refine r_rk (r_ld 1 H2 rfl rfl rfl) ?_;refine r_bd (v:=.agg (Fsb (body,tx)).toArray) (by kernel_rfl) ?_;refine r_new H2 λob w3 S3 H3=>?_;rw[Zbf] at H3;refine r_rk (r_bd (v:=.agg (Fsb (body,tx)).toArray) (by kernel_rfl) rfl) ?_;refine r_rk (r_ld 2 H3 rfl rfl rfl) ?_;refine r_rk (r_ld 2 H3 rfl rfl rfl) ?_;refine r_rk (cv (i:=3) H3 rfl rfl) ?_;refine r_rk (r_ld 2 H3 rfl rfl rfl) ?_;refine r_stA 0 H3 (vs:=Fsb (body,tx)) rfl (Nat.le_refl 3) rfl rfl λw4 S4 H4=>?_;exact r_ke ⟨ob,rfl,S1.trans (S2.trans (S3.trans S4)),H4⟩
  ·refine r_new H2 λob w3 S3 H3=>?_;rw[Zbf] at H3;refine r_rk (r_ld 2 H3 rfl rfl rfl) ?_;refine r_rk (r_ld 2 H3 rfl rfl rfl) ?_;refine r_rk (cv (i:=3) H3 rfl rfl) ?_;refine r_rk (r_ld 2 H3 rfl rfl rfl) ?_;refine Zfu (tx:=tx) (by have h_:=Holds.ord 5 [4,0,1,2,3] H3 rfl;exact h_) ?_;refine r_rk (r_ld 2 H3 rfl rfl rfl) ?_;refine r_rk (cv (i:=3) H3 rfl rfl) ?_;refine r_rk (r_ld 2 H3 rfl rfl rfl) ?_;refine r_bd (v:=.agg (Fsb (body,tx)).toArray) (by kernel_rfl) ?_;refine r_stA 0 H3 (vs:=Fsb (body,tx)) rfl (Nat.le_refl 3) rfl rfl λw4 S4 H4=>?_;exact r_ke ⟨ob,rfl,S1.trans (S2.trans (S3.trans S4)),H4⟩
 clear H H1 S1;rintro _ _ w2 ⟨nb,rfl,S2,H2⟩;refine r_nc (r_fo0 ?_);refine r_st 2 H2 rfl (by simp) rfl λw3 S3 H3=>?_;replace H3:Holds w3 (blk nb tSb (Fsb (body,tx))::blk q tSb Zsb::blk p tSp (spC (.slice none 0 0) sm tx.length room pk)::slb bv tB oa body sp::R3b.SumR sm (crcF 4294967295 tx)::blk pk tPk (Fpc x)::L):=H3;refine r_nc (r_fo0 ?_);refine r_st 2 H3 rfl (by simp) rfl λw4 S4 H4=>?_;replace H4:Holds w4 (blk nb tSb (Fsb (body,tx))::blk q tSb Zsb::blk p tSp (spC (.slice none 0 0) sm 0 room pk)::slb bv tB oa body sp::R3b.SumR sm (crcF 4294967295 tx)::blk pk tPk (Fpc x)::L):=H4;refine r_nc (r_fo0 (r_ld 2 H4 rfl rfl ?_));refine Zlx (tx:=tx) (by have h_:=Holds.ord 5 [4,0,1,2] H4 rfl;exact h_) λw5 S5 H5=>?_;replace H5:Holds w5 (R3b.SumR sm (crcF 4294967295 [])::blk nb tSb (Fsb (body,tx))::blk q tSb Zsb::blk p tSp (spC (.slice none 0 0) sm 0 room pk)::blk pk tPk (Fpc x)::L):=H5;refine r_ldA 1 H5 (Fsb (body,tx)) rfl rfl rfl ?_;refine r_stA 2 H5 (vs:=Fsb (body,tx)) rfl (Nat.le_refl 3) rfl rfl λw6 S6 H6=>?_;replace H6:Holds w6 (R3b.SumR sm (crcF 4294967295 [])::blk nb tSb (Fsb (body,tx))::blk q tSb (Fsb (body,tx))::blk p tSp (spC (.slice none 0 0) sm 0 room pk)::blk pk tPk (Fpc x)::L):=H6;refine r_ldA 2 H6 (Fsb (body,tx)) rfl rfl rfl ?_;refine k _ (S2.trans (S3.trans (S4.trans (S5.trans S6)))) ?_;have h_:=Holds.ord 6 [4,0,1,5] (H6.nilSL bv tB) rfl;exact h_
theorem Zi5 (hR:RepC){y:UInt8 × Nat}(H:Holds w (SpL p bd sm pk room body tx x L)) (hy:1<=y.2/\y.2<=255) (hb:body.length<=1000000) (ht:tx.length<=1000000) (h5:5<=room)
  (k1:body.length+(pieceB y).length<=room->∀ bd' w',Same w w'->Holds w' (SpL p bd' sm pk room (body++pieceB y) (tx++List.replicate y.2 y.1) x L)->K (.tuple #[.agg Zsb.toArray,.bool false]) w')
  (k2:room < body.length+(pieceB y).length->∀ bd' w',Same w w'->Holds w' (SpL p bd' sm pk room (pieceB y) (List.replicate y.2 y.1) x L)->K (.tuple #[.agg (Fsb (body,tx)).toArray,.bool true]) w') :
  Cl prog 144 #[pt p,.agg (Fpc y).toArray,nv (pieceB y).length] w K:=by
 refine Tz144 ?_;unfold Vz144;have hp:=(Zdk y).2;refine r_new H λxb w1 S1 H1=>?_;replace H1:Holds w1 (blk xb tPc (Fpc y)::SpL p bd sm pk room body tx x L):=H1;refine r_new H1 λx2 w2 S2 H2=>?_;rw[Zbf] at H2;refine r_new H2 λo3 w3 S3 H3=>?_;rw[Zbf] at H3;have S:=S1.trans (S2.trans S3);clear S1 S2 S3 H H1 H2
 refine Za2 (λv w'=>∃ (v0 v1 v2:Value) (c:Bool) (bd':Value) (body' tx':List UInt8),v=.bool c/\[v0,v1,v2].all sg=true/\body'.length<=1000000/\tx'.length<=1000000/\Same w w'/\Holds w' (blk o3 tSb [v0,v1,v2]::blk x2 tSb Zsb::blk xb tPc (Fpc y)::SpL p bd' sm pk room body' tx' x L)/\
   (∀ bd'' w'',Same w w''->Holds w'' (SpL p bd'' sm pk room (body'++pieceB y) (tx'++List.replicate y.2 y.1) x L)->K (.tuple #[.agg #[v0,v1,v2],.bool c]) w'')) ?_ ?_
 rotate_left
 ·refine r_dr H3 λw4 S4 H4=>?_;refine r_nc (r_fo0 (r_fo0 (r_ld 3 H4 rfl rfl ?_)));refine r_lnS 4 H4 rfl ?_;refine Zad (a:=body.length) (b:=(pieceB y).length) (by omega) ?_;refine r_nc (r_fo0 (r_ld 3 H4 rfl rfl ?_));refine r_gtr (r_ifD (λhc=>?_) λhc=>?_)
  ·have hne:body≠[]:=λe=>by rw[e] at hc;simp at hc;omega
   refine r_nc (r_fo0 ?_);refine Zgv hne (by have h_:=Holds.ord 7 [3,4,5,6,0,1,2] H4 rfl;exact h_) λw5 S5 H5=>?_;replace H5:Holds w5 (SpL p (.slice none 0 0) sm pk room [] [] x (blk o3 tSb Zsb::blk x2 tSb Zsb::blk xb tPc (Fpc y)::L)):=H5;refine Za8 (Za9 ?_);refine r_stA 4 H5 (vs:=Fsb (body,tx)) rfl (Nat.le_refl 3) rfl rfl λw6 S6 H6=>?_;have H7:=Holds.ord 7 [4,5,6,0,1,2,3] H6 rfl;refine r_ke ⟨S_ body,uv (crcOf tx),nv tx.length,true,.slice none 0 0,[],[],rfl,rfl,Nat.zero_le _,Nat.zero_le _,S.trans (S4.trans (S5.trans S6)),H7,λbd'' w'' S'' H''=>k2 (by omega) bd'' w'' S'' ?_⟩;rw[hO_,hO_] at H'';exact H''
  ·exact r_ke ⟨S_ [],uv 0,iv 0,false,bd,body,tx,rfl,rfl,hb,ht,S.trans S4,H4,λbd'' w'' S'' H''=>k1 (by omega) bd'' w'' S'' H''⟩
 clear H3 S k1 k2 hb ht;rintro _ _ w4 ⟨v0,v1,v2,c,bd',body',tx',rfl,hsg,hb,ht,S4,H4,k⟩;refine r_dr H4 λw5 S5 H5=>?_;refine r_nc (r_fo0 ?_);refine r_ldA 2 H5 (Fpc y) rfl rfl rfl ?_;refine Zmm hR (by have h_:=Holds.ord 7 [3,4,5,6,0,1,2] H5 rfl;exact h_) hy hb ht λbd'' w6 S6 H6=>?_;replace H6:Holds w6 (SpL p bd'' sm pk room (body'++pieceB y) (tx'++List.replicate y.2 y.1) x (blk o3 tSb [v0,v1,v2]::blk x2 tSb Zsb::blk xb tPc (Fpc y)::L)):=H6;refine r_ldA 4 H6 [v0,v1,v2] rfl rfl rfl ?_;refine r_stA 5 H6 (vs:=[v0,v1,v2]) rfl (Nat.le_refl 3) rfl hsg λw7 S7 H7=>?_;refine r_ldA 5 H7 [v0,v1,v2] rfl rfl rfl ?_;exact k bd'' w7 (S4.trans (S5.trans (S6.trans S7))) (Holds.dropAt (Holds.dropAt (Holds.dropAt H7 4) 4) 4)
def nxR (x:UInt8 × Nat) (d:UInt8):UInt8 × Nat:=if 0 < x.2/\x.1≠d then (d,1) else if x.2+1=255 then (0,0) else (d,x.2+1)
def toldR (x:UInt8 × Nat) (d:UInt8):List UInt8:=if 0 < x.2/\x.1≠d then pieceB x else if x.2+1=255 then pieceB (d,255) else []
theorem Zex {x:UInt8 × Nat}(h:0 < x.2):1<=(pieceB x).length:=by
 unfold pieceB;rw[gD,gP];omega
theorem Zrb (hR:RepC){b:Nat}{x:UInt8 × Nat}{d:UInt8}(H:Holds w (blk b tPk (Fpc x)::L)) (h:x.2<=254)
  (k:∀ w',Same w w'->Holds w' (blk b tPk (Fpc (nxR x d))::L)->K (S_ (toldR x d)) w'):Cl prog 165 #[pt b,bv d] w K:=by
 refine Tz165 ?_;unfold Vz165;refine Zab (r_vf ?_);refine Za2 (λt w'=>∃ y:UInt8 × Nat,y.2<=254/\t=S_ (if 0 < x.2/\x.1≠d then pieceB x else [])/\(if 0 < x.2/\x.1≠d then y.2=0 else y.2=x.2)/\Same w w'/\Holds w' (blk b tPk (Fpc y)::L)) ?_ ?_
 rotate_left
 ·refine Za2 (λt w'=>w=w'/\t=.bool (decide (0 < x.2/\x.1≠d))) ?_ ?_
  rotate_left
  ·refine r_nc (r_fo0 (r_fo0 (r_ld 0 H rfl rfl ?_)));refine r_gtr (r_ifD (λh1=>?_) λh1=>r_ke ⟨rfl,by rw[decide_eq_false (by omega)]⟩);refine r_nc (r_fo0 (r_fo0 (r_ld 0 H rfl rfl ?_)));refine r_neq (r_ke ⟨rfl,congrArg Value.bool ?_⟩);rw[Bool.eq_iff_iff,decide_eq_true_iff];simp only[bne_iff_ne,ne_eq]
   constructor
   ·intro e;exact⟨by omega,λe2=>e (by rw[e2])⟩
   ·rintro⟨_,e⟩ e2;exact e (UInt8.toNat_inj.1 (by omega))
  rintro _ _ _ ⟨rfl,rfl⟩;refine r_ifD (λh1=>?_) λh1=>?_
  ·refine Zdn hR H ⟨h1.1,by omega⟩ λw1 S1 H1=>?_;exact r_ke ⟨(0,0),by decide,by rw[if_pos h1],by rw[if_pos h1],S1,H1⟩
  ·exact r_ke ⟨x,h,by rw[if_neg h1],by rw[if_neg h1],.refl _,H⟩
 rintro _ _ w1 ⟨y,hy,rfl,hz,S1,H1⟩;refine r_nc (r_fo0 (r_fo0 ?_));refine r_st 0 H1 rfl (by simp[Fpc]) rfl λw2 S2 H2=>?_;replace H2:Holds w2 (blk b tPk (Fpc (d,y.2))::L):=H2;refine r_nc (r_fo0 (r_fo0 (r_ld 0 H2 rfl rfl ?_)));refine Za0 (by omega) ?_;refine r_nc (r_fo0 (r_fo0 ?_));refine r_st 0 H2 rfl (by simp[Fpc]) rfl λw3 S3 H3=>?_;replace H3:Holds w3 (blk b tPk (Fpc (d,y.2+1))::L):=H3;refine r_nc (r_fo0 (r_fo0 (r_ld 0 H3 rfl rfl ?_)))
 by_cases hc:0 < x.2/\x.1≠d
 ·rw[if_pos hc] at hz ⊢;refine r_eql (r_vfE (by omega) ?_)
  have e1:toldR x d=pieceB x:=by unfold toldR;rw[if_pos hc]
  have e2:nxR x d=(d,y.2+1):=by unfold nxR;rw[if_pos hc,hz]
  rw[<-e1];rw[<-e2] at H3;exact k _ (S1.trans (S2.trans S3)) H3
 ·rw[if_neg hc] at hz ⊢;refine r_eql (r_ifE (λh1=>?_) λh1=>?_)
  ·have h2:x.2+1=255:=by omega
   have e1:toldR x d=pieceB (d,255):=by unfold toldR;rw[if_neg hc,if_pos h2]
   have e2:nxR x d=(0,0):=by unfold nxR;rw[if_neg hc,if_pos h2]
   rw[show y.2+1=255 by omega] at H3;refine Zdn hR H3 ⟨by show 1<=255;decide,by show 255<=255;decide⟩ λw4 S4 H4=>?_;refine Zgn (xs:=[]) (by have:=(Zdk (d,255)).2;rw[length_nil];omega) ?_;rw[hO_,<-e1];rw[<-e2] at H4;exact k _ (S1.trans (S2.trans (S3.trans S4))) H4
  ·have h2:¬ x.2+1=255:=by omega
   have e1:toldR x d=[]:=by unfold toldR;rw[if_neg hc,if_neg h2]
   have e2:nxR x d=(d,y.2+1):=by unfold nxR;rw[if_neg hc,if_neg h2,hz]
   rw[<-e1];rw[<-e2] at H3;exact k _ (S1.trans (S2.trans S3)) H3
def SpC (room bl r k c:Nat):Prop:=∃ P,k*(room+1)+bl<=2*P/\4*P+5*r<=5*c
theorem SpC.more {room bl r k c pl r' c':Nat}(h:SpC room bl r k c) (hq:4*pl+5*r'+5*c<=5*r+5*c'):SpC room (bl+pl) r' k c':=by
 obtain⟨P,h1,h2⟩:=h;exact⟨P+pl,by omega,by omega⟩
theorem SpC.shut {room bl r k c pl r' c':Nat}(h:SpC room bl r k c) (hq:4*pl+5*r'+5*c<=5*r+5*c') (hf:room < bl+pl):SpC room pl r' (k+1) c':=by
 obtain⟨P,h1,h2⟩:=h;refine⟨P+pl,?_,by omega⟩;rw[Nat.add_mul,Nat.one_mul];omega
theorem piece4 {y:UInt8 × Nat}(h:1<=y.2):4*(pieceB y).length<=5*y.2:=by
 unfold pieceB;rw[gD,gP];split
 ·rw[gQ];omega
 ·rw[length_nil];omega
def SpOk (room:Nat) (body tx:List UInt8) (x:UInt8 × Nat) (k c:Nat):Prop:=body.length<=room/\tx.length<=255*body.length/\x.2<=254/\SpC room body.length x.2 k c
def SpR (p room k c:Nat):HProp:=λh=>∃ bd sm pk body tx x,SpOk room body tx x k c/\Sat [blk p tSp (spC bd sm tx.length room pk),SL bv tB bd body,R3b.SumR sm (crcF 4294967295 tx),blk pk tPk (Fpc x)] h
theorem Zjq {kk c:Nat}(H:Holds w (SpR p room kk c::L)):∃ bd sm pk body tx x,SpOk room body tx x kk c/\Holds w (SpL p bd sm pk room body tx x L):=by
 obtain⟨bd,H⟩:=Holds.ex H;obtain⟨sm,H⟩:=Holds.ex H;obtain⟨pk,H⟩:=Holds.ex H;obtain⟨body,H⟩:=Holds.ex H;obtain⟨tx,H⟩:=Holds.ex H;obtain⟨x,H⟩:=Holds.ex H;obtain⟨h,H⟩:=Holds.pure H;exact⟨bd,sm,pk,body,tx,x,h,Holds.unpack H⟩
theorem Zce {kk c:Nat}(h:SpOk room body tx x kk c) (H:Holds w (SpL p bd sm pk room body tx x L)):Holds w (SpR p room kk c::L):=
 Holds.imp (Holds.pack (A:=[_,_,_,_]) H) λg hg=>⟨bd,sm,pk,body,tx,x,h,hg⟩
def BlOk (room:Nat) (b:Bl):Prop:=b.1≠[]/\b.1.length<=room
theorem Ycc {kk c:Nat}(H:Holds w (SpR p room kk c::L)):2*(kk*(room+1))<=5*c:=by
 obtain⟨bd,sm,pk,body,tx,x,ho,_⟩:=Zjq H;obtain⟨P,h1,h2⟩:=ho.2.2.2;omega
theorem Ziv (hR:RepC){d:UInt8}{kk c:Nat}(H:Holds w (SpR p room kk c::L)) (hr:5<=room/\room<=3000)
  (k1:∀ w',Same w w'->Holds w' (SpR p room kk (c+1)::L)->K (.tuple #[.agg Zsb.toArray,.bool false]) w')
  (k2:∀ b w',BlOk room b->Same w w'->Holds w' (SpR p room (kk+1) (c+1)::L)->K (.tuple #[.agg (Fsb b).toArray,.bool true]) w') :
  Cl prog 153 #[pt p,bv d] w K:=by
 refine Tz153 ?_;unfold Vz153;obtain⟨bd,sm,pk,body,tx,x,ho,H⟩:=Zjq H;obtain⟨ho1,ho2,ho3,ho4⟩:=ho;refine r_new H λq w1 S1 H1=>?_;rw[Zbf] at H1;refine Zab (r_vf (r_nc (r_fo0 (r_ld 1 H1 rfl rfl ?_))));refine Zi7 (by have h_:=Holds.ord 5 [4,0,1,2,3] H1 rfl;exact h_) λw2 S2 H2=>?_;refine r_new H2 λrb w3 S3 H3=>?_;rw[Znm] at H3;refine r_stA 0 H3 (vs:=Fpc x) rfl (Nat.le_refl 2) rfl rfl λw4 S4 H4=>?_;replace H4:Holds w4 (blk rb tPc (Fpc x)::blk pk tPk (Fpc x)::blk q tSb Zsb::blk p tSp (spC bd sm tx.length room pk)::SL bv tB bd body::R3b.SumR sm (crcF 4294967295 tx)::L):=H4;refine r_nc (r_fo0 (r_ld 3 H4 rfl rfl ?_));refine Zrb hR (by have h_:=Holds.ord 2 [1,0] H4 rfl;exact h_) ho3 λw5 S5 H5=>?_;have S:=S1.trans (S2.trans (S3.trans (S4.trans S5)));clear S1 S2 S3 S4 S5 H H1 H2 H3 H4
 have hnx:(nxR x d).2<=254:=by
  unfold nxR;split
  ·show 1<=254;decide
  ·split
   ·decide
   ·show x.2+1<=254;omega
 have go:∀ (y:UInt8 × Nat) (w6:World),1<=y.2->y.2<=255->4*(pieceB y).length+5*(nxR x d).2+5*c<=5*x.2+5*(c+1)->toldR x d=pieceB y->Same w w6->Holds w6 (blk rb tPc (Fpc y)::blk pk tPk (Fpc (nxR x d))::blk q tSb Zsb::blk p tSp (spC bd sm tx.length room pk)::SL bv tB bd body::R3b.SumR sm (crcF 4294967295 tx)::L)->
   LdA 2 (pt rb) w6 λx_15=>Lns (S_ (toldR x d)) λx_16=>Cl prog 144 #[pt p,x_15,x_16] w6 λx_17 w9=>Ex x_17 0 λx_18=>Ex x_17 1 λx_19=>StA 3 (pt q) x_18 w9 λw10=>LdA 3 (pt q) w10 λx_20=>K (.tuple #[x_20,x_19]) w10:=by
  intro y w6 hy1 hy2 hq4 hty S6 H6;refine r_ldA 0 H6 (Fpc y) rfl rfl rfl ?_;rw[hty];refine q_len ?_
  have H7:Holds w6 (SpL p bd sm pk room body tx (nxR x d) (blk rb tPc (Fpc y)::blk q tSb Zsb::L)):=by
   have h_:=Holds.ord 6 [3,4,5,1,0,2] H6 rfl;exact h_
  have hpp:=Zex hy1;have hp5:=(Zdk y).2;refine Zi5 hR H7 ⟨hy1,hy2⟩ (by omega) (by omega) hr.1 (λhf bd' w7 S7 H8=>?_) λhf bd' w7 S7 H8=>?_
  ·refine Za8 (Za9 ?_);refine r_stA 5 H8 (vs:=Zsb) rfl (Nat.le_refl 3) rfl rfl λw8 S8 H9=>?_;refine r_ldA 5 H9 Zsb rfl rfl rfl ?_;refine k1 w8 (S6.trans (S7.trans S8)) (Zce (x:=nxR x d) ⟨by simp only[gD];omega,by simp only[gD,gP];omega,hnx,by rw[gD];exact ho4.more hq4⟩ (Holds.dropAt (Holds.dropAt H9 4) 4))
  ·refine Za8 (Za9 ?_);refine r_stA 5 H8 (vs:=Fsb (body,tx)) rfl (Nat.le_refl 3) rfl rfl λw8 S8 H9=>?_;refine r_ldA 5 H9 (Fsb (body,tx)) rfl rfl rfl ?_
   have hbne:body≠[]:=λe=>by rw[e,length_nil] at hf;omega
   refine k2 (body,tx) w8 ⟨hbne,ho1⟩ (S6.trans (S7.trans S8)) (Zce (x:=nxR x d) ⟨by omega,by rw[gP];omega,hnx,ho4.shut hq4 hf⟩ (Holds.dropAt (Holds.dropAt H9 4) 4))
 by_cases hc:0 < x.2/\x.1≠d
 ·have e1:toldR x d=pieceB x:=by unfold toldR;rw[if_pos hc]
  have hpp:=Zex hc.1;refine Zm7 (r_vfD (by show ¬ (toldR x d).toArray.size=0;rw[e1,List.size_toArray];omega) ?_);refine Zbh (λw'=>w5=w') ?_ ?_
  rotate_left
  ·refine r_fo0 (r_ld 1 H5 rfl rfl ?_);refine r_eql (r_vfE (λe=>hc.2 (UInt8.toNat_inj.1 (by omega))) (r_ke rfl))
  rintro _ _ rfl;exact go x w5 hc.1 (by omega) (by have:=piece4 hc.1;unfold nxR;rw[if_pos hc];show 4*(pieceB x).length+5*1+5*c<=5*x.2+5*(c+1);omega) e1 S (by have h_:=Holds.ord 2 [1,0] H5 rfl;exact h_)
 ·by_cases h2:x.2+1=255
  ·have e1:toldR x d=pieceB (d,255):=by unfold toldR;rw[if_neg hc,if_pos h2]
   have hd:x.1=d:=Classical.byContradiction λe=>hc ⟨by omega,e⟩;have hpp:=Zex (x:=(d,255)) (by show 0 < 255;decide);refine Zm7 (r_vfD (by show ¬ (toldR x d).toArray.size=0;rw[e1,List.size_toArray];omega) ?_);refine Zbh (λw'=>Same w w'/\Holds w' (blk rb tPc (Fpc (d,255))::blk pk tPk (Fpc (nxR x d))::blk q tSb Zsb::blk p tSp (spC bd sm tx.length room pk)::SL bv tB bd body::R3b.SumR sm (crcF 4294967295 tx)::L)) ?_ ?_
   rotate_left
   ·refine r_fo0 (r_ld 1 H5 rfl rfl ?_);refine r_eql (r_vtE (by rw[hd]) ?_);refine r_fo0 (r_ld 1 H5 rfl rfl (Za0 (by omega) (r_fo0 (r_st 1 H5 rfl (by show 1 < 2;decide) rfl λw6 S6 H6=>?_))));refine r_ke ⟨S.trans S6,?_⟩;have h_:=Holds.ord 2 [1,0] H6 rfl
    have e3:[bv x.1,nv (x.2+1)]=Fpc (d,255):=by rw[hd,h2];rfl
    have h3:Holds w6 (blk rb tPc [bv x.1,nv (x.2+1)]::blk pk tPk (Fpc (nxR x d))::blk q tSb Zsb::blk p tSp (spC bd sm tx.length room pk)::SL bv tB bd body::R3b.SumR sm (crcF 4294967295 tx)::L):=h_;rw[e3] at h3;exact h3
   rintro _ w6 ⟨S6,H6⟩;exact go (d,255) w6 (by show 1<=255;decide) (by show 255<=255;decide) (by have:=(Zdk (d,255)).2;unfold nxR;rw[if_neg hc,if_pos h2];show 4*(pieceB (d,255)).length+5*0+5*c<=5*x.2+5*(c+1);omega) e1 S6 H6
  ·have e1:toldR x d=[]:=by unfold toldR;rw[if_neg hc,if_neg h2]
   rw[e1];refine Zm7 (r_vtD rfl ?_);refine r_bd (v:=.agg Zsb.toArray) (by kernel_rfl) ?_;refine r_stA 2 H5 (vs:=Zsb) rfl (Nat.le_refl 3) rfl rfl λw6 S6 H6=>?_;refine r_ldA 2 H6 Zsb rfl rfl rfl ?_
   have H7:Holds w6 (SpL p bd sm pk room body tx (nxR x d) (blk rb tPc (Fpc x)::blk q tSb Zsb::L)):=by
    have h_:=Holds.ord 6 [3,4,5,0,1,2] H6 rfl;exact h_
   exact k1 w6 (S.trans S6) (Zce (x:=nxR x d) ⟨ho1,ho2,hnx,ho4.more (pl:=0) (by unfold nxR;rw[if_neg hc,if_neg h2];show 4*0+5*(x.2+1)+5*c<=5*x.2+5*(c+1);omega)⟩ (Holds.dropAt (Holds.dropAt H7 4) 4))
theorem Zpr (hR:RepC){kk c:Nat}(H:Holds w (SpR p room kk c::L)) (hr:5<=room/\room<=3000)
  (k:∀ v rs kk' w',rs.length<=2->kk+rs.length<=kk'+1->(∀ b∈rs,BlOk room b)->Same w w'->Holds w' (RW Fsb 3 tSb v rs::SpR p room kk' c::L)->K v w') :
  Cl prog 135 #[pt p] w K:=by
 refine Tz135 ?_;unfold Vz135;obtain⟨bd,sm,pk,body,tx,x,ho,H⟩:=Zjq H;obtain⟨ho1,ho2,ho3,ho4⟩:=ho;refine Zab (r_vf (r_nc (r_fo0 (r_ld 0 H rfl rfl ?_))));refine Zi7 (by have h_:=Holds.ord 4 [3,0,1,2] H rfl;exact h_) λw2 S2 H2=>?_;refine r_new H2 λrb w3 S3 H3=>?_;rw[Znm] at H3;refine r_stA 0 H3 (vs:=Fpc x) rfl (Nat.le_refl 2) rfl rfl λw4 S4 H4=>?_;replace H4:Holds w4 (blk rb tPc (Fpc x)::blk pk tPk (Fpc x)::blk p tSp (spC bd sm tx.length room pk)::SL bv tB bd body::R3b.SumR sm (crcF 4294967295 tx)::L):=H4;have S:=S2.trans (S3.trans S4);clear S2 S3 S4 H H2 H3;refine Za2 (λv w'=>∃ (bd':Value) (body' tx':List UInt8) (rs:List Bl),SpOk room body' tx' (0,0) (kk+rs.length) c/\rs.length<=1/\(∀ b∈rs,BlOk room b)/\Same w w'/\Holds w' (SpL p bd' sm pk room body' tx' (0,0) (RW Fsb 3 tSb v rs::L))) ?_ ?_
 rotate_left
 ·refine r_nc (r_fo0 (r_ld 2 H4 rfl rfl ?_));refine Zq5 hR (by have h_:=Holds.ord 2 [1,0] H4 rfl;exact h_) (by omega) λw5 S5 H5=>?_;replace S:=S.trans S5
  by_cases h0:x.2=0
  ·rw[if_pos h0];refine Zsw (r_vfD (λh=>h rfl) ?_);refine r_ke ⟨bd,body,tx,[],⟨ho1,ho2,by decide,ho4.more (pl:=0) (by omega)⟩,by decide,(λb hb=>by cases hb),S,?_⟩
   have H6:Holds w5 (SpL p bd sm pk room body tx (0,0) (blk rb tPc (Fpc x)::L)):=by
    have h_:=Holds.ord 5 [2,3,4,0,1] H5 rfl;exact h_
   have h_:=Holds.ord 6 [1,2,3,4,0] (H6.nilRW Fsb 3 tSb) rfl;exact h_
  ·rw[if_neg h0];have hpp:=Zex (x:=x) (by omega);have hp5:=(Zdk x).2
   have hq4:4*(pieceB x).length+5*0+5*c<=5*x.2+5*c:=by
    have:=piece4 (y:=x) (by omega);omega
   refine Zsw (r_vtD (by show ¬ (pieceB x).toArray.size=0;rw[List.size_toArray];omega) ?_);refine r_ldA 1 H5 (Fpc x) rfl rfl rfl ?_;refine q_len ?_
   have H6:Holds w5 (SpL p bd sm pk room body tx (0,0) (blk rb tPc (Fpc x)::L)):=by
    have h_:=Holds.ord 5 [2,3,4,0,1] H5 rfl;exact h_
   refine Zi5 hR H6 ⟨by omega,by omega⟩ (by omega) (by omega) hr.1 (λhf bd' w6 S6 H7=>?_) λhf bd' w6 S6 H7=>?_
   ·refine Za8 (Za9 ?_);refine r_new H7 λnb w7 S7 H8=>?_;rw[Zbf] at H8;refine r_stA 0 H8 (vs:=Zsb) rfl (Nat.le_refl 3) rfl rfl λw8 S8 H9=>?_;refine r_vf ?_;refine r_ke ⟨bd',body++pieceB x,tx++List.replicate x.2 x.1,[],⟨by simp only[gD];omega,by simp only[gD,gP];omega,by decide,by rw[gD];exact ho4.more hq4⟩,by decide,(λb hb=>by cases hb),S.trans (S6.trans (S7.trans S8)),?_⟩;have h_:=Holds.ord 7 [2,3,4,5,0] (H9.nilRW Fsb 3 tSb) rfl;exact h_
   ·have hbne:body≠[]:=λe=>by rw[e,length_nil] at hf;omega
    refine Za8 (Za9 ?_);refine r_new H7 λnb w7 S7 H8=>?_;rw[Zbf] at H8;refine r_stA 0 H8 (vs:=Fsb (body,tx)) rfl (Nat.le_refl 3) rfl rfl λw8 S8 H9=>?_;refine r_vt ?_;refine r_ldA 0 H9 (Fsb (body,tx)) rfl rfl rfl ?_;refine Zzb (H9.nilRW Fsb 3 tSb) 0 ((body,tx):Bl) rfl (by kernel_rfl) (λy=>rfl) Zo3 (by decide) (by decide) λv' w9 S9 Ha=>?_;refine r_ke ⟨bd',pieceB x,List.replicate x.2 x.1,[(body,tx)],⟨by omega,by rw[gP];omega,by decide,ho4.shut hq4 hf⟩,Nat.le_refl 1,(λb hb=>by rw[mem_singleton.1 hb];exact⟨hbne,ho1⟩),S.trans (S6.trans (S7.trans (S8.trans S9))),?_⟩;have h_:=Holds.ord 7 [2,3,4,5,0] Ha rfl;exact h_
 clear H4 S;rintro _ v w5 ⟨bd',body',tx',rs,ho',hl,hrs,S,H5⟩;refine r_nc (r_fo0 ?_)
 by_cases hb0:body'=[]
 ·subst hb0;refine Zma H5 λw6 S6 H6=>?_;refine Za8 (Za9 ?_);refine r_new H6 λnb w7 S7 H7=>?_;rw[Zbf] at H7;refine r_stA 0 H7 (vs:=Zsb) rfl (Nat.le_refl 3) rfl rfl λw8 S8 H8=>?_;refine r_vf ?_;refine k v rs (kk+rs.length) w8 (by omega) (by omega) hrs (S.trans (S6.trans (S7.trans S8))) ?_;have h_:=Holds.ord 6 [1,2,3,4,5] H8 rfl;exact (Zce (x:=(0,0)) ho' h_).swap
 ·refine Zgv hb0 H5 λw6 S6 H6=>?_;refine Za8 (Za9 ?_);refine r_new H6 λnb w7 S7 H7=>?_;rw[Zbf] at H7;refine r_stA 0 H7 (vs:=Fsb (body',tx')) rfl (Nat.le_refl 3) rfl rfl λw8 S8 H8=>?_;refine r_vt ?_;refine r_ldA 0 H8 (Fsb (body',tx')) rfl rfl rfl ?_;refine Zzb H8 5 ((body',tx'):Bl) rfl (by kernel_rfl) (λy=>rfl) Zo3 (by omega) (by decide) λv' w9 S9 Ha=>?_;refine k v' (rs++[(body',tx')]) (kk+rs.length) w9 (by rw[gD,gQ];omega) (by rw[gD,gQ];omega) (λb hb=>?_) (S.trans (S6.trans (S7.trans (S8.trans S9)))) ?_
  ·rcases hT_.1 hb with hb|hb
   ·exact hrs b hb
   ·rw[mem_singleton.1 hb];exact⟨hb0,ho'.1⟩
  ·have h_:=Holds.ord 6 [1,2,3,4,5] Ha rfl;exact (Zce (x:=(0,0)) ⟨Nat.zero_le _,Nat.zero_le _,by decide,by obtain⟨P,q1,q2⟩:=ho'.2.2.2;exact⟨P,by show _+0<=_;omega,q2⟩⟩ h_).swap
end P20
end Go.Proofs.YtieneaffjelhhaaGreat
