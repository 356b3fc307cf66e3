/- Several texts in one: Mn, Sv, Ex, Mw, M45, My3, Mk, Q21, W09, W9t, W9o, W2r, W2o, W14, Z07, U05, W05, W06, W20, W17, W02. -/
import Derived.Test.YtpmjeiliblgajaaGreatDoorMG1
import Derived.Test.YtpmjeiliblgajaaGreatDoorMG0
import Derived.Lib.UnsafeStr
import Derived.Lib.Bytealg
import Derived.Lib.MakeNoZero
import Derived.WalkKit
import Derived.Test.YtpmjeiliblgajaaGreatDoorFm
set_option linter.unusedVariables false
set_option linter.unusedSimpArgs false
set_option linter.unusedSectionVars false
open Go.RowKit (intOf)
open List (cons_append drop_zero eq_nil_of_length_eq_zero getElem?_eq_none getElem_mem length_cons length_nil length_range' map_append map_set mem_cons mem_map mem_of_mem_drop mem_of_mem_take mem_range mem_singleton range_succ replicate_zero set_set take_zero)
namespace Go.Mh
open Go.M10
def sm (n:Nat) (f:Nat->Nat):Nat:=((List.range n).map f).sum
theorem Zdk (n:Nat) (f:Nat->Nat):sm (n+1) f=sm n f+f n:=by unfold sm;rw[range_succ,map_append,List.sum_append];simp
theorem Zg0 {f g:Nat->Nat}:∀ n,(∀ i,i < n->f i=g i)->sm n f=sm n g
 |0,_=>rfl
 |n+1,h=>by rw[Zdk,Zdk,Zg0 n λi hi=>h i (by omega),h n (by omega)]
theorem Zxw (f g:Nat->Nat):∀ n,sm n (λi=>f i+g i)=sm n f+sm n g
 |0=>rfl
 |n+1=>by rw[Zdk,Zdk,Zdk,Zxw f g n];omega
theorem Zrz (c:Nat) (f:Nat->Nat):∀ n,sm n (λi=>c*f i)=c*sm n f
 |0=>rfl
 |n+1=>by rw[Zdk,Zdk,Zrz c f n,Nat.mul_add]
structure Kr (n E:Nat) (s:HS) (k:Nat) (ρ δ:Nat->Nat):Prop where
 up:∀ i,i < n->Up s.I i (δ i) (ρ i)/\ρ i∈s.V/\δ i<=k
 sum:∀ x∈s.V,sm n (λi=>if ρ i=x then 2^(E - δ i) else 0)=2^E
theorem kr0 (w:List Nat) (E:Nat):Kr w.length E (h0 w) 0 id λ_=>0:=by
 refine⟨λi hi=>⟨.here i,mem_range.2 hi,Nat.le_refl _⟩,λx hx=>?_⟩;have hx:x < w.length:=mem_range.1 hx
 have h:∀ n,sm n (λi=>if id i=x then 2^(E - 0) else 0)=if x < n then 2^E else 0:=by
  intro n
  induction n with
  |zero=>rfl
  |succ n ih=>
   rw[Zdk,ih]
   by_cases q:n=x
   ·subst q;rw[if_neg (Nat.lt_irrefl _),if_pos (show id n=n from rfl),if_pos (Nat.lt_succ_self _),Nat.zero_add,Nat.sub_zero]
   ·rw[if_neg (show ¬ id n=x from q)]
    by_cases g:x < n
    ·rw[if_pos g,if_pos (by omega)];rfl
    ·rw[if_neg g,if_neg (by omega)]
 rw[h,if_pos hx]
theorem Zyv {n E k:Nat}{s s':HS}{a b:Nat}{ρ δ:Nat->Nat}(hg:Good s) (j:Join s s' a b) (hk:k < E) (h:Kr n E s k ρ δ):∃ ρ' δ',Kr n E s' (k+1) ρ' δ':=by
 have hne:=Zj3 hg j;have hbm:b∈s.V:=List.mem_of_mem_erase j.lb.1;have hal:=hg.lt a j.la.1;have hbl:=hg.lt b hbm
 have hmem:∀ x,x∈s'.V↔x=s.W.length\/(x∈s.V/\x≠a/\x≠b):=by
  intro x;rw[j.V.mem_iff,mem_cons,(hg.nodup.erase a).mem_erase_iff,hg.nodup.mem_erase_iff]
  constructor
  ·rintro (h|⟨h1,h2,h3⟩)
   ·exact .inl h
   ·exact .inr ⟨h3,h2,h1⟩
  ·rintro (h|⟨h1,h2,h3⟩)
   ·exact .inl h
   ·exact .inr ⟨h3,h2,h1⟩
 have hpar:s'.I[a]?=some (some s.W.length)/\s'.I[b]?=some (some s.W.length):=by
  have hIl:=hg.len
  constructor
  ·rw[j.I,gM (by rw[hX_,hX_];omega),List.getElem?_set,if_neg (Ne.symm hne),List.getElem?_set_self (by omega)]
  ·rw[j.I,gM (by rw[hX_,hX_];omega),List.getElem?_set_self (by rw[hX_];omega)]
 refine⟨λi=>if ρ i=a\/ρ i=b then s.W.length else ρ i,λi=>if ρ i=a\/ρ i=b then δ i+1 else δ i,λi hi=>?_,λx hx=>?_⟩
 ·obtain⟨h1,h2,h3⟩:=h.up i hi;have h4:=h1.join hg j;show Up s'.I i (if ρ i=a\/ρ i=b then δ i+1 else δ i) (if ρ i=a\/ρ i=b then s.W.length else ρ i)/\(if ρ i=a\/ρ i=b then s.W.length else ρ i)∈s'.V/\(if ρ i=a\/ρ i=b then δ i+1 else δ i)<=k+1
  by_cases q:ρ i=a\/ρ i=b
  ·simp only[if_pos q];refine⟨h4.snoc ?_,(hmem _).2 (.inl rfl),by omega⟩;rcases q with q|q
   ·rw[q];exact hpar.1
   ·rw[q];exact hpar.2
  ·simp only[if_neg q];exact⟨h4,(hmem _).2 (.inr ⟨h2,λe=>q (.inl e),λe=>q (.inr e)⟩),by omega⟩
 ·rcases (hmem x).1 hx with rfl|⟨h1,h2,h3⟩
  ·have ha:=h.sum a j.la.1;have hb:=h.sum b hbm
   have e:sm n (λi=>2*if (if ρ i=a\/ρ i=b then s.W.length else ρ i)=s.W.length then 2^(E - if ρ i=a\/ρ i=b then δ i+1 else δ i) else 0) =
     sm n (λi=>(if ρ i=a then 2^(E - δ i) else 0)+if ρ i=b then 2^(E - δ i) else 0):=by
    refine Zg0 n λi hi=>?_;obtain⟨_,g2,g3⟩:=h.up i hi;have g4:=hg.lt _ g2
    have g5:2*2^(E - (δ i+1))=2^(E - δ i):=by
     rw[show E - δ i=(E - (δ i+1))+1 by omega,Nat.pow_succ,Nat.mul_comm]
    by_cases q1:ρ i=a
    ·have q2:¬ ρ i=b:=λe=>hne (q1.symm.trans e);have q3:ρ i=a\/ρ i=b:=.inl q1;simp only[if_pos q3,if_pos q1,if_neg q2,if_true];rw[g5,Nat.add_zero]
    ·by_cases q2:ρ i=b
     ·have q3:ρ i=a\/ρ i=b:=.inr q2;simp only[if_pos q3,if_neg q1,if_pos q2,if_true];rw[g5,Nat.zero_add]
     ·have q3:¬ (ρ i=a\/ρ i=b):=λe=>e.elim q1 q2
      have q4:¬ ρ i=s.W.length:=by omega
      simp only[if_neg q3,if_neg q1,if_neg q2,if_neg q4]
   rw[Zrz,Zxw,ha,hb] at e;omega
  ·rw[<-h.sum x h1];refine Zg0 n λi hi=>?_;obtain⟨_,g2,_⟩:=h.up i hi;have g4:=hg.lt _ g2;have g5:=hg.lt _ h1
   by_cases q:ρ i=a\/ρ i=b
   ·have q2:¬ ρ i=x:=λe=>by
     rcases q with q|q
     ·exact h2 (e.symm.trans q)
     ·exact h3 (e.symm.trans q)
    have q3:¬ s.W.length=x:=by omega
    simp only[if_pos q,if_neg q2,if_neg q3]
   ·simp only[if_neg q]
theorem Zvg {w:List Nat}{E k:Nat}{s:HS}(h:Joins (h0 w) k s) (hk:k<=E):∃ ρ δ,Kr w.length E s k ρ δ:=by
 induction h with
 |start=>exact⟨_,_,kr0 w E⟩
 |next h j ih=>
  obtain⟨ρ,δ,hK⟩:=ih (by omega);exact Zyv (Zc2 h).1 j (by omega) hK
theorem Zvw (out:List Nat):share out=sm out.length λi=>2^(20 - out.getD i 0):=by
 unfold share sm
 congr 1
 apply List.ext_getElem?;intro i;rw[hV_,hV_];rcases hU_ i out.length with q|q
 ·rw[List.getElem?_range q,gA q];show some (2^(20 - out[i]))=some (2^(20 - out.getD i 0));rw[gB,gA q];rfl
 ·rw[getElem?_eq_none q,getElem?_eq_none (by simpa using q)];rfl
theorem Zks {w out:List Nat}(hw:2<=w.length) (h:Depths w out) (h20:∀ x∈out,x<=20):Whole out:=by
 have hpos:=Zq7 hw h;refine⟨λx hx=>⟨hpos x hx,h20 x hx⟩,?_⟩;obtain⟨s,r,hj,hr,hl,hu⟩:=h;obtain⟨ρ,δ,hK⟩:=Zvg (E:=w.length+20) hj (by omega);have hg:=(Zc2 hj).1
 have hroot:∀ p,s.I[r]?≠some (some p):=λp e=>by rw[hg.live r (by rw[hr];exact mem_singleton.2 rfl)] at e;cases e
 have hs:=hK.sum r (by rw[hr];exact mem_singleton.2 rfl)
 have e:sm w.length (λi=>if ρ i=r then 2^(w.length+20 - δ i) else 0)=sm w.length λi=>2^w.length*2^(20 - out.getD i 0):=by
  refine Zg0 _ λi hi=>?_;obtain⟨g1,g2,_⟩:=hK.up i hi
  have g3:ρ i=r:=by rw[hr] at g2;exact mem_singleton.1 g2
  rw[if_pos g3];rw[g3] at g1;have g4:=g1.uniq hroot (hu i hi)
  have g5:out.getD i 0<=20:=by rw[gB,gA (by omega)];exact h20 _ (getElem_mem _)
  rw[g4,<-Nat.pow_add]
  congr 1
  omega
 rw[hs,Zrz,Nat.pow_add] at e;have:=Nat.eq_of_mul_eq_mul_left (Nat.pow_pos (by decide)) e;rw[Zvw,hl,<-this]
theorem Zkx {w out:List Nat}(h:LensOf w out):2<=w.length->Whole out:=by
 induction h with
 |fit h hl=>exact λhw=>Zks hw h hl
 |more h hl r ih=>exact λhw=>ih (by unfold halved;rw[hS_];exact hw)
end Go.Mh
namespace Go.Vc
variable {P:Program}{w:World}{L:List HProp}
def mk (b:Nat) (t:TypeId) (cs:List Value):HProp:=blkO b (.cells cs.toArray t (cs.length,cs.length+1))
theorem Zh9 (H:Holds w L) (i:Nat){b:Nat}{t:TypeId}{cs:List Value}(hi:L[i]?=some (mk b t cs)) (o:Nat):w.cell? ⟨b,o,none⟩=cs[o]?:=by
 have:=H.obj i hi;simp[World.cell?,this]
theorem Zlu (H:Holds w L) (i:Nat){b:Nat}{t:TypeId}{cs:List Value}(hi:L[i]?=some (mk b t cs)){o:Nat}(ho:o < cs.length):w.frozen? ⟨b,o,none⟩=false:=by
 have:=H.obj i hi;simp[World.frozen?,this];omega
theorem Zx8 (H:Holds w L) (i:Nat){b:Nat}{t:TypeId}{cs:List Value}(hi:L[i]?=some (mk b t cs)) (o:Nat) (v:Value) :
  Holds (w.setCell ⟨b,o,none⟩ v) (L.set i (mk b t (cs.set o v))):=by
 have h:=H.obj i hi;refine H.upd i hi ?_ λc hc=>?_
 ·simp[World.setCell,Array.getElem?_modify,h]
 ·simp only[World.setCell,Array.getElem?_modify];rw[if_neg (by simpa using λh=>hc h.symm)]
theorem Zgx (i:Nat){b:Nat}{t:TypeId}:∀ (vs:List Value) (o:Nat){w:World}{L:List HProp}{cs:List Value},Holds w L->L[i]?=some (mk b t cs)->o+vs.length<=cs.length->
  Same w (w.setCells b o vs)/\Holds (w.setCells b o vs) (L.set i (mk b t (cs.take o++(vs++cs.drop (o+vs.length)))))
 |[],o,w,L,cs,H,hi,hl=>by
  refine⟨Same.refl w,?_⟩;rw[hO_,length_nil,Nat.add_zero,hN_];have hl:i < L.length:=(gH.1 hi).1;have e1:L[i]=_:=(gH.1 hi).2;rw[<-e1,List.set_getElem_self];exact H
 |v::vs,o,w,L,cs,H,hi,hl=>by
  rw[length_cons] at hl;have h1:=Zx8 H i hi o v;obtain⟨S2,h2⟩:=Zgx i vs (o+1) h1 (Za2 hi) (by rw[hX_];omega);refine⟨(Same.setCell w _ v).trans S2,?_⟩;rw[set_set] at h2
  have e:(cs.set o v).take (o+1)++(vs++(cs.set o v).drop (o+1+vs.length))=cs.take o++(v::vs++cs.drop (o+(v::vs).length)):=by
   have h3:(cs.set o v)[o]?=some v:=by rw[List.getElem?_set_self (by omega)]
   rw[gO,h3,List.take_set_of_le (Nat.le_refl o),List.drop_set_of_lt (by omega),length_cons,show o+1+vs.length=o+(vs.length+1) by omega];simp
  rw[e] at h2;exact h2
def SM (e:TypeId) (v:Value) (xs:List UInt8):HProp:=λh=>∃ b sp,v=.slice (some ⟨b,0,none⟩) xs.length (xs.length+sp.length)/\mk b e (xs.map bv++sp) h
theorem Zfj (H:Holds w L) (i:Nat){e:TypeId}{v:Value}{xs:List UInt8}(hi:L[i]?=some (SM e v xs)):∃ b sp,v=.slice (some ⟨b,0,none⟩) xs.length (xs.length+sp.length)/\Holds w (L.set i (mk b e (xs.map bv++sp))):=by
 obtain⟨g,⟨b,sp,hv,hg⟩,hs,hL⟩:=H.front i hi;exact⟨b,sp,hv,Sat.push i hi ⟨g,hg,hs,hL⟩⟩
theorem Zo6 (H:Holds w L) (i:Nat){e:TypeId}{b:Nat}{xs:List UInt8}{sp:List Value}(hi:L[i]?=some (mk b e (xs.map bv++sp))):Holds w (L.set i (SM e (.slice (some ⟨b,0,none⟩) xs.length (xs.length+sp.length)) xs)):=
 H.at i hi λg hg=>⟨b,sp,rfl,hg⟩
theorem r_lnM (i:Nat) (H:Holds w L){e:TypeId}{v:Value}{xs:List UInt8}{K:Value->Prop}(hi:L[i]?=some (SM e v xs)) (h:K (nv xs.length)):Lnl v K:=by
 obtain⟨b,sp,rfl,_⟩:=Zfj H i hi;exact r_lnl h
theorem Ya8 (i:Nat) (H:Holds w L){e:TypeId}{v:Value}{xs:List UInt8}{k:IntKind}{j:Nat}{x:UInt8}{K:Value->Prop}(hi:L[i]?=some (SM e v xs)) (hx:xs[j]?=some x) (h:K (bv x)) :
  Ias 1 v (.int k (j:Int)) λp=>Ld p w K:=by
 obtain⟨b,sp,rfl,H1⟩:=Zfj H i hi;have hj:j < xs.length:=(gH.1 hx).1;refine r_ias (by omega) (by omega) ?_;rw[gC,Nat.zero_add,Nat.mul_one];refine r_ldP ?_ h;rw[Zh9 H1 i (Za2 hi),gM (by simpa using hj),hV_,hx];rfl
theorem Yaa (i:Nat) (H:Holds w L){e:TypeId}{v:Value}{xs:List UInt8}{k:IntKind}{j:Nat}(x:UInt8){K:World->Prop}(hi:L[i]?=some (SM e v xs)) (hj:j < xs.length)
  (h:∀ w',Same w w'->Holds w' (L.set i (SM e v (xs.set j x)))->K w'):Ias 1 v (.int k (j:Int)) λp=>St p (bv x) w K:=by
 obtain⟨b,sp,rfl,H1⟩:=Zfj H i hi;refine r_ias (by omega) (by omega) ?_;rw[gC,Nat.zero_add,Nat.mul_one]
 have hc:(xs.map bv++sp)[j]?=some (bv xs[j]):=by rw[gM (by simpa using hj),hV_,gA hj];rfl
 refine⟨_,bv xs[j],rfl,by rw[Zh9 H1 i (Za2 hi),hc],Zlu H1 i (Za2 hi) (by simp;omega),rfl,h _ (Same.setCell _ _ _) ?_⟩;have H2:=Zx8 H1 i (Za2 hi) j (bv x);rw[set_set,List.set_append_left _ _ (by simpa using hj),<-map_set] at H2;have H3:=Zo6 H2 i (Za2 hi);rw[set_set,hX_] at H3;exact H3
theorem r_cpM {t e:TypeId}{z:Value} [hr:Row P t e z] (H:Holds w L) (q:Nat){b:Nat}{xs:List UInt8}{sp:List Value}{i:Nat}{ty:TypeId}{K:KT}
  (hq:L[q]?=some (mk b e (xs.map bv++sp))) (hi:i < xs.length) (h:∀ v w',Same w w'->Holds w' (L.set q (mk b e ((xs.take 1++(xs.take i++xs.drop (i+1))).map bv++sp)))->K v w') :
  Cp P #[t,t] ty #[.slice (if xs.length+sp.length=1 then some ⟨b,0,none⟩ else (some (⟨b,0,none⟩:Addr)).map (·.add (1*1))) (i+1 - 1) (xs.length+sp.length - 1),.slice (some ⟨b,0,none⟩) i (xs.length+sp.length)] w K:=by
 obtain⟨inf,hinf,hsz,hby,hzz⟩:=hr.inf
 have hinf1:(P.info? e).map (·.size)=some 1:=by rw[hinf];simp[hsz]
 rcases Nat.eq_zero_or_pos i with h0|h0
 ·subst h0;refine r_cp (run_copy_none w t t ty e _ _ _ _ 0 _ hr.und hinf1 rfl) (h _ _ (.refl _) ?_)
  rw[take_zero,hO_,Nat.zero_add,hN_,show L.set q (mk b e (xs.map bv++sp))=L from by
   have hl:q < L.length:=(gH.1 hq).1;have e1:L[q]=_:=(gH.1 hq).2
   rw[<-e1,List.set_getElem_self]]
  exact H
 ·have hne:¬ xs.length+sp.length=1:=by omega
  rw[if_neg hne];have ea:(some (⟨b,0,none⟩:Addr)).map (·.add (1*1))=some ⟨b,1,none⟩:=rfl;rw[ea]
  have hcl:((xs.take i).map bv).length=i:=by simp;omega
  have hcs:(xs.map bv++sp).length=xs.length+sp.length:=by simp
  have hrun:=run_copy_cells (P:=P) w t t ty e b 1 (i+1 - 1) (xs.length+sp.length - 1) ⟨b,0,none⟩ i (xs.length+sp.length) ((xs.take i).map bv) hr.und hinf1
   (by rw[hcl,Nat.add_sub_cancel];exact (Nat.min_self i).symm) (λj v hv=>by
    have e1:(⟨b,0,none⟩:Addr).add j=⟨b,j,none⟩:=by
     unfold Addr.add;split
     ·rename_i h;rw[h]
     ·simp
    rw[e1,Zh9 H q hq j]
    have hj:j < i:=by have:=(gH.1 hv).1;rw[hcl] at this;exact this
    rw[gM (by simp;omega),<-hv,hV_,hV_,hI_ hj])
   (λj hj=>by rw[Zh9 H q hq,gA (by rw[hcs];omega)];rfl)
   (λj hj=>Zlu H q hq (by rw[hcs];omega)) (λv hv=>by
    obtain⟨y,_,rfl⟩:=mem_map.1 hv
    rfl)
  obtain⟨S2,H2⟩:=Zgx q ((xs.take i).map bv) 1 H hq (by rw[hcl,hcs];omega);refine r_cp hrun (h _ _ S2 ?_)
  have e:(xs.map bv++sp).take 1++((xs.take i).map bv++(xs.map bv++sp).drop (1+((xs.take i).map bv).length))=(xs.take 1++(xs.take i++xs.drop (i+1))).map bv++sp:=by
   rw[hcl,List.take_append_of_le_length (by simp;omega),List.drop_append_of_le_length (by simp;omega)];simp[Nat.add_comm]
  rw[e] at H2;exact H2
theorem r_csb {t e d:TypeId} [hr:Bytes P t e d] (H:Holds w L){s:List UInt8}{K:KT}(h:∀ v w',Same w w'->Holds w' (SM e v s::L)->K v w'):Cw P d t (.string ⟨s.toArray⟩) w K:=by
 have hrun:=run_bytes_of_string (P:=P) w d t e ⟨s.toArray⟩ hr.str hr.und hr.el;refine⟨_,_,hrun,h _ _ ((Same.drew w).trans (.alloc _ _)) ?_⟩;have hcap:=grownCap_ge w (⟨s.toArray⟩:ByteArray).size 0 e
 have hsz:(⟨s.toArray⟩:ByteArray).size=s.length:=by show s.toArray.size=_;simp
 rw[hsz] at hcap ⊢;generalize grownCap w s.length 0 e=cap at hcap ⊢
 have hb:bytesRow ⟨s.toArray⟩ cap=(s.map bv++List.replicate (cap - s.length) (Value.int .u8 0)).toArray:=by
  unfold bytesRow;rw[hsz];apply Array.ext';simp
 have H2:=(H.same (w':=w.drew) rfl).alloc (.cells (bytesRow ⟨s.toArray⟩ cap) e ((bytesRow ⟨s.toArray⟩ cap).size,(bytesRow ⟨s.toArray⟩ cap).size+1));refine Holds.imp H2 λg hg=>⟨w.heap.size,List.replicate (cap - s.length) (Value.int .u8 0),?_,?_⟩
 ·rw[gP,show s.length+(cap - s.length)=cap by omega]
 ·unfold mk;rw[hb] at hg
  have e1:(s.map bv++List.replicate (cap - s.length) (Value.int .u8 0)).toArray.size=(s.map bv++List.replicate (cap - s.length) (Value.int .u8 0)).length:=by simp
  rw[e1] at hg;exact hg
end Go.Vc
namespace Go.Ev
open Go Go.Vc
variable {P:Program}{w w':World}
theorem Zya {b o n:Nat}:(⟨b,o,none⟩:Addr).add n=⟨b,o+n,none⟩:=by
 unfold Addr.add;split
 ·rename_i h;rw[h];rfl
 ·rfl
inductive Xt where
 |idx|cnt|noEsc|mkNo|idxB
def nmX:Xt->String
 | .idx => "internal/bytealg.IndexByteString"
 | .cnt => "internal/bytealg.CountString"
 | .noEsc => "internal/abi.NoEscape"
 | .mkNo => "internal/bytealg.MakeNoZero"
 | .idxB => "internal/bytealg.IndexByte"
def extF (fn:Func) (k:Xt):Bool:=match fn.name==nmX k with
 | true => (match fn.origin == "" with
  |true=>true
  |false=>fn.origin==nmX k)
 |false=>false
def extK (P:Program) (f:FuncId):Option (Func × Xt):=match P.funcs[f]? with
 |some fn=>(match fn.body with
  |some _=>none
  |none=>(match extF fn .idx,extF fn .cnt,extF fn .noEsc,extF fn .mkNo,extF fn .idxB with
   |true,_,_,_,_=>some (fn,.idx)
   |_,true,_,_,_=>some (fn,.cnt)
   |_,_,true,_,_=>some (fn,.noEsc)
   |_,_,_,true,_=>some (fn,.mkNo)
   |_,_,_,_,true=>some (fn,.idxB)
   |_,_,_,_,_=>none))
 |none=>none
theorem Zuz {f:FuncId}{fn:Func}{k:Xt}(h:extK P f=some (fn,k)):P.funcs[f]?=some fn/\fn.body=none/\extF fn k=true:=by
 unfold extK at h;split at h
 ·rename_i fn' hf;split at h
  ·cases h
  ·rename_i hb
   split at h <;> first|(simp only[Option.some.injEq,Prod.mk.injEq] at h;obtain⟨rfl,rfl⟩:=h;exact⟨hf,hb,by assumption⟩)|cases h
 ·cases h
theorem Zgi {fn : Func} {k : Xt} (h : extF fn k = true) : fn.name = nmX k ∧ (fn.origin = "" ∨ fn.origin = nmX k) := by
 unfold extF at h;split at h
 ·rename_i h1;split at h
  ·rename_i h2;exact⟨by simpa using h1,.inl (by simpa using h2)⟩
  ·exact⟨by simpa using h1,.inr (by simpa using h)⟩
 ·cases h
theorem Zs9 (k:Xt){fn:Func}(h:extF fn k=true):Extern.findNext fn=none:=by
 obtain⟨h1,h2⟩:=Zgi h;unfold Extern.findNext
 rcases h2 with h2|h2 <;> rw[h1,h2] <;> cases k <;> rfl
theorem Zt8 {fn:Func}(h:extF fn .idxB=true):Extern.find fn=some Extern.BytealgIndexByte.indexByte:=by
 unfold Extern.find;rw[(Zgi h).1];rfl
theorem callExt {f:FuncId}{fn:Func}{k:Xt}{args:Array Value}{e:Array Value->Sem Value}{v:Value}(h:extK P f=some (fn,k)) (he:Extern.find fn=some e) (hr:(e args).run P w=.ok v w'):isExt P f=true/\(callFunc f args).run P w=.ok (.value v) w':=by
 obtain⟨h1,h2,h3⟩:=Zuz h;refine⟨by simp only[isExt,h1,h2];rfl,?_⟩
 have hn : (fn.name == "runtime.NumGoroutine") = false := by rw [(Zgi h3).1]; cases k <;> rfl
 rw[run_callFunc_extern h1 hn (by rw[h2];rfl) (Zs9 k h3) he,hr];rfl
theorem Zet {b:Nat}:∀ (l:List Nat) (o:Nat) (acc:ByteArray),(∀ (i:Nat) (n:Nat),l[i]?=some n->w.cell? ⟨b,o+i,none⟩=some (.int .u8 (n:Int)))->
  (Extern.Bytes.loadBytes ⟨b,o,none⟩ l.length acc).run P w=.ok ⟨acc.data++(l.map UInt8.ofNat).toArray⟩ w
 |[],o,acc,h=>by
  show Result.ok acc w=_;simp
 |n::l,o,acc,h=>by
  show (Extern.Bytes.loadBytes ⟨b,o,none⟩ (l.length+1) acc).run P w=_;unfold Extern.Bytes.loadBytes;rw[Sem.run_bind,Zkq (show w.cell? ⟨b,o,none⟩=_ from h 0 n rfl)];simp only[Result.andThen_ok];rw[Zya]
  have:=Zet l (o+1) (acc.push ((n:Int).toNat.toUInt8)) λi m hi=>by
   rw[show o+1+i=o+(i+1) by omega];exact h (i+1) m hi
  rw[this]
  congr 1
  apply Zo5;simp
theorem Zye {x y c:Value}{s:ByteArray}(h1:(Extern.Bytes.bytesOf x).run P w=.ok s w) (h2:(Extern.Bytes.bytesOf y).run P w=.ok s w):(Extern.BytealgIndexByte.indexByte #[x,c]).run P w=(Extern.BytealgIndexByte.indexByte #[y,c]).run P w:=by
 change ((Extern.Bytes.bytesOf x >>= _):Sem Value).run P w=((Extern.Bytes.bytesOf y >>= _):Sem Value).run P w;rw[Sem.run_bind,Sem.run_bind,h1,h2];rfl
end Go.Ev
namespace Go.Mw
open Go.Mz
def mE (x:List UInt8 × List Nat) (c:UInt8):List UInt8 × List Nat:=(frontB x.1 (x.1.idxOf c),x.2++[x.1.idxOf c])
def mtfE (o s:List UInt8):List UInt8 × List Nat:=s.foldl mE (o,[])
theorem Zgg (o s:List UInt8) (c:UInt8):mtfE o (s++[c])=mE (mtfE o s) c:=by simp[mtfE]
theorem Zut {o:List UInt8}{i:Nat}(hi:i < o.length) (x:UInt8):x∈frontB o i↔x∈o:=by
 unfold frontB
 have e:o=o.take i++o.getD i 0::o.drop (i+1):=by
  conv=>lhs;rw[<-hN_ i o]
  rw[List.drop_eq_getElem_cons hi,gB,gA hi];rfl
 conv=>rhs;rw[e]
 simp only[mem_cons,hT_]
 constructor
 ·rintro (h|h|h)
  ·exact .inr (.inl h)
  ·exact .inl h
  ·exact .inr (.inr h)
 ·rintro (h|h|h)
  ·exact .inr (.inl h)
  ·exact .inl h
  ·exact .inr (.inr h)
theorem Zx4 {o:List UInt8}{c:UInt8}(h:c∈o):o.idxOf c < o.length:=List.idxOf_lt_length_of_mem h
theorem Zoa {o s:List UInt8}(h:∀ c∈s,c∈o):(∀ x,x∈(mtfE o s).1↔x∈o)/\(mtfE o s).1.length=o.length/\(mtfE o s).2.length=s.length/\∀ p∈(mtfE o s).2,p < o.length:=by
 have key:∀ i,i<=s.length->(∀ x,x∈(mtfE o (s.take i)).1↔x∈o)/\(mtfE o (s.take i)).1.length=o.length/\(mtfE o (s.take i)).2.length=i/\∀ p∈(mtfE o (s.take i)).2,p < o.length:=by
  intro i
  induction i with
  |zero=>intro _;exact⟨λx=>Iff.rfl,rfl,rfl,λp hp=>by simp[mtfE] at hp⟩
  |succ i ih=>
   intro hi;obtain⟨h1,h2,h3,h4⟩:=ih (by omega)
   have hg:s.take (i+1)=s.take i++[s[i]]:=by rw[gO,gA (by omega)];rfl
   have hm:s[i]∈(mtfE o (s.take i)).1:=(h1 _).2 (h _ (getElem_mem _));have hlt:=Zx4 hm;rw[hg,Zgg];unfold mE;refine⟨λx=>by rw[Zut hlt];exact h1 x,by rw[Zfb hlt];exact h2,by rw[gD,h3];rfl,λp hp=>?_⟩;rcases hT_.1 hp with hp|hp
   ·exact h4 p hp
   ·rw[mem_singleton.1 hp];omega
 have:=key s.length (Nat.le_refl _)
 rwa [hF_] at this
def rowZ (m:Nat):List Nat:=if h:m=0 then [] else (if m%2=1 then 0 else 1)::rowZ ((m - 1)/2)
termination_by m
decreasing_by omega
theorem Zhk:rowZ 0=[]:=by rw[rowZ];rfl
theorem Zke {m:Nat}(h:m≠0):rowZ m=(if m%2=1 then 0 else 1)::rowZ ((m - 1)/2):=by
 rw[rowZ,dif_neg h]
theorem Zfz (m:Nat):(rowZ m).length<=m:=by
 induction m using Nat.strongRecOn with
 |_ m ih=>
  by_cases h:m=0
  ·subst h;rw[Zhk];exact Nat.le_refl _
  ·rw[Zke h,length_cons];have:=ih ((m - 1)/2) (by omega);omega
theorem Znl (m:Nat):∀ c∈rowZ m,c<=1:=by
 induction m using Nat.strongRecOn with
 |_ m ih=>
  by_cases h:m=0
  ·subst h;rw[Zhk];intro c hc;cases hc
  ·rw[Zke h];intro c hc;rcases mem_cons.1 hc with hc|hc
   ·rw[hc];split <;> omega
   ·exact ih _ (by omega) c hc
def zE (x:List Nat × Nat) (p:Nat):List Nat × Nat:=if p=0 then (x.1,x.2+1) else (x.1++rowZ x.2++[p+1],0)
def zenc (l:List Nat):List Nat × Nat:=l.foldl zE ([],0)
theorem Zf2 (l:List Nat) (p:Nat):zenc (l++[p])=zE (zenc l) p:=by simp[zenc]
def rowE (l:List Nat) (n:Nat):List Nat:=(zenc l).1++rowZ (zenc l).2++[n+1]
theorem Zpa (l:List Nat):(zenc l).1.length+(zenc l).2<=l.length:=by
 have key:∀ i,i<=l.length->(zenc (l.take i)).1.length+(zenc (l.take i)).2<=i:=by
  intro i
  induction i with
  |zero=>intro _;exact Nat.le_refl _
  |succ i ih=>
   intro hi
   have hg:l.take (i+1)=l.take i++[l[i]]:=by rw[gO,gA (by omega)];rfl
   have h1:=ih (by omega);rw[hg,Zf2];unfold zE;have h2:=Zfz (zenc (l.take i)).2;split
   ·simp only;omega
   ·simp only[gD,gQ];omega
 have:=key l.length (Nat.le_refl _)
 rwa [hF_] at this
theorem Zus {l:List Nat}{n:Nat}(h:∀ p∈l,p < n):∀ c∈(zenc l).1,c<=max n 1:=by
 have key:∀ i,i<=l.length->∀ c∈(zenc (l.take i)).1,c<=max n 1:=by
  intro i
  induction i with
  |zero=>intro _ c hc;simp[zenc] at hc
  |succ i ih=>
   intro hi
   have hg:l.take (i+1)=l.take i++[l[i]]:=by rw[gO,gA (by omega)];rfl
   rw[hg,Zf2];unfold zE;split
   ·exact ih (by omega)
   ·intro c hc;have hp:=h l[i] (getElem_mem _);rcases hT_.1 hc with hc|hc
    ·rcases hT_.1 hc with hc|hc
     ·exact ih (by omega) c hc
     ·have:=Znl _ c hc;omega
    ·rw[mem_singleton.1 hc];omega
 have:=key l.length (Nat.le_refl _)
 rwa [hF_] at this
theorem Zoq (l:List Nat) (n:Nat):(rowE l n).length<=l.length+1:=by
 have h1:=Zpa l;have h2:=Zfz (zenc l).2;unfold rowE;simp only[gD,gQ];omega
theorem Zys {l:List Nat}{n:Nat}(h:∀ p∈l,p < n) (hn:1<=n):∀ c∈rowE l n,c<=n+1:=by
 intro c hc;unfold rowE at hc;rcases hT_.1 hc with hc|hc
 ·rcases hT_.1 hc with hc|hc
  ·have:=Zus h c hc;omega
  ·have:=Znl _ c hc;omega
 ·rw[mem_singleton.1 hc];omega
end Go.Mw
namespace Go.M45
def sumG (n:Int):List Int->Int
 |[]=>n
 |x::r=>sumG (min (n+min x 1099511627776) 1099511627776) r
def timG (n:Int):List Int->Int
 |[]=>n
 |x::r=>if x > 1099511627776/n then 1099511627776 else timG (n*x) r
def addP (a b:Int):Int:=if a+b > 1099511627776 then 1099511627776 else a+b
def mulP (a b:Int):Int:=if a > 1099511627776/b then 1099511627776 else a*b
theorem sum2 (a b:Int) (ha:0<=a) (hb:0<=b) (ha2:a<=1099511627776) (hb2:b<=1099511627776):sumG 0 [a,b]=addP a b:=by
 simp only[sumG,addP]
 split <;> omega
theorem Zh5 (a b:Int) (hb:0 < b):a > 1099511627776/b↔1099511627776 < a*b:=Int.ediv_lt_iff_lt_mul hb
theorem Zun (a b:Int) (ha:0 < a) (hb:0 < b):mulP a b=mulP b a:=by
 unfold mulP
 by_cases h:1099511627776 < a*b
 ·rw[if_pos ((Zh5 a b hb).2 h),if_pos ((Zh5 b a ha).2 (by rw[Int.mul_comm];exact h))]
 ·rw[if_neg (λe=>h ((Zh5 a b hb).1 e)),if_neg (λe=>h (by have:=(Zh5 b a ha).1 e;rw[Int.mul_comm] at this;exact this)),Int.mul_comm]
theorem tim2 (a b:Int) (ha:0 < a) (hb:0 < b) (ha2:a<=1099511627776):timG 1 [a,b]=mulP a b:=by
 simp only[timG,Int.ediv_one,Int.one_mul];rw[if_neg (by omega),Zun a b ha hb];unfold mulP;rw[Int.mul_comm]
theorem Zs1 (a b:Int) (hb:0 < b):mulP a b<=1099511627776:=by
 unfold mulP;split
 ·exact Int.le_refl _
 ·rename_i h;have h2:¬ ((1099511627776:Int) < a*b):=λe=>h ((Zh5 a b hb).2 e);omega
theorem Zpp (a b:Int) (ha:0 < a) (hb:0 < b):0 < mulP a b:=by
 unfold mulP;split
 ·decide
 ·exact Int.mul_pos ha hb
theorem Zss (a b:Int) (h:a+b<=1099511627776):addP a b=a+b:=by unfold addP;rw[if_neg (by omega)]
def lgP (n:Nat):Nat->Nat->Nat
 |0,b=>b
 |f+1,b=>if 2^b < n then lgP n f (b+1) else b
def lg (n:Nat):Nat:=lgP n n 0
theorem Zps (n:Nat):∀ f b,(∀ j,j < b->2^j < n)->n<=2^(b+f)->(∀ j,j < lgP n f b->2^j < n)/\n<=2^lgP n f b
 |0,b,h,h2=>⟨h,h2⟩
 |f+1,b,h,h2=>by
  rw[lgP];split
  ·rename_i h3;refine Zps n f (b+1) (λj hj=>?_) (by rw[show b+1+f=b+(f+1) by omega];exact h2);rcases hU_ j b with h4|h4
   ·exact h j h4
   ·have:j=b:=by omega
    rw[this];exact h3
  ·exact⟨h,by omega⟩
theorem Ze3 (n:Nat):(∀ j,j < lg n->2^j < n)/\n<=2^lg n:=
 Zps n n 0 (λj hj=>by omega) (by rw[Nat.zero_add];exact Nat.le_of_lt Nat.lt_two_pow_self)
theorem Zz0 (n b:Nat) (h1:∀ j,j < b->2^j < n) (h2:n<=2^b):b=lg n:=by
 obtain⟨h3,h4⟩:=Ze3 n;rcases Nat.lt_trichotomy b (lg n) with h|h|h
 ·have:=h3 b h;omega
 ·exact h
 ·have:=h1 _ h;omega
theorem lg_le (n m:Nat) (h:n<=2^m):lg n<=m:=by
 rcases hU_ m (lg n) with h1|h1
 ·have:=(Ze3 n).1 m h1;omega
 ·exact h1
def each (n:Nat):Nat:=(4+3*lg n)*(lg n+2)
theorem Ztx (n:Nat) (h:n<=1048576):each n<=1408:=by
 have:=lg_le n 20 h;unfold each;exact Nat.mul_le_mul (show 4+3*lg n<=64 by omega) (show lg n+2<=22 by omega)
theorem Zyl (n:Nat):8<=each n:=by
 unfold each;exact Nat.mul_le_mul (show 4<=4+3*lg n by omega) (show 2<=lg n+2 by omega)
def mostS (n:Nat):Nat:=n*each n
theorem Zg7 (n:Nat) (h:n<=1048576):mostS n<=1048576*1408:=Nat.mul_le_mul h (Ztx n h)
def pressP (r n:Nat):Int:=addP ((n:Int)+1) (mulP (((5*n+2*r - 1)/(2*r):Nat)+2:Int) ((mostS r:Nat)+r+r:Int))
def expP (u n:Nat):Int:=addP (8*(n:Int)+16) (mulP ((n/16:Nat)+1:Int) (36*(u:Int)))
end Go.M45
namespace Go.Mr
open Go.M18
def cM (m:Nat):Nat:=if h:m < 2 then 1 else 1+(cM (m/2)+cM (m - m/2)+(m/2+m))
termination_by m
decreasing_by all_goals omega
theorem Zzm {m:Nat}(h:2<=m):cM (m/2)+(cM (m - m/2)+(m/2+m)) < cM m:=by
 rw[cM.eq_1 m,dif_neg (by omega)];omega
theorem Zzs (m:Nat):1<=cM m:=by
 rw[cM]
 split <;> omega
theorem cM_le:∀ (b m:Nat),1<=m->m<=2^b->2*cM m+2<=4*m+3*(m*b)
 |0,m,h1,h2=>by
  have:m=1:=by rw[Nat.pow_zero] at h2;omega
  subst this;rw[cM,dif_pos (by decide)];decide
 |b+1,m,h1,h2=>by
  by_cases h:m < 2
  ·have:m=1:=by omega
   subst this;rw[cM,dif_pos (by decide)];omega
  ·rw[Nat.pow_succ] at h2;have a1:=cM_le b (m/2) (by omega) (by omega);have a2:=cM_le b (m - m/2) (by omega) (by omega);rw[cM,dif_neg h]
   have e1:m*(b+1)=m*b+m:=by rw[Nat.mul_add,Nat.mul_one]
   have e2:m/2*b+(m - m/2)*b=m*b:=by rw[<-Nat.add_mul];congr 1;omega
   rw[e1];omega
def pl (n:Nat):Nat->Nat->Nat
 |0,_=>0
 |f+1,t=>if n<=t then 0 else pl n f (2*t)+1
def rp (n t:Nat):Nat:=if t=0 then pl n n 1+1 else pl n n t
theorem Zsf (n:Nat):∀ (f g t:Nat),1<=t->n<=t+f->n<=t+g->pl n f t=pl n g t
 |0,0,t,_,_,_=>rfl
 |0,g+1,t,h1,h2,_=>by
  show 0=if n<=t then 0 else _
  rw[if_pos (by omega)]
 |f+1,0,t,h1,_,h3=>by
  show (if n<=t then 0 else _)=0;rw[if_pos (by omega)]
 |f+1,g+1,t,h1,h2,h3=>by
  show (if n<=t then 0 else pl n f (2*t)+1)=(if n<=t then 0 else pl n g (2*t)+1);split
  ·rfl
  ·rw[Zsf n f g (2*t) (by omega) (by omega) (by omega)]
theorem Zz6 {n t:Nat}(h:t < n):rp n t=rp n (max 1 (2*t))+1:=by
 unfold rp
 by_cases h0:t=0
 ·subst h0;rfl
 ·rw[if_neg h0,if_neg (by omega),show max 1 (2*t)=2*t by omega];have:pl n n t=pl n (n+1) t:=Zsf n n (n+1) t (by omega) (by omega) (by omega);rw[this];show (if n<=t then 0 else pl n n (2*t)+1)=_;rw[if_neg (by omega)]
theorem pl_le (n:Nat):∀ (b f t:Nat),1<=t->n<=t*2^b->pl n f t<=b
 |_,0,_,_,_=>hE _
 |0,f+1,t,h1,h2=>by
  show (if n<=t then 0 else _)<=0;rw[if_pos (by simpa using h2)];exact Nat.le_refl 0
 |b+1,f+1,t,h1,h2=>by
  show (if n<=t then 0 else pl n f (2*t)+1)<=b+1;split
  ·omega
  ·have:=pl_le n b f (2*t) (by omega) (by rw[Nat.pow_succ] at h2;rw[Nat.mul_comm 2 t,Nat.mul_assoc,Nat.mul_comm 2];exact h2);omega
namespace Fine
def cost (p:Pt):Nat:=if p.mid=0 then cM (p.hi - p.lo) else (p.mid - p.lo)+(p.hi - p.lo)
def costs:List Pt->Nat
 |[]=>0
 |p::st=>cost p+costs st
def passC (n:Nat):Nat:=cM n+n
def mu (n:Nat) (x:SS):Nat:=if x.done=true then 0 else (rp n x.reach*passC n+costs x.stack+mCost x+(n - x.ranked))
variable {s:List UInt8}{x:SS}{k:Key}{n:Nat}
theorem mu_eq (h:x.done=false):mu n x=(rp n x.reach*passC n+costs x.stack+mCost x+(n - x.ranked)):=by
 unfold mu;rw[if_neg (by rw[h];exact Bool.false_ne_true)]
theorem join_mu (hb:Bs n x) (h:PhC k n x):mu n (joinS x)=mu n x:=by
 unfold joinS;split
 ·rfl
 ·rename_i p st e;split
  ·rename_i q;rcases h with h|⟨R,h⟩
   ·have hw:=h.wf;rw[e] at hw;obtain⟨⟨w1,w2⟩,hc,_⟩:=hw;unfold Cond at hc;rw[if_neg q.2] at hc;have c1:=hc.1;have c2:=hc.2.1
    have:costs (p::st)=(p.mid - p.lo)+(p.hi - p.lo)+costs st:=by
     show cost p+costs st=_;unfold cost;rw[if_neg q.2]
    rw[mu_eq hb.nd,mu_eq (x:={ x with merge:=p,stack:=st,laid:=0,first:=0,second:=p.mid }) hb.nd,Zb5 q.1,Zbl (x:={ x with merge:=p,stack:=st,laid:=0,first:=0,second:=p.mid }) (by show ¬ p.hi=0;omega),e,this];show (rp n x.reach*passC n+costs st+(p.mid - p.lo - 0+(p.hi - (p.lo+0+p.mid - p.mid)))+(n - x.ranked))=_;omega
   ·have:=h.m2;omega
  ·rfl
theorem begin_cost {lo hi:Nat}(h:2<=hi - lo):cost ⟨lo,0,(lo+hi)/2⟩+(cost ⟨(lo+hi)/2,0,hi⟩+cost ⟨lo,(lo+hi)/2,hi⟩) < cost ⟨lo,0,hi⟩:=by
 unfold cost;rw[if_pos rfl,if_pos rfl,if_pos rfl,if_neg (by show ¬ (lo+hi)/2=0;omega)];simp only
 have e1:(lo+hi)/2 - lo=(hi - lo)/2:=by omega
 have e2:hi - (lo+hi)/2=(hi - lo) - (hi - lo)/2:=by omega
 rw[e1,e2];have:=Zzm h;omega
theorem pass_mu {y:SS}(hd:x.done=false) (hyd:y.done=false) (h1:x.reach < n) (h2:y.reach=max 1 (2*x.reach)) (h3:y.stack=[⟨0,0,n⟩]) (h4:y.merge.hi=0) (h5:y.ranked=0) (h6:x.ranked < n):mu n y < mu n x:=by
 unfold mu;rw[hd,hyd,if_neg (by simp),if_neg (by simp),h3,h5]
 have e1:mCost y=0:=by unfold mCost;rw[if_pos h4]
 have e2:costs [⟨0,0,n⟩]=cM n:=by
  show cost ⟨0,0,n⟩+0=_;unfold cost;rw[if_pos rfl];rfl
 rw[e1,e2,h2];have h7:=Zz6 h1
 have h8:rp n x.reach*passC n=rp n (max 1 (2*x.reach))*passC n+passC n:=by rw[h7,Nat.add_mul,Nat.one_mul]
 have h9:passC n=cM n+n:=rfl;omega
theorem rank_mu (hd:x.done=false) (h:x.ranked < n):mu n (rank1 k x) < mu n x:=by
 unfold mu;rw[show (rank1 k x).done=x.done from rfl,hd,if_neg (by simp),if_neg (by simp)];show (rp n x.reach*passC n+costs x.stack+mCost x+(n - (x.ranked+1))) < _;omega
theorem step_ok (h:Inv s x):mu s.length (stepS (keyS s x) s.length x) < mu s.length x/\
  (((stepS (keyS s x) s.length x).done=true/\(stepS (keyS s x) s.length x).order=sortP s s.length)\/Inv s (stepS (keyS s x) s.length x)):=by
 have hj:=Zo0 h.bs h.ph;have hjm:=join_mu h.bs h.ph
 have hjk:keyS s (joinS x)=keyS s x/\Cls s (joinS x):=by
  unfold joinS;split
  ·exact⟨rfl,h.cls⟩
  ·split
   ·exact⟨rfl,h.cls⟩
   ·exact⟨rfl,h.cls⟩
 unfold stepS;rw[<-hjm];generalize joinS x=y at *;obtain⟨hb,hp,hm⟩:=hj;obtain⟨hk,hc⟩:=hjk;rw[<-hk] at hp ⊢;have hnd:=hb.nd;unfold restS
 by_cases q1:0 < y.merge.hi/\y.laid < y.merge.mid - y.merge.lo
 ·rw[if_pos q1];obtain⟨b1,b2⟩:=Zxb hb hp q1.1 q1.2;refine⟨?_,.inr ⟨b1,hc,b2⟩⟩;rw[mu_eq hnd,mu_eq (x:=layS y) hnd,Zbl (x:=y) (by omega),Zbl (x:=layS y) (by show ¬ y.merge.hi=0;omega)];show (rp s.length y.reach*passC s.length+costs y.stack+(y.merge.mid - y.merge.lo - (y.laid+1)+(y.merge.hi - toS y))+(s.length - y.ranked)) < _;omega
 ·rw[if_neg q1]
  by_cases q2:0 < y.merge.hi
  ·rw[if_pos q2];have q3:¬ y.laid < y.merge.mid - y.merge.lo:=λz=>q1 ⟨q2,z⟩;obtain⟨b1,b2⟩:=Zxc hb hp q2 q3
   have hcl:Cls s (putS (keyS s y) y):=by
    unfold putS moveS;split
    ·split <;> exact hc
    ·split <;> exact hc
   have hky:keyS s (putS (keyS s y) y)=keyS s y:=by
    unfold putS moveS;split
    ·split <;> rfl
    ·split <;> rfl
   refine⟨?_,.inr ⟨b1,hcl,by rw[hky];exact b2⟩⟩;rcases hp with hp|⟨R,hp⟩
   ·have:=hp.none;omega
   have hm1:=hp.m1;have hm2:=hp.m2;have hlay:=hp.lay
   obtain⟨v,f,c,e,_,_,_,_,t1,_⟩:=Zmi hb hp (by omega);obtain⟨_,_,_,l4,_⟩:=hp.late (by omega);unfold putS;rw[e];rw[mu_eq hnd,Zbl (x:=y) (by omega)];split
   ·rename_i q;rw[mu_eq (by exact hnd),Zb5 (by rfl)];show (rp s.length y.reach*passC s.length+costs y.stack+0+(s.length - y.ranked)) < _;omega
   ·rename_i q;rw[mu_eq (by exact hnd),Zbl (by show ¬ y.merge.hi=0;omega)];show (rp s.length y.reach*passC s.length+costs y.stack+(y.merge.mid - y.merge.lo - y.laid+(y.merge.hi - (y.merge.lo+f+c - y.merge.mid)))+(s.length - y.ranked)) < _;omega
  ·rw[if_neg q2]
   by_cases q3:y.stack≠[]
   ·rw[if_pos q3];obtain⟨b1,b2⟩:=Zp2 hb hp q2 q3 (hm (by omega))
    have hcl:Cls s (beginS y):=by
     unfold beginS;split
     ·exact hc
     ·split <;> exact hc
    have hky:keyS s (beginS y)=keyS s y:=by
     unfold beginS;split
     ·rfl
     ·split <;> rfl
    refine⟨?_,.inr ⟨b1,hcl,by rw[hky];exact b2⟩⟩;rcases hp with hp|⟨R,hp⟩
    rotate_left
    ·have:=hp.m2;omega
    unfold beginS;split
    ·rename_i e;exact absurd e q3
    ·rename_i p st e;have hw:=hp.wf;rw[e] at hw;have h0:=hw.1;have hmid:=hm (by omega) p st e;obtain⟨lo,mid,hi⟩:=p;simp only at hmid h0;subst hmid;have ec:costs (⟨lo,0,hi⟩::st)=cost ⟨lo,0,hi⟩+costs st:=rfl;rw[mu_eq hnd,Zb5 (show y.merge.hi=0 by omega),e,ec];split
     ·rename_i q;rw[mu_eq (by exact hnd),Zb5 (by show y.merge.hi=0;omega)]
      have h9:1<=cost ⟨lo,0,hi⟩:=by
       unfold cost;rw[if_pos rfl];exact Zzs _
      show (rp s.length y.reach*passC s.length+costs st+0+(s.length - y.ranked)) < _;omega
     ·rename_i q;simp only at q;rw[mu_eq (by exact hnd),Zb5 (by show y.merge.hi=0;omega)];have h9:=begin_cost (lo:=lo) (hi:=hi) (by omega);show (rp s.length y.reach*passC s.length+(cost ⟨lo,0,(lo+hi)/2⟩+(cost ⟨(lo+hi)/2,0,hi⟩+(cost ⟨lo,(lo+hi)/2,hi⟩+costs st)))+0+(s.length - y.ranked)) < _;omega
   ·rw[if_neg q3];have q4:y.stack=[]:=Classical.byContradiction q3;have hi:Inv s y:=⟨hb,hc,hp⟩;obtain⟨_,_,hkn,hgo,_⟩:=Zme hb hp q2 q4;unfold rankS;split
    ·rename_i q;have:=Zuy hi q2 q4 q;simp only at this;rcases this with⟨p1,p2⟩|⟨p1,p2,p3,p4,p5,p6,p7⟩
     ·refine⟨?_,.inl ⟨p1,p2⟩⟩;unfold mu;rw[p1,hnd,if_pos rfl,if_neg (by simp)];omega
     ·have hr:(passS s.length (rank1 (keyS s y) y)).reach=max 1 (2*y.reach):=by
       unfold passS at p1 ⊢;split
       ·rename_i q5;rw[if_pos q5] at p1;cases p1
       ·rfl
      exact⟨pass_mu hnd p1 p3 hr p5 p6 p7 hkn,.inr p2⟩
    ·rename_i q;obtain⟨b1,b2⟩:=hgo (by omega);exact⟨rank_mu hnd hkn,.inr ⟨b1,hc,b2⟩⟩
theorem mu_start {n:Nat}(hn:2<=n):mu n (start n)<=M45.mostS n:=by
 unfold mu;rw[if_neg (by simp[start])];show rp n 0*passC n+(cost ⟨0,0,n⟩+0)+0+(n - 0)<=_
 have h1:cost ⟨0,0,n⟩=cM n:=by unfold cost;rw[if_pos rfl];rfl
 have h2:rp n 0<=M45.lg n+1:=by
  show pl n n 1+1<=_;have:=pl_le n (M45.lg n) n 1 (Nat.le_refl 1) (by rw[Nat.one_mul];exact (M45.Ze3 n).2);omega
 have h3:=cM_le (M45.lg n) n (by omega) (M45.Ze3 n).2
 have h4:passC n<=n*(4+3*M45.lg n):=by
  unfold passC
  have e:n*(4+3*M45.lg n)=4*n+3*(n*M45.lg n):=by rw[Nat.mul_add,Nat.mul_comm n 4,<-Nat.mul_assoc,Nat.mul_comm n 3,Nat.mul_assoc]
  rw[e];omega
 have h5:rp n 0*passC n+(cM n+n)<=(M45.lg n+2)*(n*(4+3*M45.lg n)):=by
  have h6:(rp n 0+1)*passC n<=(M45.lg n+2)*(n*(4+3*M45.lg n)):=Nat.mul_le_mul (by omega) h4;rw[Nat.add_mul,Nat.one_mul] at h6;exact h6
 have e2:M45.mostS n=(M45.lg n+2)*(n*(4+3*M45.lg n)):=by
  unfold M45.mostS M45.each;rw[<-Nat.mul_assoc,Nat.mul_comm]
 rw[h1,e2];omega
end Fine
end Go.Mr
namespace Go.Mk
open Go.M01 Go.Mb Go.Mp Go.M10 Go.Mc Go.Mz
structure RS where
 code:CS
 zeros:ZS
 list:List UInt8
 due:Nat
 place:Nat
structure BS where
 room:Nat
 head:Bool
 sum:Nat
 frm:Nat
 row:Option RS
 last:List UInt8
 done:Bool
def b0 (room:Nat):BS:=⟨room,false,0,0,none,[],false⟩
def rowOf (T:Nat->Bool) (room:Nat):RS:=⟨c0 ((listed T).length+2),z0 (listed T).length room,listed T,0,0⟩
def RS.waits (r:RS):Bool:=decide (0 < r.due)||decide (0 < r.place)
def RS.at_ (r:RS):Nat:=if 0 < r.due then 0 else r.place
def RS.next (r:RS):RS:=⟨r.code,r.zeros,frontB r.list r.at_,r.due - 1,if 0 < r.due then r.place else 0⟩
def RS.byte (r:RS):UInt8:=r.list.getD r.at_ 0
def bend (b:BS) (k:Nat):Res BS:=
 match b.row with
 |none=>.ok b k
 |some r=>if r.code.done=false\/r.waits=true then .ok b k
  else if b.last.length<=b.frm then .bad 23
  else .ok ⟨b.room,b.head,b.sum,b.frm,b.row,b.last,true⟩ k
def btold (b:BS) (r:RS) (c:CS) (s k:Nat):Res BS:=
 match zput r.zeros s with
 |none=>.bad 25
 |some (z,d,p)=>bend ⟨b.room,b.head,b.sum,b.frm,some ⟨c,z,r.list,d,p.toNat⟩,b.last,b.done⟩ k
def bsym (b:BS) (r:RS):Res (CS × Option Nat)->Res BS
 |.short=>.short
 |.bad e=>.bad e
 |.ok (c,none) k=>bend ⟨b.room,b.head,b.sum,b.frm,some ⟨c,r.zeros,r.list,r.due,r.place⟩,b.last,b.done⟩ k
 |.ok (c,some s) k=>btold b r c s k
def buse (b:BS):Res (Nat->Bool)->Res BS
 |.short=>.short
 |.bad e=>.bad e
 |.ok T k=>bend ⟨b.room,b.head,b.sum,b.frm,some (rowOf T b.room),b.last,b.done⟩ k
def bhead (b:BS) (l:List Bool):Res BS:=
 if l.length < 57 then .short
 else if valB ((l.drop 32).take 1)=1 then .bad 25
 else bend ⟨b.room,true,valB (l.take 32),valB ((l.drop 33).take 24),b.row,b.last,b.done⟩ 57
def bnext (b:BS) (r:RS):Res BS:=bend ⟨b.room,b.head,b.sum,b.frm,some r.next,b.last++[r.byte],b.done⟩ 0
def bstep (b:BS) (l:List Bool):Res BS:=
 if b.head=false then bhead b l
 else match b.row with
  |none=>buse b (uread l)
  |some r=>if r.waits=true then bnext b r else bsym b r (cstep r.code l)
structure RS.Ok (r:RS):Prop where
 code:r.code.Ok
 zeros:r.zeros.Ok
 zd:r.zeros.done=r.code.done
 size:r.code.size=r.zeros.n+2
 list:r.list.length=r.zeros.n
 place:r.place < r.zeros.n
structure BS.Ok (b:BS):Prop where
 room:b.room<=900000
 sum:b.sum < 4294967296
 frm:b.frm < 16777216
 none_:b.row=none->b.last=[]/\b.done=false
 some_:∀ r,b.row=some r->b.head=true/\r.Ok/\r.zeros.most=b.room/\b.last.length+r.due+(if 0 < r.place then 1 else 0)=r.zeros.told/\(b.done=false->r.code.done=true->r.waits=true)
theorem b0_ok {n:Nat}(h:n<=900000):(b0 n).Ok:=⟨h,by simp[b0],by simp[b0],λ_=>⟨rfl,rfl⟩,λr h=>by simp[b0] at h⟩
theorem Zx1 {T:Nat->Bool}{room:Nat}(hT:listed T≠[]) (hr:room<=900000):(rowOf T room).Ok:=by
 have h1:=Zc3 T;have h2:0 < (listed T).length:=gZ.2 hT;exact⟨c0_ok (by omega) (by omega),z0_ok (by omega) h1 hr,rfl,rfl,rfl,h2⟩
structure Pre (b:BS):Prop where
 room:b.room<=900000
 sum:b.sum < 4294967296
 frm:b.frm < 16777216
 none_:b.row=none->b.last=[]
 some_:∀ r,b.row=some r->b.head=true/\r.Ok/\r.zeros.most=b.room/\b.last.length+r.due+(if 0 < r.place then 1 else 0)=r.zeros.told
 done:b.done=false
theorem Zfa {b b':BS}{k k':Nat}(hp:Pre b) (h:bend b k=.ok b' k'):b'.Ok/\k'=k:=by
 unfold bend at h;split at h
 ·rename_i hr;cases h;exact⟨⟨hp.room,hp.sum,hp.frm,λh=>⟨hp.none_ h,hp.done⟩,λr h=>(by rw[hr] at h;cases h)⟩,rfl⟩
 ·rename_i r hr;have hs:=hp.some_ r hr;split at h
  ·rename_i hc;cases h;refine⟨⟨hp.room,hp.sum,hp.frm,λh=>(by rw[hr] at h;cases h),λr' h=>?_⟩,rfl⟩;rw[hr] at h;cases h;refine⟨hs.1,hs.2.1,hs.2.2.1,hs.2.2.2,λ_ h2=>?_⟩;rcases hc with h3|h3
   ·rw[h2] at h3;cases h3
   ·exact h3
  ·split at h
   ·cases h
   ·cases h;refine⟨⟨hp.room,hp.sum,hp.frm,λh=>(by simp only[hr] at h;cases h),λr' h=>?_⟩,rfl⟩;simp only[hr] at h;cases h;exact⟨hs.1,hs.2.1,hs.2.2.1,hs.2.2.2,λh=>by cases h⟩
theorem Zoj {b:BS}{r:RS}(hb:b.Ok) (hd:b.done=false) (hr:b.row=some r) (hw:r.waits=true):Pre ⟨b.room,b.head,b.sum,b.frm,some r.next,b.last++[r.byte],b.done⟩:=by
 obtain⟨h1,h2,h3,h4,h5⟩:=hb.some_ r hr;refine⟨hb.room,hb.sum,hb.frm,λh=>(by cases h),λr' h=>?_,hd⟩;cases h;have hp:=h2.place
 have hat:r.at_ < r.list.length:=by
  have:=h2.list;unfold RS.at_
  split <;> omega
 refine⟨h1,⟨h2.code,h2.zeros,h2.zd,h2.size,by rw[RS.next,Zfb hat];exact h2.list,?_⟩,h3,?_⟩
 ·simp only[RS.next];split <;> omega
 ·unfold RS.waits at hw;simp only[Bool.or_eq_true,decide_eq_true_iff] at hw;show (b.last++[r.byte]).length+(r.due - 1)+(if 0 < r.next.place then 1 else 0)=r.zeros.told;rw[gD,gQ]
  by_cases h0:0 < r.due
  ·have e:r.next.place=r.place:=by simp[RS.next,h0]
   simp only[e];omega
  ·have hpl:0 < r.place:=by omega
   have e:r.next.place=0:=by simp[RS.next,h0]
   rw[if_pos hpl] at h4;simp only[e,Nat.lt_irrefl,if_false];omega
theorem Zo8 {b:BS}{r:RS}{c:CS}{z:ZS}{s d k:Nat}{p:Int}{l:List Bool}(hb:b.Ok) (hd:b.done=false) (hr:b.row=some r) (hw:r.waits=false)
  (hc:cstep r.code l=.ok (c,some s) k) (hz:zput r.zeros s=some (z,d,p)):Pre ⟨b.room,b.head,b.sum,b.frm,some ⟨c,z,r.list,d,p.toNat⟩,b.last,b.done⟩:=by
 obtain⟨h1,h2,h3,h4,h5⟩:=hb.some_ r hr;have hco:=Zdw hc h2.code;have hzo:=Zrx h2.zeros hz;have hsz:=h2.size;have hs:=hco.2.2 s rfl
 have hcd:c.done=decide (s=r.code.size - 1):=by
  unfold cstep at hc;split at hc
  ·unfold withPicks at hc
   split at hc <;> cases hc
  ·split at hc
   ·unfold withLens at hc
    repeat' split at hc
    all_goals cases hc
   ·split at hc
    ·cases hc
    ·unfold withSymbol at hc;split at hc
     ·cases hc
     ·cases hc;rfl
 unfold RS.waits at hw;simp only[Bool.or_eq_false_iff,decide_eq_false_iff_not] at hw;rw[if_neg hw.2] at h4;refine⟨hb.room,hb.sum,hb.frm,λh=>(by cases h),λr' h=>?_,hd⟩;cases h;unfold zput at hz;have hn1:=h2.zeros.n1;split at hz
 ·rename_i hc1;split at hz
  ·cases hz
  ·cases hz;refine⟨h1,⟨hco.1,hzo,?_,by rw[hco.2.1];exact hsz,h2.list,by simp only;omega⟩,h3,?_⟩
   ·rw[hcd];simp only;exact (decide_eq_false (by omega)).symm
   ·simp only[show ((-1:Int)).toNat=0 from rfl,Nat.lt_irrefl,if_false];omega
 ·rename_i hc1;split at hz
  ·rename_i hc2;cases hz;refine⟨h1,⟨hco.1,hzo,?_,by rw[hco.2.1];exact hsz,h2.list,by simp only;omega⟩,h3,?_⟩
   ·rw[hcd];simp only;exact (decide_eq_true (by omega)).symm
   ·simp only[show ((-1:Int)).toNat=0 from rfl,Nat.lt_irrefl,if_false];omega
  ·rename_i hc2;split at hz
   ·cases hz
   ·cases hz;refine⟨h1,⟨hco.1,hzo,?_,by rw[hco.2.1];exact hsz,h2.list,by simp only;omega⟩,h3,?_⟩
    ·rw[hcd];simp only;exact (decide_eq_false (by omega)).symm
    ·simp only;rw[if_pos (by omega)];omega
theorem Zup {c c':CS}{l:List Bool}{k:Nat}(h:cstep c l=.ok (c',none) k):c'.done=c.done:=by
 unfold cstep at h;split at h
 ·unfold withPicks at h
  split at h <;> cases h
  rfl
 ·split at h
  ·unfold withLens at h
   repeat' split at h
   all_goals cases h
   all_goals rfl
  ·split at h
   ·cases h
   ·unfold withSymbol at h
    split at h <;> cases h
theorem Zs0 {b:BS}{r:RS}{c:CS}{k:Nat}{l:List Bool}(hb:b.Ok) (hd:b.done=false) (hr:b.row=some r) (hc:cstep r.code l=.ok (c,none) k) :
  Pre ⟨b.room,b.head,b.sum,b.frm,some ⟨c,r.zeros,r.list,r.due,r.place⟩,b.last,b.done⟩:=by
 obtain⟨h1,h2,h3,h4,h5⟩:=hb.some_ r hr;have hco:=Zdw hc h2.code;refine⟨hb.room,hb.sum,hb.frm,λh=>(by cases h),λr' h=>?_,hd⟩;cases h;exact⟨h1,⟨hco.1,h2.zeros,by rw[Zup hc];exact h2.zd,by rw[hco.2.1];exact h2.size,h2.list,h2.place⟩,h3,h4⟩
theorem Zrv {b:BS}{T:Nat->Bool}(hb:b.Ok) (hh:b.head=true) (hr:b.row=none) (hT:listed T≠[]):Pre ⟨b.room,b.head,b.sum,b.frm,some (rowOf T b.room),b.last,b.done⟩:=by
 have hn:=hb.none_ hr;refine⟨hb.room,hb.sum,hb.frm,λh=>(by cases h),λr' h=>?_,hn.2⟩;cases h;exact⟨hh,Zx1 hT hb.room,rfl,by rw[hn.1];rfl⟩
theorem Zf0 {b:BS}{s f:Nat}(hb:b.Ok) (hh:b.head=false) (hs:s < 4294967296) (hf:f < 16777216):b.row=none/\Pre ⟨b.room,true,s,f,b.row,b.last,b.done⟩:=by
 have hr:b.row=none:=by
  cases hr:b.row with
  |none=>rfl
  |some r=>have:=(hb.some_ r hr).1;rw[hh] at this;cases this
 have hn:=hb.none_ hr;exact⟨hr,hb.room,hs,hf,λ_=>hn.1,λr h=>(by simp only at h;rw[hr] at h;cases h),hn.2⟩
theorem Zv9 {b:BS}{r:RS}(hb:b.Ok) (hd:b.done=false) (hr:b.row=some r) (hw:r.waits=false):r.code.done=false:=by
 cases hc:r.code.done with
 |false=>rfl
 |true=>
  have:=(hb.some_ r hr).2.2.2.2 hd hc;rw[hw] at this;cases this
theorem Zf5 {b:BS}{k e:Nat}(h:bend b k=.bad e):e=23:=by
 unfold bend at h;split at h
 ·cases h
 ·split at h
  ·cases h
  ·split at h
   ·cases h;rfl
   ·cases h
theorem Zcq {b:BS}{k:Nat}:bend b k≠.short:=by
 unfold bend;split
 ·intro h;cases h
 ·split
  ·intro h;cases h
  ·split
   ·intro h;cases h
   ·intro h;cases h
theorem Zh2 {b:BS}{l:List Bool}{e:Nat}(h:bstep b l=.bad e):e=22\/e=23\/e=25:=by
 unfold bstep at h;split at h
 ·unfold bhead at h;split at h
  ·cases h
  ·split at h
   ·cases h;exact .inr (.inr rfl)
   ·exact .inr (.inl (Zf5 h))
 ·split at h
  ·unfold buse at h;split at h
   ·cases h
   ·rename_i hu;cases h;exact .inr (.inr (Zsz hu))
   ·exact .inr (.inl (Zf5 h))
  ·split at h
   ·exact .inr (.inl (Zf5 h))
   ·unfold bsym at h;split at h
    ·cases h
    ·rename_i hu;cases h;rcases Zgw hu with h|h
     ·exact .inl h
     ·exact .inr (.inr h)
    ·exact .inr (.inl (Zf5 h))
    ·unfold btold at h;split at h
     ·cases h;exact .inr (.inr rfl)
     ·exact .inr (.inl (Zf5 h))
end Go.Mk
namespace Go.Q21
open Go.M01 Go.Mb Go.Mp Go.M10 Go.Mc Go.Mz Go.Mk
theorem foldl_val (l:List Bool):∀ a:Nat,l.foldl (λa b=>2*a+b.toNat) a=a*2^l.length+valB l:=by
 induction l with
 |nil=>intro a;simp[valB]
 |cons b l ih=>
  intro a;have h1:=ih (2*a+b.toNat);have h2:=ih (2*0+b.toNat);unfold valB;rw[List.foldl_cons,List.foldl_cons,h1,h2,length_cons,Nat.pow_succ,Nat.add_mul,Nat.add_mul,Nat.mul_comm 2 a,Nat.mul_assoc,Nat.mul_comm 2 (2^l.length)];omega
theorem valB_app (a b:List Bool):valB (a++b)=valB a*2^b.length+valB b:=by
 have:=foldl_val b (valB a);unfold valB at this ⊢;rw[List.foldl_append];exact this
theorem valB_cons (b:Bool) (l:List Bool):valB (b::l)=b.toNat*2^l.length+valB l:=by
 have:=valB_app [b] l
 rwa [Zjr] at this
theorem Zrf {l:List Bool}{v n:Nat}(hl:l.length=n) (hv:valB l=v):l=bitsOf v n:=by
 subst hl hv;exact valB_inj (n:=l.length) rfl (Za5 _ _) (valB_bitsOf _ _ (Zbg l)).symm
def cnt (q:List Bool) (i:Nat):Nat:=((List.range i).filter λi=>q.getD i false).length
theorem Zw6 (q:List Bool) (i:Nat):cnt q (i+1)=cnt q i+(q.getD i false).toNat:=by
 unfold cnt;rw[range_succ,List.filter_append,gD]
 congr 1
 rw[List.filter_cons]
 cases q.getD i false <;> rfl
theorem cnt_le (q:List Bool):∀ i,i<=16->cnt q i<=(marksL q).length:=by
 have mono:∀ i k,cnt q i<=cnt q (i+k):=by
  intro i k
  induction k with
  |zero=>exact Nat.le_refl _
  |succ k ih=>rw[<-hG_,Zw6];omega
 intro i hi;have:=mono i (16 - i)
 rwa [show i+(16 - i)=16 by omega] at this
def below (T:Nat->Bool) (b:Nat):List UInt8:=((List.range b).filter T).map UInt8.ofNat
end Go.Q21
namespace Go.Proofs.YtpmjeiliblgajaaGreatDoor
open Go Go.Vc Go.Proofs.Tryz
attribute [local irreducible] Vc.Nc Vc.Ld Vc.LdA Vc.St Vc.StA Vc.Fo Vc.Iaa Vc.Ias Vc.Ixs Vc.Ixa Vc.Fd Vc.FdA Vc.Bp Vc.Bb Vc.Bn Vc.Up Vc.Ci Vc.Lns Vc.Lnl Vc.Ex Vc.Sst Vc.Ssl Vc.New Vc.Vif Vc.VJoin Vc.VLoop Vc.KE Vc.Dr Vc.Rk Vc.Cl Vc.Cx Vc.Inv Vc.Be Vc.Cv Vc.Cw Vc.Mf Vc.Sl Vc.Lk Vc.Bd Vc.Bs Vc.Ms Vc.Mm Vc.Mu Vc.Me Vc.Es Vc.Rg Vc.Nx Vc.Ta Vc.Ap Vc.Usd Vc.Ust Vc.Cp Vc.Ln Vc.Bc Vc.Bmin Vc.Bmax Vc.Bdel Vc.Bclr Vc.Pk
namespace S09
open Go.Mh Go.Ms
variable {w:World}{L:List HProp}{K:KT}{v f:Value}{W:List Nat}
theorem Zbn {a b:Nat}{K:Value->Prop}(h1:b<=a) (h2:a<=1000000000000) (h:K (.int .i64 ((a - b:Nat):Int))):Bp .sub (.int .i64 (a:Int)) (.int .i64 (b:Int)) K:=
 r_sub (by omega) (by omega) (by rw[show (a:Int) - (b:Int)=((a - b:Nat):Int) by omega];exact h)
theorem Zcf {A U M V B:List Nat}{a b n:Nat}(H:Holds w (SL nv tI v (A++(U++(M++(V++B))))::L)) (ha:A.length=a) (hu:U.length=n) (hm:a+n+M.length=b) (hv:V.length=n) (hb:b+n<=1000000000)
  (k:∀ w',Same w w'->Holds w' (SL nv tI v (A++(V++(M++(U++B))))::L)->K (.tuple #[]) w'):Cl prog 227 #[v,nv a,nv b,nv n,f] w K:=by
 refine Tz227 ?_;unfold Vz227
 refine Za7 (λx w'=>∃ i:Nat,i<=n/\x=nv i/\Same w w'/\Holds w' (SL nv tI v (A++(V.take i++(U.drop i++(M++(U.take i++(V.drop i++B))))))::L)) (λx _=>n - (intOf x).toNat)
  ⟨0,hE _,rfl,.refl _,by simpa using H⟩ ?_
 clear H;rintro _ _ w1 ⟨i,hi,rfl,S1,H1⟩;refine r_lss (r_ifD (λh=>?_) λh=>?_)
 rotate_left
 ·obtain rfl:i=n:=by omega
  refine k _ S1 ?_;rw[gK (by omega),List.drop_of_length_le (by omega),gK (by omega),List.drop_of_length_le (by omega)] at H1;simpa using H1
 have hU:i < U.length:=by omega
 have hV:i < V.length:=by omega
 rw[Zh3 hU,Zh3 hV,show A++(V.take i++(U[i]::U.drop (i+1)++(M++(U.take i++(V[i]::V.drop (i+1)++B)))))=(A++V.take i)++U[i]::((U.drop (i+1)++(M++U.take i))++V[i]::(V.drop (i+1)++B)) by simp only[gI,cons_append]] at H1;obtain⟨e1,e2,e3,e4,e5⟩:=sw (P:=A++V.take i) (Q:=U.drop (i+1)++(M++U.take i)) (R:=V.drop (i+1)++B) (x:=U[i]) (y:=V[i]) (p:=a+i) (q:=b+i) (by simp;omega) (by simp;omega);refine r_dr H1 λw2 S2 H2=>?_;refine Za9 (by omega) (Za9 (by omega) (Za9 (by omega) ?_));refine Za8 0 H2 rfl e2 ?_;refine Za9 (by omega) ?_;refine Za8 0 H2 rfl e1 ?_;refine Zam 0 H2 V[i] rfl e4 rfl λw3 S3 H3=>?_;refine Zam 0 H3 U[i] rfl e5 rfl λw4 S4 H4=>?_;refine Za0 (by omega) ?_;refine r_ke ⟨⟨i+1,by omega,rfl,S1.trans (S2.trans (S3.trans S4)),?_⟩,?_⟩
 ·replace H4:Holds w4 (SL nv tI v (((A++V.take i++U[i]::((U.drop (i+1)++(M++U.take i))++V[i]::(V.drop (i+1)++B))).set (a+i) V[i]).set (b+i) U[i])::L):=H4;rw[e3] at H4;rw[Zgf hU,Zgf hV];simpa only[gI,cons_append,hO_] using H4
 ·simp only[nv,intOf,gC];omega
theorem Zny {A U V B:List Nat}{a m b:Nat}(H:Holds w (SL nv tI v (A++(U++(V++B)))::L)) (ha:A.length=a) (hm:a+U.length=m) (hb:m+V.length=b) (hU:U≠[]) (hV:V≠[]) (hbb:b<=100000000)
  (k:∀ w',Same w w'->Holds w' (SL nv tI v (A++(V++(U++B)))::L)->K (.tuple #[]) w'):Cl prog 226 #[v,nv a,nv m,nv b,f] w K:=by
 refine Tz226 ?_;unfold Vz226;have hU0:=gZ.2 hU;have hV0:=gZ.2 hV;refine Zbn (by omega) (by omega) (Zbn (by omega) (by omega) ?_)
 refine Zaa (λx y w'=>∃ P U' V' S:List Nat,x=nv U'.length/\y=nv V'.length/\0 < U'.length/\0 < V'.length/\P.length+U'.length=U.length/\V'.length+S.length=V.length/\P++(V'++(U'++S))=V++U/\Same w w'/\
   Holds w' (SL nv tI v (A++(P++(U'++(V'++(S++B)))))::L)) (λx y _=>(intOf x).toNat+(intOf y).toNat)
  ⟨[],U,V,[],by rw[show m - a=U.length by omega],by rw[show b - m=V.length by omega],hU0,hV0,by simp,by simp,by simp,.refl _,by simpa using H⟩ ?_
 clear H;rintro _ _ _ w1 ⟨P,U',V',S,rfl,rfl,h1,h2,h3,h4,h5,S1,H1⟩;refine r_neq (r_ifN (λh=>?_) λh=>?_)
 rotate_left
 ·refine Zbn (by omega) (by omega) ?_;refine Zcf (A:=A++P) (U:=U') (M:=[]) (V:=V') (B:=S++B) (by simpa using H1) (by simp;omega) rfl (by simp;omega) (by omega) (by omega) λw2 S2 H2=>?_;refine k _ (S1.trans S2) ?_;rw[show A++(V++(U++B))=A++((V++U)++B) by simp,<-h5];simpa using H2
 refine r_gtr (r_ifD (λhg=>?_) λhg=>?_)
 ·obtain⟨u1,u2,rfl,e1,e2⟩:=Zy7 (D:=U') (i:=V'.length) (by omega);rw[gD] at *;refine Zbn (by omega) (by omega) ?_;refine Zcf (A:=A++P) (U:=u1) (M:=u2) (V:=V') (B:=S++B) (by simpa using H1) (by simp;omega) e1 (by omega) rfl (by omega) λw2 S2 H2=>?_;refine Zbn (by omega) (by omega) ?_;refine r_ke ⟨⟨P++V',u2,u1,S,by rw[show u1.length+u2.length - V'.length=u2.length by omega],by rw[e1],by omega,by omega,by rw[gD];omega,by omega,by rw[<-h5];simp,S1.trans S2,by simpa using H2⟩,?_⟩;simp only[nv,intOf,gC];omega
 ·obtain⟨v1,v2,rfl,e1,e2⟩:=Zy7 (D:=V') (i:=V'.length - U'.length) (by omega);rw[gD] at *;refine Zbn (by omega) (by omega) (Za9 (by omega) (Zbn (by omega) (by omega) ?_));refine Zcf (A:=A++P) (U:=U') (M:=v1) (V:=v2) (B:=S++B) (by simpa using H1) (by simp;omega) rfl (by omega) (by omega) (by omega) λw2 S2 H2=>?_;refine Zbn (by omega) (by omega) ?_;refine r_ke ⟨⟨P,v2,v1,U'++S,by rw[show v2.length=U'.length by omega],by rw[show v1.length+v2.length - U'.length=v1.length by omega],by omega,by omega,by omega,by rw[gD];omega,by rw[<-h5];simp,S1.trans S2,by simpa using H2⟩,?_⟩;simp only[nv,intOf,gC];omega
def CmpOk (W:List Nat) (v f:Value) (L:List HProp):Prop:=∀ {D:List Nat}{w:World}{x y:Nat}{Q:KT},Holds w (SL nv tI v D::L)->x < W.length->y < W.length->
 (∀ (z:Int) w',(z < 0↔W.getD x 0 < W.getD y 0)->Same w w'->Holds w' (SL nv tI v D::L)->Q (iv z) w')->Inv prog (do let d <-Deferred.ofValue f #[nv x,nv y];invoke d.target d.args) w Q
theorem Zja {x y:Nat}(h:y < x):W.getD x 0 < W.getD y 0↔lt W x y:=by unfold lt;omega
theorem Zec {x y:Nat}(h:y < x) (hn:¬ W.getD x 0 < W.getD y 0):lt W y x:=by unfold lt;omega
theorem Ze0 {A X B:List Nat}{a b:Nat}(hc:CmpOk W v f L) (H:Holds w (SL nv tI v (A++(X++B))::L)) (ha:A.length=a) (hb:a+X.length=b) (hx:∀ x∈X,x < W.length) (hn:X.Pairwise (· < ·)) (hbb:b<=100000000)
  (k:∀ Z w',Z.Perm X->Srt W Z->Same w w'->Holds w' (SL nv tI v (A++(Z++B))::L)->K (.tuple #[]) w'):Cl prog 224 #[v,nv a,nv b,f] w K:=by
 refine Tz224 ?_;unfold Vz224;refine Za0 (by omega) ?_
 refine Za7 (λx w'=>∃ (n:Nat) (Z:List Nat),x=nv (a+1+n)/\n<=X.length/\Z.Perm (X.take (n+1))/\Srt W Z/\Same w w'/\Holds w' (SL nv tI v (A++(Z++(X.drop (n+1)++B)))::L)) (λx _=>b - (intOf x).toNat)
  ⟨0,X.take 1,rfl,hE _,.refl _,by
   cases X with
   |nil=>exact List.Pairwise.nil
   |cons x l=>exact List.pairwise_singleton _ _,.refl _,by rw[<-gI (X.take 1),hN_];exact H⟩ ?_
 clear H;rintro _ _ w1 ⟨n,Z,rfl,hnX,hp,hs,S1,H1⟩;refine r_lss (r_ifD (λh=>?_) λh=>?_)
 rotate_left
 ·rw[gK (by omega)] at hp;rw[List.drop_of_length_le (by omega)] at H1;exact k Z _ hp hs S1 H1
 have hlt:n+1 < X.length:=by omega
 have hZl:Z.length=n+1:=by rw[hp.length_eq,gN];omega
 have hxW:X[n+1] < W.length:=hx _ (getElem_mem hlt)
 have hZx:∀ z∈Z,z < X[n+1]/\z < W.length:=by
  intro z hz;have:=hp.mem_iff.1 hz;refine⟨?_,hx _ (mem_of_mem_take this)⟩;obtain⟨i,hi,rfl⟩:=List.getElem_of_mem this;rw[gN] at hi;rw[List.getElem_take];exact List.pairwise_iff_getElem.1 hn i (n+1) (by omega) hlt (by omega)
 rw[Zh3 hlt] at H1
 have hpx:(X.take (n+1+1)).Perm (X[n+1]::Z):=by
  rw[Zgf hlt];exact (List.perm_append_singleton _ _).trans (hp.symm.cons _)
 generalize X[n+1]=x at *;generalize hT:X.drop (n+1+1)=T at *
 refine Za7 (λy w'=>∃ Z1 Z2:List Nat,y=nv (a+Z1.length)/\Z=Z1++Z2/\(∀ z∈Z2,lt W x z)/\Same w w'/\Holds w' (SL nv tI v (A++(Z1++(x::(Z2++(T++B)))))::L)) (λy _=>(intOf y).toNat)
  ⟨Z,[],by rw[hZl,show a+1+n=a+(n+1) by omega],by simp,by simp,S1,by simpa using H1⟩ ?_
 clear H1 S1;rintro _ _ w2 ⟨Z1,Z2,rfl,rfl,hZ2,S2,H2⟩;rw[gD] at hZl;refine Za1 (λt w'=>Same w w'/\Holds w' (SL nv tI v (A++(Z1++(x::(Z2++(T++B)))))::L)/\((t=.bool false/\∀ z∈Z1,lt W z x)\/(t=.bool true/\∃ Z1' z,Z1=Z1'++[z]/\lt W x z))) ?_ ?_
 rotate_left
 ·refine r_dr H2 λw3 S3 H3=>?_;refine r_gtr (r_ifD (λh=>?_) λh=>?_)
  ·have hne:Z1≠[]:=λe=>by rw[e,length_nil] at h;omega
   obtain⟨Z1',z,rfl⟩:∃ Z1' z,Z1=Z1'++[z]:=⟨Z1.dropLast,Z1.getLast hne,(List.dropLast_concat_getLast hne).symm⟩;have hz:=hZx z (by simp);rw[gD,gQ] at *
   have e1:(A++(Z1'++[z]++(x::(Z2++(T++B)))))[a+(Z1'.length+1)]?=some x:=by
    rw[show A++(Z1'++[z]++(x::(Z2++(T++B))))=(A++Z1'++[z])++x::(Z2++(T++B)) by simp];exact Zp3 (by simp;omega)
   have e2:(A++(Z1'++[z]++(x::(Z2++(T++B)))))[a+(Z1'.length+1) - 1]?=some z:=by
    rw[show A++(Z1'++[z]++(x::(Z2++(T++B))))=(A++Z1')++z::(x::(Z2++(T++B))) by simp];exact Zp3 (by simp;omega)
   refine Za8 0 H3 rfl e1 ?_;refine Zab (by omega) (by omega) ?_;refine Za8 0 H3 rfl e2 ?_;refine hc H3 hxW hz.2 λc w4 hcc S4 H4=>?_;refine r_lss (r_ke ⟨S2.trans (S3.trans S4),H4,?_⟩)
   by_cases q:c < 0
   ·exact .inr ⟨by rw[decide_eq_true q],Z1',z,rfl,(Zja hz.1).1 (hcc.1 q)⟩
   ·refine .inl ⟨by rw[decide_eq_false q],?_⟩;have hl:=Zec hz.1 λe=>q (hcc.2 e);have h5:=(List.pairwise_append.1 hs).1;intro u hu;rcases hT_.1 hu with hu|hu
    ·exact Zc9 ((List.pairwise_append.1 h5).2.2 u hu z (by simp)) hl
    ·rw[mem_singleton.1 hu];exact hl
  ·have:Z1=[]:=eq_nil_of_length_eq_zero (by omega);subst this;exact r_ke ⟨S2.trans S3,H3,.inl ⟨rfl,by simp⟩⟩
 rintro _ _ w3 ⟨S3,H3,⟨rfl,hz1⟩|⟨rfl,Z1',z,rfl,hxz⟩⟩
 ·refine r_vf ?_;refine Za0 (by omega) ?_;refine r_ke ⟨⟨n+1,Z1++x::Z2,by rw[show a+1+(n+1)=a+1+n+1 by omega],by omega,?_,Zn0 hs hz1 hZ2,S3,?_⟩,?_⟩
  ·exact List.perm_middle.trans hpx.symm
  ·rw[hT];simpa using H3
  ·simp only[nv,intOf,gC];omega
 ·refine r_vt ?_;rw[gD,gQ] at *;rw[show A++(Z1'++[z]++(x::(Z2++(T++B))))=(A++Z1')++z::([]++x::(Z2++(T++B))) by simp] at H3;obtain⟨e1,e2,_,_,_⟩:=sw (P:=A++Z1') (Q:=[]) (R:=Z2++(T++B)) (x:=z) (y:=x) (p:=a+(Z1'.length+1) - 1) (q:=a+(Z1'.length+1)) (by simp;omega) (by rw[length_nil];omega);obtain⟨e3,e4,e5⟩:=sw' (P:=A++Z1') (Q:=[]) (R:=Z2++(T++B)) (x:=z) (y:=x) (p:=a+(Z1'.length+1) - 1) (q:=a+(Z1'.length+1)) (by simp;omega) (by rw[length_nil];omega);refine r_dr H3 λw4 S4 H4=>?_;refine Zab (by omega) (by omega) (Zab (by omega) (by omega) ?_);refine Za8 0 H4 rfl e1 (Za8 0 H4 rfl e2 ?_);refine Zam 0 H4 z rfl e4 rfl λw5 S5 H5=>?_;refine Zam 0 H5 x rfl e5 rfl λw6 S6 H6=>?_;refine Zab (by omega) (by omega) ?_;refine r_ke ⟨⟨Z1',z::Z2,by rw[show a+(Z1'.length+1) - 1=a+Z1'.length by omega],by simp,?_,S3.trans (S4.trans (S5.trans S6)),?_⟩,?_⟩
  ·intro u hu;rcases mem_cons.1 hu with rfl|hu
   ·exact hxz
   ·exact hZ2 u hu
  ·replace H6:Holds w6 (SL nv tI v (((A++Z1'++z::([]++x::(Z2++(T++B)))).set (a+(Z1'.length+1)) z).set (a+(Z1'.length+1) - 1) x)::L):=H6;rw[e3] at H6;simpa using H6
  ·simp only[nv,intOf,gC];omega
theorem Zee {s:Nat}{K:Value->Prop}(hs:s<=1000000000) (h:K (nv (s/2))):Ci .u64 (.int .i64 (s:Int)) λy=>Bp .shr y (.int .u64 1) λz=>Ci .i64 z K:=by
 refine Zkb (by omega) (by omega) ?_;refine Ze1 (n:=1) (by decide) ?_;exact Zde (by omega) (by omega) h
theorem symX {x:Nat}{A Y B:List Nat}{a m b:Nat}(hc:CmpOk W v f L) (H:Holds w (SL nv tI v (A++([x]++(Y++B)))::L)) (ha:A.length=a) (hm:a+1=m) (hb:m+Y.length=b) (hs:Srt W Y) (hxW:x < W.length) (hY:∀ y∈Y,x < y/\y < W.length) (hbb:b<=100000000)
  (k:∀ Z w',Z.Perm (x::Y)->Srt W Z->Same w w'->Holds w' (SL nv tI v (A++(Z++B))::L)->K (.tuple #[]) w'):Cl prog 225 #[v,nv a,nv m,nv b,f] w K:=by
 refine Tz225 ?_;unfold Vz225;refine Zbn (by omega) (by omega) ?_;refine r_eql (r_vtE (by omega) ?_)
 refine Zaa (λi j w'=>∃ p q:Nat,i=nv (m+p)/\j=nv (m+q)/\p<=q/\q<=Y.length/\(∀ y∈Y.take p,lt W y x)/\(∀ y∈Y.drop q,lt W x y)/\Same w w'/\Holds w' (SL nv tI v (A++([x]++(Y++B)))::L)) (λi j _=>(intOf j).toNat - (intOf i).toNat)
  ⟨0,Y.length,rfl,by rw[hb],hE _,Nat.le_refl _,by simp,by simp,.refl _,H⟩ ?_
 clear H;rintro _ _ _ w1 ⟨p,q,rfl,rfl,hpq,hq,h1,h2,S1,H1⟩;refine r_lss (r_ifD (λh=>?_) λh=>?_)
 ·have hlt:p < q:=by omega
  refine Za9 (by omega) (Zee (by omega) ?_);rw[show (m+p+(m+q))/2=m+(p+q)/2 by omega]
  have hc1:p<=(p+q)/2:=by omega
  have hc2:(p+q)/2 < q:=by omega
  generalize (p+q)/2=c at *
  have hcY:c < Y.length:=by omega
  have hy:=hY _ (getElem_mem hcY)
  have e1:(A++([x]++(Y++B)))[m+c]?=some Y[c]:=by
   rw[<-gI A];exact Zpj (by simp;omega) hcY
  have e2:(A++([x]++(Y++B)))[a]?=some x:=Zp3 ha;refine r_dr H1 λw2 S2 H2=>?_;refine Za8 0 H2 rfl e1 (Za8 0 H2 rfl e2 ?_);refine hc H2 hy.2 hxW λz w3 hz S3 H3=>?_;refine r_lss (r_ifD (λhl=>?_) λhl=>?_)
  ·refine Za0 (by omega) (r_ke ⟨⟨c+1,q,rfl,rfl,by omega,hq,Zij hs (λy e=>?_) hcY,h2,S1.trans (S2.trans S3),H3⟩,?_⟩)
   ·rw[gA hcY] at e;cases e;exact (Zja hy.1).1 (hz.1 hl)
   ·simp only[nv,intOf,gC];omega
  ·refine r_ke ⟨⟨p,c,rfl,rfl,by omega,by omega,h1,Ziz hs λy e=>?_,S1.trans (S2.trans S3),H3⟩,?_⟩
   ·rw[gA hcY] at e;cases e;exact Zec hy.1 λe=>hl (hz.2 e)
   ·simp only[nv,intOf,gC];omega
 obtain rfl:p=q:=by omega
 refine Za7 (λy w'=>∃ t:Nat,y=nv (a+t)/\t<=p/\Same w w'/\Holds w' (SL nv tI v (A++(Y.take t++(x::(Y.drop t++B))))::L)) (λy _=>b - (intOf y).toNat)
  ⟨0,rfl,hE _,S1,by simpa using H1⟩ ?_
 clear H1 S1;rintro _ _ w2 ⟨t,rfl,htp,S2,H2⟩;refine Zab (by omega) (by omega) (r_lss (r_ifD (λhl=>?_) λhl=>?_))
 ·have hlt:t < p:=by omega
  have htY:t < Y.length:=by omega
  rw[Zh3 htY,show A++(Y.take t++(x::(Y[t]::Y.drop (t+1)++B)))=(A++Y.take t)++x::([]++Y[t]::(Y.drop (t+1)++B)) by simp only[gI,cons_append,hO_]] at H2;obtain⟨e1,e2,e3,e4,e5⟩:=sw (P:=A++Y.take t) (Q:=[]) (R:=Y.drop (t+1)++B) (x:=x) (y:=Y[t]) (p:=a+t) (q:=a+t+1) (by simp;omega) (by rw[length_nil]);refine r_dr H2 λw3 S3 H3=>?_;refine Za0 (by omega) (Za0 (by omega) ?_);refine Za8 0 H3 rfl e2 (Za8 0 H3 rfl e1 ?_);refine Zam 0 H3 Y[t] rfl e4 rfl λw4 S4 H4=>?_;refine Zam 0 H4 x rfl e5 rfl λw5 S5 H5=>?_;refine Za0 (by omega) (r_ke ⟨⟨t+1,rfl,by omega,S2.trans (S3.trans (S4.trans S5)),?_⟩,?_⟩)
  ·replace H5:Holds w5 (SL nv tI v (((A++Y.take t++x::([]++Y[t]::(Y.drop (t+1)++B))).set (a+t) Y[t]).set (a+t+1) x)::L):=H5;rw[e3] at H5;rw[Zgf htY];simpa only[gI,cons_append,hO_] using H5
  ·simp only[nv,intOf,gC];omega
 ·obtain rfl:t=p:=by omega
  refine k (Y.take t++x::Y.drop t) _ ?_ (Zn0 (by rw[hN_];exact hs) h1 h2) S2 (by simpa only[gI,cons_append] using H2);refine List.perm_middle.trans ?_;rw[hN_]
theorem symY {y:Nat}{A X B:List Nat}{a m b:Nat}(hc:CmpOk W v f L) (H:Holds w (SL nv tI v (A++(X++([y]++B)))::L)) (ha:A.length=a) (hm:a+X.length=m) (hb:m+1=b) (hX2:X.length≠1) (hs:Srt W X) (hyW:y < W.length) (hX:∀ x∈X,x < y/\x < W.length) (hbb:b<=100000000)
  (k:∀ Z w',Z.Perm (X++[y])->Srt W Z->Same w w'->Holds w' (SL nv tI v (A++(Z++B))::L)->K (.tuple #[]) w'):Cl prog 225 #[v,nv a,nv m,nv b,f] w K:=by
 refine Tz225 ?_;unfold Vz225;refine Zbn (by omega) (by omega) ?_;refine r_eql (r_vfE (by omega) ?_);refine Zbn (by omega) (by omega) ?_;refine r_eql (r_vtE (by omega) ?_)
 refine Zaa (λi j w'=>∃ p q:Nat,i=nv (a+p)/\j=nv (a+q)/\p<=q/\q<=X.length/\(∀ x∈X.take p,lt W x y)/\(∀ x∈X.drop q,lt W y x)/\Same w w'/\Holds w' (SL nv tI v (A++(X++([y]++B)))::L)) (λi j _=>(intOf j).toNat - (intOf i).toNat)
  ⟨0,X.length,rfl,by rw[hm],hE _,Nat.le_refl _,by simp,by simp,.refl _,H⟩ ?_
 clear H;rintro _ _ _ w1 ⟨p,q,rfl,rfl,hpq,hq,h1,h2,S1,H1⟩;refine r_lss (r_ifD (λh=>?_) λh=>?_)
 ·have hlt:p < q:=by omega
  refine Za9 (by omega) (Zee (by omega) ?_);rw[show (a+p+(a+q))/2=a+(p+q)/2 by omega]
  have hc1:p<=(p+q)/2:=by omega
  have hc2:(p+q)/2 < q:=by omega
  generalize (p+q)/2=c at *
  have hcX:c < X.length:=by omega
  have hx:=hX _ (getElem_mem hcX)
  have e1:(A++(X++([y]++B)))[a+c]?=some X[c]:=by
   exact Zpj ha hcX
  have e2:(A++(X++([y]++B)))[m]?=some y:=by
   rw[show A++(X++([y]++B))=(A++X)++y::B by simp];exact Zp3 (by simp;omega)
  refine r_dr H1 λw2 S2 H2=>?_;refine Za8 0 H2 rfl e2 (Za8 0 H2 rfl e1 ?_);refine hc H2 hyW hx.2 λz w3 hz S3 H3=>?_;refine r_lss ?_
  by_cases hl:z < 0
  ·rw[decide_eq_true hl];refine Zah (r_vf ?_);refine r_ke ⟨⟨p,c,rfl,rfl,by omega,by omega,h1,Ziz hs λx e=>?_,S1.trans (S2.trans S3),H3⟩,?_⟩
   ·rw[gA hcX] at e;cases e;exact (Zja hx.1).1 (hz.1 hl)
   ·simp only[nv,intOf,gC];omega
  ·rw[decide_eq_false hl];refine Zbm (r_vt ?_);refine Za0 (by omega) (r_ke ⟨⟨c+1,q,rfl,rfl,by omega,hq,Zij hs (λx e=>?_) hcX,h2,S1.trans (S2.trans S3),H3⟩,?_⟩)
   ·rw[gA hcX] at e;cases e;exact Zec hx.1 λe=>hl (hz.2 e)
   ·simp only[nv,intOf,gC];omega
 obtain rfl:p=q:=by omega
 refine Za7 (λx w'=>∃ t:Nat,x=nv (a+t)/\p<=t/\t<=X.length/\Same w w'/\Holds w' (SL nv tI v (A++(X.take t++(y::(X.drop t++B))))::L)) (λx _=>(intOf x).toNat)
  ⟨X.length,by rw[hm],hq,Nat.le_refl _,S1,by simpa using H1⟩ ?_
 clear H1 S1;rintro _ _ w2 ⟨t,rfl,htp,htX,S2,H2⟩;refine r_gtr (r_ifD (λhl=>?_) λhl=>?_)
 ·have hlt:p < t:=by omega
  obtain⟨u,rfl⟩:∃ u,t=u+1:=⟨t - 1,by omega⟩
  have hu:u < X.length:=by omega
  rw[Zgf hu,show A++(X.take u++[X[u]]++(y::(X.drop (u+1)++B)))=(A++X.take u)++X[u]::([]++y::(X.drop (u+1)++B)) by simp only[gI,cons_append,hO_]] at H2;obtain⟨e1,e2,_,_,_⟩:=sw (P:=A++X.take u) (Q:=[]) (R:=X.drop (u+1)++B) (x:=X[u]) (y:=y) (p:=a+(u+1) - 1) (q:=a+(u+1)) (by simp;omega) (by rw[length_nil];omega);obtain⟨e3,e4,e5⟩:=sw' (P:=A++X.take u) (Q:=[]) (R:=X.drop (u+1)++B) (x:=X[u]) (y:=y) (p:=a+(u+1) - 1) (q:=a+(u+1)) (by simp;omega) (by rw[length_nil];omega);refine r_dr H2 λw3 S3 H3=>?_;refine Zab (by omega) (by omega) (Zab (by omega) (by omega) ?_);refine Za8 0 H3 rfl e1 (Za8 0 H3 rfl e2 ?_);refine Zam 0 H3 X[u] rfl e4 rfl λw4 S4 H4=>?_;refine Zam 0 H4 y rfl e5 rfl λw5 S5 H5=>?_;refine Zab (by omega) (by omega) (r_ke ⟨⟨u,by rw[show a+(u+1) - 1=a+u by omega],by omega,by omega,S2.trans (S3.trans (S4.trans S5)),?_⟩,?_⟩)
  ·replace H5:Holds w5 (SL nv tI v (((A++X.take u++X[u]::([]++y::(X.drop (u+1)++B))).set (a+(u+1)) X[u]).set (a+(u+1) - 1) y)::L):=H5;rw[e3] at H5;rw[Zh3 hu];simpa only[gI,cons_append,hO_] using H5
  ·simp only[nv,intOf,gC];omega
 ·obtain rfl:t=p:=by omega
  refine k (X.take t++y::X.drop t) _ ?_ (Zn0 (by rw[hN_];exact hs) h1 h2) S2 (by simpa only[gI,cons_append] using H2);refine List.perm_middle.trans ?_;rw[hN_];exact (List.perm_append_singleton _ _).symm
theorem Zpr:∀ (N:Nat){w:World}{K:KT}{A X Y B:List Nat}{a m b:Nat},X.length+Y.length<=N->CmpOk W v f L->Holds w (SL nv tI v (A++(X++(Y++B)))::L)->A.length=a->a+X.length=m->m+Y.length=b->X≠[]->Y≠[]->
  Srt W X->Srt W Y->(∀ x∈X,x < W.length)->(∀ y∈Y,y < W.length)->(∀ x∈X,∀ y∈Y,x < y)->b<=100000000->
  (∀ Z w',Z.Perm (X++Y)->Srt W Z->Same w w'->Holds w' (SL nv tI v (A++(Z++B))::L)->K (.tuple #[]) w')->Cl prog 225 #[v,nv a,nv m,nv b,f] w K:=by
 intro N
 induction N with
 |zero=>
  intro w K A X Y B a m b hN _ _ _ _ _ hX _ _ _ _ _ _ _ _;have:=gZ.2 hX;omega
 |succ N ih=>
  intro w K A X Y B a m b hN hc H ha hm hb hX hY hsX hsY hXW hYW hXY hbb k;have hX0:=gZ.2 hX;have hY0:=gZ.2 hY
  by_cases hX1:X.length=1
  ·obtain⟨x,rfl⟩:=List.length_eq_one_iff.1 hX1;exact symX hc H ha (by simpa using hm) hb hsY (hXW x (by simp)) (λy hy=>⟨hXY x (by simp) y hy,hYW y hy⟩) hbb k
  by_cases hY1:Y.length=1
  ·obtain⟨y,rfl⟩:=List.length_eq_one_iff.1 hY1;exact symY hc H ha hm (by simpa using hb) hX1 hsX (hYW y (by simp)) (λx hx=>⟨hXY x hx y (by simp),hXW x hx⟩) hbb k
  refine Tz225 ?_;unfold Vz225;refine Zbn (by omega) (by omega) ?_;refine r_eql (r_vfE (by omega) ?_);refine Zbn (by omega) (by omega) ?_;refine r_eql (r_vfE (by omega) ?_);refine Za9 (by omega) (Zee (by omega) ?_);obtain⟨h,hh⟩:∃ h,h=(X.length+Y.length)/2:=⟨_,rfl⟩;rw[show (a+b)/2=a+h by omega];refine Za9 (by omega) ?_;refine Zsp (λs r w'=>∃ lo hi:Nat,s=nv (a+lo)/\r=nv (a+hi)/\lo<=hi/\hi<=h/\hi<=X.length/\h - lo<=Y.length/\w=w'/\((lo=h - Y.length/\Y.length<=h/\hi=h)\/(lo=0/\hi=X.length))) ?_ ?_
  rotate_left
  ·refine r_gtr (r_ifD (λhg=>?_) λhg=>?_)
   ·refine Zbn (by omega) (by omega) ?_;exact r_ke ⟨h - Y.length,h,by rw[show a+h+m - b=a+(h - Y.length) by omega],rfl,by omega,by omega,by omega,by omega,rfl,.inl ⟨rfl,by omega,rfl⟩⟩
   ·exact r_ke ⟨0,X.length,rfl,by rw[hm],by omega,by omega,by omega,by omega,rfl,.inr ⟨rfl,rfl⟩⟩
  rintro _ _ _ _ ⟨lo,hi,rfl,rfl,hlh,hhh,hhX,hlY,rfl,hcase⟩;refine Zab (by omega) (by omega) ?_
  refine Zaa (λs r w'=>∃ σ ρ:Nat,s=nv (a+σ)/\r=nv (a+ρ)/\lo<=σ/\σ<=ρ/\ρ<=hi/\(lo < σ->lt W (X.getD (σ - 1) 0) (Y.getD (h - σ) 0))/\(ρ < hi->lt W (Y.getD (h - 1 - ρ) 0) (X.getD ρ 0))/\Same w w'/\Holds w' (SL nv tI v (A++(X++(Y++B)))::L)) (λs r _=>(intOf r).toNat - (intOf s).toNat)
   ⟨lo,hi,rfl,rfl,Nat.le_refl _,hlh,Nat.le_refl _,λe=>absurd e (Nat.lt_irrefl _),λe=>absurd e (Nat.lt_irrefl _),.refl _,H⟩ ?_
  clear H;rintro _ _ _ w1 ⟨σ,ρ,rfl,rfl,b0,b1,b2,b3,b4,S1,H1⟩;refine r_lss (r_ifD (λhl=>?_) λhl=>?_)
  ·have hlt:σ < ρ:=by omega
   refine Za9 (by omega) (Zee (by omega) ?_);rw[show (a+σ+(a+ρ))/2=a+(σ+ρ)/2 by omega]
   have hc1:σ<=(σ+ρ)/2:=by omega
   have hc2:(σ+ρ)/2 < ρ:=by omega
   generalize (σ+ρ)/2=c at *
   have hcX:c < X.length:=by omega
   have hcY:h - 1 - c < Y.length:=by omega
   have e1:(A++(X++(Y++B)))[a+c]?=some X[c]:=Zpj ha hcX
   have e2:(A++(X++(Y++B)))[a+h+m - 1 - (a+c)]?=some Y[h - 1 - c]:=by
    rw[show a+h+m - 1 - (a+c)=m+(h - 1 - c) by omega,<-gI A];exact Zpj (by simp;omega) hcY
   have gX:X.getD c 0=X[c]:=by rw[gB,gA hcX];rfl
   have gY:Y.getD (h - 1 - c) 0=Y[h - 1 - c]:=by rw[gB,gA hcY];rfl
   have hxy:=hXY _ (getElem_mem hcX) _ (getElem_mem hcY);refine r_dr H1 λw2 S2 H2=>?_;refine Zbn (by omega) (by omega) ?_;refine Za8 0 H2 rfl e2 (Za8 0 H2 rfl e1 ?_);refine hc H2 (hYW _ (getElem_mem hcY)) (hXW _ (getElem_mem hcX)) λz w3 hz S3 H3=>?_;refine r_lss ?_
   by_cases hz0:z < 0
   ·rw[decide_eq_true hz0];refine Zah (r_vf ?_);refine r_ke ⟨⟨σ,c,rfl,rfl,b0,by omega,by omega,b3,λ_=>?_,S1.trans (S2.trans S3),H3⟩,?_⟩
    ·rw[gX,gY];exact (Zja hxy).1 (hz.1 hz0)
    ·simp only[nv,intOf,gC];omega
   ·rw[decide_eq_false hz0];refine Zbm (r_vt ?_);refine Za0 (by omega) (r_ke ⟨⟨c+1,ρ,rfl,rfl,by omega,by omega,b2,λ_=>?_,b4,S1.trans (S2.trans S3),H3⟩,?_⟩)
    ·rw[show c+1 - 1=c by omega,show h - (c+1)=h - 1 - c by omega,gX,gY];exact Zec hxy λe=>hz0 (hz.2 e)
    ·simp only[nv,intOf,gC];omega
  obtain rfl:σ=ρ:=by omega
  obtain⟨c1,c2⟩:=Zzc hsX hsY hcase b0 b2 (by omega) b3 b4 (by omega) (by omega)
  have lX1:(X.take σ).length=σ:=by rw[gN];omega
  have lX2:(X.drop σ).length=X.length - σ:=gS ..
  have lY1:(Y.take (h - σ)).length=h - σ:=by rw[gN];omega
  have lY2:(Y.drop (h - σ)).length=Y.length - (h - σ):=gS ..;have eX:X=X.take σ++X.drop σ:=(hN_ _ _).symm;have eY:Y=Y.take (h - σ)++Y.drop (h - σ):=(hN_ _ _).symm;have oX1:∀ x∈X.take σ,x∈X:=λx hx=>mem_of_mem_take hx;have oX2:∀ x∈X.drop σ,x∈X:=λx hx=>mem_of_mem_drop hx;have oY1:∀ x∈Y.take (h - σ),x∈Y:=λx hx=>mem_of_mem_take hx;have oY2:∀ x∈Y.drop (h - σ),x∈Y:=λx hx=>mem_of_mem_drop hx;have sX1:Srt W (X.take σ):=hsX.sublist (List.take_sublist _ _);have sX2:Srt W (X.drop σ):=hsX.sublist (List.drop_sublist _ _);have sY1:Srt W (Y.take (h - σ)):=hsY.sublist (List.take_sublist _ _);have sY2:Srt W (Y.drop (h - σ)):=hsY.sublist (List.drop_sublist _ _);rw[eX] at hsX;rw[eY] at hsY;have fin:=λZ1 Z2 p1 p2 s1 s2=>halves (Z1:=Z1) (Z2:=Z2) hsX hsY c1 c2 p1 p2 s1 s2;rw[<-eX,<-eY] at fin
  have H1:Holds w1 (SL nv tI v (A++(X.take σ++(X.drop σ++(Y.take (h - σ)++(Y.drop (h - σ)++B)))))::L):=by
   rw[eX,eY] at H1;simpa only[gI] using H1
  generalize X.take σ=X1 at *;generalize X.drop σ=X2 at *;generalize Y.take (h - σ)=Y1 at *;generalize Y.drop (h - σ)=Y2 at *;refine Zbn (by omega) (by omega) ?_;rw[show a+h+m - (a+σ)=m+Y1.length by omega];refine Zay (λw'=>Same w w'/\Holds w' (SL nv tI v (A++(X1++(Y1++(X2++(Y2++B)))))::L)) ?_ ?_
  rotate_left
  ·refine Za1 (λt w'=>w1=w'/\t=.bool (decide (0 < X2.length/\0 < Y1.length))) ?_ ?_
   rotate_left
   ·refine r_lss (r_ifD (λq=>?_) λq=>?_)
    ·refine r_lss (r_ke ⟨rfl,?_⟩)
     congr 1
     exact decide_eq_decide.2 (by omega)
    ·exact r_ke ⟨rfl,by rw[decide_eq_false (by omega)]⟩
   rintro _ _ _ ⟨rfl,rfl⟩;refine r_ifD (λq=>?_) λq=>?_
   ·refine Zny (A:=A++X1) (U:=X2) (V:=Y1) (B:=Y2++B) (by simpa only[gI] using H1) (by simp;omega) (by omega) rfl (gZ.1 q.1) (gZ.1 q.2) (by omega) λw2 S2 H2=>?_;exact r_ke ⟨S1.trans S2,by simpa only[gI] using H2⟩
   ·refine r_ke ⟨S1,?_⟩
    by_cases q1:X2.length=0
    ·rw[eq_nil_of_length_eq_zero q1] at H1 ⊢;exact H1
    ·rw[eq_nil_of_length_eq_zero (show Y1.length=0 by omega)] at H1 ⊢;exact H1
  clear H1 S1;rintro _ w2 ⟨S2,H2⟩;refine Zay (λw'=>∃ Z1,Z1.Perm (X1++Y1)/\Srt W Z1/\Same w w'/\Holds w' (SL nv tI v (A++(Z1++(X2++(Y2++B))))::L)) ?_ ?_
  rotate_left
  ·refine Za1 (λt w'=>w2=w'/\t=.bool (decide (0 < X1.length/\0 < Y1.length))) ?_ ?_
   rotate_left
   ·refine r_lss (r_ifD (λq=>?_) λq=>?_)
    ·refine r_lss (r_ke ⟨rfl,?_⟩)
     congr 1
     exact decide_eq_decide.2 (by omega)
    ·exact r_ke ⟨rfl,by rw[decide_eq_false (by omega)]⟩
   rintro _ _ _ ⟨rfl,rfl⟩;refine r_ifD (λq=>?_) λq=>?_
   ·refine ih (X:=X1) (Y:=Y1) (B:=X2++(Y2++B)) (by omega) hc H2 ha (by omega) (by omega) (gZ.1 q.1) (gZ.1 q.2) sX1 sY1 (λx hx=>hXW x (oX1 x hx)) (λx hx=>hYW x (oY1 x hx)) (λx hx y hy=>hXY x (oX1 x hx) y (oY1 y hy)) (by omega) λZ w3 p3 s3 S3 H3=>?_;exact r_ke ⟨Z,p3,s3,S2.trans S3,H3⟩
   ·refine r_ke ⟨X1++Y1,.refl _,?_,S2,by simpa only[gI] using H2⟩
    by_cases q1:X1.length=0
    ·rw[eq_nil_of_length_eq_zero q1,hO_];exact sY1
    ·rw[eq_nil_of_length_eq_zero (show Y1.length=0 by omega),gU];exact sX1
  clear H2 S2;rintro _ w3 ⟨Z1,p1,s1,S3,H3⟩
  have lZ1:Z1.length=h:=by rw[p1.length_eq,gD];omega
  refine Za1 (λt w'=>w3=w'/\t=.bool (decide (0 < X2.length/\0 < Y2.length))) ?_ ?_
  rotate_left
  ·refine r_lss (r_ifD (λq=>?_) λq=>?_)
   ·refine r_lss (r_ke ⟨rfl,?_⟩)
    congr 1
    exact decide_eq_decide.2 (by omega)
   ·exact r_ke ⟨rfl,by rw[decide_eq_false (by omega)]⟩
  rintro _ _ _ ⟨rfl,rfl⟩;refine r_ifD (λq=>?_) λq=>?_
  ·refine ih (A:=A++Z1) (X:=X2) (Y:=Y2) (B:=B) (by omega) hc (by simpa only[gI] using H3) (by simp;omega) (by omega) (by omega) (gZ.1 q.1) (gZ.1 q.2) sX2 sY2 (λx hx=>hXW x (oX2 x hx)) (λx hx=>hYW x (oY2 x hx)) (λx hx y hy=>hXY x (oX2 x hx) y (oY2 y hy)) (by omega) λZ w4 p4 s4 S4 H4=>?_;obtain⟨f1,f2⟩:=fin Z1 Z p1 p4 s1 s4;exact k _ _ f1 f2 (S3.trans S4) (by simpa only[gI] using H4)
  ·obtain⟨f1,f2⟩:=fin Z1 (X2++Y2) p1 (.refl _) s1 (by
    by_cases q1:X2.length=0
    ·rw[eq_nil_of_length_eq_zero q1,hO_];exact sY2
    ·rw[eq_nil_of_length_eq_zero (show Y2.length=0 by omega),gU];exact sX2)
   exact k _ _ f1 f2 S3 (by simpa only[gI] using H3)
theorem Zn6 {n:Nat}(hc:CmpOk W v f L) (H:Holds w (SL nv tI v (List.range' 0 n)::L)) (hW:n<=W.length) (hn:n<=1000000)
  (k:∀ Z w',Seg W 0 Z->Z.length=n->Same w w'->Holds w' (SL nv tI v Z::L)->K (.tuple #[]) w'):Cl prog 222 #[v,nv n,f] w K:=by
 refine Tz222 ?_;unfold Vz222
 refine Zaa (λx y w'=>∃ (a:Nat) (Dn:List Nat),x=nv a/\y=nv (a+20)/\a<=n/\Dn.length=a/\(∀ R,Runs W 20 a R->Runs W 20 0 (Dn++R))/\Same w w'/\Holds w' (SL nv tI v (Dn++List.range' a (n - a))::L)) (λx _ _=>n - (intOf x).toNat)
  ⟨0,[],rfl,rfl,hE _,rfl,λ_ r=>r,.refl _,H⟩ ?_
 clear H;rintro _ _ _ w1 ⟨a,Dn,rfl,rfl,ha,hl,hr,S1,H1⟩;have hinc:∀ lo m,(List.range' lo m).Pairwise (· < ·):=λlo m=>List.pairwise_lt_range'
 have hmem:∀ lo m,lo+m<=n->∀ x∈List.range' lo m,x < W.length:=λlo m h x hx=>by
  have:=List.mem_range'_1.1 hx;omega
 refine r_leq (r_ifD (λh=>?_) λh=>?_)
 ·rw[Zs2 a (n - a) 20 (by omega)] at H1;refine Ze0 (A:=Dn) (X:=List.range' a 20) hc H1 hl (by simp) (hmem _ _ (by omega)) (hinc _ _) (by omega) λZ w2 p s S2 H2=>?_
  have hZ:Z.length=20:=by rw[p.length_eq];simp
  refine Za9 (b:=20) (by omega) (r_ke ⟨⟨a+20,Dn++Z,rfl,rfl,by omega,by rw[gD];omega,λR r=>?_,S1.trans S2,?_⟩,?_⟩)
  ·rw[gI];exact hr _ (.cons ⟨by rw[hZ];exact p,s⟩ hZ r)
  ·rw[show n - (a+20)=n - a - 20 by omega,gI];exact H2
  ·simp only[nv,intOf,gC];omega
 rw[show Dn++List.range' a (n - a)=Dn++(List.range' a (n - a)++[]) by simp] at H1;refine Ze0 (A:=Dn) (X:=List.range' a (n - a)) hc H1 hl (by simp;omega) (hmem _ _ (by omega)) (hinc _ _) (by omega) λZ w2 p s S2 H2=>?_
 have hZ:Z.length=n - a:=by rw[p.length_eq];simp
 have hruns:=hr Z (.last ⟨by rw[hZ];exact p,s⟩ (by omega));rw[gU] at H2
 refine Za7 (λx w'=>∃ (s:Nat) (D:List Nat),x=nv s/\20<=s/\s<=10000000/\Runs W s 0 D/\D.length=n/\Same w w'/\Holds w' (SL nv tI v D::L)) (λx _=>n - (intOf x).toNat)
  ⟨20,_,rfl,by omega,by omega,hruns,by rw[gD];omega,S1.trans S2,H2⟩ ?_
 clear H1 S1 H2 S2 hruns hr;rintro _ _ w3 ⟨bs,D,rfl,hs20,hsb,hru,hDl,S3,H3⟩;refine r_lss (r_ifD (λhlt=>?_) λhlt=>?_)
 rotate_left
 ·exact k D _ (Zf7 hru (by omega) (by omega)) hDl S3 H3
 have hbn:bs < n:=by omega
 refine Zb8 ((2*bs:Nat):Int) (by omega) (by omega) (by omega) ?_
 refine Zaa (λx y w'=>∃ (a:Nat) (Dn R:List Nat),x=nv a/\y=nv (a+2*bs)/\Dn.length=a/\a+R.length=n/\Runs W bs a R/\(∀ R,Runs W (2*bs) a R->Runs W (2*bs) 0 (Dn++R))/\Same w w'/\Holds w' (SL nv tI v (Dn++R)::L)) (λx _ _=>n - (intOf x).toNat)
  ⟨0,[],D,rfl,by rw[Nat.zero_add],rfl,by omega,hru,λ_ r=>r,S3,H3⟩ ?_
 clear H3 S3 hru hDl;rintro _ _ _ w4 ⟨a2,Dn2,R,rfl,rfl,hl2,hR,hru,hr2,S4,H4⟩;refine r_leq (r_ifD (λh2=>?_) λh2=>?_)
 ·obtain⟨X,R1,rfl,gX,lX,r1⟩:=Zhq hru (by omega);rw[gD] at hR;obtain⟨Y,R2,rfl,gY,lY,r2⟩:=Zhq r1 (by omega);rw[gD] at hR;refine Za9 (by omega) ?_
  refine Zpr _ (A:=Dn2) (X:=X) (Y:=Y) (B:=R2) (Nat.le_refl _) hc H4 hl2 (by omega) (by omega) (λe=>by rw[e,length_nil] at lX;omega) (λe=>by rw[e,length_nil] at lY;omega) gX.2 gY.2
   (λx hx=>Nat.lt_of_lt_of_le (Zp8 gX (Nat.le_refl _) x hx) (by omega)) (λx hx=>Nat.lt_of_lt_of_le (Zp8 gY (Nat.le_refl _) x hx) (by omega)) (Zp5 gX lX gY) (by omega) λZ w5 p s S5 H5=>?_
  have lZ:Z.length=2*bs:=by rw[p.length_eq,gD];omega
  refine Zb8 ((2*bs:Nat):Int) (by omega) (by omega) (by omega) ?_;refine Za9 (by omega) (r_ke ⟨⟨a2+2*bs,Dn2++Z,R2,rfl,rfl,by rw[gD];omega,by omega,?_,λQ q=>?_,S4.trans S5,?_⟩,?_⟩)
  ·rw[show a2+2*bs=a2+bs+bs by omega];exact r2
  ·rw[gI];exact hr2 _ (.cons (gX.join lX gY p s) lZ q)
  ·rw[gI];exact H5
  ·simp only[nv,intOf,gC];omega
 refine Za9 (by omega) (r_lss (r_ifD (λh3=>?_) λh3=>?_))
 ·obtain⟨X,Y,rfl,gX,lX,r1⟩:=Zhq hru (by omega);rw[gD] at hR;have gY:=Zf7 r1 (by omega) (by omega);rw[show Dn2++(X++Y)=Dn2++(X++(Y++[])) by rw[gU]] at H4
  refine Zpr _ (A:=Dn2) (X:=X) (Y:=Y) (B:=[]) (Nat.le_refl _) hc H4 hl2 (by omega) (by omega) (λe=>by rw[e,length_nil] at lX;omega) (λe=>by rw[e,length_nil] at hR;omega) gX.2 gY.2
   (λx hx=>Nat.lt_of_lt_of_le (Zp8 gX (Nat.le_refl _) x hx) (by omega)) (λx hx=>Nat.lt_of_lt_of_le (Zp8 gY (Nat.le_refl _) x hx) (by omega)) (Zp5 gX lX gY) (by omega) λZ w5 p s S5 H5=>?_
  have lZ:Z.length=bs+Y.length:=by rw[p.length_eq,gD];omega
  rw[gU] at H5;refine Zb8 ((2*bs:Nat):Int) (by omega) (by omega) (by omega) ?_;refine r_ke ⟨⟨2*bs,Dn2++Z,rfl,by omega,by omega,hr2 Z (.last (gX.join lX gY p s) (by omega)),by rw[gD];omega,S4.trans S5,H5⟩,?_⟩;simp only[nv,intOf,gC];omega
 ·refine Zb8 ((2*bs:Nat):Int) (by omega) (by omega) (by omega) ?_;refine r_ke ⟨⟨2*bs,Dn2++R,rfl,by omega,by omega,hr2 R (.last (Zf7 hru (by omega) (by omega)) (by omega)),by rw[gD];omega,S4,H4⟩,?_⟩;simp only[nv,intOf,gC];omega
theorem Zue {n:Nat}(hc:CmpOk W v f L) (H:Holds w (SL nv tI v (List.range' 0 n)::L)) (hW:n<=W.length) (hn:n<=1000000)
  (k:∀ Z w',Seg W 0 Z->Z.length=n->Same w w'->Holds w' (SL nv tI v Z::L)->K (.tuple #[]) w'):Cl prog 219 #[v,f] w K:=by
 refine Tz219 ?_;unfold Vz219;refine r_lnS 0 H rfl ?_;rw[length_range'];refine Zn6 hc H hW hn λZ w' g l S' H'=>?_;exact k Z w' g l S' H'
abbrev tIs:Nat:=67
def fnT (wb:Nat):Value:=.func (.func 220) #[] #[pt wb]
theorem Zzl {wb i j:Nat}{wv:Value}(hi:L[i]?=some (blk wb tIs [wv])) (hj:L[j]?=some (SL nv tI wv W)):CmpOk W v (fnT wb) L:=by
 intro D w x y Q H hx hy k
 have gx:W[x]?=some (W.getD x 0):=by rw[gB,gA hx];rfl
 have gy:W[y]?=some (W.getD y 0):=by rw[gB,gA hy];rfl
 refine r_inv (f:=220) (args:=#[nv x,nv y,pt wb]) (by kernel_rfl) ?_;refine Tz220 ?_;unfold Vz220;refine r_dr H λw1 S1 H1=>?_;refine r_ld (i+1) H1 (by rw[gF];exact hi) rfl ?_;refine Za8 (j+1) H1 (by rw[gF];exact hj) gx ?_;refine r_ld (i+1) H1 (by rw[gF];exact hi) rfl ?_;refine Za8 (j+1) H1 (by rw[gF];exact hj) gy ?_;generalize W.getD x 0=p at *;generalize W.getD y 0=q at *
 have nan:∀ (c:Nat) {K:KT},K (.bool false) w1->Cl prog 223 #[nv c] w1 K:=by
  intro c K h;refine Tz223 ?_;unfold Vz223;refine r_neq ?_;rw[show ((c:Int) != (c:Int))=false by simp];exact h
 refine r_cl (K:=λz w'=>w1=w'/\∃ c:Int,z=iv c/\(c < 0↔p < q)) ?_ ?_
 ·refine Tz221 ?_;unfold Vz221;refine nan p (nan q (r_vf (r_vf ?_)));refine r_lss (r_ifD (λh=>?_) λh=>?_)
  ·exact⟨rfl,-1,rfl,by omega⟩
  ·refine r_gtr (r_ifD (λh2=>?_) λh2=>?_)
   ·exact⟨rfl,1,rfl,by omega⟩
   ·exact⟨rfl,0,rfl,by omega⟩
 rintro _ _ ⟨rfl,c,rfl,hcc⟩;exact k c _ hcc S1 H1
end S09
end Go.Proofs.YtpmjeiliblgajaaGreatDoor
namespace Go.Proofs.YtpmjeiliblgajaaGreatDoor
open Go Go.Vc Go.Proofs.Tryz
theorem Zzk {size:Nat}{a:Option Addr}{n c l:Nat}{k:IntKind}{K:Value->Prop}(h1:l<=n) (h2:n<=c) (hK:K (.slice (if c=l then a else a.map (·.add (l*size))) (n - l) (c - l))) :
  Ssl size (.slice a n c) (some (.int k (l:Int))) none K:=⟨a,n,c,l,n,rfl,⟨k,rfl⟩,rfl,h1,h2,hK⟩
attribute [local irreducible] Vc.Nc Vc.Ld Vc.LdA Vc.St Vc.StA Vc.Fo Vc.Iaa Vc.Ias Vc.Ixs Vc.Ixa Vc.Fd Vc.FdA Vc.Bp Vc.Bb Vc.Bn Vc.Up Vc.Ci Vc.Lns Vc.Lnl Vc.Ex Vc.Sst Vc.Ssl Vc.New Vc.Vif Vc.VJoin Vc.VLoop Vc.KE Vc.Dr Vc.Rk Vc.Cl Vc.Cx Vc.Inv Vc.Be Vc.Cv Vc.Cw Vc.Mf Vc.Sl Vc.Lk Vc.Bd Vc.Bs Vc.Ms Vc.Mm Vc.Mu Vc.Me Vc.Es Vc.Rg Vc.Nx Vc.Ta Vc.Ap Vc.Usd Vc.Ust Vc.Cp Vc.Ln Vc.Bc Vc.Bmin Vc.Bmax Vc.Bdel Vc.Bclr Vc.Pk
namespace T09
open Go.Mh Go.Ms S09
variable {w:World}{L:List HProp}{K:KT}{W lf:List Nat}{tb j:Nat}{wv xv lv:Value}
abbrev tTr:Nat:=282
def fI:Option Nat->Value
 |none=>iv (-1)
 |some p=>nv p
theorem sg_fI (o:Option Nat):sg (fI o)=true:=by cases o <;> rfl
def LV (v:Value) (lf:List Nat):HProp:=λh=>∃ b o c cells,(v=.slice (some ⟨b,o,none⟩) lf.length c/\lf.length<=c/\(cells.drop o).take lf.length=lf.map nv)/\blk b tI cells h
theorem Zyn (H:Holds w L) (i:Nat){v:Value}(hi:L[i]?=some (LV v lf)):∃ b o c cells,v=.slice (some ⟨b,o,none⟩) lf.length c/\lf.length<=c/\(cells.drop o).take lf.length=lf.map nv/\Holds w (L.set i (blk b tI cells)):=by
 obtain⟨g,⟨b,o,c,cells,⟨h1,h2,h3⟩,hg⟩,hs,hL⟩:=H.front i hi;exact⟨b,o,c,cells,h1,h2,h3,Sat.push i hi ⟨g,hg,hs,hL⟩⟩
theorem Zji (H:Holds w L) (i:Nat){b o c:Nat}{cells:List Value}(hi:L[i]?=some (blk b tI cells)) (h2:lf.length<=c) (h3:(cells.drop o).take lf.length=lf.map nv) :
  Holds w (L.set i (LV (.slice (some ⟨b,o,none⟩) lf.length c) lf)):=H.at i hi λg hg=>⟨b,o,c,cells,⟨rfl,h2,h3⟩,hg⟩
theorem Zvz {v:Value}(H:Holds w L) (i:Nat) (hi:L[i]?=some (SL nv tI v lf)) (hne:lf≠[]):Holds w (L.set i (LV v lf)):=by
 obtain⟨oa,sp,rfl,H1⟩:=H.open i hi
 cases oa with
 |none=>
  obtain⟨g,⟨h2,_⟩,_⟩:=H1.front i (Za2 hi);exact absurd h2 hne
 |some a=>
  obtain⟨g,⟨h2,h3,_⟩,_⟩:=H1.front i (Za2 hi);obtain⟨b,o,s⟩:=a;simp only at h2 h3;subst h2;subst h3;have H2:=H1.slb i (Za2 hi);have H3:=Zji (lf:=lf) (c:=lf.length+sp.length) (o:=0) H2 i (Za2 (Za2 hi)) (by omega) (by rw[drop_zero,List.take_left' (by simp)]);rw[set_set,set_set] at H3;exact H3
theorem Zim (H:Holds w (blk tb tTr [wv,xv,lv,nv j]::SL nv tI wv W::LV lv lf::L)) (hj:j<=W.length) (hl:∀ x∈lf,x < W.length) (hne:lf≠[]\/j < W.length) (hW:W.length<=1000000)
  (k:∀ lv' w',Same w w'->Holds w' (blk tb tTr [wv,xv,lv',nv (tail2 W lf j)]::SL nv tI wv W::LV lv' (tail1 W lf j)::L)->K (nv (head W lf j)) w'):Cl prog 217 #[pt tb] w K:=by
 refine Tz217 ?_;unfold Vz217;obtain⟨b,o,c,cells,rfl,hc,hcells,H1⟩:=Zyn H 2 rfl;replace H1:Holds w (blk tb tTr [wv,xv,.slice (some ⟨b,o,none⟩) lf.length c,nv j]::SL nv tI wv W::blk b tI cells::L):=H1
 have g:∀ x,x < W.length->W[x]?=some (W.getD x 0):=λx hx=>by rw[gB,gA hx];rfl
 have back:∀ {w':World} {K':KT},j < W.length->Same w w'->Holds w' (blk tb tTr [wv,xv,.slice (some ⟨b,o,none⟩) lf.length c,nv j]::SL nv tI wv W::blk b tI cells::L)->
   (∀ w2,Same w w2->Holds w2 (blk tb tTr [wv,xv,.slice (some ⟨b,o,none⟩) lf.length c,nv (j+1)]::SL nv tI wv W::LV (.slice (some ⟨b,o,none⟩) lf.length c) lf::L)->K' (nv j) w2)->
   Nc (pt tb) (Fo 3 (pt tb) λx_10=>Ld x_10 w' λx_11=>Bp .add x_11 (.int .i64 1) λx_12=>Nc (pt tb) (Fo 3 (pt tb) λx_13=>St x_13 x_12 w' λw3=>Nc (pt tb) (Fo 3 (pt tb) λx_14=>Ld x_14 w3 λx_15=>Bp .sub x_15 (.int .i64 1) λx_16=>K' x_16 w3))):=by
  intro w' K' hlt S' H' kk;refine r_nc (r_fo0 (r_ld 0 H' rfl rfl ?_));refine Za0 (by omega) ?_;refine r_nc (r_fo0 (r_st 0 H' rfl (by simp) rfl λw2 S2 H2=>?_));replace H2:Holds w2 (blk tb tTr [wv,xv,.slice (some ⟨b,o,none⟩) lf.length c,nv (j+1)]::SL nv tI wv W::blk b tI cells::L):=H2;refine r_nc (r_fo0 (r_ld 0 H2 rfl rfl ?_));refine Zab (by omega) (by omega) ?_;exact kk w2 (S'.trans S2) (Zji H2 2 rfl hc hcells)
 cases lf with
 |nil=>
  have hlt:j < W.length:=by rcases hne with h|h;exact absurd rfl h;exact h
  refine Za1 (λt w'=>Same w w'/\Holds w' (blk tb tTr [wv,xv,.slice (some ⟨b,o,none⟩) ([]:List Nat).length c,nv j]::SL nv tI wv W::blk b tI cells::L)/\t=.bool false) ?_ ?_
  rotate_left
  ·refine r_dr H1 λw2 S2 H2=>?_;refine r_nc (r_fo0 (r_ld 0 H2 rfl rfl ?_));refine r_nc (r_fo0 (r_ld 0 H2 rfl rfl ?_));refine r_lnS 1 H2 rfl ?_;refine r_eql (r_vfE (by omega) ?_);refine r_nc (r_fo0 (r_ld 0 H2 rfl rfl ?_));refine r_lnl ?_;refine r_gtr (r_vfD (by simp) ?_);exact r_ke ⟨S2,H2,rfl⟩
  rintro _ _ w2 ⟨S2,H2,rfl⟩;refine r_vf (back hlt S2 H2 λw3 S3 H3=>?_);exact k _ _ S3 H3
 |cons x l=>
  have hxW:=hl x (hJ_ ..)
  have hc0:cells[o]?=some (nv x):=by
   have:=congrArg (·[0]?) hcells;simpa using this
  refine Za1 (λt w'=>Same w w'/\Holds w' (blk tb tTr [wv,xv,.slice (some ⟨b,o,none⟩) (x::l).length c,nv j]::SL nv tI wv W::blk b tI cells::L)/\t=.bool (decide (j=W.length\/W.getD x 0<=W.getD j 0))) ?_ ?_
  rotate_left
  ·refine r_dr H1 λw2 S2 H2=>?_;refine r_nc (r_fo0 (r_ld 0 H2 rfl rfl ?_));refine r_nc (r_fo0 (r_ld 0 H2 rfl rfl ?_));refine r_lnS 1 H2 rfl ?_;refine r_eql (r_ifE (λh=>?_) λh=>?_)
   ·exact r_ke ⟨S2,H2,by rw[decide_eq_true (.inl (by omega))]⟩
   refine r_nc (r_fo0 (r_ld 0 H2 rfl rfl ?_));refine r_lnl ?_;refine r_gtr (r_vtD (by rw[length_cons];omega) ?_);refine r_nc (r_fo0 (r_ld 0 H2 rfl rfl ?_));refine r_nc (r_fo0 (r_ld 0 H2 rfl rfl ?_));refine r_ias (n:=0) (by omega) (by rw[length_cons];omega) ?_;refine r_ld 2 H2 rfl (v:=nv x) (by simpa using hc0) ?_;refine Za8 1 H2 rfl (g x hxW) ?_;refine r_nc (r_fo0 (r_ld 0 H2 rfl rfl ?_));refine r_nc (r_fo0 (r_ld 0 H2 rfl rfl ?_));refine Za8 1 H2 rfl (g j (by omega)) ?_;refine r_leq (r_ke ⟨S2,H2,?_⟩)
   congr 1
   exact decide_eq_decide.2 (by omega)
  rintro _ _ w2 ⟨S2,H2,rfl⟩;refine r_ifD (λh=>?_) λh=>?_
  ·refine r_nc (r_fo0 (r_ld 0 H2 rfl rfl ?_));refine r_ias (n:=0) (by omega) (by rw[length_cons];omega) ?_;refine r_ld 2 H2 rfl (v:=nv x) (by simpa using hc0) ?_;refine r_nc (r_fo0 (r_ld 0 H2 rfl rfl ?_));rw[length_cons] at hc;refine Zzk (l:=1) (by rw[length_cons];omega) (by rw[length_cons];omega) ?_;refine r_nc (r_fo0 (r_st 0 H2 rfl (by simp) rfl λw3 S3 H3=>?_))
   obtain⟨o',ho',hcl⟩:∃ o',(if c=1 then some (⟨b,o,none⟩:Addr) else Option.map (λq:Addr=>q.add (1*1)) (some (⟨b,o,none⟩:Addr)))=some (⟨b,o',none⟩:Addr)/\(cells.drop o').take l.length=l.map nv:=by
    by_cases hc1:c=1
    ·have:l=[]:=eq_nil_of_length_eq_zero (by omega);subst this;exact⟨o,by rw[if_pos hc1],by simp⟩
    ·refine⟨o+1,by rw[if_neg hc1];rfl,?_⟩;have:=congrArg (·.drop 1) hcells;simpa [List.drop_take,List.drop_drop] using this
   rw[ho'] at H3;replace H3:Holds w3 (blk tb tTr [wv,xv,.slice (some ⟨b,o',none⟩) l.length (c - 1),nv j]::SL nv tI wv W::blk b tI cells::L):=H3;have H4:=Zji (lf:=l) (c:=c - 1) (o:=o') H3 2 rfl (by omega) hcl;have e1:head W (x::l) j=x:=if_pos h;have e2:tail1 W (x::l) j=l:=if_pos h;have e3:tail2 W (x::l) j=j:=if_pos h;have:=k (.slice (some ⟨b,o',none⟩) l.length (c - 1)) w3 (S2.trans S3);rw[e1,e2,e3] at this;exact this H4
  ·have e1:head W (x::l) j=j:=if_neg h;have e2:tail1 W (x::l) j=x::l:=if_neg h;have e3:tail2 W (x::l) j=j+1:=if_neg h;refine back (by omega) S2 H2 λw3 S3 H3=>?_;have:=k (.slice (some ⟨b,o,none⟩) (x::l).length c) w3 S3;rw[e1,e2,e3] at this;exact this H3
theorem join_spec {I:List (Option Nat)}{a b:Nat}(H:Holds w (blk tb tTr [wv,xv,lv,nv j]::SL nv tI wv W::SL fI tI xv I::L)) (ha:a < W.length) (hb:b < W.length) (hI:I.length=W.length) (hW:W.length<=1000000)
  (hs:W.getD a 0+W.getD b 0 < 9223372036854775807)
  (k:∀ wv' xv' w',Same w w'->Holds w' (blk tb tTr [wv',xv',lv,nv j]::SL nv tI wv' (W++[W.getD a 0+W.getD b 0])::SL fI tI xv' (((I.set a (some W.length)).set b (some W.length))++[none])::L)->K (.tuple #[]) w'):Cl prog 218 #[pt tb,nv a,nv b] w K:=by
 refine Tz218 ?_;unfold Vz218
 have g:∀ x,x < W.length->W[x]?=some (W.getD x 0):=λx hx=>by rw[gB,gA hx];rfl
 refine r_dr H λw1 S1 H1=>?_;refine r_nc (r_fo0 (r_ld 0 H1 rfl rfl ?_));refine r_nc (r_fo0 (r_ld 0 H1 rfl rfl ?_));refine r_lnS 1 H1 rfl ?_;refine Zam 2 H1 (f:=fI) (some W.length) rfl (by omega) rfl λw2 S2 H2=>?_;replace H2:Holds w2 (blk tb tTr [wv,xv,lv,nv j]::SL nv tI wv W::SL fI tI xv (I.set a (some W.length))::L):=H2;refine r_dr H2 λw3 S3 H3=>?_;refine r_nc (r_fo0 (r_ld 0 H3 rfl rfl ?_));refine r_nc (r_fo0 (r_ld 0 H3 rfl rfl ?_));refine r_lnS 1 H3 rfl ?_;refine Zam 2 H3 (f:=fI) (some W.length) rfl (by rw[hX_];omega) rfl λw4 S4 H4=>?_;replace H4:Holds w4 (blk tb tTr [wv,xv,lv,nv j]::SL nv tI wv W::SL fI tI xv ((I.set a (some W.length)).set b (some W.length))::L):=H4;refine r_dr H4 λw5 S5 H5=>?_;refine r_nc (r_fo0 (r_ld 0 H5 rfl rfl ?_));refine r_nc (r_fo0 (r_ld 0 H5 rfl rfl ?_));refine Za8 1 H5 rfl (g a ha) ?_;refine r_nc (r_fo0 (r_ld 0 H5 rfl rfl ?_));refine Za8 1 H5 rfl (g b hb) ?_;refine Za9 hs ?_;refine Znm (f:=nv) H5 1 (xs:=W) rfl (W.getD a 0+W.getD b 0) (λ_=>rfl) (by omega) (λw' H'=>r_ld 0 H' rfl rfl rfl) λwv' w6 S6 H6=>?_;replace H6:Holds w6 (blk tb tTr [wv,xv,lv,nv j]::SL nv tI wv' (W++[W.getD a 0+W.getD b 0])::SL fI tI xv ((I.set a (some W.length)).set b (some W.length))::L):=H6;refine r_nc (r_fo0 (r_st 0 H6 rfl (by simp) (SL_sg H6 1 rfl) λw7 S7 H7=>?_));replace H7:Holds w7 (blk tb tTr [wv',xv,lv,nv j]::SL nv tI wv' (W++[W.getD a 0+W.getD b 0])::SL fI tI xv ((I.set a (some W.length)).set b (some W.length))::L):=H7;refine r_nc (r_fo0 (r_ld 0 H7 rfl rfl ?_));refine Zci (f:=fI) H7 2 (xs:=(I.set a (some W.length)).set b (some W.length)) rfl none sg_fI (by rw[hX_,hX_];omega) λxv' w8 S8 H8=>?_;replace H8:Holds w8 (blk tb tTr [wv',xv,lv,nv j]::SL nv tI wv' (W++[W.getD a 0+W.getD b 0])::SL fI tI xv' (((I.set a (some W.length)).set b (some W.length))++[none])::L):=H8;refine r_nc (r_fo0 (r_st 0 H8 rfl (by simp) (SL_sg H8 2 rfl) λw9 S9 H9=>?_));exact k wv' xv' w9 (S1.trans (S2.trans (S3.trans (S4.trans (S5.trans (S6.trans (S7.trans (S8.trans S9)))))))) H9
theorem Zlq {v:Value}{i:Nat}(H:Holds w L) (hi:L[i]?=some (SL nv tI v W)) (h0:0 < W.length) (hW:W.length<=100000)
  (k:∀ tb wv xv lv lf w',Seg W 0 lf->lf.length=W.length->Same w w'->Holds w' (blk tb tTr [wv,xv,lv,nv W.length]::SL nv tI wv W::SL fI tI xv (List.replicate W.length none)::LV lv lf::L)->K (pt tb) w'):Cl prog 216 #[v] w K:=by
 refine Tz216 ?_;unfold Vz216;obtain⟨oa,sp,rfl,_⟩:=H.open i hi;refine r_new H λwb w1 S1 H1=>?_;replace H1:Holds w1 (blk wb tIs [.slice oa W.length (W.length+sp.length)]::L):=H1;refine r_dr H1 λw2 S2 H2=>?_;refine r_ld 0 H2 rfl rfl ?_;refine Zbf H2 (i+1) (by rw[gF];exact hi) (by omega) λcv w3 S3 H3=>?_;refine r_ld 1 H3 rfl rfl ?_;refine r_rk (r_ld 0 H2 rfl rfl rfl) ?_;refine r_lnl (r_rk (r_lnl rfl) ?_);obtain⟨oa',sp',rfl,_⟩:=H3.open 0 rfl;refine r_bd (v:=.agg #[.slice oa' W.length (W.length+sp'.length),.slice none 0 0,.slice none 0 0,nv W.length]) (by kernel_rfl) ?_;refine r_new H3 λtb w4 S4 H4=>?_;generalize hcv:Value.slice oa' W.length (W.length+sp'.length)=cv at *;generalize hv:Value.slice oa W.length (W.length+sp.length)=v at *;replace H4:Holds w4 (blk tb tTr [cv,.slice none 0 0,.slice none 0 0,nv W.length]::SL nv tI cv W::blk wb tIs [v]::L):=H4;refine r_ld 2 H4 rfl rfl ?_;rw[<-hv];refine r_lnl ?_;have H5:=((H4.nilSL nv tI).nilSL fI tI).ord 5 [2,3,0,1,4] rfl
 refine Za7 (λx w'=>∃ (n:Nat) (xv lv:Value),x=nv n/\n<=W.length/\Same w w'/\Holds w' (blk tb tTr [cv,xv,lv,nv W.length]::SL nv tI cv W::SL fI tI xv (List.replicate n none)::SL nv tI lv (List.range' 0 n)::blk wb tIs [v]::L)) (λx _=>W.length - (intOf x).toNat)
  ⟨0,.slice none 0 0,.slice none 0 0,rfl,hE _,S1.trans (S2.trans (S3.trans S4)),H5⟩ ?_
 clear H5 H4 H3 H2 H1 S1 S2 S3 S4;rintro _ _ w5 ⟨n,xv,lv,rfl,hn,S5,H5⟩;refine r_lss (r_ifD (λh=>?_) λh=>?_)
 ·refine r_nc (r_fo0 (r_ld 0 H5 rfl rfl ?_));refine Zci (f:=nv) H5 3 (xs:=List.range' 0 n) rfl n (λ_=>rfl) (by simp;omega) λlv' w6 S6 H6=>?_;rw[show List.range' 0 n++[n]=List.range' 0 (n+1) by rw[List.range'_concat];simp] at H6;replace H6:Holds w6 (blk tb tTr [cv,xv,lv,nv W.length]::SL nv tI cv W::SL fI tI xv (List.replicate n none)::SL nv tI lv' (List.range' 0 (n+1))::blk wb tIs [v]::L):=H6;refine r_nc (r_fo0 (r_st 0 H6 rfl (by simp) (SL_sg H6 3 rfl) λw7 S7 H7=>?_));replace H7:Holds w7 (blk tb tTr [cv,xv,lv',nv W.length]::SL nv tI cv W::SL fI tI xv (List.replicate n none)::SL nv tI lv' (List.range' 0 (n+1))::blk wb tIs [v]::L):=H7;refine r_nc (r_fo0 (r_ld 0 H7 rfl rfl ?_));refine Zci (f:=fI) H7 2 (xs:=List.replicate n none) rfl none sg_fI (by simp;omega) λxv' w8 S8 H8=>?_;rw[<-List.replicate_succ'] at H8;replace H8:Holds w8 (blk tb tTr [cv,xv,lv',nv W.length]::SL nv tI cv W::SL fI tI xv' (List.replicate (n+1) none)::SL nv tI lv' (List.range' 0 (n+1))::blk wb tIs [v]::L):=H8;refine r_nc (r_fo0 (r_st 0 H8 rfl (by simp) (SL_sg H8 2 rfl) λw9 S9 H9=>?_));replace H9:Holds w9 (blk tb tTr [cv,xv',lv',nv W.length]::SL nv tI cv W::SL fI tI xv' (List.replicate (n+1) none)::SL nv tI lv' (List.range' 0 (n+1))::blk wb tIs [v]::L):=H9;refine Za0 (by omega) (r_ke ⟨⟨n+1,xv',lv',rfl,by omega,S5.trans (S6.trans (S7.trans (S8.trans S9))),H9⟩,?_⟩);simp only[nv,intOf,gC];omega
 obtain rfl:n=W.length:=by omega
 refine r_nc (r_fo0 (r_ld 0 H5 rfl rfl ?_));refine r_mf (fnT wb) (by kernel_rfl) ?_;have H6:=H5.ord 5 [3,0,1,2,4] rfl;refine Zue (W:=W) (Zzl (i:=3) (j:=i+4) (wb:=wb) (wv:=v) rfl hi) H6 (Nat.le_refl _) (by omega) λZ w7 hZ lZ S7 H7=>?_;have H8:=Zvz H7 0 rfl (λe=>by rw[e,length_nil] at lZ;omega);have H9:=H8.ord 5 [1,2,3,0] rfl;exact k tb cv xv lv Z w7 hZ lZ (S5.trans S7) H9
theorem Zz2 {v:Value}{D:List Nat}{n i:Nat}{K:Value->Prop}(H:Holds w L) (hi:L[i]?=some (SL nv tI v D)) (hn:n<=D.length) (hD:D≠[])
  (k:∀ v',Holds w (L.set i (SL nv tI v' (D.take n)))->K v'):Ssl 1 v none (some (nv n)) K:=by
 obtain⟨oa,sp,rfl,H1⟩:=H.open i hi
 cases oa with
 |none=>
  obtain⟨g,⟨h2,_⟩,_⟩:=H1.front i (Za2 hi);exact absurd h2 hD
 |some a=>
  obtain⟨g,⟨h2,h3,_⟩,_⟩:=H1.front i (Za2 hi);obtain⟨b,o,s⟩:=a;simp only at h2 h3;subst h2;subst h3;refine Zfq (by omega) (k _ ?_);have H2:=H1.slb i (Za2 hi);rw[set_set] at H2;rw[show D.map nv++sp=(D.take n).map nv++((D.drop n).map nv++sp) by rw[<-gI,<-map_append,hN_]] at H2;have H3:=H2.slb' (xs:=D.take n) (f:=nv) i (Za2 hi);rw[set_set] at H3;have H4:=H3.close i (Za2 hi);rw[set_set] at H4
  have e1:(D.take n).length=n:=by rw[gN];omega
  have e2:n+((D.drop n).map nv++sp).length=D.length+sp.length:=by simp;omega
  rw[e1,e2] at H4;exact H4
theorem Zmz {v:Value}{i:Nat}(H:Holds w L) (hi:L[i]?=some (SL nv tI v W)) (h2:2<=W.length) (hW:W.length<=258) (hw:∀ x∈W,x<=1099511627776)
  (k:∀ v' out w',Depths W out->Same w w'->Holds w' (SL nv tI v' out::L)->K v' w'):Cl prog 212 #[v] w K:=by
 refine Tz212 ?_;unfold Vz212;have hT:Tot (h0 W)<=258*1099511627776:=Nat.le_trans (tot0 hw) (Nat.mul_le_mul_right _ hW);refine Zlq H hi (by omega) (by omega) λtb wv0 xv0 lv0 lf0 w1 hS hl S1 H1=>?_;refine r_lnS i H hi ?_;refine Zab (by omega) (by omega) ?_
 refine Za7 (λx w'=>∃ (q:Nat) (s:HS) (lf:List Nat) (j:Nat) (wv xv lv:Value),x=nv q/\q<=W.length - 1/\Joins (h0 W) q s/\Queue W.length s lf j/\Tot s=Tot (h0 W)/\(0 < q->s.W.length - 1∈s.V)/\Same w w'/\
   Holds w' (blk tb tTr [wv,xv,lv,nv j]::SL nv tI wv s.W::SL fI tI xv s.I::LV lv lf::L)) (λx _=>W.length - (intOf x).toNat)
  ⟨0,h0 W,lf0,W.length,wv0,xv0,lv0,rfl,hE _,.start,queue0 (by rw[List.range_eq_range',<-hl];exact hS.1) hS.2,rfl,λe=>absurd e (Nat.lt_irrefl _),S1,H1⟩ ?_
 clear H1 S1;rintro _ _ w2 ⟨q,s,lf,j,wv,xv,lv,rfl,hq,hJ,hQ,hTt,hlast,S2,H2⟩;obtain⟨hg,hVl,hWl⟩:=Zc2 hJ;refine r_lss (r_ifD (λh=>?_) λh=>?_)
 ·have hV2:2<=s.V.length:=by omega
  obtain⟨s',a,b,ea,eb,jn,hQ',hal,hbl,hne⟩:=Zrd hg hQ hV2;have hjn:=hQ.jn;have hlen:=hQ.perm.length_eq;rw[gD,length_range'] at hlen;obtain⟨a1,a2,a3,a4,a5⟩:=Zfm hQ.jn hQ.lfn hQ.sorted hQ.mono (by intro e;have:=congrArg List.length e;rw[gD,length_range',length_nil] at this;omega);have hlen2:=a2.length_eq;rw[List.length_erase_of_mem a1.1,gD,gD,length_range',length_range'] at hlen2;have tt:=Ztd jn.la.1 jn.lb.1;have H3:Holds w2 (blk tb tTr [wv,xv,lv,nv j]::SL nv tI wv s.W::LV lv lf::SL fI tI xv s.I::L):=H2.ord 4 [0,1,3,2] rfl
  refine Zim H3 hjn.2 (λx hx=>by have:=hQ.lfn x hx;omega) (by
   by_cases e:lf=[]
   ·right;rw[e,length_nil] at hlen;omega
   ·exact .inl e) (by omega) λlv1 w3 S3 H4=>?_
  refine Zim H4 a3.2 (λx hx=>by have:=a4 x hx;omega) (by
   by_cases e:tail1 s.W lf j=[]
   ·right;rw[e,length_nil] at hlen2;omega
   ·exact .inl e) (by omega) λlv2 w4 S4 H5=>?_
  rw[<-ea,<-eb];generalize tail1 s.W (tail1 s.W lf j) (tail2 s.W lf j)=lf2 at *;generalize tail2 s.W (tail1 s.W lf j) (tail2 s.W lf j)=j2 at *;have H6:Holds w4 (blk tb tTr [wv,xv,lv2,nv j2]::SL nv tI wv s.W::SL fI tI xv s.I::LV lv2 lf2::L):=H5.ord 4 [0,1,3,2] rfl;refine join_spec H6 hal hbl hg.len (by omega) (by omega) λwv' xv' w5 S5 H7=>?_;rw[<-jn.W,<-jn.I] at H7;refine Za0 (by omega) (r_ke ⟨⟨q+1,s',lf2,j2,wv',xv',lv2,rfl,by omega,hJ.next jn,hQ',(Zpb hg jn).trans hTt,λ_=>?_,S2.trans (S3.trans (S4.trans S5)),H7⟩,?_⟩)
  ·rw[jn.V.mem_iff,jn.W,gD,gQ,Nat.add_sub_cancel];exact hJ_ ..
  ·simp only[nv,intOf,gC];omega
 obtain rfl:q=W.length - 1:=by omega
 obtain⟨r,hr⟩:=List.length_eq_one_iff.1 (show s.V.length=1 by omega)
 have hrl:r=s.W.length - 1:=by
  have:=hlast (by omega);rw[hr] at this;exact (mem_singleton.1 this).symm
 have hup:∀ x p,s.I[x]?=some (some p)->x < p/\p < s.W.length:=by
  intro x p hx
  have h1:x < s.W.length:=by have:=(gH.1 hx).1;rw[hg.len] at this;exact this
  have h3:x∉s.V:=λe=>by rw[hg.live x e] at hx;cases hx
  obtain⟨p',h4,h5,h6⟩:=hg.dead x h1 h3;rw[hx] at h4;cases h4;exact⟨h5,h6⟩
 refine r_nc (r_fo0 (r_ld 0 H2 rfl rfl ?_));refine r_lnS 1 H2 rfl ?_;obtain⟨m,hm⟩:∃ m,m=s.W.length:=⟨_,rfl⟩;rw[<-hm];refine r_ms (f:=nv) (x:=0) H2 rfl (by omega) (by omega) λob w3 S3 H3=>?_;rw[gC] at H3 ⊢;have H4:=H3.close 0 rfl;simp only[gJ,gP,length_nil,Nat.add_zero] at H4;generalize hv:Value.slice (some ⟨ob,0,none⟩) m m=ov at H4 ⊢;refine r_lnS 0 H4 rfl ?_;rw[gP];refine Zbn (b:=2) (by omega) (by omega) ?_
 have hz:∀ x,(List.replicate m 0).getD x 0=0:=λx=>by
  rw[gB,List.getElem?_replicate]
  split <;> rfl
 refine Za7 (λx w'=>∃ (t:Nat) (D:List Nat),x=iv ((t:Int) - 1)/\t<=m - 1/\D.length=m/\D.getD (m - 1) 0=0/\(∀ x p,t<=x->s.I[x]?=some (some p)->D.getD x 0=D.getD p 0+1)/\(∀ x,D.getD x 0<=m - x)/\Same w w'/\
   Holds w' (SL nv tI ov D::blk tb tTr [wv,xv,lv,nv j]::SL nv tI wv s.W::SL fI tI xv s.I::LV lv lf::L)) (λx _=>(intOf x+1).toNat)
  ⟨m - 1,List.replicate m 0,by rw[show ((m - 1:Nat):Int) - 1=((m - 2:Nat):Int) by omega],Nat.le_refl _,gP,hz _,λx p h1 h3=>by have:=hup x p h3;omega,λx=>by rw[hz];omega,S2.trans S3,H4⟩ ?_
 clear H4 H3 S3 S2 H2;rintro _ _ w4 ⟨t,D,rfl,ht,hDl,hD0,hD,hDb,S4,H4⟩;refine r_geq (r_ifD (λh=>?_) λh=>?_)
 ·obtain⟨x,rfl⟩:∃ x,t=x+1:=⟨t - 1,by omega⟩;rw[show ((x+1:Nat):Int) - 1=(x:Int) by omega];obtain⟨p,hp,hxp,hpm⟩:=hg.dead x (by omega) (by rw[hr];intro e;have:=mem_singleton.1 e;omega);refine r_nc (r_fo0 (r_ld 1 H4 rfl rfl ?_));refine Za8 3 H4 (f:=fI) rfl hp ?_
  have hpD:D[p]?=some (D.getD p 0):=by rw[gB,gA (by omega)];rfl
  refine Za8 0 H4 (j:=p) rfl hpD ?_;have hb:=hDb p;refine Za0 (by omega) ?_;refine Zam 0 H4 (D.getD p 0+1) rfl (by omega) rfl λw5 S5 H5=>?_;replace H5:Holds w5 (SL nv tI ov (D.set x (D.getD p 0+1))::blk tb tTr [wv,xv,lv,nv j]::SL nv tI wv s.W::SL fI tI xv s.I::LV lv lf::L):=H5;refine r_sub (by omega) (by omega) ?_
  have hset:∀ y,(D.set x (D.getD p 0+1)).getD y 0=if y=x then D.getD p 0+1 else D.getD y 0:=by
   intro y;rw[gB,List.getElem?_set]
   by_cases e:x=y
   ·subst e;rw[if_pos rfl,if_pos (by omega),if_pos rfl];rfl
   ·rw[if_neg e,if_neg (λe2=>e e2.symm),<-gB]
  refine r_ke ⟨⟨x,_,rfl,by omega,by rw[hX_];exact hDl,?_,?_,?_,S4.trans S5,H5⟩,?_⟩
  ·rw[hset,if_neg (by omega)];exact hD0
  ·intro y p' h1 h3;have h5:=hup y p' h3;rw[hset,hset]
   by_cases e:y=x
   ·subst e;rw[hp] at h3;cases h3;rw[if_pos rfl,if_neg (by omega)]
   ·rw[if_neg e,if_neg (by omega)];exact hD y p' (by omega) h3
  ·intro y;rw[hset];split
   ·rename_i e;omega
   ·exact hDb y
  ·simp only[iv,intOf];omega
 obtain rfl:t=0:=by omega
 refine r_lnS i H hi ?_
 have hDne:D≠[]:=λe=>by rw[e,length_nil] at hDl;omega
 refine Zz2 H4 (i:=0) rfl (by omega) hDne λv' H5=>?_;have H6:=H5.ord 5 [0] rfl;refine k v' (D.take W.length) w4 ⟨s,r,hJ,hr,by rw[gN];omega,λx hx=>?_⟩ S4 H6
 have e1:(D.take W.length).getD x 0=D.getD x 0:=by rw[gB,hI_ hx,<-gB]
 rw[e1];exact Zvm hg hr (by rw[hrl,<-hm];exact hD0) (λa p h=>hD a p (hE _) h) _ x (Nat.le_refl _) (by omega)
end T09
end Go.Proofs.YtpmjeiliblgajaaGreatDoor
namespace Go.Proofs.YtpmjeiliblgajaaGreatDoor
open Go Go.Vc Go.Proofs.Tryz
open Classical in
theorem Zdo {w:World}{a:Value}{body:(Nat->Value)->Cur 1->Cur 1}(I:Nat->Value->World->Prop) (n0:Nat) (h0:I n0 a w)
  (h:∀ jb n x w (k:Cur 1),I n x w->(∀ m x' w',m < n->I m x' w'->k x' w')->body jb k x w):VLoop 1 [a] w body:=by
 refine Za7 (λx w'=>∃ n,I n x w') (λx w'=>if h:∃ n,I n x w' then Classical.choose (Mh.Zb1 h) else 0) ⟨n0,h0⟩ ?_;intro jb x w1 hx;have e1:=Classical.choose_spec (Mh.Zb1 hx);refine h jb _ x w1 _ e1.1 λm x' w' hm hI=>⟨⟨m,hI⟩,?_⟩;have hx':∃ n,I n x' w':=⟨m,hI⟩;have e2:=Classical.choose_spec (Mh.Zb1 hx');show dite _ _ _ < dite _ _ _;rw[dif_pos hx,dif_pos hx'];exact Nat.lt_of_le_of_lt (e2.2 m hI) hm
attribute [local irreducible] Vc.Nc Vc.Ld Vc.LdA Vc.St Vc.StA Vc.Fo Vc.Iaa Vc.Ias Vc.Ixs Vc.Ixa Vc.Fd Vc.FdA Vc.Bp Vc.Bb Vc.Bn Vc.Up Vc.Ci Vc.Lns Vc.Lnl Vc.Ex Vc.Sst Vc.Ssl Vc.New Vc.Vif Vc.VJoin Vc.VLoop Vc.KE Vc.Dr Vc.Rk Vc.Cl Vc.Cx Vc.Inv Vc.Be Vc.Cv Vc.Cw Vc.Mf Vc.Sl Vc.Lk Vc.Bd Vc.Bs Vc.Ms Vc.Mm Vc.Mu Vc.Me Vc.Es Vc.Rg Vc.Nx Vc.Ta Vc.Ap Vc.Usd Vc.Ust Vc.Cp Vc.Ln Vc.Bc Vc.Bmin Vc.Bmax Vc.Bdel Vc.Bclr Vc.Pk
namespace O09
open Go.Mh
variable {w:World}{L:List HProp}{K:KT}
theorem Zl6 {v:Value}{l:List Nat}{i:Nat}(H:Holds w L) (hi:L[i]?=some (SL nv tI v l)) (hl:l.length<=1000000) (k:∀ n:Nat,(n<=20↔∀ x∈l,x<=20)->K (nv n) w):Cl prog 213 #[v] w K:=by
 refine Tz213 ?_;unfold Vz213;refine r_lnS i H hi ?_;refine Zaa (λp q w'=>∃ n t:Nat,p=nv n/\q=nv t/\t<=l.length/\(n<=20↔∀ x∈l.take t,x<=20)/\w=w') (λ_ q _=>l.length - (intOf q).toNat) ⟨0,0,rfl,rfl,hE _,by simp,rfl⟩ ?_;rintro _ _ _ _ ⟨n,t,rfl,rfl,ht,hn,rfl⟩;refine r_lss (r_ifD (λh=>?_) λh=>?_)
 ·have hlt:t < l.length:=by omega
  refine Za8 i H hi (gA hlt) ?_;refine r_max ?_;refine Za0 (by omega) (r_ke ⟨⟨max n l[t],t+1,by rw[show max (n:Int) (l[t]:Int)=((max n l[t]:Nat):Int) by omega],rfl,by omega,?_,rfl⟩,?_⟩)
  ·have e:l.take (t+1)=l.take t++[l[t]]:=by rw[gO,gA hlt];rfl
   rw[e]
   constructor
   ·intro h1 x hx;rcases hT_.1 hx with hx|hx
    ·exact hn.1 (by omega) x hx
    ·rw[mem_singleton.1 hx];omega
   ·intro h1;have h2:=hn.2 λx hx=>h1 x (List.mem_append_left _ hx);have h3:=h1 l[t] (List.mem_append_right _ (mem_singleton.2 rfl));omega
  ·simp only[nv,intOf,gC];omega
 ·rw[gK (by omega)] at hn;exact k n hn
theorem Zmk {v:Value}{l:List Nat}{i:Nat}(H:Holds w L) (hi:L[i]?=some (SL nv tI v l)) (hl:l.length<=1000000) (hb:∀ x∈l,x<=1099511627776) (k:∀ v' w',Same w w'->Holds w' (SL nv tI v' (halved l)::L)->K v' w'):Cl prog 214 #[v] w K:=by
 refine Tz214 ?_;unfold Vz214;refine r_lnS i H hi ?_;refine r_ms (f:=nv) (x:=0) H rfl (by omega) (by omega) λob w2 S2 H2=>?_;rw[gC] at H2 ⊢;have H3:=H2.close 0 rfl;simp only[gJ,gP,length_nil,Nat.add_zero] at H3;generalize hv:Value.slice (some ⟨ob,0,none⟩) l.length l.length=ov at H3 ⊢;refine r_lnS i H hi ?_;refine Za7 (λq w'=>∃ (t:Nat),q=nv t/\t<=l.length/\Same w w'/\Holds w' (SL nv tI ov (halved (l.take t)++List.replicate (l.length - t) 0)::L)) (λq _=>l.length - (intOf q).toNat) ⟨0,rfl,hE _,S2,H3⟩ ?_;clear H H2 H3 S2;rintro _ _ w3 ⟨t,rfl,ht,S3,H3⟩;refine r_lss (r_ifD (λh=>?_) λh=>?_)
 ·have hlt:t < l.length:=by omega
  have hx:=hb _ (getElem_mem hlt)
  have e:l.take (t+1)=l.take t++[l[t]]:=by rw[gO,gA hlt];rfl
  refine Za8 (i+1) H3 (by rw[gF];exact hi) (gA hlt) ?_;generalize l[t]=x at *;refine r_max ?_;rw[show max (x:Int) 0=(x:Int) by omega];refine r_quo (by omega) (by omega) (by omega) ?_;rw[show (x:Int)/2=((x/2:Nat):Int) by omega];refine Za0 (by omega) ?_
  have hlen:(halved (l.take t)).length=t:=by unfold halved;rw[hS_,gN];omega
  refine Zam 0 H3 (x/2+1) rfl (by rw[gD,hlen,gP];omega) rfl λw4 S4 H4=>?_;refine Za0 (by omega) (r_ke ⟨⟨t+1,rfl,by omega,S3.trans S4,?_⟩,?_⟩)
  ·replace H4:Holds w4 (SL nv tI ov ((halved (l.take t)++List.replicate (l.length - t) 0).set t (x/2+1))::L):=H4;rw[List.set_append_right _ _ (by omega),hlen,Nat.sub_self,show l.length - t=(l.length - (t+1))+1 by omega,List.replicate_succ,gJ] at H4;rw[e];unfold halved at *;rw[map_append];simpa using H4
  ·simp only[nv,intOf,gC];omega
 ·obtain rfl:t=l.length:=by omega
  rw[hF_,Nat.sub_self,replicate_zero,gU] at H3;exact k ov w3 S3 H3
def ones (c:List Nat):List Nat:=c.map λx=>max x 1
theorem Of_spec {v:Value}{c:List Nat}{i:Nat}(H:Holds w L) (hi:L[i]?=some (SL nv tI v c)) (h3:3<=c.length) (hl:c.length<=258) (hb:∀ x∈c,x<=1099511627776)
  (k:∀ v' out w',LensOf (ones c) out->Same w w'->Holds w' (SL nv tI v' out::L)->K (.tuple #[v',iv 0]) w'):Cl prog 204 #[v] w K:=by
 refine Tz204 ?_;unfold Vz204;refine Za1 (λt w'=>Same w w'/\Holds w' L/\t=.bool false) ?_ ?_
 rotate_left
 ·refine r_lnS i H hi (r_lss (r_vfD (by omega) ?_));refine r_lnS i H hi (r_gtr (r_vfD (by omega) ?_));refine r_cl (K:=λt w'=>Same w w'/\Holds w' L/\t=.bool true) ?_ ?_
  ·refine Tz209 ?_;unfold Vz209;refine r_new H λlb w1 S1 H1=>?_;replace H1:Holds w1 (blk lb tI [iv 0]::L):=H1;refine r_new H1 λhb' w2 S2 H2=>?_;replace H2:Holds w2 (blk hb' tI [iv 1099511627776]::blk lb tI [iv 0]::L):=H2;refine r_mf (.func (.func 215) #[] #[pt lb,pt hb']) (by kernel_rfl) ?_;refine D11.Zdc H2 (i+2) hi (by omega) (λx hx Q hQ=>?_) ?_
   ·have hx1:=hb x hx;refine r_inv (f:=215) (args:=#[nv x,pt lb,pt hb']) (by kernel_rfl) ?_;refine Tz215 ?_;unfold Vz215;refine r_ld 1 H2 rfl rfl ?_;refine r_lss (r_vfD (by omega) ?_);refine r_ld 0 H2 rfl rfl ?_;refine r_gtr ?_;rw[decide_eq_false (by omega)];exact hQ
   ·exact Zbm ⟨S1.trans S2,H2.drop.drop,rfl⟩
  rintro _ w1 ⟨S1,H1,rfl⟩;exact Zah (r_ke ⟨S1,H1,rfl⟩)
 rintro _ _ w1 ⟨S1,H1,rfl⟩;refine r_vf ?_;refine r_lnS i H hi ?_;refine r_ms (f:=nv) (x:=0) H1 rfl (by omega) (by omega) λob w2 S2 H2=>?_;rw[gC] at H2 ⊢;have H3:=H2.close 0 rfl;simp only[gJ,gP,length_nil,Nat.add_zero] at H3;generalize hv:Value.slice (some ⟨ob,0,none⟩) c.length c.length=ov at H3 ⊢;refine r_lnS i H hi ?_;refine Za7 (λq w'=>∃ (t:Nat),q=nv t/\t<=c.length/\Same w w'/\Holds w' (SL nv tI ov (ones (c.take t)++List.replicate (c.length - t) 0)::L)) (λq _=>c.length - (intOf q).toNat) ⟨0,rfl,hE _,S1.trans S2,H3⟩ ?_;clear H1 H2 H3 S1 S2;rintro _ _ w3 ⟨t,rfl,ht,S3,H3⟩;refine r_lss (r_ifD (λh=>?_) λh=>?_)
 ·have hlt:t < c.length:=by omega
  have e:c.take (t+1)=c.take t++[c[t]]:=by rw[gO,gA hlt];rfl
  refine Za8 (i+1) H3 (by rw[gF];exact hi) (gA hlt) ?_;generalize c[t]=x at *;refine r_max ?_;rw[show max (x:Int) 1=((max x 1:Nat):Int) by omega]
  have hlen:(ones (c.take t)).length=t:=by unfold ones;rw[hS_,gN];omega
  refine Zam 0 H3 (max x 1) rfl (by rw[gD,hlen,gP];omega) rfl λw4 S4 H4=>?_;refine Za0 (by omega) (r_ke ⟨⟨t+1,rfl,by omega,S3.trans S4,?_⟩,?_⟩)
  ·replace H4:Holds w4 (SL nv tI ov ((ones (c.take t)++List.replicate (c.length - t) 0).set t (max x 1))::L):=H4;rw[List.set_append_right _ _ (by omega),hlen,Nat.sub_self,show c.length - t=(c.length - (t+1))+1 by omega,List.replicate_succ,gJ] at H4;rw[e];unfold ones at *;rw[map_append];simpa using H4
  ·simp only[nv,intOf,gC];omega
 obtain rfl:t=c.length:=by omega
 rw[hF_,Nat.sub_self,replicate_zero,gU] at H3
 refine Zdo (λn x w'=>∃ u:List Nat,n=u.sum/\u.length=c.length/\(∀ x∈u,1<=x/\x<=1099511627776)/\(∀ out,LensOf u out->LensOf (ones c) out)/\Same w w'/\Holds w' (SL nv tI x u::L)) (ones c).sum
  ⟨ones c,rfl,by unfold ones;rw[hS_],λx hx=>by
   obtain⟨y,hy,rfl⟩:=mem_map.1 hx;have:=hb y hy
   omega,λ_ h=>h,S3,H3⟩ ?_
 clear H3 S3;rintro _ _ x w4 kk ⟨u,rfl,hu,hur,hcont,S4,H4⟩ hkk;refine T09.Zmz H4 (i:=0) rfl (by omega) (by omega) (λx hx=>(hur x hx).2) λv' out w5 hD S5 H5=>?_
 have hol:out.length=c.length:=by
  obtain⟨_,_,_,_,h,_⟩:=hD;omega
 refine Zl6 H5 (i:=0) rfl (by omega) λm hm=>?_;refine r_leq (r_ifD (λh20=>?_) λh20=>?_)
 ·refine Zbf H5 0 rfl (by omega) λv2 w6 S6 H6=>?_;exact k v2 out w6 (hcont _ (.fit hD (hm.1 (by omega)))) (S4.trans (S5.trans S6)) (Holds.dropAt (Holds.dropAt H6 1) 1)
 ·have hn:¬ ∀ x∈out,x<=20:=λe=>h20 (by have:=hm.2 e;omega);refine Zmk H5 (i:=1) rfl (by omega) (λx hx=>(hur x hx).2) λv2 w6 S6 H6=>?_;refine r_ke (hkk (halved u).sum v2 w6 ?_ ⟨halved u,rfl,by unfold halved;rw[hS_];exact hu,Zur (by omega) hur,λo ho=>hcont o (.more hD hn ho),S4.trans (S5.trans S6),Holds.dropAt (Holds.dropAt H6 1) 1⟩);refine Zls u (λx hx=>(hur x hx).1) λe=>hn ?_;exact Zko (λx hx=>⟨(hur x hx).1,e x hx⟩) (by omega) hD
end O09
namespace T12
open F08 Rw Go.Mh
variable {w:World}{L:List HProp}{K:KT}
variable [Bnds]
theorem Zq9 {w out:List Nat}(h:LensOf w out):out.length=w.length/\∀ x∈out,x<=20:=by
 induction h with
 |fit h hl=>
  obtain⟨_,_,_,_,h,_⟩:=h;exact⟨by omega,hl⟩
 |more h hl r ih=>
  unfold halved at ih;rw[hS_] at ih;exact ih
def catP (ts:List (List Nat)) (p:Nat) (gs:List (List Nat)):List Nat:=(gs.filter λg=>decide (pk g ts=p)).flatten
theorem Zhj (ts:List (List Nat)) (p:Nat) (gs:List (List Nat)) (g:List Nat):catP ts p (gs++[g])=catP ts p gs++if pk g ts=p then g else []:=by
 unfold catP;rw[List.filter_append,List.flatten_append]
 congr 1
 by_cases q:pk g ts=p
 ·rw[if_pos q,List.filter_cons_of_pos (by simpa using q)];simp
 ·rw[if_neg q,List.filter_cons_of_neg (by simpa using q)];rfl
structure Gp (size:Nat) (gs:List (List Nat)):Prop where
 few:gs.length<=32767
 len:∀ g∈gs,g.length<=50
 lt:∀ g∈gs,∀ x∈g,x < size
theorem Zn4 {size:Nat}{ts gs:List (List Nat)}{p:Nat}(h:Gp size gs):∀ i,(catP ts p (gs.take i)).length<=i*50
 |0=>by simp[catP]
 |i+1=>by
  have ih:=Zn4 (ts:=ts) (p:=p) h i;rcases hU_ i gs.length with q|q
  ·have e:gs.take (i+1)=gs.take i++[gs[i]]:=by rw[gO,gA q];rfl
   rw[e,Zhj,gD];have:=h.len _ (getElem_mem q);split
   ·omega
   ·simp;omega
  ·rw[gK (by omega),<-gK (i:=i) q];omega
structure Rnd (gs:List (List Nat)) (size:Nat) (ts:List (List Nat)) (picks:List Nat) (ts':List (List Nat)):Prop where
 pk:picks=gs.map λg=>pk g ts
 len:ts'.length=ts.length
 lens:∀ p,p < ts.length->LensOf (O09.ones (cnt (catP ts p gs) size)) (ts'.getD p [])
theorem Rnd.tb {gs ts ts1:List (List Nat)}{size:Nat}{p1:List Nat}(h:Rnd gs size ts p1 ts1) (hT:Tb size ts):Tb size ts1:=by
 have hm:∀ t∈ts1,t.length=size/\∀ x∈t,x<=20:=by
  intro t ht;obtain⟨i,hi,rfl⟩:=List.getElem_of_mem ht;have h1:=Zq9 (h.lens i (by rw[<-h.len];exact hi));rw[gB,gA hi] at h1;unfold O09.ones at h1;rw[hS_,Zb3] at h1;exact h1
 exact⟨by rw[h.len];exact hT.n2,by rw[h.len];exact hT.n6,λt ht=>(hm t ht).1,λt ht=>(hm t ht).2⟩
theorem Rnd.lt {gs ts ts1:List (List Nat)}{size:Nat}{p1:List Nat}(h:Rnd gs size ts p1 ts1) (hT:Tb size ts):p1.length=gs.length/\∀ p∈p1,p < ts1.length:=by
 rw[h.pk];refine⟨by simp,λp hp=>?_⟩;obtain⟨g,_,rfl⟩:=mem_map.1 hp;have:=hT.n2;rw[h.len];exact Zua _ _ (by omega)
theorem Zpu {gv tv:Value}{gs ts:List (List Nat)}{size i j:Nat}(H:Holds w L) (hi:L[i]?=some (RR gv gs)) (hj:L[j]?=some (RR tv ts)) (hij:i≠j) (hT:Tb size ts) (hs3:3<=size) (hs:size<=258) (hG:Gp size gs)
  (k:∀ pv ov picks ts' w',Rnd gs size ts picks ts'->Same w w'->Holds w' (RR ov ts'::SL nv tI pv picks::L)->K (.tuple #[pv,ov]) w'):Cl prog 182 #[gv,tv,nv size] w K:=by
 refine Tz182 ?_;unfold Vz182;have hn2:=hT.n2;have hn6:=hT.n6;have hgl:=hG.few;refine rr_ln j H hj ?_;refine Zt5 H (by omega) λcv w2 S2 H2=>?_;refine rr_ln 0 H2 rfl ?_;rw[gP]
 refine Za7 (λq w'=>∃ p:Nat,q=nv p/\p<=ts.length/\Same w w'/\Holds w' (RR cv ((List.range ts.length).map λj=>if j < p then List.replicate size 0 else [])::L)) (λq _=>ts.length - (intOf q).toNat)
  ⟨0,rfl,hE _,S2,by
   have e:(List.range ts.length).map (λj=>if j < 0 then List.replicate size 0 else ([]:List Nat))=List.replicate ts.length []:=by
    apply List.ext_getElem?;intro j;rw[List.getElem?_replicate];split
    ·rename_i q;rw[Zb7 _ q,if_neg (by omega)]
    ·rename_i q;rw[getElem?_eq_none (by simpa using q)]
   rw[e];exact H2⟩ ?_
 clear H H2 S2;rintro _ _ w3 ⟨p,rfl,hp,S3,H3⟩;refine r_lss (r_ifD (λh=>?_) λh=>?_)
 ·have hlt:p < ts.length:=by omega
  refine r_ms (f:=nv) (x:=0) H3 rfl (by omega) (by omega) λnb w4 S4 H4=>?_;rw[gC] at H4 ⊢;have H5:=H4.close 0 rfl;simp only[gJ,gP,length_nil,Nat.add_zero] at H5;refine Zt7 0 H5 rfl (by rw[hS_,hW_];exact hlt) λw5 S5 H6=>?_
  have e6:=Zbx (λj=>if j < p then List.replicate size 0 else ([]:List Nat)) (λj=>if j < p+1 then List.replicate size 0 else ([]:List Nat)) hlt (λj hj hjp=>by
   by_cases q:j < p
   ·rw[if_pos q,if_pos (by omega)]
   ·rw[if_neg q,if_neg (by omega)])
  simp only[Nat.lt_succ_self,if_true] at e6;rw[gJ,e6] at H6;refine Za0 (by omega) (r_ke ⟨⟨p+1,rfl,hlt,S3.trans (S4.trans S5),H6⟩,?_⟩);simp only[nv,intOf,gC];omega
 obtain rfl:p=ts.length:=by omega
 have e0:(List.range ts.length).map (λj=>if j < ts.length then List.replicate size 0 else ([]:List Nat))=(List.range ts.length).map λp=>cnt (catP ts p (gs.take 0)) size:=
  Zap _ _ λj hj=>by rw[if_pos hj,take_zero];show _=cnt [] size;rw[Zsr]
 rw[e0] at H3;refine rr_ln (i+1) H3 (by rw[gF];exact hi) ?_
 refine Zaa (λpv x w'=>∃ u:Nat,x=nv u/\u<=gs.length/\Same w w'/\Holds w' (SL nv tI pv ((gs.take u).map λg=>pk g ts)::RR cv ((List.range ts.length).map λp=>cnt (catP ts p (gs.take u)) size)::L)) (λ_ x _=>gs.length - (intOf x).toNat)
  ⟨0,rfl,hE _,S3,H3.nilSL nv tI⟩ ?_
 clear H3 S3 h e0;rintro _ pv _ w4 ⟨u,rfl,hu,S4,H4⟩;refine r_lss (r_ifD (λh=>?_) λh=>?_)
 ·have hlt:u < gs.length:=by omega
  have hq:=Zgr hlt;have hmem:=Zd1 hlt
  have e:gs.take (u+1)=gs.take u++[gs.getD u []]:=by rw[gO,hq];rfl
  have hcl:=λp=>Zn4 (ts:=ts) (p:=p) hG u;generalize gs.getD u []=g at *;have hgl50:=hG.len g hmem;have hgx:=hG.lt g hmem;have hpk:pk g ts < ts.length:=Zua _ _ (by omega);obtain⟨x,R,hld,H5,_,_,_,hR⟩:=Zdh (i+2) H4 (by rw[gF,gF];exact hi) hq;refine hld _ _ λ_ hp_=>hp_ _ ?_;replace H5:Holds w4 (SL nv tI (sw x) g::SL nv tI pv ((gs.take u).map λg=>pk g ts)::RR cv ((List.range ts.length).map λp=>cnt (catP ts p (gs.take u)) size)::L.set i R):=H5;refine pick_spec H5 (i:=0) (j:=j+3) rfl (by rw[gF,gF,gF,hY_ hij];exact hj) (by omega) hT hs hgl50 hgx ?_;generalize hP:pk g ts=P at *;refine Zci (f:=nv) H5 1 rfl P (λ_=>rfl) (by rw[hS_,gN];omega) λpv2 w5 S5 H6=>?_;replace H6:Holds w5 (SL nv tI (sw x) g::SL nv tI pv2 (((gs.take u).map λg=>T12.pk g ts)++[P])::RR cv ((List.range ts.length).map λp=>cnt (catP ts p (gs.take u)) size)::L.set i R):=H6;refine Zhp H6 (i:=0) rfl hs3 hs (by omega) hgx λav w6 S6 H7=>?_;refine Za3 (Za4 ?_);have hrow:((List.range ts.length).map λp=>cnt (catP ts p (gs.take u)) size)[P]?=some (cnt (catP ts P (gs.take u)) size):=Zb7 _ hpk;obtain⟨y,R2,hld2,H8,hcl2,_,_,_⟩:=Zdh 3 H7 rfl hrow;refine hld2 _ _ λ_ hp_=>hp_ _ ?_;have hc1:=hcl P;refine Zvp H8 (i:=0) (j:=1) rfl rfl (by rw[Zb3];omega) (by rw[Zb3,Zb3]) (λx hx=>by have:=cnt_le _ _ x hx;omega) (λx hx=>by have:=cnt_le _ _ x hx;omega) λsv w7 S7 H9=>?_;refine Za3 (Za4 ?_);have H10:=hcl2 [_] _ H9;refine Zt7 3 H10 rfl (by rw[hS_,hW_];exact hpk) λw8 S8 H11=>?_;have H12:=H11.drop;replace H12:Holds w8 (SL nv tI (sw x) g::SL nv tI pv2 (((gs.take u).map λg=>T12.pk g ts)++[P])::RR cv (((List.range ts.length).map λp=>cnt (catP ts p (gs.take u)) size).set P (addL (cnt (catP ts P (gs.take u)) size) (cnt g size)))::L.set i R):=H12;have H13:=Zmt hR [] (i+2) (by rw[gF,gF];exact Za2 hi) H12
  have eL:(L.set i R).set i (RR gv gs)=L:=by
   obtain⟨p1,p2⟩:=gH.1 hi;rw[set_set,<-p2,List.set_getElem_self]
  replace H13:Holds w8 (SL nv tI pv2 (((gs.take u).map λg=>T12.pk g ts)++[P])::RR cv (((List.range ts.length).map λp=>cnt (catP ts p (gs.take u)) size).set P (addL (cnt (catP ts P (gs.take u)) size) (cnt g size)))::(L.set i R).set i (RR gv gs)):=H13;rw[eL] at H13
  have e7:=Zbx (λp=>cnt (catP ts p (gs.take u)) size) (λp=>cnt (catP ts p (gs.take (u+1))) size) hpk (λp _ hpP=>by
   rw[e,Zhj,if_neg (by omega),gU])
  have e8:addL (cnt (catP ts P (gs.take u)) size) (cnt g size)=cnt (catP ts P (gs.take (u+1))) size:=by
   rw[Zwc,e,Zhj,if_pos hP]
  rw[e8,e7] at H13;refine Za0 (by omega) (r_ke ⟨⟨u+1,rfl,hlt,S4.trans (S5.trans (S6.trans (S7.trans S8))),?_⟩,?_⟩)
  ·rw[e,map_append,<-e];simp only[hR_,List.map_nil];rw[hP];exact H13
  ·simp only[nv,intOf,gC];omega
 obtain rfl:u=gs.length:=by omega
 rw[hF_] at H4;refine rr_ln 1 H4 rfl ?_;rw[hS_,hW_]
 refine Zaa (λov x w'=>∃ (q:Nat) (ts':List (List Nat)),x=nv q/\q<=ts.length/\ts'.length=q/\(∀ p,p < q->LensOf (O09.ones (cnt (catP ts p gs) size)) (ts'.getD p []))/\Same w w'/\
   Holds w' (RR ov ts'::SL nv tI pv (gs.map λg=>pk g ts)::RR cv ((List.range ts.length).map λp=>cnt (catP ts p gs) size)::L)) (λ_ x _=>ts.length - (intOf x).toNat)
  ⟨0,[],rfl,hE _,rfl,λp hp=>absurd hp (Nat.not_lt_zero p),S4,Zxx H4⟩ ?_
 clear H4 S4 h;rintro _ ov _ w5 ⟨q,ts',rfl,hq,hql,hqL,S5,H5⟩;refine r_lss (r_ifD (λh=>?_) λh=>?_)
 ·have hlt:q < ts.length:=by omega
  have hrow:((List.range ts.length).map λp=>cnt (catP ts p gs) size)[q]?=some (cnt (catP ts q gs) size):=Zb7 _ hlt;obtain⟨x,R,hld,H6,hcl,_,_,_⟩:=Zdh 2 H5 rfl hrow;refine hld _ _ λ_ hp_=>hp_ _ ?_;have hc1:=Zn4 (ts:=ts) (p:=q) hG gs.length;rw[hF_] at hc1;refine O09.Of_spec H6 (i:=0) rfl (by rw[Zb3];exact hs3) (by rw[Zb3];exact hs) (λx hx=>by have:=cnt_le _ _ x hx;omega) λlv out w6 hL S6 H7=>?_;refine Za3 (Za4 ?_);have H8:=hcl [_] _ H7;refine Zxh 0 H8 rfl (by omega) λov2 w7 S7 H9=>?_;replace H9:Holds w7 (RR ov2 (ts'++[out])::SL nv tI pv (gs.map λg=>T12.pk g ts)::RR cv ((List.range ts.length).map λp=>cnt (catP ts p gs) size)::L):=H9;refine Za0 (by omega) (r_ke ⟨⟨q+1,_,rfl,hlt,by rw[gD,hql];rfl,λp hp=>?_,S5.trans (S6.trans S7),H9⟩,?_⟩)
  ·rw[gB];rcases hU_ p q with z|z
   ·rw[gM (by omega),<-gB];exact hqL p z
   ·obtain rfl:p=q:=by omega
    rw[gT (by omega),hql,Nat.sub_self];exact hL
  ·simp only[nv,intOf,gC];omega
 ·obtain rfl:q=ts.length:=by omega
  have H6:=Holds.dropAt H5 2;exact k _ _ _ _ _ ⟨rfl,hql,hqL⟩ S5 H6
end T12
namespace T12
open F08 Rw Go.Mh
variable {w:World}{L:List HProp}{K:KT}
variable [Bnds]
def grp (l:List Nat) (g:Nat):List Nat:=(l.drop (g*50)).take 50
def nGr (l:List Nat):Nat:=(l.length+49)/50
def grps (l:List Nat):List (List Nat):=(List.range (nGr l)).map (grp l)
theorem Zpc (l:List Nat):(grps l).length=nGr l:=by simp[grps]
theorem Zyb {l:List Nat}{size:Nat}(hl:nGr l<=32767) (hx:∀ x∈l,x < size):Gp size (grps l):=by
 refine⟨by rw[Zpc];exact hl,λg hg=>?_,λg hg x hxg=>?_⟩
 ·obtain⟨i,_,rfl⟩:=mem_map.1 hg;unfold grp;rw[gN];omega
 ·obtain⟨i,_,rfl⟩:=mem_map.1 hg;exact hx x (mem_of_mem_drop (mem_of_mem_take hxg))
theorem Zjy {v:Value}{l:List Nat}{i:Nat}(H:Holds w L) (hi:L[i]?=some (SL nv tI v l)) (hl:l.length<=100000000)
  (k:∀ gv w',Same w w'->Holds w' (RR gv (grps l)::L)->K gv w'):Cl prog 180 #[v] w K:=by
 refine Tz180 ?_;unfold Vz180;refine r_lnS i H hi (Zd4 (by omega) ?_);have hn:nGr l=(l.length+49)/50:=rfl;rw[<-hn]
 refine Zaa (λgv x w'=>∃ u:Nat,x=nv u/\u<=nGr l/\Same w w'/\Holds w' (RR gv ((List.range u).map (grp l))::L)) (λ_ x _=>nGr l - (intOf x).toNat)
  ⟨0,rfl,hE _,.refl _,Zxx H⟩ ?_
 clear H;rintro _ gv _ w1 ⟨u,rfl,hu,S1,H1⟩;refine r_lss (r_ifD (λh=>?_) λh=>?_)
 ·have hlt:u < nGr l:=by omega
  refine Zig H1 (i:=i+1) (by rw[gF];exact hi) hl (by omega) λrv w2 S2 H2=>?_;refine Za3 (Za4 ?_);refine Zxh 0 H2 rfl (by rw[hS_,hW_];omega) λgv2 w3 S3 H3=>?_;rw[gJ] at H3;refine Za0 (by omega) (r_ke ⟨⟨u+1,rfl,hlt,S1.trans (S2.trans S3),?_⟩,?_⟩)
  ·rw[range_succ,map_append];exact H3
  ·simp only[nv,intOf,gC];omega
 ·obtain rfl:u=nGr l:=by omega
  exact k _ _ S1 H1
inductive Rnds (gs:List (List Nat)) (size:Nat) (ts0:List (List Nat)):Nat->List Nat->List (List Nat)->Prop
 |zero:Rnds gs size ts0 0 [] ts0
 |succ {n:Nat} {p p':List Nat} {ts ts':List (List Nat)} (h:Rnds gs size ts0 n p ts) (r:Rnd gs size ts p' ts'):Rnds gs size ts0 (n+1) p' ts'
theorem Rnds.tb {gs ts0:List (List Nat)}{size n:Nat}{p1:List Nat}{ts1:List (List Nat)}(h:Rnds gs size ts0 n p1 ts1) (hT:Tb size ts0):Tb size ts1/\(1<=n->p1.length=gs.length/\∀ p∈p1,p < ts1.length):=by
 induction h with
 |zero=>exact⟨hT,λh=>by omega⟩
 |succ h r ih=>exact⟨r.tb ih.1,λ_=>r.lt ih.1⟩
def Cho (l:List Nat) (size:Nat) (picks:List Nat) (ts:List (List Nat)):Prop:=Rnds (grps l) size (firstL (cnt l size) l.length (num l.length)) 4 picks ts
theorem Zpg (l:List Nat) (size:Nat):Tb size (firstL (cnt l size) l.length (num l.length)):=by
 have hn:=Zuh l.length;refine⟨by rw[Zi3];exact hn.1,by rw[Zi3];exact hn.2,λt ht=>?_,λt ht x hx=>?_⟩
 ·obtain⟨p,_,rfl⟩:=mem_map.1 ht;rw[Zfi,Zb3]
 ·obtain⟨p,_,rfl⟩:=mem_map.1 ht;obtain⟨v,_,rfl⟩:=mem_map.1 hx;unfold firstV
  split <;> omega
theorem Cho.ok {l picks:List Nat}{size:Nat}{ts:List (List Nat)}(h:Cho l size picks ts):Tb size ts/\picks.length=nGr l/\∀ p∈picks,p < ts.length:=by
 have:=Rnds.tb h (Zpg l size);have h2:=this.2 (by omega);rw[Zpc] at h2;exact⟨this.1,h2⟩
abbrev tCh:Nat:=211
theorem Of_spec {v:Value}{l:List Nat}{size i:Nat}(H:Holds w L) (hb:BndOk L) (hi:L[i]?=some (SL nv tI v l)) (h3:3<=size) (h258:size<=258) (h0:l≠[]) (hl:l.length<=1600000) (hx:∀ x∈l,x < size)
  (k:∀ ov pv picks ts w',Cho l size picks ts->Same w w'->Holds w' (RR ov ts::SL nv tI pv picks::L)->K (.tuple #[.agg #[ov,pv],iv 0]) w'):Cl prog 160 #[v,nv size] w K:=by
 refine Tz160 ?_;unfold Vz160
 have hz:(zeroP prog tCh).cells.toList=[.slice none 0 0,.slice none 0 0]:=by kernel_rfl
 have hl0:0 < l.length:=gZ.2 h0;have hng:nGr l=(l.length+49)/50:=rfl;refine r_new H λrb w1 S1 H1=>?_;rw[hz] at H1;refine Zhp H1 (i:=i+1) (by rw[gF];exact hi) h3 h258 (by omega) hx λcv w2 S2 H2=>?_;refine Za3 (Za4 ?_);refine Za1 (λt w'=>w2=w'/\t=.bool false) ?_ ?_
 rotate_left
 ·refine r_neq (r_vfN (by omega) ?_);refine r_lnS (i+2) H2 (by rw[gF,gF];exact hi) (r_eql (r_ke ⟨rfl,by rw[show ((l.length:Int)==0)=false from beq_eq_false_iff_ne.2 (by omega)]⟩))
 rintro _ _ _ ⟨rfl,rfl⟩;refine r_vf ?_;refine r_lnS (i+2) H2 (by rw[gF,gF];exact hi) (Zd4 (by omega) ?_);refine r_gtr (r_vfD (by omega) ?_);refine Zjy H2 (i:=i+2) (by rw[gF,gF];exact hi) (by omega) λgv w3 S3 H3=>?_;refine r_lnS (i+3) H3 (by rw[gF,gF,gF];exact hi) ?_;refine Zq5 H3 (i:=1) hb.up.up.up rfl (by rw[Zb3];omega) (λx hx=>by have:=cnt_le _ _ x hx;omega) (by omega) (by omega) λfv w4 S4 H4=>?_;obtain⟨fx,rfl⟩:=rr_sw H4 (i:=0) rfl;refine r_bd (v:=.agg #[sw fx,.slice none 0 0]) (by kernel_rfl) ?_;refine r_new H4 λcb w5 S5 H5=>?_;rw[hz] at H5;refine r_stA 0 H5 (vs:=[sw fx,.slice none 0 0]) rfl (by decide) rfl rfl λw6 S6 H6=>?_;replace H6:Holds w6 (blk cb tCh [sw fx,.slice none 0 0]::RR (sw fx) (firstL (cnt l size) l.length (num l.length))::RR gv (grps l)::SL nv tI cv (cnt l size)::blk rb tCh [.slice none 0 0,.slice none 0 0]::L):=H6;have H7:=H6.nilSL nv tI
 have H8:Holds w6 (RR (sw fx) (firstL (cnt l size) l.length (num l.length))::SL nv tI (.slice none 0 0) []::blk cb tCh [sw fx,.slice none 0 0]::RR gv (grps l)::SL nv tI cv (cnt l size)::blk rb tCh [.slice none 0 0,.slice none 0 0]::L):=by have h_:=Holds.ord 3 [2,0,1] H7 rfl;exact h_
 refine Za7 (λx w'=>∃ (m:Nat) (ov pv:Value) (picks:List Nat) (ts:List (List Nat)),x=nv m/\m<=4/\Rnds (grps l) size (firstL (cnt l size) l.length (num l.length)) m picks ts/\Same w w'/\
   Holds w' (RR ov ts::SL nv tI pv picks::blk cb tCh [ov,pv]::RR gv (grps l)::SL nv tI cv (cnt l size)::blk rb tCh [.slice none 0 0,.slice none 0 0]::L)) (λx _=>4 - (intOf x).toNat)
  ⟨0,sw fx,_,[],_,rfl,by omega,.zero,((((S1.trans S2).trans S3).trans S4).trans S5).trans S6,H8⟩ ?_
 clear H H1 H2 H3 H4 H5 H6 H7 H8 S1 S2 S3 S4 S5 S6;rintro _ _ w7 ⟨m,ov,pv,picks,ts,rfl,hm,hR,S7,H7⟩;refine r_lss (r_ifD (λh=>?_) λh=>?_)
 ·have hTb:=(Rnds.tb hR (Zpg l size)).1;refine r_fo0 (r_ld 2 H7 rfl rfl ?_);refine Zpu H7 (i:=3) (j:=0) rfl rfl (by omega) hTb h3 h258 (Zyb (by omega) hx) λpv2 ov2 picks2 ts2 w8 hr S8 H8=>?_;refine Za3 (Za4 ?_);obtain⟨ox,rfl⟩:=rr_sw H8 (i:=0) rfl;obtain⟨px,rfl⟩:=sl_sw H8 (i:=1) rfl;refine r_bd (v:=.agg #[sw ox,sw px]) (by kernel_rfl) ?_;refine r_stA 4 H8 (vs:=[sw ox,sw px]) rfl (by simp) rfl rfl λw9 S9 H9=>?_
  have H10:Holds w9 (RR (sw ox) ts2::SL nv tI (sw px) picks2::blk cb tCh [sw ox,sw px]::RR gv (grps l)::SL nv tI cv (cnt l size)::blk rb tCh [.slice none 0 0,.slice none 0 0]::L):=by
   have h_:=Holds.ord 8 [0,1,4,5,6,7] H9 rfl;exact h_
  refine Za0 (by omega) (r_ke ⟨⟨m+1,sw ox,sw px,picks2,ts2,rfl,by omega,.succ hR hr,S7.trans (S8.trans S9),H10⟩,?_⟩);simp only[nv,intOf,gC];omega
 ·obtain rfl:m=4:=by omega
  obtain⟨ox,rfl⟩:=rr_sw H7 (i:=0) rfl;obtain⟨px,rfl⟩:=sl_sw H7 (i:=1) rfl;refine r_ldA 2 H7 [sw ox,sw px] rfl rfl rfl ?_;refine r_stA 5 H7 (vs:=[sw ox,sw px]) rfl (by simp) rfl rfl λw8 S8 H8=>?_;refine r_ldA 5 H8 [sw ox,sw px] rfl rfl rfl ?_
  have H9:Holds w8 (RR (sw ox) ts::SL nv tI (sw px) picks::L):=by have h_:=Holds.ord 6 [0,1] H8 rfl;exact h_
  exact k _ _ _ _ _ hR (S7.trans S8) H9
theorem Zqm {v ov pv:Value}{l picks:List Nat}{ts:List (List Nat)}{size i a p:Nat}(H:Holds w L) (hi:L[i]?=some (SL nv tI v l)) (ha:L[a]?=some (RR ov ts)) (hp:L[p]?=some (SL nv tI pv picks)) (hT:Tb size ts) (hs:size<=258) (hl:l.length<=1600000) (hx:∀ x∈l,x < size)
  (hpl:picks.length=nGr l) (hpx:∀ q∈picks,q < ts.length) (k:∀ n w',n<=1099511627776->Same w w'->Holds w' L->K (.tuple #[nv n,iv 0]) w'):Cl prog 148 #[v,.agg #[ov,pv]] w K:=by
 refine Tz148 ?_;unfold Vz148;have hng:nGr l=(l.length+49)/50:=rfl;refine r_new H λcb w1 S1 H1=>?_;replace H1:Holds w1 (blk cb tCh [ov,pv]::L):=H1;refine r_dr H1 λw2 S2 H2=>?_
 have hi2:∀ A:HProp,(A::L)[i+1]?=some (SL nv tI v l):=λA=>by rw[gF];exact hi
 have hp2:∀ A:HProp,(A::L)[p+1]?=some (SL nv tI pv picks):=λA=>by rw[gF];exact hp
 have ha2:∀ A:HProp,(A::L)[a+1]?=some (RR ov ts):=λA=>by rw[gF];exact ha
 refine r_fo0 (r_ld 0 H2 rfl rfl ?_);refine r_lnS (p+1) H2 (hp2 _) ?_;refine r_lnS (i+1) H2 (hi2 _) (Zd4 (by omega) ?_);refine r_rk (r_lnS (p+1) H2 (hp2 _) rfl) (r_rk (r_ld 0 H2 rfl rfl rfl) ?_);refine r_neq (r_vfN (by omega) ?_);refine r_fo0 (r_ld 0 H2 rfl rfl ?_);refine r_lnS (p+1) H2 (hp2 _) ?_
 refine Zaa (λtv x w'=>∃ u n:Nat,tv=nv n/\n<=1099511627776/\x=nv u/\u<=picks.length/\Same w w'/\Holds w' (blk cb tCh [ov,pv]::L)) (λ_ x _=>picks.length - (intOf x).toNat)
  ⟨0,0,rfl,by omega,rfl,hE _,S1.trans S2,H2⟩ ?_
 clear H H1 H2 S1 S2;rintro _ _ _ w3 ⟨u,n,rfl,hn,rfl,hu,S3,H3⟩;refine r_lss (r_ifD (λh=>?_) λh=>?_)
 ·have hlt:u < picks.length:=by omega
  have hq:=hpx _ (getElem_mem hlt);refine Za8 (p+1) H3 (hp2 _) (gA hlt) ?_;generalize picks[u]=q at *;refine Za1 (λt w'=>w3=w'/\t=.bool false) ?_ ?_
  rotate_left
  ·refine r_lss (r_vfD (by omega) ?_);refine r_fo0 (r_ld 0 H3 rfl rfl ?_);refine rr_ln (a+1) H3 (ha2 _) (r_geq (r_ke ⟨rfl,by rw[decide_eq_false (by omega)]⟩))
  rintro _ _ _ ⟨rfl,rfl⟩;refine r_vf ?_;refine Zig H3 (i:=i+1) (hi2 _) (by omega) (by omega) λgv w4 S4 H4=>?_;refine Za3 (Za4 ?_);refine r_fo0 (r_ld 1 H4 rfl rfl ?_);obtain⟨x,R,hld,H5,hcl,_⟩:=Zdh (a+2) H4 (by rw[gF];exact ha2 _) (Zgr hq);refine hld _ _ λ_ hp_=>hp_ _ ?_;have hm:=Zd1 hq
  have hgl:((l.drop (u*50)).take 50).length<=50:=by rw[gN];omega
  have hc:=Zj8 (hT.le _ hm) ((l.drop (u*50)).take 50);refine Zkz H5 (i:=1) (j:=0) rfl rfl (by omega) (by have:=hT.sz _ hm;omega) (hT.le _ hm) (λy hy=>by rw[hT.sz _ hm];exact hx y (mem_of_mem_drop (mem_of_mem_take hy))) ?_;refine Za3 (Za4 ?_);refine r_neq (r_vfN (by omega) ?_);refine Za9 (by omega) (r_min ?_);have H6:=hcl [] _ H5;generalize cost ((l.drop (u*50)).take 50) (ts.getD q [])=c at *;rw[show min ((n+c:Nat):Int) 1099511627776=((min (n+c) 1099511627776:Nat):Int) by omega];refine Za0 (by omega) (r_ke ⟨⟨u+1,_,rfl,by omega,rfl,by omega,S3.trans S4,H6.drop⟩,?_⟩);simp only[nv,intOf,gC];omega
 ·exact k n _ hn S3 H3.drop
end T12
namespace W14
open Go.M01 Go.M10 Go.Mv Go.Mh F08 Rw T12
variable {w:World}{L:List HProp}{K:KT}{wb n:Nat}{bs:List Bool}
variable [T12.Bnds]
theorem Zlj {l picks:List Nat}{size:Nat}{ts:List (List Nat)}(h3:3<=size) (h:Cho l size picks ts):∀ t∈ts,Whole t:=by
 unfold Cho at h
 cases h with
 |succ h r=>
  intro t ht;obtain⟨i,hi,rfl⟩:=List.getElem_of_mem ht;have h1:=r.lens i (by rw[<-r.len];exact hi);rw[gB,gA hi] at h1;exact Zkx h1 (by unfold O09.ones;rw[hS_,Zb3];omega)
def fnB (ab:Nat):Value:=.func (.func 165) #[] #[pt ab]
theorem Zg6 {ab v m T:Nat}(H:Holds w (blk ab tI [nv T]::L)) (hT:T<=1000000000) (hm:m<=32)
  (k:∀ w',Same w w'->Holds w' (blk ab tI [nv (T+m)]::L)->K (.tuple #[]) w'):Inv prog (do let d <-Deferred.ofValue (fnB ab) #[nv v,nv m];invoke d.target d.args) w K:=by
 refine r_inv (f:=165) (args:=#[nv v,nv m,pt ab]) (by kernel_rfl) ?_;refine Tz165 ?_;unfold Vz165;refine r_ld 0 H rfl rfl ?_;refine Za9 (by omega) ?_;refine r_st 0 H rfl (by simp) rfl λw2 S2 H2=>?_;exact k _ S2 H2
theorem Zmg {ab:Nat}{v:Value}{lens:List Nat}(H:Holds w (blk ab tI [nv 0]::SL nv tI v lens::L)) (hne:lens≠[]) (hll:lens.length<=258) (hs:Sized lens)
  (k:∀ T w',T<=1000000->Same w w'->Holds w' (blk ab tI [nv T]::SL nv tI v lens::L)->K (.tuple #[]) w'):Cl prog 164 #[v,fnB ab] w K:=by
 refine Tz164 ?_;unfold Vz164;have h0:0 < lens.length:=gZ.2 hne;have hsz:∀ i,i < lens.length->1<=lens.getD i 0/\lens.getD i 0<=20:=λi hi=>C10.Zbw hs hi
 have hget:∀ i,i < lens.length->lens[i]?=some (lens.getD i 0):=λi hi=>by rw[gB,gA hi];rfl
 have hf0:=hsz 0 h0;refine Za8 1 H (j:=0) rfl (hget 0 h0) ?_;refine Zg6 (m:=5) H (by omega) (by omega) λw1 S1 H1=>?_;refine r_lnS 1 H1 rfl ?_
 refine Zaa (λnw x w'=>∃ i a T:Nat,i<=lens.length/\x=nv i/\nw=nv a/\1<=a/\a<=20/\T<=5+100*i/\Same w w'/\Holds w' (blk ab tI [nv T]::SL nv tI v lens::L)) (λ_ x _=>lens.length - (intOf x).toNat)
  ⟨0,_,_,by omega,rfl,rfl,hf0.1,hf0.2,by omega,S1,H1⟩ ?_
 clear H H1 S1;rintro _ _ _ w2 ⟨i,a,T,hi,rfl,rfl,ha1,ha2,hT,S,H⟩;refine r_lss (r_ifD (λh=>?_) λh=>?_)
 rotate_left
 ·exact k T _ (by omega) S H
 have hlt:i < lens.length:=by omega
 have hxi:=hsz i hlt;refine Za8 1 H rfl (hget i hlt) ?_;generalize lens.getD i 0=x at *
 refine Za7 (λy w'=>∃ j:Nat,y=nv (a+j)/\j<=x - a/\Same w w'/\Holds w' (blk ab tI [nv (T+2*j)]::SL nv tI v lens::L)) (λy _=>100 - (intOf y).toNat)
  ⟨0,rfl,hE _,S,H⟩ ?_
 clear H S;rintro _ _ w3 ⟨j,rfl,hj,S,H⟩;refine r_lss (r_ifD (λh2=>?_) λh2=>?_)
 ·refine Zg6 (v:=2) (m:=2) H (by omega) (by omega) λw4 S4 H4=>?_;refine Za0 (by omega) ?_;refine r_ke ⟨⟨j+1,rfl,by omega,S.trans S4,by rw[show T+2*(j+1)=T+2*j+2 by omega];exact H4⟩,?_⟩;simp only[nv,intOf,gC];omega
 obtain rfl:j=x - a:=by omega
 refine Za7 (λy w'=>∃ j:Nat,y=nv (max a x - j)/\j<=a - x/\Same w w'/\Holds w' (blk ab tI [nv (T+2*(x - a)+2*j)]::SL nv tI v lens::L)) (λy _=>(intOf y).toNat)
  ⟨0,by rw[show max a x - 0=a+(x - a) by omega],hE _,S,H⟩ ?_
 clear H S;rintro _ _ w4 ⟨j,rfl,hj2,S,H⟩;refine r_gtr (r_ifD (λh3=>?_) λh3=>?_)
 ·refine Zg6 (v:=3) (m:=2) H (by omega) (by omega) λw5 S5 H5=>?_;refine Zab (by omega) (by omega) ?_;refine r_ke ⟨⟨j+1,by rw[show max a x - j - 1=max a x - (j+1) by omega],by omega,S.trans S5,by rw[show T+2*(x - a)+2*(j+1)=T+2*(x - a)+2*j+2 by omega];exact H5⟩,?_⟩;simp only[nv,intOf,gC];omega
 ·obtain rfl:j=a - x:=by omega
  refine Zg6 (v:=0) (m:=1) H (by omega) (by omega) λw5 S5 H5=>?_;refine Za0 (by omega) ?_;refine r_ke ⟨⟨i+1,x,_,by omega,rfl,by rw[show max a x - (a - x)=x by omega],by omega,by omega,by omega,S.trans S5,H5⟩,?_⟩;simp only[nv,intOf,gC];omega
theorem Zq3 {v:Value}{lens:List Nat}{j:Nat}(H:Holds w (SL nv tI v lens::L)) (h3:3<=lens.length) (h258:lens.length<=258) (hs:Sized lens)
  (k:∀ T w',T<=1000000->Same w w'->Holds w' (SL nv tI v lens::L)->K (.tuple #[nv T,iv 0]) w'):Cl prog 147 #[v] w K:=by
 refine Tz147 ?_;unfold Vz147;refine D11.may_spec H 0 rfl h3 h258 hs ?_;refine Zah (r_vf ?_)
 have hz:(zeroP prog tI).cells.toList=[iv 0]:=by kernel_rfl
 refine r_new H λab w1 S1 H1=>?_;rw[hz] at H1;refine r_st 0 H1 rfl (by simp) rfl λw2 S2 H2=>?_;replace H2:Holds w2 (blk ab tI [nv 0]::SL nv tI v lens::L):=H2;refine r_mf (fnB ab) (by kernel_rfl) ?_;refine Zmg H2 (λe=>by rw[e] at h3;simp at h3) h258 hs λT w3 hT S3 H3=>?_;refine r_ld 0 H3 rfl rfl ?_;exact k T _ hT ((S1.trans S2).trans S3) H3.drop
theorem Zrk {v:Value}{l:List Nat}{t:Nat}(H:Holds w (SL nv tI v l::L)) (ht:2<=t/\t<=6) (hl0:l≠[]) (hll:l.length<=32767) (hp:∀ p∈l,p < t)
  (k:∀ w',Same w w'->Holds w' (SL nv tI v l::L)->K (.bool true) w'):Cl prog 161 #[v,nv t] w K:=by
 have h0:0 < l.length:=gZ.2 hl0;refine Tz161 ?_;unfold Vz161;refine r_new H λtb w1 S1 H1=>?_;replace H1:Holds w1 (blk tb tI [nv t]::SL nv tI v l::L):=H1;refine Za1 (λx w'=>w1=w'/\x=.bool false) ?_ ?_
 rotate_left
 ·refine r_ld 0 H1 rfl rfl ?_;refine r_cl (K:=λx w'=>w1=w'/\x=.bool true) ?_ ?_
  ·refine Tz183 ?_;unfold Vz183;refine r_geq (r_vtD (by omega) ?_);exact r_leq ⟨rfl,by rw[decide_eq_true (by omega)]⟩
  rintro _ _ ⟨rfl,rfl⟩;refine Zah (r_vf ?_);refine r_lnS 1 H1 rfl ?_;refine r_eql (r_vfE (by omega) ?_);refine r_lnS 1 H1 rfl ?_;exact r_gtr (r_ke ⟨rfl,by rw[decide_eq_false (by omega)]⟩)
 rintro _ _ _ ⟨rfl,rfl⟩;refine r_vf ?_;refine r_mf (.func (.func 185) #[] #[pt tb]) (by kernel_rfl) ?_;refine D11.Zdc H1 1 rfl (by omega) (λx hx Q hQ=>?_) ?_
 ·have:=hp x hx;refine r_inv (f:=185) (args:=#[nv x,pt tb]) (by kernel_rfl) ?_;refine Tz185 ?_;unfold Vz185;refine r_lss (r_vfD (by omega) ?_);refine r_ld 0 H1 rfl rfl ?_;refine r_geq ?_;rw[decide_eq_false (by omega)];exact hQ
 ·exact Zbm (k _ S1 H1.drop)
theorem Zra {v:Value}{l:List Nat}{t:Nat}(H:Holds w (SL nv tI v l::L)) (ht:2<=t/\t<=6) (hl0:l≠[]) (hll:l.length<=32767) (hp:∀ p∈l,p < t)
  (k:∀ T w',T<=1000000->Same w w'->Holds w' (SL nv tI v l::L)->K (.tuple #[nv T,iv 0]) w'):Cl prog 146 #[v,nv t] w K:=by
 refine Tz146 ?_;unfold Vz146;refine Zrk H ht hl0 hll hp λw1 S1 H1=>?_;refine Zah (r_vf ?_);refine P13.Zgn H1 (by omega) (λp h=>by have:=hp p h;omega) λpv w2 S2 H2=>?_
 have hinv:=Zey (o:=[0,1,2,3,4,5]) (l:=l) λc hc=>by
  have:=hp c hc
  rcases (show c=0\/c=1\/c=2\/c=3\/c=4\/c=5 by omega) with h|h|h|h|h|h <;> rw[h] <;> simp
 obtain⟨_,_,hpl,hp6⟩:=hinv;replace H2:Holds w2 (SL nv tI pv (pickE [0,1,2,3,4,5] l).2::SL nv tI v l::L):=H2;generalize hP:(pickE [0,1,2,3,4,5] l).2=P at *;refine r_lnS 0 H2 rfl ?_;refine Zaa (λa x w'=>∃ i T:Nat,i<=P.length/\x=nv i/\a=nv T/\T<=18+7*i/\w2=w') (λ_ x _=>P.length - (intOf x).toNat) ⟨0,18,by omega,rfl,rfl,by omega,rfl⟩ ?_;rintro _ _ _ _ ⟨i,T,hi,rfl,rfl,hT,rfl⟩;refine r_lss (r_ifD (λh=>?_) λh=>?_)
 ·have hlt:i < P.length:=by omega
  have h6:=hp6 _ (getElem_mem hlt);refine Za8 0 H2 rfl (gA hlt) ?_;generalize P[i]=p at *;simp only[length_cons,length_nil] at h6;refine Za0 (by omega) (Za9 (by omega) (Za0 (by omega) (r_ke ⟨⟨i+1,_,by omega,rfl,rfl,by omega,rfl⟩,?_⟩)));simp only[nv,intOf,gC];omega
 ·exact k T _ (by omega) (S1.trans S2) H2.drop
structure Row (l:List Nat) (size:Nat):Prop where
 s3:3<=size
 s258:size<=258
 ne:l≠[]
 len:l.length<=1600000
 lt:∀ x∈l,x < size
 fin:∀ i,i < l.length->(l.getD i 0=size - 1↔i=l.length - 1)
theorem Zgp {v:Value}{l:List Nat}{size i:Nat}(H:Holds w L) (hb:BndOk L) (hi:L[i]?=some (SL nv tI v l)) (hR:Row l size)
  (k:∀ ox px picks ts w',Cho l size picks ts->Same w w'->Holds w' (RR (sw ox) ts::SL nv tI (sw px) picks::L)->K (.tuple #[.agg #[sw ox,sw px],iv 0]) w'):Cl prog 145 #[v,nv size] w K:=by
 refine Tz145 ?_;unfold Vz145;have h0:=gZ.2 hR.ne;have h3:=hR.s3;have h258:=hR.s258;have hlen:=hR.len
 have hz:(zeroP prog tCh).cells.toList=[.slice none 0 0,.slice none 0 0]:=by kernel_rfl
 refine r_new H λrb w1 S1 H1=>?_;rw[hz] at H1
 have hi1:(blk rb tCh [.slice none 0 0,.slice none 0 0]::L)[i+1]?=some (SL nv tI v l):=by rw[gF];exact hi
 refine Za1 (λt w'=>w1=w'/\t=.bool false) ?_ ?_
 rotate_left
 ·refine r_lnS (i+1) H1 hi1 (r_eql (r_vfE (by omega) ?_));refine Zab (by omega) (by omega) ?_;refine r_cl (K:=λx w'=>w1=w'/\x=nv (l.length - 1)) ?_ ?_
  ·refine Tz159 ?_;unfold Vz159;refine r_lnS (i+1) H1 hi1 ?_;refine Za7 (λx w'=>∃ u:Nat,x=nv u/\u<=l.length - 1/\w1=w') (λx _=>l.length - (intOf x).toNat) ⟨0,rfl,hE _,rfl⟩ ?_;rintro _ _ _ ⟨u,rfl,hu,rfl⟩;refine r_lss (r_vtD (by omega) ?_);have hf:=hR.fin u (by omega);refine Za8 (i+1) H1 hi1 (x:=l.getD u 0) (by rw[gB,gA (by omega)];rfl) ?_;refine r_eql (r_ifE (λq=>?_) λq=>?_)
   ·have:u=l.length - 1:=hf.1 (by omega);exact⟨rfl,by rw[this]⟩
   ·have:u≠l.length - 1:=λe=>q (by have:=hf.2 e;omega);refine Za0 (by omega) (r_ke ⟨⟨u+1,rfl,by omega,rfl⟩,?_⟩);simp only[nv,intOf,gC];omega
  rintro _ _ ⟨rfl,rfl⟩;refine r_lnS (i+1) H1 hi1 (Zab (by omega) (by omega) ?_);refine r_neq (r_ke ⟨rfl,?_⟩);rw[show (((l.length - 1:Nat):Int) != ((l.length - 1:Nat):Int))=false from by simp]
 rintro _ _ _ ⟨rfl,rfl⟩;refine r_vf ?_;refine Of_spec H1 (i:=i+1) hb.up hi1 h3 h258 hR.ne hlen hR.lt λov pv picks ts w2 hC S2 H2=>?_;obtain⟨ox,rfl⟩:=rr_sw H2 (i:=0) rfl;obtain⟨px,rfl⟩:=sl_sw H2 (i:=1) rfl;refine Za3 (Za4 ?_);refine r_stA 2 H2 (vs:=[sw ox,sw px]) rfl (by simp) rfl rfl λw3 S3 H3=>?_;refine r_ldA 2 H3 [sw ox,sw px] rfl rfl rfl ?_;exact k _ _ _ _ _ hC ((S1.trans S2).trans S3) (Holds.dropAt H3 2)
theorem Zu7 {v:Value}{l:List Nat}{size i:Nat}(H:Holds w L) (hb:BndOk L) (hi:L[i]?=some (SL nv tI v l)) (hR:Row l size)
  (k:∀ T w',Same w w'->Holds w' L->K (.tuple #[nv T,iv 0]) w'):Cl prog 133 #[v,nv size] w K:=by
 refine Tz133 ?_;unfold Vz133;have hlen:=hR.len;have h3:=hR.s3;have h258:=hR.s258;have h0:=gZ.2 hR.ne;have hng:nGr l=(l.length+49)/50:=rfl
 have hz:(zeroP prog tCh).cells.toList=[.slice none 0 0,.slice none 0 0]:=by kernel_rfl
 refine Zgp H hb hi hR λox px picks ts w1 hC S1 H1=>?_;obtain⟨hT,hpl,hpx⟩:=hC.ok;have hwh:=Zlj h3 hC;have hn2:=hT.n2;have hn6:=hT.n6;refine Za3 (Za4 ?_);refine r_new H1 λcb w2 S2 H2=>?_;rw[hz] at H2;refine r_stA 0 H2 (vs:=[sw ox,sw px]) rfl (by simp) rfl rfl λw3 S3 H3=>?_;replace H3:Holds w3 (blk cb tCh [sw ox,sw px]::RR (sw ox) ts::SL nv tI (sw px) picks::L):=H3;refine r_neq (r_vfN rfl ?_);refine r_fo0 (r_ld 0 H3 rfl rfl ?_);refine r_fo0 (r_ld 0 H3 rfl rfl ?_);refine rr_ln 1 H3 rfl ?_
 have H4:Holds w3 (SL nv tI (sw px) picks::blk cb tCh [sw ox,sw px]::RR (sw ox) ts::L):=by have h_:=Holds.ord 3 [2,0,1] H3 rfl;exact h_
 refine Zra H4 ⟨hn2,hn6⟩ (λe=>by rw[e] at hpl;simp at hpl;omega) (by omega) hpx λT w4 hTl S4 H5=>?_;refine Za3 (Za4 ?_);refine r_fo0 (r_ld 1 H5 rfl rfl ?_);refine rr_ln 2 H5 rfl ?_
 refine Zaa (λa x w'=>∃ u T:Nat,x=nv u/\u<=ts.length/\a=nv T/\T<=1000000+1000000*u/\Same w w'/\Holds w' (SL nv tI (sw px) picks::blk cb tCh [sw ox,sw px]::RR (sw ox) ts::L)) (λ_ x _=>ts.length - (intOf x).toNat)
  ⟨0,T,rfl,hE _,rfl,by omega,((S1.trans S2).trans S3).trans S4,H5⟩ ?_
 clear H H1 H2 H3 H4 H5 S1 S2 S3 S4 hTl T;rintro _ _ _ w5 ⟨u,T,rfl,hu,rfl,hTl,S5,H5⟩;refine r_lss (r_ifD (λh=>?_) λh=>?_)
 ·have hlt:u < ts.length:=by omega
  have hm:=Zd1 hlt;obtain⟨x,R,hld,H6,hcl,_⟩:=Zdh 2 H5 rfl (Zgr hlt);refine hld _ _ λ_ hp_=>hp_ _ ?_;refine Zq3 (j:=0) H6 (by rw[hT.sz _ hm];exact h3) (by rw[hT.sz _ hm];exact h258) (hwh _ hm).sized λT2 w6 hT2 S6 H7=>?_;refine Za3 (Za4 ?_);refine Za9 (by omega) (Za0 (by omega) (r_ke ⟨⟨u+1,_,rfl,hlt,rfl,by omega,S5.trans S6,hcl [] _ H7⟩,?_⟩));simp only[nv,intOf,gC];omega
 ·refine r_ldA 1 H5 [sw ox,sw px] rfl rfl rfl ?_;refine Zqm H5 (i:=i+3) (a:=2) (p:=0) (by rw[gF,gF,gF];exact hi) rfl rfl hT h258 hlen hR.lt hpl hpx λc w6 hc S6 H6=>?_;refine Za3 (Za4 ?_);refine Za9 (by omega) ?_;exact k _ _ (S5.trans S6) H6.drop.drop.drop
def rowC (l picks:List Nat) (ts:List (List Nat)) (i:Nat):List Bool:=codeB (ts.getD (picks.getD (i/50) 0) []) (l.getD i 0)
def rowsC (l picks:List Nat) (ts:List (List Nat)) (n:Nat):List Bool:=(List.range n).flatMap (rowC l picks ts)
def codeBits (l picks:List Nat) (ts:List (List Nat)):List Bool:=picksB picks ts.length++ts.flatMap lensB++rowsC l picks ts l.length
theorem Zic (l picks:List Nat) (ts:List (List Nat)) (n:Nat):rowsC l picks ts (n+1)=rowsC l picks ts n++rowC l picks ts n:=by unfold rowsC;rw[range_succ,List.flatMap_append];simp
theorem Zt2 (lens:List Nat) (i:Nat):(codeB lens i).length=lens.getD i 0:=by rw[codeB,Za5]
theorem Zte {a:Nat}:∀ {lens:List Nat},(∀ x∈lens,x<=20)->∀ a,a<=20->(stepsB a lens).length<=41*lens.length:=by
 intro lens h
 have:∀ i,i<=lens.length->∀ a,a<=20->(stepsB a (lens.take i)).length<=41*i/\lastB a (lens.take i)<=20:=by
  intro i
  induction i with
  |zero=>intro _ a ha;simp[stepsB,lastB,ha]
  |succ i ih=>
   intro hi a ha
   have hg:lens.take (i+1)=lens.take i++[lens.getD i 0]:=by rw[gO,gB,gA (by omega)];rfl
   have hx:lens.getD i 0<=20:=by rw[gB,gA (by omega)];exact h _ (getElem_mem _)
   obtain⟨i1,i2⟩:=ih (by omega) a ha;have h1:=Zl7 (lastB a (lens.take i)) (lens.getD i 0) i2 hx;rw[hg,Zcz,lastB_snoc];simp only[gD,gQ];omega
 intro a ha;have h2:=(this lens.length (Nat.le_refl _) a ha).1;rw[hF_] at h2;exact h2
theorem Zsa {lens:List Nat}(h:∀ x∈lens,x<=20):(lensB lens).length<=5+41*lens.length:=by
 unfold lensB;rw[gD,Za5]
 have:lens.getD 0 0<=20:=by
  cases lens with
  |nil=>simp
  |cons x r=>exact h _ (hJ_ ..)
 have:=Zte (a:=0) h _ this;omega
theorem Zhg {l picks:List Nat}{ts:List (List Nat)}{size:Nat}(hT:Tb size ts):∀ n,(rowsC l picks ts n).length<=20*n
 |0=>by simp[rowsC]
 |n+1=>by
  rw[Zic,gD];have ih:=Zhg (l:=l) (picks:=picks) hT n
  have:(rowC l picks ts n).length<=20:=by
   unfold rowC;rw[Zt2];rcases hU_ (picks.getD (n/50) 0) ts.length with q|q
   ·exact Zjm (hT.le _ (Zd1 q)) _
   ·have e:ts.getD (picks.getD (n/50) 0) []=[]:=by rw[gB,getElem?_eq_none q];rfl
    rw[e];simp
  omega
theorem Zj4 {ts:List (List Nat)}{size:Nat}(hT:Tb size ts) (hs:size<=258):∀ u,((ts.take u).flatMap lensB).length<=20000*u
 |0=>by simp
 |u+1=>by
  have ih:=Zj4 hT hs u;rcases hU_ u ts.length with q|q
  ·have e:ts.take (u+1)=ts.take u++[ts.getD u []]:=by rw[gO,Zgr q];rfl
   have h1:=Zsa (hT.le _ (Zd1 q));rw[hT.sz _ (Zd1 q)] at h1;rw[e,List.flatMap_append,gD];simp only[List.flatMap_cons,List.flatMap_nil,gU];omega
  ·rw[gK (by omega),<-gK (i:=u) q];omega
theorem Zi0 {picks:List Nat}{t:Nat}(ht:t<=6) (h:∀ p∈picks,p < t):(picksB picks t).length<=18+6*picks.length:=by
 unfold picksB
 have hinv:=Zey (o:=[0,1,2,3,4,5]) (l:=picks) λc hc=>by
  have:=h c hc
  rcases (show c=0\/c=1\/c=2\/c=3\/c=4\/c=5 by omega) with h|h|h|h|h|h <;> rw[h] <;> simp
 have h4:=Zgt hinv.2.2.2;rw[hinv.2.2.1] at h4;rw[gD,gD,Za5,Za5];simp only[length_cons,length_nil] at h4;omega
theorem Zkw {l picks:List Nat}{ts:List (List Nat)}{size:Nat}(hT:Tb size ts) (hs:size<=258) (hpx:∀ p∈picks,p < ts.length):(codeBits l picks ts).length<=18+6*picks.length+120000+20*l.length:=by
 unfold codeBits;have h1:=Zi0 hT.n6 hpx;have h2:=Zj4 hT hs ts.length;rw[hF_] at h2;have h3:=Zhg (l:=l) (picks:=picks) hT l.length;have h6:=hT.n6;rw[gD,gD];omega
theorem Write_spec {v:Value}{l:List Nat}{size i:Nat}(H:Holds w (W01.WrR wb bs n::L)) (hb:BndOk L) (hi:L[i]?=some (SL nv tI v l)) (hR:Row l size) (hl:bs.length<=9000000000) (hn:n<=bs.length/8)
  (k:∀ picks ts w',Cho l size picks ts->Same w w'->Holds w' (W01.WrR wb (bs++codeBits l picks ts) n::L)->K (iv 0) w'):Cl prog 135 #[pt wb,v,nv size] w K:=by
 refine Tz135 ?_;unfold Vz135;have hlen:=hR.len;have h3:=hR.s3;have h258:=hR.s258;have h0:=gZ.2 hR.ne;have hng:nGr l=(l.length+49)/50:=rfl
 have hz:(zeroP prog tCh).cells.toList=[.slice none 0 0,.slice none 0 0]:=by kernel_rfl
 refine Za6 (r_vf ?_);refine Zgp H (i:=i+1) hb.up (by rw[gF];exact hi) hR λox px picks ts w1 hC S1 H1=>?_;obtain⟨hT,hpl,hpx⟩:=hC.ok;have hwh:=Zlj h3 hC;have hn2:=hT.n2;have hn6:=hT.n6;refine Za3 (Za4 ?_);refine r_new H1 λcb w2 S2 H2=>?_;rw[hz] at H2;refine r_stA 0 H2 (vs:=[sw ox,sw px]) rfl (by simp) rfl rfl λw3 S3 H3=>?_;replace H3:Holds w3 (blk cb tCh [sw ox,sw px]::RR (sw ox) ts::SL nv tI (sw px) picks::W01.WrR wb bs n::L):=H3;refine r_neq (r_vfN rfl ?_);refine r_fo0 (r_ld 0 H3 rfl rfl ?_);refine r_fo0 (r_ld 0 H3 rfl rfl ?_);refine rr_ln 1 H3 rfl ?_
 have H4:Holds w3 (W01.WrR wb bs n::SL nv tI (sw px) picks::blk cb tCh [sw ox,sw px]::RR (sw ox) ts::L):=by have h_:=Holds.ord 4 [3,2,0,1] H3 rfl;exact h_
 have hp1:=Zi0 hn6 hpx;refine P13.Write_spec H4 ⟨hn2,hn6⟩ (λe=>by rw[e] at hpl;simp at hpl;omega) (by omega) hpx (by omega) hn λw4 S4 H5=>?_;refine r_fo0 (r_ld 2 H5 rfl rfl ?_);refine rr_ln 3 H5 rfl ?_
 have H6:Holds w4 (W01.WrR wb (bs++picksB picks ts.length) n::SL pt C14.tCP (.slice none 0 0) []::C14.CodesS [] []::SL nv tI (sw px) picks::blk cb tCh [sw ox,sw px]::RR (sw ox) ts::L):=by
  have h1:Holds w4 (C14.CodesS [] []::W01.WrR wb (bs++picksB picks ts.length) n::SL nv tI (sw px) picks::blk cb tCh [sw ox,sw px]::RR (sw ox) ts::L):=Holds.pack (A:=[]) H5;have h2:=h1.nilSL pt C14.tCP;have h_:=Holds.ord 3 [2,0,1] h2 rfl;exact h_
 refine Zaa (λcv x w'=>∃ (u:Nat) (cs:List Nat),x=nv u/\u<=ts.length/\cs.length=u/\Same w w'/\
   Holds w' (W01.WrR wb (bs++picksB picks ts.length++(ts.take u).flatMap lensB) n::SL pt C14.tCP cv cs::C14.CodesS cs (ts.take u)::SL nv tI (sw px) picks::blk cb tCh [sw ox,sw px]::RR (sw ox) ts::L)) (λ_ x _=>ts.length - (intOf x).toNat)
  ⟨0,[],rfl,hE _,rfl,((S1.trans S2).trans S3).trans S4,by
   rw[take_zero,List.flatMap_nil,gU];exact H6⟩ ?_
 clear H H1 H2 H3 H4 H5 H6 S1 S2 S3 S4;rintro _ cv _ w5 ⟨u,cs,rfl,hu,hcs,S5,H5⟩;have hfl:=Zj4 hT h258 u
 have hB:(bs++picksB picks ts.length++(ts.take u).flatMap lensB).length=bs.length+(picksB picks ts.length).length+((ts.take u).flatMap lensB).length:=by rw[gD,gD]
 refine r_lss (r_ifD (λh=>?_) λh=>?_)
 ·have hlt:u < ts.length:=by omega
  have hm:=Zd1 hlt
  have e:ts.take (u+1)=ts.take u++[ts.getD u []]:=by rw[gO,Zgr hlt];rfl
  obtain⟨x,R,hld,H6,_,_,_,hRR⟩:=Zdh 5 H5 rfl (Zgr hlt);refine hld _ _ λ_ hp_=>hp_ _ ?_;have hsz:=hT.sz _ hm;have hwt:=hwh _ hm;generalize ts.getD u []=t at *;refine D11.Write_spec (lens:=t) H6.swap (by omega) (by omega) hwt.sized (by omega) (by omega) λw6 S6 H7=>?_;refine C10.New_spec (lens:=t) H7 (j:=1) rfl (by omega) (by omega) hwt.sized (λe=>absurd hwt.share e) λ_ c w7 S7 H8=>?_;refine Za3 (Za4 ?_)
  have H9:Holds w7 ([C10.CodeR c t,W01.WrR wb (bs++picksB picks ts.length++(ts.take u).flatMap lensB++lensB t) n]++SL nv tI (sw x) t::SL pt C14.tCP cv cs::C14.CodesS cs (ts.take u)::SL nv tI (sw px) picks::blk cb tCh [sw ox,sw px]::R::L):=H8;have H10:=Zmt hRR _ 4 rfl H9;replace H10:Holds w7 (C10.CodeR c t::W01.WrR wb (bs++picksB picks ts.length++(ts.take u).flatMap lensB++lensB t) n::SL pt C14.tCP cv cs::C14.CodesS cs (ts.take u)::SL nv tI (sw px) picks::blk cb tCh [sw ox,sw px]::RR (sw ox) ts::L):=H10
  have H11:Holds w7 (C10.CodeR c t::C14.CodesS cs (ts.take u)::W01.WrR wb (bs++picksB picks ts.length++(ts.take u).flatMap lensB++lensB t) n::SL pt C14.tCP cv cs::SL nv tI (sw px) picks::blk cb tCh [sw ox,sw px]::RR (sw ox) ts::L):=by
   have h_:=Holds.ord 4 [0,3,1,2] H10 rfl;exact h_
  have H12:=C14.Zlb (by rw[hcs,gN];omega) H11;refine Zci (f:=pt) H12 2 rfl c (λ_=>rfl) (by omega) λcv2 w8 S8 H13=>?_
  have H14:Holds w8 (W01.WrR wb (bs++picksB picks ts.length++(ts.take u).flatMap lensB++lensB t) n::SL pt C14.tCP cv2 (cs++[c])::C14.CodesS (cs++[c]) (ts.take u++[t])::SL nv tI (sw px) picks::blk cb tCh [sw ox,sw px]::RR (sw ox) ts::L):=by
   have h_:=Holds.ord 3 [1,2,0] H13 rfl;exact h_
  refine Za0 (by omega) (r_ke ⟨⟨u+1,cs++[c],rfl,hlt,by rw[gD,hcs];rfl,S5.trans (S6.trans (S7.trans S8)),?_⟩,?_⟩)
  ·rw[e,List.flatMap_append,<-gI (bs++picksB picks ts.length)];simp only[List.flatMap_cons,List.flatMap_nil,gU];exact H14
  ·simp only[nv,intOf,gC];omega
 obtain rfl:u=ts.length:=by omega
 rw[hF_] at H5 hfl hB;generalize hB0:bs++picksB picks ts.length++ts.flatMap lensB=B0 at *;refine r_lnS (i+6) H5 (by rw[gF,gF,gF,gF,gF,gF];exact hi) ?_
 refine Za7 (λx w'=>∃ u:Nat,x=nv u/\u<=l.length/\Same w w'/\
   Holds w' (W01.WrR wb (B0++rowsC l picks ts u) n::SL pt C14.tCP cv cs::C14.CodesS cs ts::SL nv tI (sw px) picks::blk cb tCh [sw ox,sw px]::RR (sw ox) ts::L)) (λx _=>l.length - (intOf x).toNat)
  ⟨0,rfl,hE _,S5,by
   show Holds w5 (W01.WrR wb (B0++[]) n::_)
   rw[gU];exact H5⟩ ?_
 clear H5 S5 h;rintro _ _ w6 ⟨u,rfl,hu,S6,H6⟩;have hrl:=Zhg (l:=l) (picks:=picks) hT u;refine r_lss (r_ifD (λh=>?_) λh=>?_)
 ·have hlt:u < l.length:=by omega
  have hxl:=hR.lt _ (getElem_mem hlt);refine Za8 (i+6) H6 (by rw[gF,gF,gF,gF,gF,gF];exact hi) (x:=l.getD u 0) (by rw[gB,gA hlt];rfl) ?_;refine r_fo0 (r_ld 4 H6 rfl rfl ?_);refine r_quo (by omega) (by omega) (by omega) ?_;rw[show ((u:Nat):Int)/50=((u/50:Nat):Int) by omega]
  have hup:u/50 < picks.length:=by omega
  refine Za8 3 H6 rfl (x:=picks.getD (u/50) 0) (by rw[gB,gA hup];rfl) ?_
  have hpq:picks.getD (u/50) 0 < ts.length:=by rw[gB,gA hup];exact hpx _ (getElem_mem hup)
  have hxu:l.getD u 0 < size:=by rw[gB,gA hlt];exact hxl
  have hrow:rowC l picks ts u=codeB (ts.getD (picks.getD (u/50) 0) []) (l.getD u 0):=rfl;generalize picks.getD (u/50) 0=q at *;generalize l.getD u 0=x at *
  have hcq:cs[q]?=some (cs.getD q 0):=by rw[gB,gA (by omega)];rfl
  refine Za8 1 H6 rfl hcq ?_;generalize cs.getD q 0=c at *
  have H7:Holds w6 (W01.WrR wb (B0++rowsC l picks ts u) n::C14.CodesS cs ts::SL pt C14.tCP cv cs::SL nv tI (sw px) picks::blk cb tCh [sw ox,sw px]::RR (sw ox) ts::L):=by
   have h_:=Holds.ord 3 [0,2,1] H6 rfl;exact h_
  obtain⟨A,hA1,hA2⟩:=C14.Zl1 (L:=SL pt C14.tCP cv cs::SL nv tI (sw px) picks::blk cb tCh [sw ox,sw px]::RR (sw ox) ts::L) hcq (Zgr hpq);have H8:Holds w6 (W01.WrR wb (B0++rowsC l picks ts u) n::C10.CodeR c (ts.getD q [])::A):=Zbc hA1 H7;refine C10.Put_spec H8.swap (by rw[hT.sz _ (Zd1 hpq)];exact hxu) (by rw[gD];omega) (by rw[gD];omega) λw7 S7 H9=>?_;have H10:Holds w7 (W01.WrR wb (B0++rowsC l picks ts u++codeB (ts.getD q []) x) n::C14.CodesS cs ts::SL pt C14.tCP cv cs::SL nv tI (sw px) picks::blk cb tCh [sw ox,sw px]::RR (sw ox) ts::L):=Zbc hA2 H9.swap
  have H11:Holds w7 (W01.WrR wb (B0++rowsC l picks ts u++codeB (ts.getD q []) x) n::SL pt C14.tCP cv cs::C14.CodesS cs ts::SL nv tI (sw px) picks::blk cb tCh [sw ox,sw px]::RR (sw ox) ts::L):=by
   have h_:=Holds.ord 3 [0,2,1] H10 rfl;exact h_
  refine Za0 (by omega) (r_ke ⟨⟨u+1,rfl,hlt,S6.trans S7,?_⟩,?_⟩)
  ·rw[Zic,hrow,<-gI];exact H11
  ·simp only[nv,intOf,gC];omega
 ·obtain rfl:u=l.length:=by omega
  refine k picks ts _ hC S6 ?_
  have H7:Holds w6 (W01.WrR wb (B0++rowsC l picks ts l.length) n::L):=by have h_:=Holds.ord 6 [0] H6 rfl;exact h_
  rw[<-hB0] at H7;unfold codeBits;rw[<-gI,<-gI];exact H7
end W14
namespace Z07
open Go.Mz
variable {w:World}{L:List HProp}{K:KT}{b:Nat}{z:ZS}
abbrev tZ:Nat:=343
def zrC (z:ZS):List Value:=[nv z.n,nv z.most,nv z.told,nv z.zeros,nv z.weight,.bool z.done]
def ZrR (b:Nat) (z:ZS):HProp:=λh=>z.Ok/\blk b tZ (zrC z) h
theorem Zv7 (H:Holds w (ZrR b z::L)):z.Ok/\Holds w (blk b tZ (zrC z)::L):=Holds.pure H
theorem Zej (h:z.Ok) (H:Holds w (blk b tZ (zrC z)::L)):Holds w (ZrR b z::L):=Holds.imp H λ_ hh=>⟨h,hh⟩
theorem NewReader_spec {n m:Nat}(H:Holds w L) (h1:1<=n) (h2:n<=256) (h3:m<=900000) (k:∀ b w',Same w w'->Holds w' (ZrR b (z0 n m)::L)->K (.tuple #[pt b,iv 0]) w'):Cl prog 292 #[nv n,nv m] w K:=by
 refine Tz292 ?_;unfold Vz292;refine Za1 (λx w'=>w=w'/\x=.bool false) ?_ ?_
 ·rintro _ _ _ ⟨rfl,rfl⟩;refine r_vf ?_;refine r_bd (v:=.agg #[nv n,nv m,nv 0,nv 0,nv 1,.bool false]) (by kernel_rfl) ?_;refine r_new H λb w2 S2 H2=>?_;exact k b _ S2 (Zej (z0_ok h1 h2 h3) H2)
 ·refine Tz143 ?_;unfold Vz143
  repeat (first|refine r_leq ?_|refine r_geq ?_|refine r_not ?_|((with_reducible refine r_vtD ?h ?_);(case h=>omega)))
  rw[decide_eq_true (by omega),Bool.not_true]
  repeat (first|refine r_ke ?_|refine r_lss ?_|refine r_gtr ?_|(with_reducible refine r_vf ?_)|((with_reducible refine r_vfD ?h ?_);(case h=>omega)))
  exact⟨rfl,by rw[decide_eq_false (by omega)]⟩
theorem Zid (H:Holds w (blk b tZ (zrC z)::L)) (hz:z.Ok) (k:∀ w',Same w w'->Holds w' (blk b tZ (zrC z)::L)->K (nv (z.told+z.zeros)) w'):Cl prog 309 #[pt b] w K:=by
 refine Tz309 ?_;unfold Vz309;have S:=Same.refl w;obtain⟨h1,h2,h3,h4,h5,h6⟩:=hz
 repeat (first|refine r_nc ?_|refine r_fo0 ?_|(with_reducible first|refine Za6 ?_|refine r_vf ?_)|(refine Za9 (by omega) ?_)|(refine r_dr H ?_;clear H;intro _ S_ H;replace S:=S.trans S_;clear S_)|refine r_ld 0 H rfl rfl ?_)
 exact k _ S H
theorem Zti {c:Nat}(H:Holds w (blk b tZ (zrC z)::L)) (hz:z.Ok) (hc:c<=1) (hd:z.done=false)
  (kb:zput z c=none->∀ w',Same w w'->Holds w' L->K (iv 2) w')
  (k:∀ z' d p,zput z c=some (z',d,p)->∀ w',Same w w'->Holds w' (blk b tZ (zrC z')::L)->d=0->p=-1->K (iv 0) w'):Cl prog 308 #[pt b,nv c] w K:=by
 refine Tz308 ?_;unfold Vz308;have S:=Same.refl w;have hzz:=hz;obtain⟨h1,h2,h3,h4,h5,h6⟩:=hz
 have hc2:2^c<=2:=by
  have:c=0\/c=1:=by omega
  rcases this with rfl|rfl <;> decide
 have hp:z.weight*2^c<=z.weight*2:=Nat.mul_le_mul_left _ hc2
 repeat (first|refine Zzi (by omega) (by omega) ?_|refine r_nc ?_|refine r_fo0 ?_|(refine r_dr H ?_;clear H;intro _ S_ H;replace S:=S.trans S_;clear S_)|refine r_ld 0 H rfl rfl ?_)
 have ez:zput z c=if z.most < z.told+z.zeros+z.weight*2^c then none else some (⟨z.n,z.most,z.told,z.zeros+z.weight*2^c,z.weight*2,false⟩,0,-1):=by
  unfold zput;rw[if_pos hc]
 rw[ez] at kb k;generalize z.weight*2^c=a at *;rename_i w1;have H0:=H;refine Zid H hzz λw2 S2 H2=>?_;replace S:=S.trans S2;clear H;have H:=H2;clear H2;refine r_rk (r_ld 0 H rfl rfl rfl) ?_
 repeat (first|refine r_gtr ?_|(refine r_sub (by omega) (by omega) ?_))
 refine r_ifD (λh=>?_) λh=>?_
 ·rw[if_pos (by omega)] at kb;exact kb rfl _ S H.drop
 ·rw[if_neg (by omega)] at k
  repeat (first|refine r_nc ?_|refine r_fo0 ?_|(refine Za9 (by omega) ?_)|refine r_ld 0 H rfl rfl ?_)
  refine r_st 0 H rfl (by simp[zrC]) rfl λw3 S3 H3=>?_;replace H3:Holds w3 (blk b tZ [nv z.n,nv z.most,nv z.told,nv (z.zeros+a),nv z.weight,.bool z.done]::L):=H3;replace S:=S.trans S3;clear H;have H:=H3;clear H3
  repeat (first|refine Zb8 ((z.weight*2:Nat):Int) (by omega) (by omega) (by omega) ?_|refine r_nc ?_|refine r_fo0 ?_|refine r_ld 0 H rfl rfl ?_)
  refine r_st 0 H rfl (by simp) rfl λw3 S3 H3=>?_;rw[hd] at H3;replace H3:Holds w3 (blk b tZ [nv z.n,nv z.most,nv z.told,nv (z.zeros+a),nv (z.weight*2),.bool false]::L):=H3;exact k _ _ _ rfl _ (S.trans S3) H3 rfl rfl
theorem Put_spec {c:Nat}(H:Holds w (ZrR b z::L)) (hc:c<=z.n+1) (hd:z.done=false)
  (kb:zput z c=none->∀ e w',e≠0->Same w w'->Holds w' L->K (.tuple #[iv 0,iv 0,iv e]) w')
  (k:∀ z' d p,zput z c=some (z',d,p)->∀ w',Same w w'->Holds w' (ZrR b z'::L)->K (.tuple #[nv d,iv p,iv 0]) w'):Cl prog 298 #[pt b,nv c] w K:=by
 refine Tz298 ?_;unfold Vz298;obtain⟨hz,H⟩:=Zv7 H;have hzz:=hz;obtain⟨h1,h2,h3,h4,h5,h6⟩:=hz;have S:=Same.refl w;have hok:=λz' d p (h:zput z c=some (z',d,p))=>Zrx hzz h;refine Za1 (λx w'=>w=w'/\x=.bool false) ?_ ?_
 rotate_left
 ·repeat (first|refine r_nc ?_|refine r_fo0 ?_|refine r_ke ?_|(with_reducible first|refine Za6 ?_|refine r_vf ?_)|refine r_ld 0 H rfl rfl ?_)
  exact⟨rfl,by rw[hd]⟩
 rintro _ _ _ ⟨rfl,rfl⟩
 repeat (with_reducible refine r_vf ?_)
 refine Za1 (λx w'=>w=w'/\x=.bool false) ?_ ?_
 rotate_left
 ·repeat (first|refine r_nc ?_|refine r_fo0 ?_|refine r_ke ?_|refine r_lss ?_|refine r_gtr ?_|(refine Za0 (by omega) ?_)|refine r_ld 0 H rfl rfl ?_|((with_reducible refine r_vfD ?h ?_);(case h=>omega)))
  exact⟨rfl,by rw[decide_eq_false (by omega)]⟩
 rintro _ _ _ ⟨rfl,rfl⟩
 repeat (first|refine r_leq ?_|(with_reducible refine r_vf ?_))
 refine r_ifD (λh=>?_) λh=>?_
 ·refine Zti H hzz (by omega) hd (λhn w2 S2 H2=>?_) λz' d p hs w2 S2 H2 hd0 hp=>?_
  ·repeat (first|refine r_neq ?_|((with_reducible refine r_vtN ?h ?_);(case h=>omega)))
   exact kb hn 2 _ (by decide) S2 H2
  ·repeat (first|refine r_neq ?_|((with_reducible refine r_vfN ?h ?_);(case h=>omega)))
   have:=k z' d p hs _ S2 (Zej (hok _ _ _ hs) H2);rw[hd0,hp] at this;exact this
 ·have hc1:¬ c<=1:=by omega
  have ez:zput z c=if c=z.n+1 then some (⟨z.n,z.most,z.told+z.zeros,0,1,true⟩,z.zeros,-1) else if z.told+z.zeros=z.most then none
    else some (⟨z.n,z.most,z.told+1+z.zeros,0,1,false⟩,z.zeros,(c:Int) - 1):=by
   unfold zput;rw[if_neg hc1]
  rw[ez] at kb k hok
  repeat (refine Zab (by omega) (by omega) ?_)
  refine Za1 (λx w'=>∃ t dn,t<=z.told+1/\Same w w'/\Holds w' (blk b tZ [nv z.n,nv z.most,nv t,nv z.zeros,nv z.weight,.bool dn]::L)/\
   ((c=z.n+1/\t=z.told/\dn=true/\x=iv (-1))\/(c≠z.n+1/\z.told+z.zeros≠z.most/\t=z.told+1/\dn=false/\x=iv ((c:Int) - 1)))) ?_ ?_
  ·rintro _ x w2 ⟨t,dn,ht,S,H,hx⟩
   repeat (first|refine r_nc ?_|refine r_fo0 ?_|(refine Za9 (by omega) ?_)|refine r_ld 0 H rfl rfl ?_)
   refine r_st 0 H rfl (by simp) rfl λw3 S3 H3=>?_;replace H3:Holds w3 (blk b tZ [nv z.n,nv z.most,nv (t+z.zeros),nv z.zeros,nv z.weight,.bool dn]::L):=H3;replace S:=S.trans S3;clear H;have H:=H3;clear H3
   repeat (first|refine r_nc ?_|refine r_fo0 ?_)
   refine r_st 0 H rfl (by simp) rfl λw3 S3 H3=>?_;replace H3:Holds w3 (blk b tZ [nv z.n,nv z.most,nv (t+z.zeros),nv 0,nv z.weight,.bool dn]::L):=H3;replace S:=S.trans S3;clear H;have H:=H3;clear H3
   repeat (first|refine r_nc ?_|refine r_fo0 ?_)
   refine r_st 0 H rfl (by simp) rfl λw3 S3 H3=>?_;replace H3:Holds w3 (blk b tZ [nv z.n,nv z.most,nv (t+z.zeros),nv 0,nv 1,.bool dn]::L):=H3;replace S:=S.trans S3;clear H;have H:=H3;clear H3;rcases hx with⟨hc,rfl,rfl,rfl⟩|⟨hc,hm,rfl,rfl,rfl⟩
   ·rw[if_pos hc] at k hok;exact k _ _ _ rfl _ S (Zej (hok _ _ _ rfl) H)
   ·rw[if_neg hc,if_neg hm] at k hok;exact k _ _ _ rfl _ S (Zej (hok _ _ _ rfl) H)
  ·repeat (first|refine r_nc ?_|refine r_fo0 ?_|refine r_eql ?_|(refine Za0 (by omega) ?_)|refine r_ld 0 H rfl rfl ?_)
   refine r_ifE (λh=>?_) λh=>?_
   ·repeat (first|refine r_nc ?_|refine r_fo0 ?_)
    refine r_st 0 H rfl (by simp[zrC]) rfl λw3 S3 H3=>?_;replace H3:Holds w3 (blk b tZ [nv z.n,nv z.most,nv z.told,nv z.zeros,nv z.weight,.bool true]::L):=H3
    repeat (refine r_ke ?_)
    exact⟨z.told,true,by omega,S.trans S3,H3,.inl ⟨by omega,rfl,rfl,rfl⟩⟩
   ·have hcn:c≠z.n+1:=by omega
    rw[if_neg hcn] at kb
    repeat (refine r_dr H ?_;clear H;intro _ S_ H;replace S:=S.trans S_;clear S_)
    have H0:=H;refine Zid H hzz λw2 S2 H2=>?_;replace S:=S.trans S2;clear H;have H:=H2;clear H2
    repeat (first|refine r_rk (r_ld 0 H0 rfl rfl rfl) ?_|refine r_nc ?_|refine r_fo0 ?_|refine r_eql ?_|refine r_ld 0 H rfl rfl ?_)
    refine r_ifE (λhm=>?_) λhm=>?_
    ·rw[if_pos (by omega)] at kb;exact kb rfl 2 _ (by decide) S H.drop
    ·repeat (first|refine r_nc ?_|refine r_fo0 ?_|(refine Za0 (by omega) ?_)|refine r_ld 0 H rfl rfl ?_)
     refine r_st 0 H rfl (by simp[zrC]) rfl λw3 S3 H3=>?_;rw[zrC,hd] at H3;replace H3:Holds w3 (blk b tZ [nv z.n,nv z.most,nv (z.told+1),nv z.zeros,nv z.weight,.bool false]::L):=H3
     repeat (refine r_ke ?_)
     exact⟨z.told+1,false,by omega,S.trans S3,H3,.inr ⟨hcn,by omega,rfl,rfl,by rw[show ((c - 1:Nat):Int)=(c:Int) - 1 by omega]⟩⟩
end Z07
namespace F06
open Go.Mz
variable {w:World}{L:List HProp}{K:KT}{b:Nat}{o:List UInt8}
abbrev tL:Nat:=228
def MtR (b:Nat) (o:List UInt8):HProp:=λh=>o.length<=256/\∃ ov,Sat [blk b tL [ov],SM tB ov o] h
theorem Zjw (H:Holds w (MtR b o::L)):o.length<=256/\∃ ov,Holds w (blk b tL [ov]::SM tB ov o::L):=by
 obtain⟨h,H⟩:=Holds.pure H;obtain⟨ov,H⟩:=Holds.ex H;exact⟨h,ov,Holds.unpack H⟩
theorem Zli {ov:Value}(h:o.length<=256) (H:Holds w (blk b tL [ov]::SM tB ov o::L)):Holds w (MtR b o::L):=Holds.imp (Holds.pack (A:=[_,_]) H) λ_ hh=>⟨h,ov,hh⟩
theorem Is_spec {T:Nat->Bool}(H:Holds w L) (hne:listed T≠[]) (k:∀ w',Same w w'->Holds w' L->K (.bool true) w'):Cl prog 149 #[.string ⟨(listed T).toArray⟩] w K:=by
 refine Tz149 ?_;unfold Vz149
 have hs:(⟨(listed T).toArray⟩:ByteArray).size=(listed T).length:=by show (listed T).toArray.size=_;simp
 have hl:=Zc3 T
 repeat (refine r_lns ?_)
 rw[hs];refine Za7 (λx w'=>∃ i:Nat,i<=(listed T).length/\x=nv i/\Same w w'/\Holds w' L) (λx _=>(listed T).length - (intOf x).toNat) ⟨0,by omega,rfl,.refl w,H⟩ ?_;clear H;rintro _ _ w1 ⟨i,hi,rfl,S,H⟩
 repeat (refine r_lss ?_)
 refine r_ifD (λh=>?_) λh=>?_
 ·refine Za1 (λx w'=>x=.bool false/\Same w w'/\Holds w' L) ?_ ?_
  ·clear H S;rintro _ _ w2 ⟨rfl,S,H⟩
   repeat (first|refine r_ke ?_|(with_reducible refine r_vf ?_)|(refine Za0 (by omega) ?_))
   refine⟨⟨i+1,by omega,rfl,S,H⟩,?_⟩;simp[nv,intOf];omega
  ·repeat (first|refine r_gtr ?_|(refine r_dr H ?_;clear H;intro _ S_ H;replace S:=S.trans S_;clear S_))
   refine r_ifD (λh0=>?_) λh0=>?_
   ·repeat (first|refine r_ke ?_|refine r_leq ?_|(refine Zab (by omega) (by omega) ?_)|(refine Zcb (by omega) ?_))
    have:=Zm9 T (i - 1) (by omega);rw[show i - 1+1=i by omega] at this;refine⟨?_,S,H⟩
    congr 1
    rw[decide_eq_false_iff_not];simp only[List.toList_toArray];omega
   ·repeat (refine r_ke ?_)
    exact⟨rfl,S,H⟩
 ·repeat (refine Zor ?_)
  have:=k _ S H;rw[decide_eq_true (by rw[hs];exact λh=>hne (eq_nil_of_length_eq_zero h))];exact this
theorem New_spec {T:Nat->Bool}(H:Holds w L) (hne:listed T≠[]) (k:∀ b w',Same w w'->Holds w' (MtR b (listed T)::L)->K (.tuple #[pt b,iv 0]) w'):Cl prog 141 #[.string ⟨(listed T).toArray⟩] w K:=by
 refine Tz141 ?_;unfold Vz141;refine Is_spec H hne λw1 S1 H1=>?_
 repeat (first|(with_reducible first|refine Zah ?_|refine r_vf ?_))
 refine r_csb (e:=tB) H1 λv w2 S2 H2=>?_;obtain⟨b2,sp,rfl,H3⟩:=Zfj H2 0 rfl;refine r_bd (v:=.agg #[.slice (some ⟨b2,0,none⟩) (listed T).length ((listed T).length+sp.length)]) (by kernel_rfl) ?_;refine r_new H2 λb w3 S3 H4=>?_;exact k b _ ((S1.trans S2).trans S3) (Zli (Zc3 T) H4)
theorem touch_spec {i:Nat}(H:Holds w (MtR b o::L)) (hi:i < o.length) (k:∀ w',Same w w'->Holds w' (MtR b (frontB o i)::L)->K (bv (o.getD i 0)) w'):Cl prog 158 #[pt b,nv i] w K:=by
 refine Tz158 ?_;unfold Vz158;obtain⟨hl,ov,H⟩:=Zjw H;have S:=Same.refl w
 repeat (first|refine r_nc ?_|refine r_fo0 ?_|refine r_ld 0 H rfl rfl ?_)
 refine Ya8 1 H rfl (x:=o.getD i 0) (by rw[gB,gA hi];rfl) ?_;obtain⟨b2,sp,rfl,H⟩:=Zfj H 1 rfl;rw[gW,gJ] at H
 repeat (first|refine r_nc ?_|refine r_fo0 ?_|(refine Za0 (by omega) ?_)|(refine r_dr H ?_;clear H;intro _ S_ H;replace S:=S.trans S_;clear S_)|refine r_ld 0 H rfl rfl ?_)
 refine Zso (l:=1) (h:=i+1) (by omega) (by omega) ?_
 repeat (first|refine r_nc ?_|refine r_fo0 ?_|refine r_ld 0 H rfl rfl ?_)
 refine Zfq (by omega) ?_;refine r_cpM (z:=.int .u8 0) H 1 (xs:=o) (sp:=sp) rfl hi λv w2 S2 H2=>?_;replace S:=S.trans S2;clear H;have H:=H2;clear H2;rw[gW,gJ] at H;have H2:=Zo6 H 1 rfl;rw[gW,gJ] at H2
 have hl2:(o.take 1++(o.take i++o.drop (i+1))).length=o.length:=by simp;omega
 rw[hl2] at H2;clear H;have H:=H2;clear H2
 repeat (first|refine r_nc ?_|refine r_fo0 ?_|refine r_ld 0 H rfl rfl ?_)
 refine Yaa 1 H (j:=0) (o.getD i 0) rfl (by omega) λw3 S3 H3=>?_
 have e:(o.take 1++(o.take i++o.drop (i+1))).set 0 (o.getD i 0)=frontB o i:=by
  unfold frontB
  cases o with
  |nil=>simp at hi
  |cons x o=>rfl
 rw[gW,gJ,e] at H3;exact k _ (S.trans S3) (Zli (by rw[Zfb hi];exact hl) H3)
theorem At_spec {i:Nat}(H:Holds w (MtR b o::L)) (hi:i < o.length) (k:∀ w',Same w w'->Holds w' (MtR b (frontB o i)::L)->K (.tuple #[bv (o.getD i 0),iv 0]) w'):Cl prog 284 #[pt b,nv i] w K:=by
 refine Tz284 ?_;unfold Vz284;have H0:=H;obtain⟨hl,ov,H0⟩:=Zjw H0
 repeat (first|(with_reducible first|refine Za6 ?_|refine r_vf ?_))
 refine Za1 (λx w'=>w=w'/\x=.bool false) ?_ ?_
 ·rintro _ _ _ ⟨rfl,rfl⟩;refine r_vf ?_;refine touch_spec H hi λw2 S2 H2=>?_;exact k _ S2 H2
 ·repeat (first|refine r_ld 0 H0 rfl rfl ?_|refine r_nc ?_|refine r_fo0 ?_|refine r_lss ?_|((with_reducible refine r_vfD ?h ?_);(case h=>omega)))
  refine r_lnM 1 H0 rfl ?_
  repeat (first|refine r_ke ?_|refine r_geq ?_)
  exact⟨rfl,by rw[decide_eq_false (by omega)]⟩
end F06
namespace U05
open Go.M01 Go.Mb Go.Mp Go.Mz Rb
variable {w:World}{L:List HProp}{K:KT}{b r:Nat}{B:List UInt8}{d at_ n:Nat}
abbrev tT:Nat:=202
theorem Zwu {j:Nat}(h:j < 256):(Value.int .u8 (j:Int))=bv (UInt8.ofNat j):=by
 unfold bv;rw[UInt8.toNat_ofNat_of_lt' (by simpa using h)]
theorem sg_bv (c:UInt8):sg (bv c)=true:=rfl
theorem Zca {p:Nat->Bool}{j:Nat}:(List.range (j+1)).filter p=(List.range j).filter p++if p j then [j] else []:=by
 rw[range_succ,List.filter_append,List.filter_cons,List.filter_nil]
theorem Zvv {q:List Bool}{n i:Nat}(hq:q.length=n) (hi:i < n):(valB q).testBit (n - 1 - i)=q.getD i false:=by
 have h1:bitsOf (valB q) n=q:=M10.valB_inj (n:=n) (Za5 _ _) hq (M10.valB_bitsOf _ _ (by rw[<-hq];exact Zbg q));have h2:=Mb.bitsOf_get (valB q) n i hi;rw[h1] at h2;rw[gB,h2];rfl
theorem Zi1 {q:List Bool}(H:Holds w L) (hq:q.length=16) (k:∀ v w',Same w w'->Holds w' (SL nv tI v (marksL q)::L)->K v w'):Cl prog 299 #[uv (valB q)] w K:=by
 refine Tz299 ?_;unfold Vz299
 have hv:valB q < 65536:=by have:=Zbg q;rw[hq] at this;exact this
 refine Zaa (λo x w'=>∃ i:Nat,i<=16/\x=nv i/\Same w w'/\Holds w' (SL nv tI o ((List.range i).filter λi=>q.getD i false)::L)) (λ_ x _=>16 - (intOf x).toNat) ⟨0,by omega,rfl,.refl w,H.nilSL nv tI⟩ ?_;clear H;rintro _ o _ w1 ⟨i,hi,rfl,S,H⟩
 repeat (refine r_lss ?_)
 refine r_ifD (λh=>?_) λh=>?_
 ·have hlt:i < 16:=by omega
  have hfl:((List.range i).filter λi=>q.getD i false).length<=16:=Nat.le_trans (List.length_filter_le _ _) (by simp;omega)
  repeat (refine r_sub (by omega) (by omega) ?_)
  rw[show (15:Int) - (i:Int)=((15 - i:Nat):Int) by omega];refine Ze1 (show 15 - i<=32 by omega) ?_;have hd:valB q/2^(15 - i)<=valB q:=Nat.div_le_self _ _;refine Zk2 (t:=1) (by omega) (by omega) ?_;have hb:=Zvv hq hlt;rw[show 16 - 1 - i=15 - i by omega] at hb;rw[Zoe,hb]
  cases hc:q.getD i false with
  |true=>
   refine r_eql (r_vtE rfl ?_);refine Zci H 0 rfl i sg_nv (by omega) λv' w2 S2 H2=>?_;rw[gJ] at H2
   repeat (first|refine r_ke ?_|(refine Za0 (by omega) ?_))
   refine⟨⟨i+1,by omega,rfl,S.trans S2,?_⟩,?_⟩
   ·rw[Zca,hc];exact H2
   ·simp[nv,intOf];omega
  |false=>
   refine r_eql (r_vfE (by decide) ?_)
   repeat (first|refine r_ke ?_|(refine Za0 (by omega) ?_))
   refine⟨⟨i+1,by omega,rfl,S,?_⟩,?_⟩
   ·rw[Zca,hc];simp only[Bool.false_eq_true,if_false,gU];exact H
   ·simp[nv,intOf];omega
 ·obtain rfl:i=16:=by omega
  exact k _ _ S H
theorem Zgl {T:Nat->Bool}(H:Holds w L) (k:∀ w',Same w w'->Holds w' L->K (S_ (listed T)) w'):Cl prog 140 #[.agg ((boolsT T).map Value.bool).toArray] w K:=by
 refine Tz140 ?_;unfold Vz140;refine r_new H λb1 w1 S1 H1=>?_
 have hlen:((boolsT T).map Value.bool).length=256:=by rw[hS_,Zbi]
 have hcells:(Value.agg ((boolsT T).map Value.bool).toArray).cells.toList=(boolsT T).map Value.bool:=by simp[Value.cells]
 rw[hcells] at H1;refine r_ldA 0 H1 ((boolsT T).map Value.bool) rfl (by rw[drop_zero,gK (by omega)]) hlen ?_;refine Zaa (λo x w'=>∃ i:Nat,i<=256/\x=nv i/\Same w w'/\Holds w' (SL bv tB o (((List.range i).filter T).map UInt8.ofNat)::L)) (λ_ x _=>256 - (intOf x).toNat) ⟨0,by omega,rfl,S1,(H1.drop).nilSL bv tB⟩ ?_;clear H H1 S1;rintro _ o _ w1 ⟨i,hi,rfl,S,H⟩
 repeat (refine r_lss ?_)
 refine r_ifD (λh=>?_) λh=>?_
 ·have hlt:i < 256:=by omega
  have hfl:(((List.range i).filter T).map UInt8.ofNat).length<=256:=by
   rw[hS_];exact Nat.le_trans (List.length_filter_le _ _) (by simp;omega)
  refine Zkj (.bool (T i)) (by omega) (by omega) (by rw[gC,hV_,Zqr T hlt];rfl) ?_
  cases hc:T i with
  |true=>
   refine r_vt ?_
   repeat (refine Zh7 (by omega) (by omega) ?_)
   rw[Zwu hlt];refine Zci H 0 rfl (UInt8.ofNat i) sg_bv (by omega) λv' w2 S2 H2=>?_;rw[gJ] at H2
   repeat (first|refine r_ke ?_|(refine Za0 (by omega) ?_))
   refine⟨⟨i+1,by omega,rfl,S.trans S2,?_⟩,?_⟩
   ·rw[Zca,hc,if_pos rfl,map_append];exact H2
   ·simp[nv,intOf];omega
  |false=>
   refine r_vf ?_
   repeat (first|refine r_ke ?_|(refine Za0 (by omega) ?_))
   refine⟨⟨i+1,by omega,rfl,S,?_⟩,?_⟩
   ·rw[Zca,hc];simp only[Bool.false_eq_true,if_false,gU];exact H
   ·simp[nv,intOf];omega
 ·obtain rfl:i=256:=by omega
  obtain⟨oa,sp,rfl,H2⟩:=H.open 0 rfl;refine r_cbs H2 0 rfl rfl ?_;exact k _ S H.drop
theorem read_spec (H:Holds w (RdR r B d at_::L))
  (ks:uread (rest B at_)=.short->∀ q w',Same w w'->Holds w' (RdR r B d q::L)->K (.tuple #[S_ [],iv 3]) w')
  (kb:uread (rest B at_)=.bad 25->∀ q w',Same w w'->Holds w' (RdR r B d q::L)->K (.tuple #[S_ [],iv 25]) w')
  (k:∀ T n,uread (rest B at_)=.ok T n->listed T≠[]->∀ w',Same w w'->Holds w' (RdR r B d (at_+n)::L)->K (.tuple #[S_ (listed T),iv 0]) w'):Cl prog 289 #[pt r] w K:=by
 refine Tz289 ?_;unfold Vz289;refine Get_spec (n:=16) H (by omega) (λhs w2 S2 H2=>?_) λhs w2 S2 H2=>?_
 ·repeat (first|refine r_neq ?_|(with_reducible first|refine Za3 ?_|refine Za4 ?_)|((with_reducible refine r_vtN ?h ?_);(case h=>omega)))
  exact ks (by unfold uread;rw[if_pos hs]) _ _ S2 H2
 clear H
 have S:=S2;have H:=H2;clear S2 H2
 repeat (first|refine r_neq ?_|(with_reducible first|refine Za3 ?_|refine Za4 ?_)|((with_reducible refine r_vfN ?h ?_);(case h=>omega)))
 have hz:(zeroP prog tT).cells.toList=(boolsT λ_=>false).map Value.bool:=by rw[Zfu];kernel_rfl
 refine r_new H λbt w3 S3 H3=>?_;rw[hz] at H3;replace S:=S.trans S3;clear H;have H:=H3;clear H3 S3
 have hq:((rest B at_).take 16).length=16:=by rw[gN];omega
 refine Zi1 H hq λmv w3 S3 H3=>?_;replace S:=S.trans S3;clear H;have H:=H3;clear H3 S3;refine r_lnS 0 H rfl ?_;have hml:=Zfl ((rest B at_).take 16);have hm16:=λi (h:i∈marksL ((rest B at_).take 16))=>Zlk h
 have e0:uread (rest B at_)=if (rest B at_).length < 16+16*(marksL ((rest B at_).take 16)).length then .short
   else if listed (usedT (marksL ((rest B at_).take 16)) ((rest B at_).drop 16))=[] then .bad 25
   else .ok (usedT (marksL ((rest B at_).take 16)) ((rest B at_).drop 16)) (16+16*(marksL ((rest B at_).take 16)).length):=by
  unfold uread;rw[if_neg (by omega)]
 generalize marksL ((rest B at_).take 16)=ms at *
 refine Za7 (λx w'=>∃ j:Nat,j<=ms.length/\x=nv j/\16+16*j<=(rest B at_).length/\Same w w'/\Holds w' (SL nv tI mv ms::blk bt tT ([]++((boolsT (usedT (ms.take j) ((rest B at_).drop 16))).map Value.bool++[]))::RdR r B d (at_+16+16*j)::L))
  (λx _=>ms.length - (intOf x).toNat) ⟨0,by omega,rfl,by omega,S,?_⟩ ?_
 ·rw[gU,hO_];exact H
 clear H S;rintro _ _ w4 ⟨j,hj,rfl,hlen,S,H⟩
 repeat (refine r_lss ?_)
 refine r_ifD (λh=>?_) λh=>?_
 ·have hlt:j < ms.length:=by omega
  have hgj:ms[j]?=some ms[j]:=gA hlt;have hi16:=hm16 _ (getElem_mem hlt);refine Za8 0 H rfl hgj ?_;generalize hmi:ms[j]=i at *;have hrl:=Zba B at_;have hrl2:=Zba B (at_+16+16*j);refine Get_spec (n:=16) (Holds.front H 2 rfl) (by omega) (λhs w5 S5 H5=>?_) λhs w5 S5 H5=>?_
  ·repeat (first|refine r_neq ?_|(with_reducible first|refine Za3 ?_|refine Za4 ?_)|((with_reducible refine r_vtN ?h ?_);(case h=>omega)))
   refine ks ?_ _ _ (S.trans S5) (Holds.front H5 0 rfl |>.dropAt 1 |>.dropAt 1);rw[e0,if_pos (by omega)]
  ·replace S:=S.trans S5;clear H;have H:=H5;clear H5 S5
   repeat (first|refine r_neq ?_|(with_reducible first|refine Za3 ?_|refine Za4 ?_)|((with_reducible refine r_vfN ?h ?_);(case h=>omega)))
   have hq2:((rest B (at_+16+16*j)).take 16).length=16:=by rw[gN];omega
   refine Zi1 H hq2 λmv2 w5 S5 H5=>?_;replace S:=S.trans S5;clear H;have H:=H5;clear H5 S5;refine r_lnS 0 H rfl ?_;have hml2:=Zfl ((rest B (at_+16+16*j)).take 16)
   have hmm:∀ b,((rest B at_).drop 16 |>.drop (16*j)).getD (b%16) false=decide (b%16∈marksL ((rest B (at_+16+16*j)).take 16)):=λb=>by
    have hb:b%16 < 16:=Nat.mod_lt _ (by decide);rw[Zc5,Zc5,Bool.eq_iff_iff,decide_eq_true_iff,Zqa,gB,gB,hI_ hb];exact⟨λh=>⟨hb,h⟩,λh=>h.2⟩
   generalize hm2:marksL ((rest B (at_+16+16*j)).take 16)=ks2 at *;have hk16:∀ x∈ks2,x < 16:=λx hx=>Zlk (by rw[hm2];exact hx)
   refine Za7 (λx w'=>∃ m:Nat,m<=ks2.length/\x=nv m/\Same w w'/\Holds w' (SL nv tI mv2 ks2::RdR r B d (at_+16+16*j+16)::SL nv tI mv ms ::
    blk bt tT ([]++((boolsT λb=>usedT (ms.take j) ((rest B at_).drop 16) b||(decide (b/16=i)&&decide (b%16∈ks2.take m))).map Value.bool++[]))::L)) (λx _=>ks2.length - (intOf x).toNat) ⟨0,by omega,rfl,S,?_⟩ ?_
   ·have:(λb=>usedT (ms.take j) ((rest B at_).drop 16) b||(decide (b/16=i)&&decide (b%16∈ks2.take 0)))=usedT (ms.take j) ((rest B at_).drop 16):=by
     funext b;simp
    rw[this];exact H
   clear H S;rintro _ _ w6 ⟨m,hm,rfl,S,H⟩
   repeat (refine r_lss ?_)
   refine r_ifD (λh=>?_) λh=>?_
   ·have hlt2:m < ks2.length:=by omega
    have hgm:ks2[m]?=some ks2[m]:=gA hlt2;have hk:=hk16 _ (getElem_mem hlt2);refine Za8 0 H rfl hgm ?_;generalize hmk:ks2[m]=kk at *
    repeat (first|refine Zb8 ((16*i:Nat):Int) (by omega) (by omega) (by omega) ?_|(refine Za9 (by omega) ?_)|(refine Zak (by omega) ?_))
    refine r_st 3 H rfl (by simp[Zbi];omega) rfl λw7 S7 H7=>?_;have e:=Zhf (f:=Value.bool) (xs:=boolsT λb=>usedT (ms.take j) ((rest B at_).drop 16) b||(decide (b/16=i)&&decide (b%16∈ks2.take m))) (post:=[]) (j:=16*i+kk) [] true (by rw[Zbi];omega);rw[length_nil,Zif] at e;rw[gW,gW,gW,gJ,e] at H7
    have ef:(λb=>(usedT (ms.take j) ((rest B at_).drop 16) b||(decide (b/16=i)&&decide (b%16∈ks2.take m)))||decide (b=16*i+kk))=λb=>usedT (ms.take j) ((rest B at_).drop 16) b||(decide (b/16=i)&&decide (b%16∈ks2.take (m+1))):=by
     funext b
     rw[Bool.or_assoc];refine congrArg (λz=>usedT (ms.take j) ((rest B at_).drop 16) b||z) ?_;rw[Bool.eq_iff_iff];simp only[Bool.or_eq_true,Bool.and_eq_true,decide_eq_true_iff];rw[Zan hgm,hT_,mem_singleton]
     constructor
     ·rintro (⟨h1,h2⟩|h)
      ·exact⟨h1,.inl h2⟩
      ·exact⟨by omega,.inr (by omega)⟩
     ·rintro⟨h1,h2|h2⟩
      ·exact .inl ⟨h1,h2⟩
      ·exact .inr (by omega)
    rw[ef] at H7
    repeat (first|refine r_ke ?_|(refine Za0 (by omega) ?_))
    refine⟨⟨m+1,by omega,rfl,S.trans S7,H7⟩,?_⟩;simp[nv,intOf];omega
   ·obtain rfl:m=ks2.length:=by omega
    repeat (first|refine r_ke ?_|(refine Za0 (by omega) ?_))
    refine⟨⟨j+1,by omega,rfl,by omega,S,?_⟩,?_⟩
    ·have ef:usedT (ms.take (j+1)) ((rest B at_).drop 16)=λb=>usedT (ms.take j) ((rest B at_).drop 16) b||(decide (b/16=i)&&decide (b%16∈ks2.take ks2.length)):=by
      funext b
      rw[Zan hgj,Zi2,gN,Nat.min_eq_left hj,hmm,hF_]
     rw[ef,show at_+16+16*(j+1)=at_+16+16*j+16 by omega];exact (H.drop.front 2 rfl).front 2 rfl
    ·simp[nv,intOf];omega
 ·obtain rfl:j=ms.length:=by omega
  rw[if_neg (by omega)] at e0;rw[hF_] at H;generalize usedT ms ((rest B at_).drop 16)=T at *
  have hlenT:((boolsT T).map Value.bool).length=256:=by rw[hS_,Zbi]
  rw[gU,hO_] at H;refine r_ldA 1 H ((boolsT T).map Value.bool) rfl (by rw[drop_zero,gK (by omega)]) hlenT ?_;refine Zgl H λw5 S5 H5=>?_;have H6:Holds w5 (RdR r B d (at_+16+16*ms.length)::L):=H5.drop.drop;rw[hG_] at H6;replace S:=S.trans S5
  have hsz:(⟨(listed T).toArray⟩:ByteArray).size=(listed T).length:=by show (listed T).toArray.size=_;simp
  repeat (refine Zfv ?_)
  by_cases hT:listed T=[]
  ·rw[if_pos hT] at e0;rw[decide_eq_true (by rw[hsz,hT];rfl)];exact r_vt (kb e0 _ _ S H6)
  ·rw[if_neg hT] at e0;rw[decide_eq_false (by rw[hsz];exact λh=>hT (eq_nil_of_length_eq_zero h))];exact r_vf (k _ _ e0 hT _ S H6)
theorem Zrp (H:Holds w (RdR r B d at_::L))
  (ks:uread (rest B at_)=.short->∀ w',Same w w'->Holds w' (RdR r B d at_::L)->K (.tuple #[S_ [],iv 3]) w')
  (kb:uread (rest B at_)=.bad 25->∀ w',Same w w'->Holds w' (RdR r B d at_::L)->K (.tuple #[S_ [],iv 25]) w')
  (k:∀ T n,uread (rest B at_)=.ok T n->listed T≠[]->∀ w',Same w w'->Holds w' (RdR r B d (at_+n)::L)->K (.tuple #[S_ (listed T),iv 0]) w'):Cl prog 282 #[pt r] w K:=by
 refine Tz282 ?_;unfold Vz282;have hf:=(Zaf H).1;refine At_spec H ?_;refine read_spec H (λhs q w2 S2 H2=>?_) (λhs q w2 S2 H2=>?_) λT n hs hT w2 S2 H2=>?_
 ·repeat (first|refine r_neq ?_|(with_reducible first|refine Za3 ?_|refine Za4 ?_)|((with_reducible refine r_vtN ?h ?_);(case h=>omega)))
  refine Zhc H2 hf.1 hf.2.1 λw3 S3 H3=>?_;exact ks hs _ (S2.trans S3) H3
 ·repeat (first|refine r_neq ?_|(with_reducible first|refine Za3 ?_|refine Za4 ?_)|((with_reducible refine r_vtN ?h ?_);(case h=>omega)))
  refine Zhc H2 hf.1 hf.2.1 λw3 S3 H3=>?_;exact kb hs _ (S2.trans S3) H3
 ·repeat (first|refine r_neq ?_|(with_reducible first|refine Za3 ?_|refine Za4 ?_)|((with_reducible refine r_vfN ?h ?_);(case h=>omega)))
  exact k T n hs hT _ S2 H2
end U05
namespace U05
open Go.M01 Go.Mb Go.Mz Go.Mx Rb
variable {w:World}{L:List HProp}{K:KT}{b:Nat}
abbrev tUr:Nat:=216
abbrev tBo:Nat:=202
theorem Zm4 {s:List UInt8}(H:Holds w L) (hs:s.length<=1000000) (k:∀ w',Same w w'->Holds w' L->K (S_ (listed (upT s))) w'):Cl prog 130 #[S_ s] w K:=by
 refine Tz130 ?_;unfold Vz130
 have hsz:(⟨s.toArray⟩:ByteArray).size=s.length:=by show s.toArray.size=_;simp
 have hdl:(⟨s.toArray⟩:ByteArray).data.toList=s:=by simp
 have hz:(zeroP prog tBo).cells.toList=(boolsT (upT [])).map Value.bool:=by
  rw[show upT []=λ_=>false from rfl,Zfu]
  kernel_rfl
 refine r_new H λb w1 S1 H1=>?_;rw[hz] at H1;refine r_lns ?_;rw[hsz];refine Za7 (λx w'=>∃ i:Nat,i<=s.length/\x=nv i/\Same w w'/\Holds w' (blk b tBo ((boolsT (upT (s.take i))).map Value.bool)::L)) (λx _=>s.length - (intOf x).toNat) ⟨0,hE _,rfl,S1,H1⟩ ?_;clear H H1 S1;rintro _ _ w2 ⟨i,hi,rfl,S,H⟩;refine r_lss (r_ifD (λh=>?_) λh=>?_)
 ·have hlt:i < s.length:=by omega
  have hc:=(s.getD i 0).toNat_lt;refine Zcb (by rw[hsz];exact hlt) ?_;rw[hdl];refine Zak (by omega) ?_;refine r_st 0 H rfl (by rw[hS_,Zbi];omega) rfl λw3 S3 H3=>?_;replace H3:Holds w3 (blk b tBo (((boolsT (upT (s.take i))).map Value.bool).set (0+(s.getD i 0).toNat) (.bool true))::L):=H3
  have e:((boolsT (upT (s.take i))).map Value.bool).set (0+(s.getD i 0).toNat) (.bool true)=(boolsT (upT (s.take (i+1)))).map Value.bool:=by
   rw[Nat.zero_add,<-map_set,Zif]
   have hg:s.take (i+1)=s.take i++[s.getD i 0]:=by rw[gO,gA hlt,gB,gA hlt];rfl
   rw[hg,Zlf λx hx=>(Zk5 hx).symm]
  rw[e] at H3;refine Za0 (by omega) ?_;refine r_ke ⟨⟨i+1,by omega,rfl,S.trans S3,H3⟩,?_⟩;simp only[nv,intOf,gC];omega
 ·obtain rfl:i=s.length:=by omega
  rw[hF_] at H;refine r_ldA 0 H ((boolsT (upT s)).map Value.bool) rfl (by rw[drop_zero,gK (by rw[hS_,Zbi];exact Nat.le_refl _)]) (by rw[hS_,Zbi]) ?_;refine Zgl H λw3 S3 H3=>?_;exact k _ (S.trans S3) H3.drop
theorem quo8 {c:Nat}(h:c < 256):bp .quo (.int .u8 (c:Int)) (.int .u8 16)=some (.int .u8 ((c/16:Nat):Int)):=by
 have e:(c:Int).tdiv 16=((c/16:Nat):Int):=by rw[Int.tdiv_eq_ediv_of_nonneg (by omega)];simp
 simp only[bp];rw[if_pos ⟨trivial,by decide⟩,e,wrapU8 (by omega) (by omega)]
theorem Zhw:∀ {cs vs:List Value},cs.length=vs.length->setL cs 0 vs=vs:=by
 have key:∀ (vs pre cs:List Value),cs.length=vs.length->setL (pre++cs) pre.length vs=pre++vs:=by
  intro vs
  induction vs with
  |nil=>intro pre cs h;simp at h;subst h;rfl
  |cons v vs ih=>
   intro pre cs h
   cases cs with
   |nil=>simp at h
   |cons c cs=>
    rw[setL,List.set_append_right _ _ (Nat.le_refl _),Nat.sub_self,gJ];have:=ih (pre++[v]) cs (by simpa using h);rw[gI,gD,gI] at this;exact this
 intro cs vs h;have:=key vs [] cs h;exact this
def rowsV (T:Nat->Bool):List Value:=(List.range 16).map λi=>uv (valB (bitR T i))
theorem Zag (T:Nat->Bool):(rowsV T).length=16:=by simp[rowsV]
theorem Zda (T:Nat->Bool){i:Nat}(h:i < 16):(rowsV T)[i]?=some (uv (valB (bitR T i))):=by simp[rowsV,h]
theorem Zxy (T:Nat->Bool) (i:Nat):valB (bitR T i) < 65536:=by have:=Zbg (bitR T i);rwa [Zdu] at this
theorem Zuk {s:List UInt8}(H:Holds w L) (hs:s.length<=1000000) (k:∀ w',Same w w'->Holds w' L->K (.agg (rowsV (upT s)).toArray) w'):Cl prog 150 #[S_ s] w K:=by
 refine Tz150 ?_;unfold Vz150
 have hsz:(⟨s.toArray⟩:ByteArray).size=s.length:=by show s.toArray.size=_;simp
 have hdl:(⟨s.toArray⟩:ByteArray).data.toList=s:=by simp
 have hz:(zeroP prog tUr).cells.toList=rowsV (upT []):=by kernel_rfl
 refine r_new H λxb w0 S0 H0=>?_;rw[hz] at H0;refine r_new H0 λb w1 S1 H1=>?_;rw[hz] at H1;refine r_lns ?_;rw[hsz];refine Za7 (λx w'=>∃ i:Nat,i<=s.length/\x=nv i/\Same w w'/\Holds w' (blk b tUr (rowsV (upT (s.take i)))::blk xb tUr (rowsV (upT []))::L)) (λx _=>s.length - (intOf x).toNat) ⟨0,hE _,rfl,S0.trans S1,H1⟩ ?_;clear H H0 H1 S0 S1;rintro _ _ w2 ⟨i,hi,rfl,S,H⟩;refine r_lss (r_ifD (λh=>?_) λh=>?_)
 ·have hlt:i < s.length:=by omega
  have hg:s.take (i+1)=s.take i++[s.getD i 0]:=by rw[gO,gA hlt,gB,gA hlt];rfl
  refine Zcb (by rw[hsz];exact hlt) ?_;rw[hdl];generalize s.getD i 0=c at *;have hc:=c.toNat_lt;refine r_bpK (.int .u8 ((c.toNat/16:Nat):Int)) (quo8 hc) ?_;refine Zak (by omega) ?_;refine r_ld 0 H (by rfl) (by rw[Nat.zero_add];exact Zda _ (by omega)) ?_;refine Zzu (by omega) (by omega) ?_;refine Zz3 (s:=15) (t:=c.toNat%16) (by omega) (by omega) ?_;refine Zcd (s:=1) (n:=15 - c.toNat%16) (by omega) ?_;have hp:2^(15 - c.toNat%16)<=2^15:=Nat.pow_le_pow_right (by decide) (by omega);have hr:=Zxy (upT (s.take i)) (c.toNat/16);refine Zo1 (by omega) (by omega) ?_;rw[Nat.one_mul,Nat.mod_eq_of_lt (by omega),Ya7];refine Zak (by omega) ?_;refine r_st 0 H rfl (by rw[Zag];omega) rfl λw3 S3 H3=>?_;replace H3:Holds w3 (blk b tUr ((rowsV (upT (s.take i))).set (0+c.toNat/16) (uv (valB (bitR (upT (s.take i++[c])) (c.toNat/16)))))::blk xb tUr (rowsV (upT []))::L):=H3
  have e:(rowsV (upT (s.take i))).set (0+c.toNat/16) (uv (valB (bitR (upT (s.take i++[c])) (c.toNat/16))))=rowsV (upT (s.take (i+1))):=by
   rw[hg,Nat.zero_add];apply List.ext_getElem?;intro j;rw[List.getElem?_set]
   by_cases hj:c.toNat/16=j
   ·subst hj;rw[if_pos rfl,if_pos (by rw[Zag];omega),Zda _ (by omega)]
   ·rw[if_neg hj]
    by_cases hj2:j < 16
    ·rw[Zda _ hj2,Zda _ hj2,Zvq hj2 (by omega)]
    ·rw[getElem?_eq_none (by rw[Zag];omega),getElem?_eq_none (by rw[Zag];omega)]
  rw[e] at H3;refine Za0 (by omega) ?_;refine r_ke ⟨⟨i+1,by omega,rfl,S.trans S3,H3⟩,?_⟩;simp only[nv,intOf,gC];omega
 ·obtain rfl:i=s.length:=by omega
  rw[hF_] at H;refine r_ldA 0 H (rowsV (upT s)) rfl (by rw[drop_zero,gK (by rw[Zag];exact Nat.le_refl _)]) (Zag _) ?_;refine r_stA 1 H (vs:=rowsV (upT s)) rfl (by rw[Zag];exact Nat.le_refl _) (Zag _) (by rw[List.all_eq_true];intro x hx;obtain⟨j,_,rfl⟩:=mem_map.1 hx;rfl) λw3 S3 H3=>?_;have e:setL (rowsV (upT [])) 0 (rowsV (upT s))=rowsV (upT s):=Zhw (by rw[Zag,Zag]);replace H3:Holds w3 (blk b tUr (rowsV (upT s))::blk xb tUr (setL (rowsV (upT [])) 0 (rowsV (upT s)))::L):=H3;rw[e] at H3;refine r_ldA 1 H3 (rowsV (upT s)) rfl (by rw[drop_zero,gK (by rw[Zag];exact Nat.le_refl _)]) (Zag _) ?_;exact k _ (S.trans S3) H3.drop.drop
theorem Zs3 (T:Nat->Bool) (i:Nat):valB (bitR T i) < 65536:=Zxy T i
theorem Zpd (T:Nat->Bool) (j:Nat):valB (whichB T j) < 65536:=by have:=Zbg (whichB T j);rwa [Zc1] at this
theorem Write_spec {T:Nat->Bool}{bs:List Bool}{n:Nat}(H:Holds w (W01.WrR b bs n::L)) (hne:listed T≠[]) (hl:bs.length<=10000000000) (hn:n<=bs.length/8)
  (k:∀ w',Same w w'->Holds w' (W01.WrR b (bs++usedB T) n::L)->K (iv 0) w'):Cl prog 134 #[pt b,S_ (listed T)] w K:=by
 refine Tz134 ?_;unfold Vz134;have hll:=Zc3 T;refine Za6 (r_vf ?_);refine F06.Is_spec H hne λw1 S1 H1=>?_;refine Zah (r_vf ?_);refine Zuk H1 (by omega) λw2 S2 H2=>?_
 have hz:(zeroP prog tUr).cells.toList=rowsV (upT []):=by kernel_rfl
 refine r_new H2 λab w3 S3 H3=>?_;rw[hz] at H3;refine r_stA 0 H3 (vs:=rowsV (upT (listed T))) rfl (by rw[Zag];exact Nat.le_refl _) (Zag _) (by rw[List.all_eq_true];intro x hx;obtain⟨j,_,rfl⟩:=mem_map.1 hx;rfl) λw4 S4 H4=>?_;have e:setL (rowsV (upT [])) 0 (rowsV (upT (listed T)))=rowsV (upT (listed T)):=Zhw (by rw[Zag,Zag]);replace H4:Holds w4 (blk ab tUr (setL (rowsV (upT [])) 0 (rowsV (upT (listed T))))::W01.WrR b bs n::L):=H4;rw[e] at H4
 have hrow:∀ i,i < 16->(rowsV (upT (listed T)))[i]?=some (uv (valB (bitR T i))):=λi hi=>by rw[Zda _ hi,Zzw hi]
 have hRl:=Zag (upT (listed T));generalize rowsV (upT (listed T))=R at *;replace S1:=((S1.trans S2).trans S3).trans S4;clear H H1 H2 H3 S2 S3 S4
 have hRd:(R.drop 0).take 16=R:=by rw[drop_zero,gK (by omega)]
 refine r_ldA 0 H4 R rfl hRd hRl ?_;refine Zaa (λv x w'=>∃ i:Nat,i<=16/\x=nv i/\v=uv (valB (whichB T i))/\w4=w') (λ_ x _=>16 - (intOf x).toNat) ⟨0,by omega,rfl,by rw[show valB (whichB T 0)=0 by unfold whichB;simp only[Nat.not_lt_zero,decide_false,Bool.false_and];decide];rfl,rfl⟩ ?_;rintro _ _ _ _ ⟨i,hi,rfl,rfl,rfl⟩;refine r_lss (r_ifD (λh=>?_) λh=>?_)
 ·have hlt:i < 16:=by omega
  have hr:=Zs3 T i;have hw:=Zpd T i;refine Zkj (uv (valB (bitR T i))) (by omega) (by omega) (by rw[gC];exact hrow i hlt) ?_;refine r_neq (r_ifN (λh2=>?_) λh2=>?_)
  ·have hs:someB T i=true:=by
    cases hs:someB T i with
    |true=>rfl
    |false=>exact absurd (by rw[Zg4.2 hs];rfl) h2
   refine r_sub (by omega) (by omega) ?_;rw[show (15:Int) - (i:Int)=((15 - i:Nat):Int) by omega];refine Zcd (s:=1) (n:=15 - i) (by omega) ?_;have hp:2^(15 - i)<=2^15:=Nat.pow_le_pow_right (by decide) (by omega);refine Zo1 (by omega) (by omega) ?_;rw[Nat.one_mul,Nat.mod_eq_of_lt (by omega),Zw5 hlt hs];refine Za0 (by omega) ?_;refine r_ke ⟨⟨i+1,by omega,rfl,rfl,rfl⟩,?_⟩;simp only[nv,intOf,gC];omega
  ·have hs:someB T i=false:=Zg4.1 (by omega);refine Za0 (by omega) ?_;refine r_ke ⟨⟨i+1,by omega,rfl,by rw[Zqq hs],rfl⟩,?_⟩;simp only[nv,intOf,gC];omega
 obtain rfl:i=16:=by omega
 have hw:=Zpd T 16;refine W01.Put_spec (n:=16) H4.swap (by omega) hn (by omega) (by omega) λw5 S5 H5=>?_
 have ew:bitsOf (valB (whichB T 16)) 16=whichB T 16:=by
  have:=Zos (whichB T 16)
  rwa [Zc1] at this
 rw[ew] at H5;refine r_ldA 1 H5 R rfl hRd hRl ?_
 refine Za7 (λx w'=>∃ i:Nat,i<=16/\x=nv i/\Same w w'/\Holds w' (W01.WrR b (bs++whichB T 16++rowsB T i) n::blk ab tUr R::L)) (λx _=>16 - (intOf x).toNat)
  ⟨0,by omega,rfl,S1.trans S5,by rw[rowsB,gU];exact H5⟩ ?_
 clear H4 H5 S1 S5;rintro _ _ w6 ⟨i,hi,rfl,S,H⟩;have hrl:=Zh6 T i;have hwl:=Zc1 T 16
 have hal:(bs++whichB T 16++rowsB T i).length<=bs.length+16+16*16:=by rw[gD,gD];omega
 have hal2:bs.length<=(bs++whichB T 16++rowsB T i).length:=by rw[gD,gD];omega
 refine r_lss (r_ifD (λh=>?_) λh=>?_)
 ·have hlt:i < 16:=by omega
  have hr:=Zs3 T i;refine Zkj (uv (valB (bitR T i))) (by omega) (by omega) (by rw[gC];exact hrow i hlt) ?_;refine r_neq (r_ifN (λh2=>?_) λh2=>?_)
  ·have hs:someB T i=true:=by
    cases hs:someB T i with
    |true=>rfl
    |false=>exact absurd (by rw[Zg4.2 hs];rfl) h2
   refine W01.Put_spec (n:=16) H (by omega) (by omega) (by omega) (by omega) λw7 S7 H7=>?_
   have er:bitsOf (valB (bitR T i)) 16=bitR T i:=by
    have:=Zos (bitR T i)
    rwa [Zdu] at this
   rw[er] at H7;refine Za0 (by omega) ?_;refine r_ke ⟨⟨i+1,by omega,rfl,S.trans S7,by rw[rowsB,if_pos hs,<-gI];exact H7⟩,?_⟩;simp only[nv,intOf,gC];omega
  ·have hs:someB T i=false:=Zg4.1 (by omega);refine Za0 (by omega) ?_;refine r_ke ⟨⟨i+1,by omega,rfl,S,by rw[rowsB,if_neg (by rw[hs];decide),gU];exact H⟩,?_⟩;simp only[nv,intOf,gC];omega
 ·obtain rfl:i=16:=by omega
  refine k _ S ?_;have hf:=H.dropAt 1;unfold usedB;rw[<-gI];exact hf
end U05
end Go.Proofs.YtpmjeiliblgajaaGreatDoor
namespace Go.Vc
open Ev
variable {P:Program}{w:World}{L:List HProp}
theorem r_cx' {f:FuncId}{args:Array Value}{v:Value}{K:KT}(h:(callFunc f args).run P w=.ok (.value v) w) (k:K v w):Cx P f args w K:=⟨v,w,h,k⟩
theorem Zxv:∀ {l:List UInt8}{c:UInt8},c∈l->Lib.indexByte l c=(l.idxOf c:Nat)
 |[],c,h=>by cases h
 |b::l,c,h=>by
  unfold Lib.indexByte
  by_cases hb:b=c
  ·subst hb;simp
  ·have hm:c∈l:=by
    rcases mem_cons.1 h with h|h
    ·exact absurd h.symm hb
    ·exact h
   have ih:=Zxv hm;rw[if_neg (by simpa using hb),ih,if_neg (by simp),List.idxOf_cons];rw[show (b==c)=false by simpa using hb];simp
theorem Zth {b:Nat}{xs:List UInt8}{sp:List Value}{e:TypeId}(H:Holds w L) (i:Nat) (hi:L[i]?=some (mk b e (xs.map bv++sp))) :
  (Extern.Bytes.bytesOf (.slice (some ⟨b,0,none⟩) xs.length (xs.length+sp.length))).run P w=.ok ⟨xs.toArray⟩ w:=by
 have hl:=Ev.Zet (P:=P) (w:=w) (b:=b) (xs.map (·.toNat)) 0 .empty λj n hj=>by
  rw[hV_,Option.map_eq_some_iff] at hj;obtain⟨c,hc,rfl⟩:=hj;have hjl:=(gH.1 hc).1;rw[Nat.zero_add,Zh9 H i hi,gM (by simpa using hjl),hV_,hc];rfl
 rw[hS_] at hl;refine Eq.trans hl ?_
 congr 1
 apply Zo5;simp only[List.map_map,show (UInt8.ofNat ∘ λx:UInt8=>x.toNat)=id by funext x;simp,List.map_id];simp
theorem Zzr {f:FuncId}{fn:Func}{e:TypeId}{v:Value}{xs:List UInt8}{c:UInt8}{K:KT}(hf:extK P f=some (fn,.idxB)) (H:Holds w L) (i:Nat) (hi:L[i]?=some (SM e v xs)) (hc:c∈xs)
  (k:K (nv (xs.idxOf c)) w):Cx P f #[v,bv c] w K:=by
 obtain⟨b,sp,rfl,H1⟩:=Zfj H i hi;have hr:=Lib.run_indexByteString (P:=P) ⟨xs.toArray⟩ (c.toNat:Int) w;have hb:=Zth (P:=P) H1 i (Za2 hi)
 have hr2:(Extern.BytealgIndexByte.indexByte #[.slice (some ⟨b,0,none⟩) xs.length (xs.length+sp.length),bv c]).run P w=.ok (.int .i64 (Lib.indexByte xs c)) w:=by
  rw[Zye (y:=.string ⟨xs.toArray⟩) hb rfl,show bv c=Value.int .u8 (c.toNat:Int) from rfl];refine Eq.trans hr ?_;simp
 rw[Zxv hc] at hr2;exact r_cx' (callExt hf (Zt8 (Zuz hf).2.2) hr2).2 k
end Go.Vc
namespace Go.Proofs.YtpmjeiliblgajaaGreatDoor
open Go Go.Vc Go.Proofs.Tryz
attribute [local irreducible] Vc.Nc Vc.Ld Vc.LdA Vc.St Vc.StA Vc.Fo Vc.Iaa Vc.Ias Vc.Ixs Vc.Ixa Vc.Fd Vc.FdA Vc.Bp Vc.Bb Vc.Bn Vc.Up Vc.Ci Vc.Lns Vc.Lnl Vc.Ex Vc.Sst Vc.Ssl Vc.New Vc.Vif Vc.VJoin Vc.VLoop Vc.KE Vc.Dr Vc.Rk Vc.Cl Vc.Cx Vc.Inv Vc.Be Vc.Cv Vc.Cw Vc.Mf Vc.Sl Vc.Lk Vc.Bd Vc.Bs Vc.Ms Vc.Mm Vc.Mu Vc.Me Vc.Es Vc.Rg Vc.Nx Vc.Ta Vc.Ap Vc.Usd Vc.Ust Vc.Cp Vc.Ln Vc.Bc Vc.Bmin Vc.Bmax Vc.Bdel Vc.Bclr Vc.Pk
namespace F06
open Go.Mz Go.Mw
variable {w:World}{L:List HProp}{K:KT}{b:Nat}{o:List UInt8}
theorem idxB:∃ fn,Ev.extK prog 178=some (fn,.idxB):=⟨f178,by kernel_rfl⟩
theorem Zt0 {c:UInt8}(H:Holds w (MtR b o::L)) (hc:c∈o) (k:∀ w',Same w w'->Holds w' (MtR b (frontB o (o.idxOf c))::L)->K (.tuple #[nv (o.idxOf c),iv 0]) w'):Cl prog 142 #[pt b,bv c] w K:=by
 refine Tz142 ?_;unfold Vz142;obtain⟨hl,ov,H1⟩:=Zjw H;obtain⟨fn,hfn⟩:=idxB;refine Za6 (r_vf ?_);refine r_nc (r_fo0 (r_ld 0 H1 rfl rfl ?_));refine Tz157 ?_;unfold Vz157;refine Zzr hfn H1 1 rfl hc ?_;refine r_lss (r_vfD (by omega) ?_);refine touch_spec H (Zx4 hc) λw2 S2 H2=>?_;exact k _ S2 H2
theorem set_mid (A:List Nat) (m x:Nat):(A++List.replicate (m+1) 0).set A.length x=A++[x]++List.replicate m 0:=by
 rw[List.set_append_right _ _ (Nat.le_refl _),Nat.sub_self,List.replicate_succ,gJ];simp
theorem Encode_spec {T:Nat->Bool}{s:List UInt8}(H:Holds w L) (hne:listed T≠[]) (hs:∀ c∈s,c∈listed T) (hl:s.length<=1000000)
  (k:∀ v w',Same w w'->Holds w' (SL nv tI v (mtfE (listed T) s).2::L)->K (.tuple #[v,iv 0]) w'):Cl prog 131 #[.string ⟨s.toArray⟩,.string ⟨(listed T).toArray⟩] w K:=by
 refine Tz131 ?_;unfold Vz131
 have hsz:(⟨s.toArray⟩:ByteArray).size=s.length:=by show s.toArray.size=_;simp
 have hdl:(⟨s.toArray⟩:ByteArray).data.toList=s:=by simp
 refine New_spec H hne λb w1 S1 H1=>?_;refine Za3 (Za4 ?_);refine r_neq (r_vfN rfl ?_);refine r_lns ?_;rw[hsz];refine r_ms (f:=nv) (x:=0) H1 rfl (by omega) (by omega) λq w2 S2 H2=>?_;rw[gC] at H2 ⊢;have H3:=H2.close 0 rfl;simp only[gJ,gP,length_nil,Nat.add_zero] at H3;generalize hv:Value.slice (some ⟨q,0,none⟩) s.length s.length=v at H3 ⊢;refine r_lnS 0 H3 rfl ?_;rw[gP]
 have hinv:∀ i,i<=s.length->(∀ x,x∈(mtfE (listed T) (s.take i)).1↔x∈listed T)/\(mtfE (listed T) (s.take i)).2.length=i:=λi hi=>by
  have:=Zoa (o:=listed T) (s:=s.take i) λc hc=>hs c (mem_of_mem_take hc);exact⟨this.1,by rw[this.2.2.1,gN];omega⟩
 refine Za7 (λx w'=>∃ i:Nat,i<=s.length/\x=nv i/\Same w w'/\Holds w' (SL nv tI v ((mtfE (listed T) (s.take i)).2++List.replicate (s.length - i) 0)::MtR b (mtfE (listed T) (s.take i)).1::L)) (λx _=>s.length - (intOf x).toNat)
  ⟨0,hE _,rfl,S1.trans S2,H3⟩ ?_
 clear H H1 H2 H3 S1 S2;rintro _ _ w3 ⟨i,hi,rfl,S,H⟩;obtain⟨hm,hln⟩:=hinv i hi;refine r_lss (r_ifD (λh=>?_) λh=>?_)
 ·have hlt:i < s.length:=by omega
  refine Zcb (by rw[hsz];exact hlt) ?_;rw[hdl,gB,gA hlt,Option.getD_some];have hc:s[i]∈(mtfE (listed T) (s.take i)).1:=(hm _).2 (hs _ (getElem_mem _));refine Zt0 H.swap hc λw4 S4 H4=>?_;refine Za3 (Za4 ?_);refine r_neq (r_vfN rfl ?_);refine Zam 1 H4 (j:=i) ((mtfE (listed T) (s.take i)).1.idxOf s[i]) rfl (by rw[gD,hln,gP];omega) rfl λw5 S5 H5=>?_;refine Za0 (by omega) ?_
  have hg:s.take (i+1)=s.take i++[s[i]]:=by rw[gO,gA hlt];rfl
  have e1:((mtfE (listed T) (s.take i)).2++List.replicate (s.length - i) 0).set i ((mtfE (listed T) (s.take i)).1.idxOf s[i])=(mtfE (listed T) (s.take (i+1))).2++List.replicate (s.length - (i+1)) 0:=by
   rw[hg,Zgg];have:=set_mid (mtfE (listed T) (s.take i)).2 (s.length - (i+1)) ((mtfE (listed T) (s.take i)).1.idxOf s[i]);rw[hln,show s.length - (i+1)+1=s.length - i by omega] at this;exact this
  have e2:frontB (mtfE (listed T) (s.take i)).1 ((mtfE (listed T) (s.take i)).1.idxOf s[i])=(mtfE (listed T) (s.take (i+1))).1:=by rw[hg,Zgg];rfl
  replace H5:Holds w5 (MtR b (frontB (mtfE (listed T) (s.take i)).1 ((mtfE (listed T) (s.take i)).1.idxOf s[i]))::SL nv tI v (((mtfE (listed T) (s.take i)).2++List.replicate (s.length - i) 0).set i ((mtfE (listed T) (s.take i)).1.idxOf s[i]))::L):=H5;rw[e1,e2] at H5;refine r_ke ⟨⟨i+1,by omega,rfl,(S.trans S4).trans S5,H5.swap⟩,?_⟩;simp only[nv,intOf,gC];omega
 ·obtain rfl:i=s.length:=by omega
  rw[hF_,Nat.sub_self,replicate_zero,gU] at H;exact k _ _ S (Holds.dropAt H 1)
end F06
namespace Z07
open Go.Mz Go.Mw
variable {w:World}{L:List HProp}{K:KT}
theorem Zp9 {m:Nat}(H:Holds w L) (hm:m<=1000000) (k:∀ v w',Same w w'->Holds w' (SL nv tI v (rowZ m)::L)->K v w'):Cl prog 144 #[nv m] w K:=by
 refine Tz144 ?_;unfold Vz144
 refine Zaa (λx o w'=>∃ (j:Nat) (A:List Nat),x=nv j/\j<=m/\A.length+j<=m/\A++rowZ j=rowZ m/\Same w w'/\Holds w' (SL nv tI o A::L)) (λx _ _=>(intOf x).toNat)
  ⟨m,[],rfl,Nat.le_refl _,by simp,rfl,.refl w,H.nilSL nv tI⟩ ?_
 clear H;rintro _ _ o w1 ⟨j,A,rfl,hj,hA,hrow,S,H⟩;refine r_gtr (r_ifD (λh=>?_) λh=>?_)
 rotate_left
 ·obtain rfl:j=0:=by omega
  rw[Zhk,gU] at hrow;subst hrow;exact k _ _ S H
 have hj0:j≠0:=by omega
 rw[Zke hj0] at hrow;refine Za1 (λx w'=>w1=w'/\x=nv (if j%2=1 then 0 else 1)) ?_ ?_
 rotate_left
 ·have hr:((j:Nat):Int).tmod 2=((j%2:Nat):Int):=by rw[Int.tmod_eq_emod_of_nonneg (by omega)];simp
  refine Zgv hr (by omega) ?_;refine r_eql (r_ifE (λh2=>?_) λh2=>?_)
  ·exact r_ke ⟨rfl,by rw[if_pos (by omega)];rfl⟩
  ·exact r_ke ⟨rfl,by rw[if_neg (by omega)];rfl⟩
 rintro _ _ _ ⟨rfl,rfl⟩;refine Zci H 0 rfl (if j%2=1 then 0 else 1) (λ_=>rfl) (by omega) λv2 w2 S2 H2=>?_
 have hc1:(if j%2=1 then 0 else 1:Nat)<=1:=by split <;> omega
 refine r_sub (by omega) (by omega) ?_;refine r_sub (by omega) (by omega) ?_
 have hq:((j:Int) - ((if j%2=1 then 0 else 1:Nat):Int) - 1).tdiv 2=(((j - 1)/2:Nat):Int):=by
  by_cases h2:j%2=1
  ·rw[if_pos h2,Int.tdiv_eq_ediv_of_nonneg (by omega)];omega
  ·rw[if_neg h2,Int.tdiv_eq_ediv_of_nonneg (by omega)];omega
 refine Zik hq (by omega) (by omega) (by omega) ?_;refine r_ke ⟨⟨(j - 1)/2,A++[if j%2=1 then 0 else 1],rfl,by omega,by rw[gD,gQ];omega,by rw[gI];exact hrow,S.trans S2,H2⟩,?_⟩;simp only[nv,intOf,gC];omega
theorem Encode_spec {v:Value}{l:List Nat}{n:Nat}(H:Holds w (SL nv tI v l::L)) (h1:1<=n) (h2:n<=256) (hl:l.length<=1000000) (hp:∀ p∈l,p < n)
  (k:∀ v' w',Same w w'->Holds w' (SL nv tI v' (rowE l n)::SL nv tI v l::L)->K (.tuple #[v',iv 0]) w'):Cl prog 132 #[v,nv n] w K:=by
 refine Tz132 ?_;unfold Vz132;refine r_cl (K:=λx w'=>w=w'/\x=.bool true) ?_ ?_
 ·refine Tz143 ?_;unfold Vz143;refine r_geq (r_vtD (by omega) ?_);refine r_leq ?_;exact⟨rfl,by rw[decide_eq_true (by omega)]⟩
 rintro _ _ ⟨rfl,rfl⟩;refine Zah (r_vf ?_);refine r_lnS 0 H rfl ?_
 have hzl:∀ i,i<=l.length->(zenc (l.take i)).1.length+(zenc (l.take i)).2<=i:=λi hi=>by
  have:=Zpa (l.take i);rw[gN] at this;omega
 refine Zuo (λov zv x w'=>∃ i:Nat,i<=l.length/\x=nv i/\zv=nv (zenc (l.take i)).2/\Same w w'/\Holds w' (SL nv tI ov (zenc (l.take i)).1::SL nv tI v l::L)) (λ_ _ x _=>l.length - (intOf x).toNat)
  ⟨0,hE _,rfl,rfl,.refl w,H.nilSL nv tI⟩ ?_
 clear H;rintro _ ov _ _ w1 ⟨i,hi,rfl,rfl,S,H⟩;have hzi:=hzl i hi;refine r_lss (r_ifD (λh=>?_) λh=>?_)
 ·have hlt:i < l.length:=by omega
  have hg:l[i]?=some l[i]:=gA hlt
  have hgt:l.take (i+1)=l.take i++[l[i]]:=by rw[gO,hg];rfl
  have hpi:=hp _ (getElem_mem hlt);refine Za8 1 H rfl hg ?_;refine Za1 (λx w'=>w1=w'/\x=.bool false) ?_ ?_
  rotate_left
  ·refine r_lss (r_vfD (by omega) ?_);exact r_geq (r_ke ⟨rfl,by rw[decide_eq_false (by omega)]⟩)
  rintro _ _ _ ⟨rfl,rfl⟩;refine r_vf ?_;refine r_eql (r_ifE (λh3=>?_) λh3=>?_)
  ·have e1:zenc (l.take (i+1))=((zenc (l.take i)).1,(zenc (l.take i)).2+1):=by
    rw[hgt,Zf2];unfold zE;rw[if_pos (by omega)]
   refine Za0 (by omega) ?_;refine Za0 (by omega) ?_;refine r_ke ⟨⟨i+1,by omega,rfl,by rw[e1],S,by rw[e1];exact H⟩,?_⟩;simp only[nv,intOf,gC];omega
  ·have e1:zenc (l.take (i+1))=((zenc (l.take i)).1++rowZ (zenc (l.take i)).2++[l[i]+1],0):=by
    rw[hgt,Zf2];unfold zE;rw[if_neg (by omega)]
   have hrl:=Zfz (zenc (l.take i)).2;refine Zp9 H (by omega) λrv w2 S2 H2=>?_;refine r_apS H2 1 0 (by decide) rfl rfl (λ_=>rfl) (by omega) λov2 w3 S3 H3=>?_;replace H3:Holds w3 (SL nv tI rv (rowZ (zenc (l.take i)).2)::SL nv tI ov2 ((zenc (l.take i)).1++rowZ (zenc (l.take i)).2)::SL nv tI v l::L):=H3;refine Za0 (by omega) ?_;refine Zci H3.drop 0 rfl (l[i]+1) (λ_=>rfl) (by rw[gD];omega) λov3 w4 S4 H4=>?_;refine Za0 (by omega) ?_;refine r_ke ⟨⟨i+1,by omega,rfl,by rw[e1];rfl,((S.trans S2).trans S3).trans S4,by rw[e1];exact H4⟩,?_⟩;simp only[nv,intOf,gC];omega
 ·obtain rfl:i=l.length:=by omega
  rw[hF_] at H hzi ⊢;have hrl:=Zfz (zenc l).2;refine Zp9 H (by omega) λrv w2 S2 H2=>?_;refine r_apS H2 1 0 (by decide) rfl rfl (λ_=>rfl) (by omega) λov2 w3 S3 H3=>?_;replace H3:Holds w3 (SL nv tI rv (rowZ (zenc l).2)::SL nv tI ov2 ((zenc l).1++rowZ (zenc l).2)::SL nv tI v l::L):=H3;refine Za0 (by omega) ?_;refine Zci H3.drop 0 rfl (n+1) (λ_=>rfl) (by rw[gD];omega) λov3 w4 S4 H4=>?_;exact k _ _ (((S.trans S2).trans S3).trans S4) H4
end Z07
namespace W20
open Go.M01 Go.Mb Go.M10 Go.Mz Go.Mw Go.Mx Go.Mv Go.Mh F08 Rw T12 W14
variable {w:World}{L:List HProp}{K:KT}{wb n:Nat}{bs:List Bool}
variable [T12.Bnds]
def symsOf (s:List UInt8):List UInt8:=listed (upT s)
def rowOf (s:List UInt8):List Nat:=rowE (mtfE (symsOf s) s).2 (symsOf s).length
theorem Zjx {s:List UInt8}{c:UInt8}(h:c∈s):c∈symsOf s:=by
 have h1:c.toNat < 256:=c.toNat_lt
 have h2:UInt8.ofNat c.toNat=c:=by simp
 unfold symsOf listed;refine mem_map.2 ⟨c.toNat,List.mem_filter.2 ⟨mem_range.2 h1,?_⟩,h2⟩;unfold upT;rw[h2];exact decide_eq_true h
theorem Zoi {s:List UInt8}(h:s≠[]):1<=(symsOf s).length/\(symsOf s).length<=256:=by
 refine⟨?_,Zc3 _⟩
 cases s with
 |nil=>exact absurd rfl h
 |cons c r=>exact List.length_pos_of_mem (Zjx (hJ_ ..))
theorem Zeh (s:List UInt8):(mtfE (symsOf s) s).2.length=s.length/\∀ p∈(mtfE (symsOf s) s).2,p < (symsOf s).length:=by
 have:=Zoa (o:=symsOf s) (s:=s) λc hc=>Zjx hc;exact⟨this.2.2.1,this.2.2.2⟩
theorem Zxq {s:List UInt8}(h:s≠[]) (hl:s.length<=1000000):W14.Row (rowOf s) ((symsOf s).length+2):=by
 obtain⟨h1,h2⟩:=Zoi h;obtain⟨p1,p2⟩:=Zeh s;generalize hn:(symsOf s).length=n at *;have hrl:=Zoq (mtfE (symsOf s) s).2 n
 have hne:rowOf s=(zenc (mtfE (symsOf s) s).2).1++rowZ (zenc (mtfE (symsOf s) s).2).2++[n+1]:=by unfold rowOf rowE;rw[hn]
 have hro:rowOf s=rowE (mtfE (symsOf s) s).2 n:=by unfold rowOf;rw[hn]
 refine⟨by omega,by omega,by rw[hne];simp,by rw[hro];omega,λx hx=>by have:=Zys p2 h1 x (by rw[<-hro];exact hx);omega,λi hi=>?_⟩
 have hA:∀ x∈(zenc (mtfE (symsOf s) s).2).1++rowZ (zenc (mtfE (symsOf s) s).2).2,x<=n:=by
  intro x hx;rcases hT_.1 hx with hx|hx
  ·have:=Zus p2 x hx;omega
  ·have:=Znl _ x hx;omega
 rw[hne] at hi ⊢;generalize (zenc (mtfE (symsOf s) s).2).1++rowZ (zenc (mtfE (symsOf s) s).2).2=A at *;rw[gD,gQ] at hi ⊢;rw[gB];rcases hU_ i A.length with q|q
 ·rw[gM q,gA q];have:=hA _ (getElem_mem q);show A[i]=n+2 - 1↔_;omega
 ·rw[gT q,show i - A.length=0 by omega];show n+1=n+2 - 1↔_;omega
def blockBits (s:List UInt8) (origin sum:Nat) (picks:List Nat) (ts:List (List Nat)):List Bool:=bitsOf sum 32++[false]++bitsOf origin 24++usedB (upT s)++codeBits (rowOf s) picks ts
theorem Zlp (T:Nat->Bool):(usedB T).length<=272:=by
 unfold usedB;rw[gD,Zc1];have:=Zh6 T 16;omega
theorem Zjs {s:List UInt8}{origin sum:Nat}{picks:List Nat}{ts:List (List Nat)}(h:s≠[]) (hl:s.length<=1000000) (hC:Cho (rowOf s) ((symsOf s).length+2) picks ts):(blockBits s origin sum picks ts).length<=200000+30*s.length:=by
 obtain⟨hT,hpl,hpx⟩:=hC.ok;have hR:=Zxq h hl;have h1:=Zkw (l:=rowOf s) hT hR.s258 hpx;have h2:=Zlp (upT s)
 have h3:(rowOf s).length<=s.length+1:=by
  have:=Zoq (mtfE (symsOf s) s).2 (symsOf s).length;rw[(Zeh s).1] at this;exact this
 have h4:nGr (rowOf s)=((rowOf s).length+49)/50:=rfl;unfold blockBits;simp only[gD,Za5,gQ];omega
theorem Turned_spec {s:List UInt8}{origin sum:Nat}(H:Holds w (W01.WrR wb bs n::L)) (hb:BndOk L) (h0:s≠[]) (hl:s.length<=900000) (ho:origin < s.length) (hs:sum < 4294967296) (hbl:bs.length<=8000000000) (hn:n<=bs.length/8)
  (k:∀ picks ts w',Cho (rowOf s) ((symsOf s).length+2) picks ts->Same w w'->Holds w' (W01.WrR wb (bs++blockBits s origin sum picks ts) n::L)->K (iv 0) w'):Cl prog 121 #[pt wb,.string ⟨s.toArray⟩,nv origin,uv sum] w K:=by
 refine Tz121 ?_;unfold Vz121;have hpos:=gZ.2 h0
 have hsz:(⟨s.toArray⟩:ByteArray).size=s.length:=by simp[ByteArray.size]
 have hR:=Zxq h0 (by omega);have hsy:=Zoi h0;refine Za6 (r_vf ?_);refine Za1 (λt w'=>w=w'/\t=.bool false) ?_ ?_
 rotate_left
 ·refine Zfv (r_vfD (by rw[hsz];omega) ?_)
  refine r_lns (by
   rw[hsz];refine r_gtr (r_vfD (by omega) ?_);refine r_lss (r_vfD (by omega) ?_);refine r_lns ?_;rw[hsz]
   exact r_geq (r_ke ⟨rfl,by rw[decide_eq_false (by omega)]⟩))
 rintro _ _ _ ⟨rfl,rfl⟩;refine r_vf ?_;refine U05.Zm4 H (by omega) λw1 S1 H1=>?_;refine F06.Encode_spec (T:=upT s) H1 (λe=>by have:=hsy.1;unfold symsOf at this;rw[e] at this;simp at this) (λc hc=>Zjx hc) (by omega) λpv w2 S2 H2=>?_;refine Za3 (Za4 ?_)
 have hsz2:(⟨(listed (upT s)).toArray⟩:ByteArray).size=(symsOf s).length:=by simp[ByteArray.size,symsOf]
 refine r_lns ?_;rw[hsz2];refine Z07.Encode_spec H2 hsy.1 hsy.2 (by have:=(Zeh s).1;unfold symsOf at this;omega) (Zeh s).2 λrv w3 S3 H3=>?_;refine Za3 (Za4 ?_);replace H3:Holds w3 (SL nv tI rv (rowOf s)::SL nv tI pv (mtfE (symsOf s) s).2::W01.WrR wb bs n::L):=H3;refine r_lns ?_;rw[hsz2];refine Za9 (a:=(symsOf s).length) (b:=2) (by omega) ?_;refine W14.Zu7 H3 (i:=0) hb.up.up.up rfl hR λT w4 S4 H4=>?_;refine Za3 (Za4 ?_);refine r_neq (r_vfN rfl ?_)
 have H5:Holds w4 (W01.WrR wb bs n::SL nv tI rv (rowOf s)::L):=by have h_:=Holds.ord 3 [2,0] H4 rfl;exact h_
 refine W01.Put_spec (v:=sum) (n:=32) H5 (by omega) hn (by omega) (by omega) λw5 S5 H6=>?_;refine W01.Put_spec (v:=0) (n:=1) H6 (by rw[gD,Za5];omega) (by rw[gD];omega) (by omega) (by omega) λw6 S6 H7=>?_;refine Zb4 (by omega) (by omega) ?_;refine W01.Put_spec (v:=origin) (n:=24) H7 (by rw[gD,gD,Za5,Za5];omega) (by rw[gD,gD];omega) (by omega) (by omega) λw7 S7 H8=>?_
 have e1:bitsOf 0 1=[false]:=by decide
 rw[e1] at H8;refine U05.Write_spec H8 (λe=>by have:=hsy.1;unfold symsOf at this;rw[e] at this;simp at this) (by simp only[gD,Za5,gQ];omega) (by simp only[gD];omega) λw8 S8 H9=>?_;refine r_lns ?_;rw[hsz2];refine Za9 (a:=(symsOf s).length) (b:=2) (by omega) ?_;have hu:=Zlp (upT s);refine W14.Write_spec H9 (i:=0) hb.up rfl hR (by simp only[gD,Za5,gQ];omega) (by simp only[gD];omega) λpicks ts w9 hC S9 H10=>?_;refine k picks ts _ hC (S1.trans (S2.trans (S3.trans (S4.trans (S5.trans (S6.trans (S7.trans (S8.trans S9)))))))) ?_;have H11:=Holds.dropAt H10 1;unfold blockBits;simp only[<-gI];exact H11
def padB (l:List Bool):List Bool:=l++List.replicate ((8 - l.length%8)%8) false
theorem Zvj (l:List Bool):(padB l).length%8=0/\(padB l).length<=l.length+7:=by unfold padB;rw[gD,gP];omega
theorem Zvh (H:Holds w (W01.WrR wb bs n::L)) (hl:bs.length<=100000000000) (hn:n<=bs.length/8)
  (k:∀ w',Same w w'->Holds w' (W01.WrR wb (padB bs) n::L)->K (.tuple #[]) w'):Cl prog 112 #[pt wb] w K:=by
 refine Tz112 ?_;unfold Vz112
 refine Zjo (λj w'=>j<=(8 - bs.length%8)%8/\Same w w'/\Holds w' (W01.WrR wb (bs++List.replicate ((8 - bs.length%8)%8 - j) false) n::L)) ((8 - bs.length%8)%8) ⟨Nat.le_refl _,.refl _,by
  rw[Nat.sub_self,replicate_zero,gU];exact H⟩ ?_
 clear H;rintro _ j w1 _ ⟨hj,S1,H1⟩ hgo;generalize hi:(8 - bs.length%8)%8 - j=i at *;refine Zao (r_vt ?_);refine r_nc ?_;obtain⟨wv,H2⟩:=W01.Zjz H1
 have hlen:(bs++List.replicate i false).length=bs.length+i:=by simp
 refine r_fo0 (r_ld 0 H2 rfl rfl ?_);rw[hlen];refine Zgv (r:=(((bs.length+i)%8:Nat):Int)) (by rw[Int.tmod_eq_emod_of_nonneg (by omega)];omega) (by omega) ?_;refine r_neq (r_ifN (λh=>?_) λh=>?_)
 ·refine W01.bit_spec (c:=false) H1 (by rw[hlen];omega) (by rw[hlen];omega) λw2 S2 H3=>?_;refine r_ke (hgo (j - 1) _ (by omega) ⟨by omega,S1.trans S2,?_⟩);rw[show (8 - bs.length%8)%8 - (j - 1)=i+1 by omega,List.replicate_succ',<-gI];exact H3
 ·refine k _ S1 ?_;unfold padB;rw[show (8 - bs.length%8)%8=i by omega];exact H1
end W20
namespace S17
open Go.Mr Go.M18 S16
variable {w:World}{L:List HProp}{K:KT}{b sb:Nat}{s:List UInt8}{x:SS}
abbrev tTu:Nat:=170
def aheadB (s:List UInt8) (a:Nat):UInt8:=if a=0 then s.getD (s.length - 1) 0 else s.getD (a - 1) 0
theorem Zri {a:Nat}(ha:a < s.length):aheadB s a=lastB (rot s a):=by
 unfold aheadB;split
 ·rename_i e;rw[e,Zv6];rfl
 ·rename_i e;have h:=Zhn (s:=s) (a:=a) ha (i:=s.length - 1) (by omega);unfold lastB;rw[Zcx s a (by omega),h]
  congr 1
  rw[Nat.mod_eq_sub_mod (by omega),show a+(s.length - 1) - s.length=a - 1 by omega,Nat.mod_eq_of_lt (by omega)]
theorem Zzt {t e d:TypeId} [hr:Bytes prog t e d] (H:Holds w L) (i:Nat){v:Value}{xs:List UInt8}{K:Value->Prop}
  (hi:L[i]?=some (SL bv e v xs)) (h:K (.string ⟨xs.toArray⟩)):Cv prog t d v w K:=by
 obtain⟨oa,sp,rfl,H1⟩:=H.open i hi;have h0:Cw prog t d (.slice oa xs.length (xs.length+sp.length)) w (λv w'=>v=.string ⟨xs.toArray⟩/\w'=w):=r_cbs H1 i (Za2 hi) rfl ⟨rfl,rfl⟩;unfold Cw at h0;obtain⟨v,w',hr,rfl,rfl⟩:=h0;unfold Cv;exact⟨_,hr,h⟩
theorem Zpv {a:Nat}(h0:s≠[]) (hl:s.length<=1000000) (ha:a < s.length) (k:K (bv (aheadB s a)) w):Cl prog 119 #[St_ s,nv a] w K:=by
 refine Tz119 ?_;unfold Vz119
 have hsz:(⟨s.toArray⟩:ByteArray).size=s.length:=by simp[ByteArray.size]
 have hd:(⟨s.toArray⟩:ByteArray).data.toList=s:=by simp
 unfold aheadB at k;refine r_eql (r_ifE (λh=>?_) λh=>?_)
 ·rw[if_pos (by omega)] at k;refine r_lns ?_;rw[hsz];refine Zab (by omega) (by omega) ?_;refine Zcb (by rw[hsz];omega) ?_;rw[hd];exact k
 ·rw[if_neg (by omega)] at k;refine Zab (by omega) (by omega) ?_;refine Zcb (by rw[hsz];omega) ?_;rw[hd];exact k
def tuL (b:Nat) (s:List UInt8) (sb:Nat) (ov lv:Value) (o:Nat) (order:List Nat) (last:List UInt8):List HProp:=[blk b tTu [St_ s,pt sb,ov,lv,nv o],SL nv tI ov order,SL bv tB lv last]
theorem Zf8 {ov lv:Value}{o:Nat}{order:List Nat}{last:List UInt8}(H:Holds w (tuL b s sb ov lv o order last++L)) (k:∀ w',Same w w'->Holds w' (tuL b s sb ov lv o order last++L)->K (.bool (decide (last.length=s.length))) w'):Cl prog 94 #[pt b] w K:=by
 refine Tz94 ?_;unfold Vz94
 have hsz:(⟨s.toArray⟩:ByteArray).size=s.length:=by simp[ByteArray.size]
 refine r_dr H λw1 S1 H1=>?_;refine Zao (r_vt ?_);refine r_nc (r_fo0 (r_ld 0 H1 rfl rfl ?_));refine r_lnS 2 H1 rfl ?_;refine r_nc (r_fo0 (r_ld 0 H1 rfl rfl ?_));refine r_lns ?_;rw[hsz];refine r_eql ?_;rw[show (((last.length:Nat):Int)==((s.length:Nat):Int))=decide (last.length=s.length) from by rw[Bool.eq_iff_iff,beq_iff_eq,decide_eq_true_iff];omega];exact k _ S1 H1
theorem sg_bv (c:UInt8):sg (bv c)=true:=rfl
theorem take_spec {ov lv:Value}{o a:Nat}{order:List Nat}{last:List UInt8}(H:Holds w (tuL b s sb ov lv o order last++L)) (h0:s≠[]) (hl:s.length<=4000) (hi:order[last.length]?=some a) (ha:a < s.length) (hll:last.length<=4000)
  (k:∀ lv' w',Same w w'->Holds w' (tuL b s sb ov lv' (if a=0 then last.length else o) order (last++[aheadB s a])++L)->K (.tuple #[]) w'):Cl prog 107 #[pt b] w K:=by
 refine Tz107 ?_;unfold Vz107;refine r_nc (r_fo0 (r_ld 0 H rfl rfl ?_));refine r_lnS 2 H rfl ?_;refine r_nc (r_fo0 (r_ld 0 H rfl rfl ?_));refine Za8 1 H rfl hi ?_;refine Zay (λw'=>Same w w'/\Holds w' (tuL b s sb ov lv (if a=0 then last.length else o) order last++L)) ?_ ?_
 ·rintro _ w1 ⟨S1,H1⟩;generalize (if a=0 then last.length else o)=o' at *;refine r_dr H1 λw2 S2 H2=>?_;refine r_nc (r_fo0 (r_ld 0 H2 rfl rfl ?_));refine r_nc (r_fo0 (r_ld 0 H2 rfl rfl ?_));refine Zpv h0 (by omega) ha ?_;refine r_rk (r_ld 0 H2 rfl rfl rfl) ?_;refine r_bs1 H2 (sg_bv _) λb3 w3 S3 H3=>?_;refine r_rk (r_ld 1 H3 rfl rfl rfl) ?_;obtain⟨oa,sp,rfl,H4⟩:=H3.open 3 rfl;refine r_ap (f:=bv) (xs:=last) (ys:=[aheadB s a]) (sp:=sp) H4 3 0 rfl rfl rfl rfl rfl rfl sg_bv (by simp;omega) (by simp) λoa' sp' w4 S4 H5=>?_;have H6:=H5.close 3 rfl
  have hlen:last.length+[aheadB s a].length=(last++[aheadB s a]).length:=by simp
  rw[hlen];refine r_nc (r_fo0 ?_);refine r_st 1 H6 rfl (by simp) rfl λw5 S5 H7=>?_;exact k _ w5 (S1.trans (S2.trans (S3.trans (S4.trans S5)))) H7.drop
 ·refine r_eql (r_ifE (λh=>?_) λh=>?_)
  ·refine r_nc (r_fo0 ?_);refine r_st 0 H rfl (by simp) rfl λw1 S1 H1=>?_;refine r_ke ⟨S1,?_⟩;rw[if_pos (by omega)];exact H1
  ·refine r_ke ⟨.refl _,?_⟩;rw[if_neg (by omega)];exact H
theorem Zsm {s:List UInt8}{o o':Nat}(h:(sortP s s.length)[o]?=some 0) (h':(sortP s s.length)[o']?=some 0):o=o':=by
 obtain⟨p1,p2⟩:=gH.1 h;obtain⟨p3,p4⟩:=gH.1 h';exact (List.getElem_inj (Zmf s _)).1 (p2.trans p4.symm)
end S17
end Go.Proofs.YtpmjeiliblgajaaGreatDoor
namespace Go.M02
def crcStep (s:Nat):Nat:=(s*2%4294967296) ^^^ (s/2147483648*79764919)
def crcN (s:Nat):Nat->Nat
 |0=>s
 |k+1=>crcStep (crcN s k)
def crcTab (b:Nat):Nat:=crcN (b*16777216) 8
def tabL:List Nat:=(List.range 256).map crcTab
theorem Zqo (s:Nat) (h:s < 4294967296):crcStep s < 4294967296:=by
 unfold crcStep
 have h1:s/2147483648<=1:=by omega
 have h2:s/2147483648*79764919<=1*79764919:=Nat.mul_le_mul_right _ h1;exact Nat.xor_lt_two_pow (n:=32) (by omega) (by omega)
theorem Zfo (s:Nat) (h:s < 4294967296):∀ k,crcN s k < 4294967296
 |0=>h
 |k+1=>Zqo _ (Zfo s h k)
theorem Zd0:tabL.length=256:=by simp[tabL]
theorem Zoo (i:Nat) (h:i < 256):tabL[i]?=some (crcTab i):=by simp[tabL,h]
end Go.M02
namespace Go.Proofs.YtpmjeiliblgajaaGreatDoor
open Go Go.Vc Go.Proofs.Tryz
attribute [local irreducible] Vc.Nc Vc.Ld Vc.LdA Vc.St Vc.StA Vc.Fo Vc.Iaa Vc.Ias Vc.Ixs Vc.Ixa Vc.Fd Vc.FdA Vc.Bp Vc.Bb Vc.Bn Vc.Up Vc.Ci Vc.Lns Vc.Lnl Vc.Ex Vc.Sst Vc.Ssl Vc.New Vc.Vif Vc.VJoin Vc.VLoop Vc.KE Vc.Dr Vc.Rk Vc.Cl Vc.Cx Vc.Inv Vc.Be Vc.Cv Vc.Cw Vc.Mf Vc.Sl Vc.Lk Vc.Bd Vc.Bs Vc.Ms Vc.Mm Vc.Mu Vc.Me Vc.Es Vc.Rg Vc.Nx Vc.Ta Vc.Ap Vc.Usd Vc.Ust Vc.Cp Vc.Ln Vc.Bc Vc.Bmin Vc.Bmax Vc.Bdel Vc.Bclr Vc.Pk
namespace W02
open Go.M02
variable {w:World}{L:List HProp}{K:KT}
abbrev tTab:Nat:=121
theorem Zhz (H:Holds w L) (post:∀ w',Same w w'->Holds w' L->K (.agg (tabL.map uv).toArray) w'):Cl prog 53 #[] w K:=by
 refine Tz53 ?_;unfold Vz53
 have hz:(zeroP prog tTab).cells.toList=(List.replicate 256 0).map uv:=by kernel_rfl
 refine r_new H λb1 w1 S1 H1=>?_;rw[hz] at H1;refine r_new H1 λb2 w2 S2 H2=>?_;rw[hz] at H2
 refine Za7 (λx w'=>∃ i:Nat,i<=256/\x=nv i/\Same w w'/\Holds w' (blk b2 tTab ((filled tabL 0 256 i).map uv)::blk b1 tTab ((List.replicate 256 0).map uv)::L))
  (λx _=>256 - (intOf x).toNat) ⟨0,by omega,rfl,S1.trans S2,by rw[Ze6];exact H2⟩ ?_
 clear H H1 H2 S1 S2;rintro _ _ w3 ⟨i,hi,rfl,S,H⟩
 repeat (refine r_lss ?_)
 refine r_ifD (λh=>?_) λh=>?_
 ·have hlt:i < 256:=by omega
  refine Zb4 (by omega) (by omega) ?_;refine Zcd (n:=24) (by omega) ?_;rw[show i*2^24%4294967296=crcN (i*16777216) 0 by show _=i*16777216;omega];refine Zaa (λs x w'=>w3=w'/\∃ j:Nat,j<=8/\x=nv j/\s=uv (crcN (i*16777216) j)) (λ_ x _=>8 - (intOf x).toNat) ⟨rfl,0,by omega,rfl,rfl⟩ ?_;rintro _ _ _ _ ⟨rfl,j,hj,rfl,rfl⟩;have hc:=Zfo (i*16777216) (by omega) j
  repeat (refine r_lss ?_)
  refine r_ifD (λh2=>?_) λh2=>?_
  ·have h3:crcN (i*16777216) j/2147483648<=1:=by omega
   have h4:crcN (i*16777216) j/2147483648*79764919<=1*79764919:=Nat.mul_le_mul_right _ h3;refine Ze1 (n:=31) (by decide) ?_;refine Zcd (n:=1) (by omega) ?_;refine Zwo (t:=79764919) (by omega) ?_;refine Zgc (by omega) (by omega) ?_
   repeat (first|refine r_ke ?_|(refine Za0 (by omega) ?_))
   refine⟨⟨rfl,j+1,by omega,rfl,rfl⟩,?_⟩;simp[nv,intOf];omega
  ·obtain rfl:j=8:=by omega
   repeat (refine Zak (by omega) ?_)
   refine r_st 0 H rfl (by rw[hS_,Zb0 (by omega) Zd0];omega) rfl λw4 S4 H4=>?_
   have hset:((filled tabL 0 256 i).map uv).set (0+i) (uv (crcN (i*16777216) 8))=(filled tabL 0 256 (i+1)).map uv:=by
    rw[Nat.zero_add,<-map_set];exact congrArg (List.map uv) (Zb2 (z:=0) hlt Zd0 (Zoo i hlt))
   rw[gJ,hset] at H4
   repeat (first|refine r_ke ?_|(refine Za0 (by omega) ?_))
   refine⟨⟨i+1,by omega,rfl,S.trans S4,H4⟩,?_⟩;simp[nv,intOf];omega
 ·obtain rfl:i=256:=by omega
  rw[Zct Zd0] at H
  have hl:(tabL.map uv).length=256:=by simp[Zd0]
  refine r_ldA 0 H (tabL.map uv) rfl (by rw[drop_zero,gK (by omega)]) hl ?_;refine r_stA 1 H (vs:=tabL.map uv) rfl (Nat.le_of_eq (by rw[hS_,gP])) hl (by kernel_rfl) λw4 S4 H4=>?_
  have hset:setL ((List.replicate 256 0).map uv) 0 (tabL.map uv)=tabL.map uv:=by kernel_rfl
  rw[gW,gJ,hset] at H4;refine r_ldA 1 H4 (tabL.map uv) rfl (by rw[drop_zero,gK (by omega)]) hl ?_;exact post _ (S.trans S4) H4.drop.drop
end W02
end Go.Proofs.YtpmjeiliblgajaaGreatDoor
