/- Several texts in one: So, Mn, Mw, W16, W6b, W6c, W13, W8c, W12, W8g, Rw, W2f, W2r, W2o, W14, W05, W06, W20, W17, K18, B18, P36. -/
import Derived.Test.YtgaiocpkjaaphaaGreatDoorMG0
import Derived.Test.YtgaiocpkjaaphaaGreatDoorMG1
import Derived.Test.YtgaiocpkjaaphaaGreatDoorMG2
set_option linter.unusedVariables false
set_option linter.unusedSimpArgs false
open Go.RowKit (intOf)
open List (drop_zero eraseIdx_cons_succ eraseIdx_set_eq ext_getElem? flatMap_nil getElem?_eq_none getElem?_range getElem?_set getElem_mem length_cons length_nil length_reverse map_append map_nil map_set mem_cons mem_map mem_of_mem_take mem_range mem_singleton range_succ replicate_zero reverse_cons set_append_right set_getElem_self set_set take_zero)
namespace Go.Vc
section
variable {α:Type}{P:Program}{w:World}{L:List HProp}
theorem r_apO {t e:TypeId}{z:Value} [hr:Row P t e z] (H:Holds w L) (i j:Nat){f:α->Value}{oa:Option Addr}{xs ys:List α}{sp:List Value}{l c m c' b2 o2:Nat}{cs:List Value}{ty:TypeId}{K:KT}
  (hi:L[i]?=some (slb f e oa xs sp)) (hj:L[j]?=some (blk b2 e cs)) (hcs:(cs.drop o2).take m=ys.map f) (hm:m=ys.length) (hl:l=xs.length) (hc:c=xs.length+sp.length) (hs:∀ y,sg (f y)=true)
  (hn:xs.length+ys.length<=1099511627776) (hne:0 < ys.length)
  (h:∀ oa' sp' w',Same w w'->Holds w' (L.set i (slb f e oa' (xs++ys) sp'))->K (.slice oa' (xs.length+ys.length) (xs.length+ys.length+sp'.length)) w') :
  Ap P #[t,t] ty #[.slice oa l c,.slice (some ⟨b2,o2,none⟩) m c'] w K:=by
 subst hl hc hm;obtain⟨inf,hinf,hsz,hby,hzz⟩:=hr.inf
 have hnews:∀ k u,(ys.map f)[k]?=some u->w.cell? ((⟨b2,o2,none⟩:Addr).add k)=some u:=by
  intro k u hu
  have e1:(⟨b2,o2,none⟩:Addr).add k=⟨b2,o2+k,none⟩:=by
   unfold Addr.add;split
   ·rename_i h;rw[h];rfl
   ·rfl
  rw[e1,H.cell j hj (o2+k)]
  have hk:k < ys.length:=by have:=(gH.1 hu).1;simpa using this
  rw[<-hu,<-hcs,hI_ hk,hH_]
 have hmul:(xs.length+ys.length)*inf.bytes<=140737488355328:=
  Nat.le_trans (Nat.mul_le_mul_left _ hby) (by omega)
 have grow:∀ (b:Addr) (olds:List Value),olds=xs.map f->(∀ k v,olds[k]?=some v->w.cell? (b.add k)=some v)->sp.length < ys.length->
   (∃ o,L[i]?=some o)->Ap P #[t,t] ty #[.slice (some b) xs.length (xs.length+sp.length),.slice (some ⟨b2,o2,none⟩) ys.length c'] w K:=by
  intro b olds ho hold hg _;subst ho
  have hrun:=run_append_grow (P:=P) w t ty e inf z hr.und hinf hzz b xs.length (xs.length+sp.length) (xs.map f) (by simp[hsz]) hold
   ⟨b2,o2,none⟩ ys.length c' (ys.map f) (by simp[hsz]) hnews (by omega) (by omega) (growslice_fits (by omega) hmul)
  refine⟨_,_,hrun,?_⟩;have hcap:=grownCap_ge w (xs.length+ys.length) (xs.length+sp.length) e;generalize grownCap w (xs.length+ys.length) (xs.length+sp.length) e=cap at hcap ⊢
  have hz2:Builtin.zeroCells z.cells (cap - (xs.length+ys.length))=(List.replicate (cap - (xs.length+ys.length)) z).toArray:=by
   rw[hr.one];apply Array.ext
   ·simp[Builtin.zeroCells]
   ·intro j h1 h2;simp[Builtin.zeroCells,Nat.mod_one]
  have hcells:((xs.map f).toArray++(ys.map f).toArray++Builtin.zeroCells z.cells (cap - (xs.length+ys.length)))=((xs++ys).map f++List.replicate (cap - (xs.length+ys.length)) z).toArray:=by
   rw[hz2];simp
  rw[hcells];have H1:Holds w.drew L:=H.same rfl;have H2:=H1.alloc (.cells ((xs++ys).map f++List.replicate (cap - (xs.length+ys.length)) z).toArray e)
  have H3:Holds (w.drew.alloc (.cells ((xs++ys).map f++List.replicate (cap - (xs.length+ys.length)) z).toArray e)) (L.set i (slb f e (some ⟨w.heap.size,0,none⟩) (xs++ys) (List.replicate (cap - (xs.length+ys.length)) z))):=by
   have H4:=(Holds.imp H2 (Q:=slb f e (some ⟨w.heap.size,0,none⟩) (xs++ys) (List.replicate (cap - (xs.length+ys.length)) z)) λg hg=>⟨rfl,rfl,hg⟩);have H5:=H4.dropAt (i+1);rw[eraseIdx_cons_succ] at H5;exact Sat.push i hi H5
  have:=h (some ⟨w.heap.size,0,none⟩) (List.replicate (cap - (xs.length+ys.length)) z) _ ((Same.drew w).trans (.alloc _ _)) H3
  have hc2:xs.length+ys.length+(List.replicate (cap - (xs.length+ys.length)) z).length=cap:=by simp;omega
  rw[hc2] at this;exact this
 cases oa with
 |none=>
  obtain⟨g,⟨h2,h3⟩,_⟩:=H.front i hi;subst h2;subst h3;simp only[length_nil,Nat.zero_add,hO_] at hn hmul h ⊢;have hrun:=run_append_nil (P:=P) w t ty e inf z hr.und hinf hzz ⟨b2,o2,none⟩ ys.length c' (ys.map f) (by simp[hsz]) hnews (by omega) (by omega) (by omega);refine⟨_,_,hrun,?_⟩;have hcap:=grownCap_ge w ys.length 0 e;generalize grownCap w ys.length 0 e=cap at hcap ⊢
  have hz2:Builtin.zeroCells z.cells (cap - ys.length)=(List.replicate (cap - ys.length) z).toArray:=by
   rw[hr.one];apply Array.ext
   ·simp[Builtin.zeroCells]
   ·intro j h1 h2;simp[Builtin.zeroCells,Nat.mod_one]
  have hcells:((ys.map f).toArray++Builtin.zeroCells z.cells (cap - ys.length))=(ys.map f++List.replicate (cap - ys.length) z).toArray:=by
   rw[hz2];simp
  rw[hcells];have H2:=(H.same (w':=w.drew) rfl).alloc (.cells (ys.map f++List.replicate (cap - ys.length) z).toArray e);have H4:=(Holds.imp H2 (Q:=slb f e (some ⟨w.heap.size,0,none⟩) ys (List.replicate (cap - ys.length) z)) λg hg=>⟨rfl,rfl,hg⟩);have H5:=H4.dropAt (i+1);rw[eraseIdx_cons_succ] at H5;have:=h (some ⟨w.heap.size,0,none⟩) (List.replicate (cap - ys.length) z) _ ((Same.drew w).trans (.alloc _ _)) (Sat.push i hi H5)
  have hc2:ys.length+(List.replicate (cap - ys.length) z).length=cap:=by simp;omega
  rw[hc2] at this;exact this
 |some a=>
  obtain⟨g,⟨h2,h3,_⟩,_⟩:=H.front i hi;obtain⟨b,o,s⟩:=a;simp only at h2 h3;subst h2;subst h3;have Hb:=H.slb i hi;have hgi:(L.set i (blk b e (xs.map f++sp)))[i]?=some (blk b e (xs.map f++sp)):=Za5 hi
  have hold:∀ k v,(xs.map f)[k]?=some v->w.cell? ((⟨b,0,none⟩:Addr).add k)=some v:=by
   intro k v hv
   have e1:(⟨b,0,none⟩:Addr).add k=⟨b,k,none⟩:=by
    unfold Addr.add;split
    ·rename_i h;rw[h]
    ·simp
   rw[e1,Hb.cell i hgi k,gM (by simpa using (gH.1 hv).1)];exact hv
  rcases hU_ sp.length ys.length with hg|hg
  ·exact grow ⟨b,0,none⟩ _ rfl hold hg ⟨_,hi⟩
  ·have hobj:=Hb.obj i hgi
   have hrun:=run_append_room (P:=P) w t ty e inf hr.und hinf b xs.length (xs.length+sp.length) (xs.map f++sp).toArray hobj
    ⟨b2,o2,none⟩ ys.length c' (ys.map f) (by simp[hsz]) hnews (by simpa using λy _=>Zwx (hs y)) (by omega) (by simp[hsz];omega)
   refine⟨_,_,hrun,?_⟩
   have hcells:(((xs.map f++sp).toArray.toList.take (xs.length*inf.size)++ys.map f++(xs.map f++sp).toArray.toList.drop (xs.length*inf.size+(ys.map f).length)).toArray)=((xs++ys).map f++sp.drop ys.length).toArray:=by
    rw[hsz];simp[List.take_append,List.drop_append]
   rw[hcells]
   have H3:Holds (w.setRow b ((xs++ys).map f++sp.drop ys.length).toArray) (L.set i (slb f e (some ⟨b,0,none⟩) (xs++ys) (sp.drop ys.length))):=by
    have:=Hb.upd (w':=w.setRow b ((xs++ys).map f++sp.drop ys.length).toArray) i hgi (o':=.cells ((xs++ys).map f++sp.drop ys.length).toArray e) (setRow_heap w b _ _ e _ hobj) λc hc=>setRow_other w b c _ hc;have h4:=Holds.slb' (f:=f) (e:=e) (b:=b) (xs:=xs++ys) (sp:=sp.drop ys.length) this i (by rw[set_set];exact Za5 hi);simpa [set_set] using h4
   have hlen:xs.length+sp.length=xs.length+ys.length+(sp.drop ys.length).length:=by simp;omega
   rw[hlen];exact h _ _ _ ⟨rfl,rfl,rfl,by simp⟩ H3
end
end Go.Vc
namespace Go.Mh
open Go.M10
def sm (n:Nat) (f:Nat->Nat):Nat:=((List.range n).map f).sum
theorem Zds (n:Nat) (f:Nat->Nat):sm (n+1) f=sm n f+f n:=by unfold sm;rw[range_succ,map_append,List.sum_append];simp
theorem Zhk {f g:Nat->Nat}:∀ n,(∀ i,i < n->f i=g i)->sm n f=sm n g
 |0,_=>rfl
 |n+1,h=>by rw[Zds,Zds,Zhk n λi hi=>h i (by omega),h n (by omega)]
theorem Ybg (f g:Nat->Nat):∀ n,sm n (λi=>f i+g i)=sm n f+sm n g
 |0=>rfl
 |n+1=>by rw[Zds,Zds,Zds,Ybg f g n];omega
theorem Zvs (c:Nat) (f:Nat->Nat):∀ n,sm n (λi=>c*f i)=c*sm n f
 |0=>rfl
 |n+1=>by rw[Zds,Zds,Zvs c f n,Nat.mul_add]
structure Kr (n E:Nat) (s:HS) (k:Nat) (ρ δ:Nat->Nat):Prop where
 up:∀ i,i < n->Up s.I i (δ i) (ρ i)/\ρ i∈s.V/\δ i<=k
 sum:∀ x∈s.V,sm n (λi=>if ρ i=x then 2^(E - δ i) else 0)=2^E
theorem kr0 (w:List Nat) (E:Nat):Kr w.length E (h0 w) 0 id λ_=>0:=by
 refine⟨λi hi=>⟨.here i,mem_range.2 hi,Nat.le_refl _⟩,λx hx=>?_⟩;have hx:x < w.length:=mem_range.1 hx
 have h:∀ n,sm n (λi=>if id i=x then 2^(E - 0) else 0)=if x < n then 2^E else 0:=by
  intro n
  induction n with
  |zero=>rfl
  |succ n ih=>
   rw[Zds,ih]
   by_cases q:n=x
   ·subst q;rw[if_neg (Nat.lt_irrefl _),if_pos (show id n=n from rfl),if_pos (Nat.lt_succ_self _),Nat.zero_add,Nat.sub_zero]
   ·rw[if_neg (show ¬ id n=x from q)]
    by_cases g:x < n
    ·rw[if_pos g,if_pos (by omega)];rfl
    ·rw[if_neg g,if_neg (by omega)]
 rw[h,if_pos hx]
theorem Yd5 {n E k:Nat}{s s':HS}{a b:Nat}{ρ δ:Nat->Nat}(hg:Good s) (j:Join s s' a b) (hk:k < E) (h:Kr n E s k ρ δ):∃ ρ' δ',Kr n E s' (k+1) ρ' δ':=by
 have hne:=Zid hg j;have hbm:b∈s.V:=List.mem_of_mem_erase j.lb.1;have hal:=hg.lt a j.la.1;have hbl:=hg.lt b hbm
 have hmem:∀ x,x∈s'.V↔x=s.W.length\/(x∈s.V/\x≠a/\x≠b):=by
  intro x;rw[j.V.mem_iff,mem_cons,(hg.nodup.erase a).mem_erase_iff,hg.nodup.mem_erase_iff]
  constructor
  ·rintro (h|⟨h1,h2,h3⟩)
   ·exact .inl h
   ·exact .inr ⟨h3,h2,h1⟩
  ·rintro (h|⟨h1,h2,h3⟩)
   ·exact .inl h
   ·exact .inr ⟨h3,h2,h1⟩
 have hpar:s'.I[a]?=some (some s.W.length)/\s'.I[b]?=some (some s.W.length):=by
  have hIl:=hg.len
  constructor
  ·rw[j.I,gM (by rw[hX_,hX_];omega),getElem?_set,if_neg (Ne.symm hne),List.getElem?_set_self (by omega)]
  ·rw[j.I,gM (by rw[hX_,hX_];omega),List.getElem?_set_self (by rw[hX_];omega)]
 refine⟨λi=>if ρ i=a\/ρ i=b then s.W.length else ρ i,λi=>if ρ i=a\/ρ i=b then δ i+1 else δ i,λi hi=>?_,λx hx=>?_⟩
 ·obtain⟨h1,h2,h3⟩:=h.up i hi;have h4:=h1.join hg j;show Up s'.I i (if ρ i=a\/ρ i=b then δ i+1 else δ i) (if ρ i=a\/ρ i=b then s.W.length else ρ i)/\(if ρ i=a\/ρ i=b then s.W.length else ρ i)∈s'.V/\(if ρ i=a\/ρ i=b then δ i+1 else δ i)<=k+1
  by_cases q:ρ i=a\/ρ i=b
  ·simp only[if_pos q];refine⟨h4.snoc ?_,(hmem _).2 (.inl rfl),by omega⟩;rcases q with q|q
   ·rw[q];exact hpar.1
   ·rw[q];exact hpar.2
  ·simp only[if_neg q];exact⟨h4,(hmem _).2 (.inr ⟨h2,λe=>q (.inl e),λe=>q (.inr e)⟩),by omega⟩
 ·rcases (hmem x).1 hx with rfl|⟨h1,h2,h3⟩
  ·have ha:=h.sum a j.la.1;have hb:=h.sum b hbm
   have e:sm n (λi=>2*if (if ρ i=a\/ρ i=b then s.W.length else ρ i)=s.W.length then 2^(E - if ρ i=a\/ρ i=b then δ i+1 else δ i) else 0) =
     sm n (λi=>(if ρ i=a then 2^(E - δ i) else 0)+if ρ i=b then 2^(E - δ i) else 0):=by
    refine Zhk n λi hi=>?_;obtain⟨_,g2,g3⟩:=h.up i hi;have g4:=hg.lt _ g2
    have g5:2*2^(E - (δ i+1))=2^(E - δ i):=by
     rw[show E - δ i=(E - (δ i+1))+1 by omega,Nat.pow_succ,Nat.mul_comm]
    by_cases q1:ρ i=a
    ·have q2:¬ ρ i=b:=λe=>hne (q1.symm.trans e);have q3:ρ i=a\/ρ i=b:=.inl q1;simp only[if_pos q3,if_pos q1,if_neg q2,if_true];rw[g5,Nat.add_zero]
    ·by_cases q2:ρ i=b
     ·have q3:ρ i=a\/ρ i=b:=.inr q2;simp only[if_pos q3,if_neg q1,if_pos q2,if_true];rw[g5,Nat.zero_add]
     ·have q3:¬ (ρ i=a\/ρ i=b):=λe=>e.elim q1 q2
      have q4:¬ ρ i=s.W.length:=by omega
      simp only[if_neg q3,if_neg q1,if_neg q2,if_neg q4]
   rw[Zvs,Ybg,ha,hb] at e;omega
  ·rw[<-h.sum x h1];refine Zhk n λi hi=>?_;obtain⟨_,g2,_⟩:=h.up i hi;have g4:=hg.lt _ g2;have g5:=hg.lt _ h1
   by_cases q:ρ i=a\/ρ i=b
   ·have q2:¬ ρ i=x:=λe=>by
     rcases q with q|q
     ·exact h2 (e.symm.trans q)
     ·exact h3 (e.symm.trans q)
    have q3:¬ s.W.length=x:=by omega
    simp only[if_pos q,if_neg q2,if_neg q3]
   ·simp only[if_neg q]
theorem Zyu {w:List Nat}{E k:Nat}{s:HS}(h:Joins (h0 w) k s) (hk:k<=E):∃ ρ δ,Kr w.length E s k ρ δ:=by
 induction h with
 |start=>exact⟨_,_,kr0 w E⟩
 |next h j ih=>
  obtain⟨ρ,δ,hK⟩:=ih (by omega);exact Yd5 (Zbu h).1 j (by omega) hK
theorem Yap (out:List Nat):share out=sm out.length λi=>2^(20 - out.getD i 0):=by
 unfold share sm
 congr 1
 apply ext_getElem?;intro i;rw[hV_,hV_];rcases hU_ i out.length with q|q
 ·rw[getElem?_range q,gA q];show some (2^(20 - out[i]))=some (2^(20 - out.getD i 0));rw[gB,gA q];rfl
 ·rw[getElem?_eq_none q,getElem?_eq_none (by simpa using q)];rfl
theorem Zo5 {w out:List Nat}(hw:2<=w.length) (h:Depths w out) (h20:∀ x∈out,x<=20):Whole out:=by
 have hpos:=Zkj hw h;refine⟨λx hx=>⟨hpos x hx,h20 x hx⟩,?_⟩;obtain⟨s,r,hj,hr,hl,hu⟩:=h;obtain⟨ρ,δ,hK⟩:=Zyu (E:=w.length+20) hj (by omega);have hg:=(Zbu hj).1
 have hroot:∀ p,s.I[r]?≠some (some p):=λp e=>by rw[hg.live r (by rw[hr];exact mem_singleton.2 rfl)] at e;cases e
 have hs:=hK.sum r (by rw[hr];exact mem_singleton.2 rfl)
 have e:sm w.length (λi=>if ρ i=r then 2^(w.length+20 - δ i) else 0)=sm w.length λi=>2^w.length*2^(20 - out.getD i 0):=by
  refine Zhk _ λi hi=>?_;obtain⟨g1,g2,_⟩:=hK.up i hi
  have g3:ρ i=r:=by rw[hr] at g2;exact mem_singleton.1 g2
  rw[if_pos g3];rw[g3] at g1;have g4:=g1.uniq hroot (hu i hi)
  have g5:out.getD i 0<=20:=by rw[gB,gA (by omega)];exact h20 _ (getElem_mem _)
  rw[g4,<-Nat.pow_add]
  congr 1
  omega
 rw[hs,Zvs,Nat.pow_add] at e;have:=Nat.eq_of_mul_eq_mul_left (Nat.pow_pos (by decide)) e;rw[Yap,hl,<-this]
theorem Zna {w out:List Nat}(h:LensOf w out):2<=w.length->Whole out:=by
 induction h with
 |fit h hl=>exact λhw=>Zo5 hw h hl
 |more h hl r ih=>exact λhw=>ih (by unfold halved;rw[hS_];exact hw)
end Go.Mh
namespace Go.Mw
open Go.Mz
def mE (x:List UInt8 × List Nat) (c:UInt8):List UInt8 × List Nat:=(frontB x.1 (x.1.idxOf c),x.2++[x.1.idxOf c])
def mtfE (o s:List UInt8):List UInt8 × List Nat:=s.foldl mE (o,[])
theorem Zd3 (o s:List UInt8) (c:UInt8):mtfE o (s++[c])=mE (mtfE o s) c:=by simp[mtfE]
theorem Zuw {o:List UInt8}{i:Nat}(hi:i < o.length) (x:UInt8):x∈frontB o i↔x∈o:=by
 unfold frontB
 have e:o=o.take i++o.getD i 0::o.drop (i+1):=by
  conv=>lhs;rw[<-hN_ i o]
  rw[List.drop_eq_getElem_cons hi,gB,gA hi];rfl
 conv=>rhs;rw[e]
 simp only[mem_cons,hT_]
 constructor
 ·rintro (h|h|h)
  ·exact .inr (.inl h)
  ·exact .inl h
  ·exact .inr (.inr h)
 ·rintro (h|h|h)
  ·exact .inr (.inl h)
  ·exact .inl h
  ·exact .inr (.inr h)
theorem Zn3 {o:List UInt8}{c:UInt8}(h:c∈o):o.idxOf c < o.length:=List.idxOf_lt_length_of_mem h
theorem Yb8 {o:List UInt8}{c:UInt8}(h:c∈o):o.getD (o.idxOf c) 0=c:=by
 rw[gB,gA (Zn3 h)];simp
theorem Zhl {o s:List UInt8}(h:∀ c∈s,c∈o):(∀ x,x∈(mtfE o s).1↔x∈o)/\(mtfE o s).1.length=o.length/\(mtfE o s).2.length=s.length/\∀ p∈(mtfE o s).2,p < o.length:=by
 have key:∀ i,i<=s.length->(∀ x,x∈(mtfE o (s.take i)).1↔x∈o)/\(mtfE o (s.take i)).1.length=o.length/\(mtfE o (s.take i)).2.length=i/\∀ p∈(mtfE o (s.take i)).2,p < o.length:=by
  intro i
  induction i with
  |zero=>intro _;exact⟨λx=>Iff.rfl,rfl,rfl,λp hp=>by simp[mtfE] at hp⟩
  |succ i ih=>
   intro hi;obtain⟨h1,h2,h3,h4⟩:=ih (by omega)
   have hg:s.take (i+1)=s.take i++[s[i]]:=by rw[gO,gA (by omega)];rfl
   have hm:s[i]∈(mtfE o (s.take i)).1:=(h1 _).2 (h _ (getElem_mem _));have hlt:=Zn3 hm;rw[hg,Zd3];unfold mE;refine⟨λx=>by rw[Zuw hlt];exact h1 x,by rw[Zgm hlt];exact h2,by rw[gD,h3];rfl,λp hp=>?_⟩;rcases hT_.1 hp with hp|hp
   ·exact h4 p hp
   ·rw[mem_singleton.1 hp];omega
 have:=key s.length (Nat.le_refl _)
 rwa [hF_] at this
def rowZ (m:Nat):List Nat:=if h:m=0 then [] else (if m%2=1 then 0 else 1)::rowZ ((m - 1)/2)
termination_by m
decreasing_by omega
theorem Zd7:rowZ 0=[]:=by rw[rowZ];rfl
theorem Zg1 {m:Nat}(h:m≠0):rowZ m=(if m%2=1 then 0 else 1)::rowZ ((m - 1)/2):=by
 rw[rowZ,dif_neg h]
theorem Zdi (m:Nat):(rowZ m).length<=m:=by
 induction m using Nat.strongRecOn with
 |_ m ih=>
  by_cases h:m=0
  ·subst h;rw[Zd7];exact Nat.le_refl _
  ·rw[Zg1 h,length_cons];have:=ih ((m - 1)/2) (by omega);omega
theorem Zil (m:Nat):∀ c∈rowZ m,c<=1:=by
 induction m using Nat.strongRecOn with
 |_ m ih=>
  by_cases h:m=0
  ·subst h;rw[Zd7];intro c hc;cases hc
  ·rw[Zg1 h];intro c hc;rcases mem_cons.1 hc with hc|hc
   ·rw[hc];split <;> omega
   ·exact ih _ (by omega) c hc
def zE (x:List Nat × Nat) (p:Nat):List Nat × Nat:=if p=0 then (x.1,x.2+1) else (x.1++rowZ x.2++[p+1],0)
def zenc (l:List Nat):List Nat × Nat:=l.foldl zE ([],0)
theorem Zcl (l:List Nat) (p:Nat):zenc (l++[p])=zE (zenc l) p:=by simp[zenc]
def rowE (l:List Nat) (n:Nat):List Nat:=(zenc l).1++rowZ (zenc l).2++[n+1]
theorem Zly (l:List Nat):(zenc l).1.length+(zenc l).2<=l.length:=by
 have key:∀ i,i<=l.length->(zenc (l.take i)).1.length+(zenc (l.take i)).2<=i:=by
  intro i
  induction i with
  |zero=>intro _;exact Nat.le_refl _
  |succ i ih=>
   intro hi
   have hg:l.take (i+1)=l.take i++[l[i]]:=by rw[gO,gA (by omega)];rfl
   have h1:=ih (by omega);rw[hg,Zcl];unfold zE;have h2:=Zdi (zenc (l.take i)).2;split
   ·simp only;omega
   ·simp only[gD,gQ];omega
 have:=key l.length (Nat.le_refl _)
 rwa [hF_] at this
theorem Zv7 {l:List Nat}{n:Nat}(h:∀ p∈l,p < n):∀ c∈(zenc l).1,c<=max n 1:=by
 have key:∀ i,i<=l.length->∀ c∈(zenc (l.take i)).1,c<=max n 1:=by
  intro i
  induction i with
  |zero=>intro _ c hc;simp[zenc] at hc
  |succ i ih=>
   intro hi
   have hg:l.take (i+1)=l.take i++[l[i]]:=by rw[gO,gA (by omega)];rfl
   rw[hg,Zcl];unfold zE;split
   ·exact ih (by omega)
   ·intro c hc;have hp:=h l[i] (getElem_mem _);rcases hT_.1 hc with hc|hc
    ·rcases hT_.1 hc with hc|hc
     ·exact ih (by omega) c hc
     ·have:=Zil _ c hc;omega
    ·rw[mem_singleton.1 hc];omega
 have:=key l.length (Nat.le_refl _)
 rwa [hF_] at this
theorem Zl1 (l:List Nat) (n:Nat):(rowE l n).length<=l.length+1:=by
 have h1:=Zly l;have h2:=Zdi (zenc l).2;unfold rowE;simp only[gD,gQ];omega
theorem Ycc {l:List Nat}{n:Nat}(h:∀ p∈l,p < n) (hn:1<=n):∀ c∈rowE l n,c<=n+1:=by
 intro c hc;unfold rowE at hc;rcases hT_.1 hc with hc|hc
 ·rcases hT_.1 hc with hc|hc
  ·have:=Zv7 h c hc;omega
  ·have:=Zil _ c hc;omega
 ·rw[mem_singleton.1 hc];omega
end Go.Mw
namespace Go.Proofs.YtgaiocpkjaaphaaGreatDoor
open Go Go.Vc Go.Proofs.Tryz
attribute [local irreducible] Vc.Nc Vc.Ld Vc.LdA Vc.St Vc.StA Vc.Fo Vc.Iaa Vc.Ias Vc.Ixs Vc.Ixa Vc.Fd Vc.FdA Vc.Bp Vc.Bb Vc.Bn Vc.Up Vc.Ci Vc.Lns Vc.Lnl Vc.Ex Vc.Sst Vc.Ssl Vc.New Vc.Vif Vc.VJoin Vc.VLoop Vc.KE Vc.Dr Vc.Rk Vc.Cl Vc.Cx Vc.Inv Vc.Be Vc.Cv Vc.Cw Vc.Mf Vc.Sl Vc.Lk Vc.Bd Vc.Bs Vc.Ms Vc.Mm Vc.Mu Vc.Me Vc.Es Vc.Rg Vc.Nx Vc.Ta Vc.Ap Vc.Usd Vc.Ust Vc.Cp Vc.Ln Vc.Bc Vc.Bmin Vc.Bmax Vc.Bdel Vc.Bclr Vc.Pk
namespace S16
open Go.Mr Go.M18
variable {w:World}{L:List HProp}{K:KT}{b n:Nat}{s:List UInt8}{x:SS}
section
variable {α:Type}{P:Program}
theorem Ydw (i:Nat) (H:Holds w L){F:α->List Value}{k:Nat}{e:TypeId}{v:Value}{ys:List α}{p:α}(hF:∀ y,(F y).length=k) (hi:L[i]?=some (RW F k e v (ys++[p]))) :
  ∃ oa c,v=.slice oa (ys.length+1) c/\ys.length+1<=c/\Holds w (L.set i (RW F k e (.slice oa ys.length c) ys)):=by
 obtain⟨oa,m,sp,rfl,H1⟩:=H.openRW i hi;refine⟨oa,(ys++[p]).length+m,by rw[gD,gQ],by rw[gD,gQ];omega,?_⟩
 have h2:=H1.at i (Za5 hi) (Q:=RW F k e (.slice oa ys.length ((ys++[p]).length+m)) ys) λg hg=>by
  refine⟨oa,m+1,F p++sp,by rw[gD,gQ,show ys.length+1+m=ys.length+(m+1) by omega],?_⟩
  cases oa with
  |none=>
   obtain⟨h,_⟩:=hg;simp at h
  |some a=>
   obtain⟨h1,h2,h3,h4⟩:=hg;refine⟨h1,h2,by rw[gD,hF,h3,Nat.add_mul];omega,?_⟩;rw[Zfy] at h4
   have e1:flatL F [p]=F p:=by simp[flatL]
   rw[e1,gI] at h4;exact h4
 rw[set_set] at h2;exact h2
theorem Ydk (i:Nat) (H:Holds w L){F:α->List Value}{k:Nat}{e:TypeId}{v:Value}{xs:List α}{q j:Nat}{kk:IntKind}{y:α}{u:Value}{K:Value->Prop}(hi:L[i]?=some (RW F k e v xs)) (hx:xs[q]?=some y) (hF:∀ y,(F y).length=k)
  (hj:(F y)[j]?=some u) (h:K u):Ias k v (.int kk (q:Int)) λp=>Fo j p λz=>Ld z w K:=by
 have hlt:q < xs.length:=(gH.1 hx).1;obtain⟨oa,m,sp,rfl,H1⟩:=H.openRW i hi;obtain⟨bb,rfl,hsp,Hb⟩:=H1.rwb i (Za5 hi) (.inl (by omega));refine Zwi hlt (r_fo ?_);refine r_ld i Hb (Za5 (Za5 hi)) ?_ h;have h1:=Zga hF xs q y hx
 have hjk:j < k:=by rw[<-hF y];exact (gH.1 hj).1
 have hlen:=Zdx (k:=k) hF xs
 have hq:q*k+k<=xs.length*k:=by
  have:(q+1)*k<=xs.length*k:=Nat.mul_le_mul_right _ (by omega);rw[Nat.add_mul,Nat.one_mul] at this;exact this
 rw[gM (by omega),<-hj,<-h1,hI_ hjk,hH_]
end
abbrev tSo:Nat:=250
abbrev tPt:Nat:=248
abbrev tK:Nat:=51
instance rowPt:RowN prog 246 tPt 3:=⟨by kernel_rfl,⟨t248,.agg #[iv 0,iv 0,iv 0],by kernel_rfl,by kernel_rfl,by decide,by kernel_rfl,by kernel_rfl⟩⟩
abbrev St_ (s:List UInt8):Value:=.string ⟨s.toArray⟩
def Fp (p:Pt):List Value:=[nv p.lo,nv p.mid,nv p.hi]
theorem Fp_sg:∀ y:Pt,∀ u∈Fp y,sg u=true:=by
 intro y u hu;unfold Fp at hu;rcases mem_cons.1 hu with rfl|hu
 ·rfl
 rcases mem_cons.1 hu with rfl|hu
 ·rfl
 rw[mem_singleton.1 hu];rfl
def soC (s:List UInt8) (ov cv av kv:Value) (x:SS) (n:Nat):List Value:=[St_ s,ov,cv,av,nv x.reach,kv,nv x.merge.lo,nv x.merge.mid,nv x.merge.hi,nv x.laid,nv x.first,nv x.second,nv x.ranked,nv x.last,nv n,.bool x.done]
def soL (b:Nat) (s:List UInt8) (ov cv av kv:Value) (x:SS) (n:Nat):List HProp:=[blk b tSo (soC s ov cv av kv x n),SL nv tI ov x.order,SL nv tI cv x.cls,SL nv tI av x.aside,RW Fp 3 tPt kv x.stack.reverse]
def SoR (b:Nat) (s:List UInt8) (x:SS) (n:Nat):HProp:=λh=>∃ ov cv av kv,Sat (soL b s ov cv av kv x n) h
theorem Zb2 (H:Holds w (SoR b s x n::L)):∃ ov cv av kv,Holds w (soL b s ov cv av kv x n++L):=by
 obtain⟨ov,H⟩:=Holds.ex H;obtain⟨cv,H⟩:=Holds.ex H;obtain⟨av,H⟩:=Holds.ex H;obtain⟨kv,H⟩:=Holds.ex H;exact⟨ov,cv,av,kv,Holds.unpack H⟩
theorem Zao {ov cv av kv:Value}(H:Holds w (soL b s ov cv av kv x n++L)):Holds w (SoR b s x n::L):=Holds.imp (Holds.pack H) λ_ hh=>⟨ov,cv,av,kv,hh⟩
structure Sz (s:List UInt8) (x:SS):Prop where
 len:s.length<=4000
 cl:x.cls.length=s.length
 al:x.aside.length=s.length
 ol:x.order.length=s.length
 reach:x.reach<=8000
theorem Zs7 {ov cv av kv:Value}{a:Nat}(H:Holds w (soL b s ov cv av kv x n++L)) (hz:Sz s x) (ha:a < s.length)
  (k:∀ w',Same w w'->Holds w' (soL b s ov cv av kv x n++L)->K (.agg #[nv (keyS s x a).1,nv (keyS s x a).2]) w'):Cl prog 269 #[pt b,nv a] w K:=by
 refine Tz269 ?_;unfold Vz269;have hlen:=hz.len;have hcl:=hz.cl;have hre:=hz.reach
 have hzz:(zeroP prog tK).cells.toList=[iv 0,iv 0]:=by kernel_rfl
 have hsz:(⟨s.toArray⟩:ByteArray).size=s.length:=by simp[ByteArray.size]
 refine r_new H λkb w1 S1 H1=>?_;rw[hzz] at H1;refine r_nc (r_fo0 (r_ld 1 H1 rfl rfl ?_));refine r_eql (r_ifE (λh=>?_) λh=>?_)
 ·refine r_nc (r_fo0 (r_ld 1 H1 rfl rfl ?_));refine Zb0 (by rw[hsz];exact ha) ?_;have hc:((⟨s.toArray⟩:ByteArray).data.toList.getD a 0).toNat < 256:=UInt8.toNat_lt _;refine Zcv (by omega) (by omega) ?_
  have ek:keyS s x a=((s.getD a 0).toNat,0):=by unfold keyS;rw[if_pos (by omega)]
  rw[ek] at k;refine r_bd (v:=.agg #[nv (s.getD a 0).toNat,nv 0]) (by kernel_rfl) ?_;refine r_stA 0 H1 (vs:=[nv (s.getD a 0).toNat,nv 0]) rfl (by decide) rfl rfl λw2 S2 H2=>?_;refine r_ldA 0 H2 [nv (s.getD a 0).toNat,nv 0] rfl rfl rfl ?_;exact k _ (S1.trans S2) H2.drop
 ·refine r_dr H1 λw2 S2 H2=>?_;refine r_nc (r_fo0 (r_ld 1 H2 rfl rfl ?_));refine Za6 3 H2 rfl (Zba (by omega)) ?_;refine r_nc (r_fo0 (r_ld 1 H2 rfl rfl ?_));refine r_nc (r_fo0 (r_ld 1 H2 rfl rfl ?_));refine Zac (by omega) ?_;refine r_nc (r_fo0 (r_ld 1 H2 rfl rfl ?_));refine r_lns ?_;rw[hsz];refine Zff (r:=(((a+x.reach)%s.length:Nat):Int)) (by rw[Int.tmod_eq_emod_of_nonneg (by omega)];rfl) (by omega) ?_;have hm:(a+x.reach)%s.length < s.length:=Nat.mod_lt _ (by omega);refine Za6 3 H2 rfl (Zba (i:=(a+x.reach)%s.length) (by omega)) ?_
  have ek:keyS s x a=(x.cls.getD a 0,x.cls.getD ((a+x.reach)%s.length) 0):=by unfold keyS;rw[if_neg (by omega)]
  rw[ek] at k;refine r_bd (v:=.agg #[nv (x.cls.getD a 0),nv (x.cls.getD ((a+x.reach)%s.length) 0)]) (by kernel_rfl) ?_;refine r_stA 0 H2 (vs:=[nv (x.cls.getD a 0),nv (x.cls.getD ((a+x.reach)%s.length) 0)]) rfl (by simp) rfl rfl λw3 S3 H3=>?_;refine r_ldA 0 H3 [nv (x.cls.getD a 0),nv (x.cls.getD ((a+x.reach)%s.length) 0)] rfl rfl rfl ?_;exact k _ (S1.trans (S2.trans S3)) H3.drop
theorem Zk4 {ov cv av kv:Value}{a c:Nat}(H:Holds w (soL b s ov cv av kv x n++L)) (hz:Sz s x) (ha:a < s.length) (hc:c < s.length)
  (k:∀ w',Same w w'->Holds w' (soL b s ov cv av kv x n++L)->K (.bool (decide (klt (keyS s x c) (keyS s x a)))) w'):Cl prog 250 #[pt b,nv a,nv c] w K:=by
 refine Tz250 ?_;unfold Vz250
 have hzz:(zeroP prog tK).cells.toList=[iv 0,iv 0]:=by kernel_rfl
 refine Zs7 H hz ha λw1 S1 H1=>?_;refine Zs7 H1 hz hc λw2 S2 H2=>?_;generalize keyS s x a=p at *;generalize keyS s x c=q at *;refine r_new H2 λkb w3 S3 H3=>?_;rw[hzz] at H3;refine r_new H3 λlb w4 S4 H4=>?_;rw[hzz] at H4;refine r_stA 1 H4 (vs:=[nv p.1,nv p.2]) rfl (by decide) rfl rfl λw5 S5 H5=>?_;refine r_stA 0 H5 (vs:=[nv q.1,nv q.2]) rfl (by decide) rfl rfl λw6 S6 H6=>?_;replace H6:Holds w6 (blk lb tK [nv q.1,nv q.2]::blk kb tK [nv p.1,nv p.2]::(soL b s ov cv av kv x n++L)):=H6;have S:=S1.trans (S2.trans (S3.trans (S4.trans (S5.trans S6))))
 have fin:∀ t:Bool,t=decide (klt q p)->K (.bool t) w6:=λt e=>by rw[e];exact k w6 S H6.drop.drop
 refine Zal (m:=0) (by decide) (r_ld 1 H6 rfl rfl ?_);refine Zal (m:=0) (by decide) (r_ld 0 H6 rfl rfl ?_);refine r_gtr (r_ifD (λh=>?_) λh=>?_)
 ·exact fin true (decide_eq_true (.inl (by omega))).symm
 refine Zal (m:=0) (by decide) (r_ld 1 H6 rfl rfl ?_);refine Zal (m:=0) (by decide) (r_ld 0 H6 rfl rfl ?_);refine r_eql (r_ifE (λh2=>?_) λh2=>?_)
 ·refine Zal (m:=1) (by decide) (r_ld 1 H6 rfl rfl ?_);refine Zal (m:=1) (by decide) (r_ld 0 H6 rfl rfl ?_);refine r_gtr (fin _ ?_);exact decide_eq_decide.2 (by unfold klt;omega)
 ·exact fin false (decide_eq_false (by unfold klt;omega)).symm
theorem join_spec (H:Holds w (SoR b s x n::L)) (hst:x.stack.length<=100000000)
  (k:∀ w',Same w w'->Holds w' (SoR b s (joinS x) n::L)->K (.tuple #[]) w'):Cl prog 222 #[pt b] w K:=by
 refine Tz222 ?_;unfold Vz222;obtain⟨ov,cv,av,kv,H⟩:=Zb2 H;refine r_nc (r_fo0 (r_ld 0 H rfl rfl ?_));refine P35.r_lnN 4 H rfl ?_;rw[length_reverse]
 have hnone:joinS x=x->∀ w',Same w w'->Holds w' (soL b s ov cv av kv x n++L)->K (.tuple #[]) w':=λe w' S' H'=>by
  rw[e] at k;exact k w' S' (Zao H')
 cases hs:x.stack with
 |nil=>
  have ej:joinS x=x:=by unfold joinS;rw[hs]
  refine r_sub (by simp) (by simp) ?_;refine Za2 (λt w'=>w=w'/\t=.bool true) ?_ ?_
  rotate_left
  ·exact r_lss (r_vtD (by simp) (r_ke ⟨rfl,rfl⟩))
  rintro _ _ _ ⟨rfl,rfl⟩;exact r_vt (hnone ej _ (.refl _) H)
 |cons p st=>
  rw[hs] at hst;simp only[length_cons] at hst
  have ej:joinS x=if x.merge.hi=0/\p.mid≠0 then { x with merge:=p,stack:=st,laid:=0,first:=0,second:=p.mid } else x:=by unfold joinS;rw[hs]
  have hrev:x.stack.reverse=st.reverse++[p]:=by rw[hs,reverse_cons]
  have hget:x.stack.reverse[st.length]?=some p:=by rw[hrev,gT (by simp),length_reverse,Nat.sub_self];rfl
  refine Zaa (a:=(p::st).length) (by simp) (by simp;omega) ?_;rw[show (p::st).length - 1=st.length by simp];refine Za2 (λt w'=>w=w'/\t=.bool (decide (¬ (x.merge.hi=0/\p.mid≠0)))) ?_ ?_
  rotate_left
  ·refine r_lss (r_vfD (by omega) ?_);refine r_nc (r_fo (r_fo (r_ld 0 H rfl rfl ?_)));refine r_gtr (r_ifD (λh=>?_) λh=>?_)
   ·exact r_ke ⟨rfl,by rw[decide_eq_true (show ¬ (x.merge.hi=0/\p.mid≠0) from λe=>by omega)]⟩
   ·refine r_nc (r_fo0 (r_ld 0 H rfl rfl ?_));refine Ydk 4 H rfl hget (λ_=>rfl) (j:=1) rfl ?_;refine r_eql (r_ke ⟨rfl,?_⟩);rw[show (((p.mid:Nat):Int)==0)=decide (¬ (x.merge.hi=0/\p.mid≠0)) from by rw[Bool.eq_iff_iff,beq_iff_eq,decide_eq_true_iff];omega]
  rintro _ _ _ ⟨rfl,rfl⟩;refine r_ifD (λh=>?_) λh=>?_
  ·rw[if_neg h] at ej;exact hnone ej _ (.refl _) H
  ·have h':x.merge.hi=0/\p.mid≠0:=Classical.byContradiction h;rw[if_pos h'] at ej;refine r_nc (r_fo0 (r_ld 0 H rfl rfl ?_));refine P35.Zf1 4 H rfl hget (λ_=>rfl) ?_;refine r_nc (r_fo ?_);refine r_stA 0 H (vs:=Fp p) rfl (by simp[soC]) rfl rfl λw1 S1 H1=>?_
   have H1':Holds w1 (blk b tSo [St_ s,ov,cv,av,nv x.reach,kv,nv p.lo,nv p.mid,nv p.hi,nv x.laid,nv x.first,nv x.second,nv x.ranked,nv x.last,nv n,.bool x.done]::SL nv tI ov x.order::SL nv tI cv x.cls::SL nv tI av x.aside::RW Fp 3 tPt kv (st.reverse++[p])::L):=by
    rw[<-hrev];exact H1
   clear H1;refine r_nc (r_fo0 (r_ld 0 H1' rfl rfl ?_));obtain⟨oa,c,rfl,hc,H2⟩:=Ydw (F:=Fp) (k:=3) (ys:=st.reverse) (p:=p) 4 H1' (λ_=>rfl) rfl;rw[length_reverse] at hc H2 ⊢;refine Zqh (by omega) ?_;refine r_nc (r_fo0 ?_);refine r_st 0 H2 rfl (by simp) rfl λw3 S3 H3=>?_;refine r_nc (r_fo0 ?_);refine r_st 0 H3 rfl (by simp) rfl λw4 S4 H4=>?_;refine r_nc (r_fo0 ?_);refine r_st 0 H4 rfl (by simp) rfl λw5 S5 H5=>?_;refine r_nc (r_fo (r_fo ?_));replace H5:Holds w5 (blk b tSo [St_ s,ov,cv,av,nv x.reach,.slice oa st.length c,nv p.lo,nv p.mid,nv p.hi,nv 0,nv 0,nv x.second,nv x.ranked,nv x.last,nv n,.bool x.done]::SL nv tI ov x.order::SL nv tI cv x.cls::SL nv tI av x.aside::RW Fp 3 tPt (.slice oa st.length c) st.reverse::L):=H5;refine r_ld 0 H5 rfl rfl ?_;refine r_nc (r_fo0 ?_);refine r_st 0 H5 rfl (by simp) rfl λw6 S6 H6=>?_;rw[ej] at k;exact k _ (S1.trans (S3.trans (S4.trans (S5.trans S6)))) (Zao (ov:=ov) (cv:=cv) (av:=av) (kv:=.slice oa st.length c) H6)
theorem Zyg (H:Holds w (SoR b s x n::L)) (hz:Sz s x) (h1:x.laid < x.aside.length) (h2:x.merge.lo+x.laid < x.order.length)
  (k:∀ w',Same w w'->Holds w' (SoR b s (layS x) n::L)->K (.tuple #[]) w'):Cl prog 223 #[pt b] w K:=by
 refine Tz223 ?_;unfold Vz223;have hlen:=hz.len;have hal:=hz.al;have hol:=hz.ol;obtain⟨ov,cv,av,kv,H⟩:=Zb2 H;refine r_dr H λw1 S1 H1=>?_;refine r_nc (r_fo0 (r_ld 0 H1 rfl rfl ?_));refine r_nc (r_fo0 (r_ld 0 H1 rfl rfl ?_));refine r_nc (r_fo0 (r_ld 0 H1 rfl rfl ?_));refine r_nc (r_fo (r_fo (r_ld 0 H1 rfl rfl ?_)));refine r_nc (r_fo0 (r_ld 0 H1 rfl rfl ?_));refine Zac (by omega) ?_;refine Za6 1 H1 rfl (Zba h2) ?_;refine Zat 3 H1 (x.order.getD (x.merge.lo+x.laid) 0) rfl h1 rfl λw2 S2 H2=>?_;refine r_nc (r_fo0 (r_ld 0 H2 rfl rfl ?_));refine Za0 (by omega) ?_;refine r_nc (r_fo0 ?_);refine r_st 0 H2 rfl (by simp[soC]) rfl λw3 S3 H3=>?_;exact k _ (S1.trans (S2.trans S3)) (Zao (ov:=ov) (cv:=cv) (av:=av) (kv:=kv) H3)
theorem put_spec (H:Holds w (SoR b s x n::L)) (hz:Sz s x) (hm:x.merge.hi<=s.length/\x.merge.mid<=x.merge.hi/\x.merge.lo<=x.merge.mid/\0 < x.merge.hi) (h1:toS x < s.length) (h2:x.merge.mid<=x.second) (h3:x.second<=x.merge.hi) (h4:x.first<=x.laid) (h5:x.laid<=s.length)
  (h6:x.second=x.merge.hi->x.first < x.laid) (hA:x.first < x.laid->x.aside.getD x.first 0 < s.length) (hO:x.second < x.merge.hi->x.order.getD x.second 0 < s.length)
  (k:∀ w',Same w w'->Holds w' (SoR b s (putS (keyS s x) x) n::L)->K (.tuple #[]) w'):Cl prog 224 #[pt b] w K:=by
 refine Tz224 ?_;unfold Vz224;have hlen:=hz.len;have hal:=hz.al;have hol:=hz.ol
 have hzp:(zeroP prog tPt).cells.toList=[iv 0,iv 0,iv 0]:=by kernel_rfl
 have hto:toS x=x.merge.lo+x.first+x.second - x.merge.mid:=rfl;obtain⟨ov,cv,av,kv,H⟩:=Zb2 H;refine r_nc (r_fo ?_);refine r_ldA 0 H (Fp x.merge) rfl rfl rfl ?_;refine r_new H λmb w1 S1 H1=>?_;rw[hzp] at H1;refine r_stA 0 H1 (vs:=Fp x.merge) rfl (by decide) rfl rfl λw2 S2 H2=>?_;replace H2:Holds w2 (blk mb tPt (Fp x.merge)::(soL b s ov cv av kv x n++L)):=H2;refine r_dr H2 λw3 S3 H3=>?_;have S:=S1.trans (S2.trans S3);clear H H1 H2 S1 S2 S3;refine r_fo0 (r_ld 0 H3 rfl rfl ?_);refine r_nc (r_fo0 (r_ld 1 H3 rfl rfl ?_));refine Zac (by omega) ?_;refine r_nc (r_fo0 (r_ld 1 H3 rfl rfl ?_));refine Zac (by omega) ?_;refine r_fo0 (r_ld 0 H3 rfl rfl ?_);refine r_sub (by omega) (by omega) ?_;rw[show (((x.merge.lo+x.first+x.second:Nat):Int)) - (x.merge.mid:Int)=((toS x:Nat):Int) by omega]
 refine Zdg (λw'=>Same w w'/\∃ (ov cv av kv:Value),Holds w' (blk mb tPt (Fp x.merge)::(soL b s ov cv av kv (moveS (keyS s x) x) n++L))) ?_ ?_
 ·rintro _ w4 ⟨S4,ov,cv,av,kv,H4⟩
  have hmm:(moveS (keyS s x) x).merge=x.merge:=by unfold moveS;split <;> rfl
  refine r_fo0 (r_ld 0 H4 rfl rfl ?_);refine r_sub (by omega) (by omega) ?_;refine r_eql (r_ifE (λh=>?_) λh=>?_)
  ·refine r_bd (v:=.agg (Fp ⟨0,0,0⟩).toArray) (by kernel_rfl) ?_;refine r_nc (r_fo ?_);refine r_stA 1 H4 (vs:=Fp ⟨0,0,0⟩) rfl (by simp[soC]) rfl rfl λw5 S5 H5=>?_
   have e:putS (keyS s x) x={ moveS (keyS s x) x with merge:=⟨0,0,0⟩ }:=by unfold putS;rw[if_pos (by omega)]
   rw[e] at k;exact k _ (S4.trans S5) (Zao (ov:=ov) (cv:=cv) (av:=av) (kv:=kv) H5.drop)
  ·have e:putS (keyS s x) x=moveS (keyS s x) x:=by unfold putS;rw[if_neg (by omega)]
   rw[e] at k;exact k _ S4 (Zao H4.drop)
 refine Za2 (λt w'=>Same w w'/\Holds w' (blk mb tPt (Fp x.merge)::(soL b s ov cv av kv x n++L))/\t=.bool (decide (fromA (keyS s x) x))) ?_ ?_
 ·rintro _ _ w4 ⟨S4,H4,rfl⟩;refine r_ifD (λh=>?_) λh=>?_
  ·have hf:x.first < x.laid:=by
    rcases h with h|h
    ·exact h6 h
    ·exact h.1
   refine r_dr H4 λw5 S5 H5=>?_;refine r_nc (r_fo0 (r_ld 1 H5 rfl rfl ?_));refine r_nc (r_fo0 (r_ld 1 H5 rfl rfl ?_));refine r_nc (r_fo0 (r_ld 1 H5 rfl rfl ?_));refine Za6 4 H5 rfl (Zba (by omega)) ?_;refine Zat (j:=toS x) 2 H5 (x.aside.getD x.first 0) rfl (by omega) rfl λw6 S6 H6=>?_;refine r_nc (r_fo0 (r_ld 1 H6 rfl rfl ?_));refine Za0 (by omega) ?_;refine r_nc (r_fo0 ?_);refine r_st 1 H6 rfl (by simp[soC]) rfl λw7 S7 H7=>?_;refine r_ke ⟨S4.trans (S5.trans (S6.trans S7)),ov,cv,av,kv,?_⟩;unfold moveS;rw[if_pos h];exact H7
  ·have hf:x.second < x.merge.hi:=by
    rcases hU_ x.second x.merge.hi with g|g
    ·exact g
    ·exact absurd (.inl (by omega)) h
   refine r_dr H4 λw5 S5 H5=>?_;refine r_nc (r_fo0 (r_ld 1 H5 rfl rfl ?_));refine r_nc (r_fo0 (r_ld 1 H5 rfl rfl ?_));refine r_nc (r_fo0 (r_ld 1 H5 rfl rfl ?_));refine Za6 2 H5 rfl (Zba (by omega)) ?_;refine Zat (j:=toS x) 2 H5 (x.order.getD x.second 0) rfl (by omega) rfl λw6 S6 H6=>?_;refine r_nc (r_fo0 (r_ld 1 H6 rfl rfl ?_));refine Za0 (by omega) ?_;refine r_nc (r_fo0 ?_);refine r_st 1 H6 rfl (by simp[soC]) rfl λw7 S7 H7=>?_;refine r_ke ⟨S4.trans (S5.trans (S6.trans S7)),ov,cv,av,kv,?_⟩;unfold moveS;rw[if_neg h];exact H7
 ·refine r_dr H3 λw4 S4 H4=>?_;refine r_nc (r_fo0 (r_ld 1 H4 rfl rfl ?_));refine r_fo0 (r_ld 0 H4 rfl rfl ?_);refine r_eql (r_ifE (λh=>?_) λh=>?_)
  ·exact r_ke ⟨S.trans S4,H4,by rw[decide_eq_true (.inl (by omega))]⟩
  refine r_nc (r_fo0 (r_ld 1 H4 rfl rfl ?_));refine r_nc (r_fo0 (r_ld 1 H4 rfl rfl ?_));refine r_lss (r_ifD (λh7=>?_) λh7=>?_)
  ·refine r_nc (r_fo0 (r_ld 1 H4 rfl rfl ?_));refine r_nc (r_fo0 (r_ld 1 H4 rfl rfl ?_));refine Za6 4 H4 rfl (Zba (by omega)) ?_;refine r_nc (r_fo0 (r_ld 1 H4 rfl rfl ?_));refine r_nc (r_fo0 (r_ld 1 H4 rfl rfl ?_));refine Za6 2 H4 rfl (Zba (by omega)) ?_
   have H5:Holds w4 (soL b s ov cv av kv x n++(blk mb tPt (Fp x.merge)::L)):=by have h_:=Holds.ord 6 [1,2,3,4,5,0] H4 rfl;exact h_
   refine Zk4 H5 hz (hA (by omega)) (hO (by omega)) λw5 S5 H6=>?_;refine r_not (r_ke ⟨S.trans (S4.trans S5),by have h_:=Holds.ord 6 [5,0,1,2,3,4] H6 rfl;exact h_,?_⟩);rw[show (!decide (klt (keyS s x (x.order.getD x.second 0)) (keyS s x (x.aside.getD x.first 0))))=decide (fromA (keyS s x) x) from ?_];rw[Bool.eq_iff_iff,Bool.not_eq_true',decide_eq_false_iff_not,decide_eq_true_iff];unfold fromA
   constructor
   ·exact λz=>.inr ⟨by omega,z⟩
   ·rintro (z|z)
    ·omega
    ·exact z.2
  ·refine r_ke ⟨S.trans S4,H4,?_⟩
   rw[decide_eq_false (show ¬ fromA (keyS s x) x from λz=>by
    rcases z with z|z
    ·omega
    ·exact h7 (by have:=z.1;omega))]
end S16
namespace S16
open Go.Mr Go.M18
variable {w:World}{L:List HProp}{K:KT}{b n:Nat}{s:List UInt8}{x:SS}
theorem begin_spec (H:Holds w (SoR b s x n::L)) (hz:Sz s x) (hne:x.stack≠[]) (hst:x.stack.length<=100000000) (hp:∀ p∈x.stack,p.lo<=p.hi/\p.hi<=4000)
  (k:∀ w',Same w w'->Holds w' (SoR b s (beginS x) n::L)->K (.tuple #[]) w'):Cl prog 225 #[pt b] w K:=by
 refine Tz225 ?_;unfold Vz225
 have hzp:(zeroP prog tPt).cells.toList=[iv 0,iv 0,iv 0]:=by kernel_rfl
 obtain⟨ov,cv,av,kv,H⟩:=Zb2 H
 cases hs:x.stack with
 |nil=>exact absurd hs hne
 |cons p st=>
  rw[hs] at hst;simp only[length_cons] at hst;have hpb:=hp p (by rw[hs];exact hJ_ ..)
  have ej:beginS x=if p.hi - p.lo < 2 then { x with stack:=st } else { x with stack:=⟨p.lo,0,(p.lo+p.hi)/2⟩::⟨(p.lo+p.hi)/2,0,p.hi⟩::⟨p.lo,(p.lo+p.hi)/2,p.hi⟩::st }:=by unfold beginS;rw[hs]
  have hrev:x.stack.reverse=st.reverse++[p]:=by rw[hs,reverse_cons]
  have H0:Holds w (blk b tSo (soC s ov cv av kv x n)::SL nv tI ov x.order::SL nv tI cv x.cls::SL nv tI av x.aside::RW Fp 3 tPt kv (st.reverse++[p])::L):=by rw[<-hrev];exact H
  have hget:(st.reverse++[p])[st.length]?=some p:=by rw[gT (by simp),length_reverse,Nat.sub_self];rfl
  have hll:(st.reverse++[p]).length=st.length+1:=by simp
  clear H;refine r_dr H0 λw1 S1 H1=>?_;refine r_nc (r_fo0 (r_ld 0 H1 rfl rfl ?_));refine r_nc (r_fo0 (r_ld 0 H1 rfl rfl ?_));refine P35.r_lnN 4 H1 rfl ?_;rw[hll];refine Zaa (by omega) (by omega) ?_;rw[Nat.add_sub_cancel]
  obtain⟨oa,m,sp,rfl,Ho⟩:=H1.openRW 4 rfl;obtain⟨sb,rfl,hsp,Hb⟩:=Ho.rwb 4 rfl (.inl (by rw[hll];omega));have Hb':Holds w1 (blk b tSo (soC s ov cv av (.slice (some ⟨sb,0,none⟩) (st.reverse++[p]).length ((st.reverse++[p]).length+m)) x n)::SL nv tI ov x.order::SL nv tI cv x.cls::SL nv tI av x.aside::blk sb tPt (flatL Fp (st.reverse++[p])++sp)::L):=Hb
  have hcell:((flatL Fp (st.reverse++[p])++sp).drop (st.length*3)).take 3=Fp p:=by
   have h1:=Zga (F:=Fp) (k:=3) (λ_=>rfl) _ _ _ hget;have hlen:=Zdx (F:=Fp) (k:=3) (λ_=>rfl) (st.reverse++[p]);rw[hll] at hlen;rw[List.drop_append_of_le_length (by omega),List.take_append_of_le_length (by rw[gS];omega)];exact h1
  refine Zwi (by rw[hll];omega) ?_;refine r_ldA 4 Hb' (Fp p) rfl hcell rfl ?_;refine r_new Hb' λpb w2 S2 H2=>?_;rw[hzp] at H2;refine r_rk (r_ldA 5 H2 (Fp p) rfl hcell rfl rfl) (r_rk (r_lnl (by rw[hll])) (r_rk (r_ld 1 H2 rfl rfl rfl) (r_rk (r_ld 1 H2 rfl rfl rfl) ?_)));refine r_stA 0 H2 (vs:=Fp p) rfl (by decide) rfl rfl λw3 S3 H3=>?_
  have H3':Holds w3 (blk pb tPt (Fp p)::blk b tSo (soC s ov cv av (.slice (some ⟨sb,0,none⟩) (st.length+1) (st.length+1+m)) x n)::SL nv tI ov x.order::SL nv tI cv x.cls::SL nv tI av x.aside::blk sb tPt (flatL Fp (st.reverse++[p])++sp)::L):=by
   have h:Holds w3 (blk pb tPt (Fp p)::blk b tSo (soC s ov cv av (.slice (some ⟨sb,0,none⟩) (st.reverse++[p]).length ((st.reverse++[p]).length+m)) x n)::SL nv tI ov x.order::SL nv tI cv x.cls::SL nv tI av x.aside::blk sb tPt (flatL Fp (st.reverse++[p])++sp)::L):=H3;rw[hll] at h;exact h
  refine r_dr H3' λw4 S4 H4=>?_;have S:=S1.trans (S2.trans (S3.trans S4));clear H0 H1 Ho Hb Hb' H2 H3 H3' S1 S2 S3 S4;refine r_nc (r_fo0 (r_ld 1 H4 rfl rfl ?_));refine r_nc (r_fo0 (r_ld 1 H4 rfl rfl ?_));refine r_lnl ?_;refine Zaa (a:=st.length+1) (by omega) (by omega) ?_;rw[Nat.add_sub_cancel];refine Zqh (by omega) ?_;refine r_nc (r_fo0 ?_);refine r_st 1 H4 rfl (by simp[soC]) rfl λw5 S5 H5=>?_
  have H6:Holds w5 (blk pb tPt (Fp p)::blk b tSo (soC s ov cv av (.slice (some ⟨sb,0,none⟩) st.length (st.length+1+m)) x n)::SL nv tI ov x.order::SL nv tI cv x.cls::SL nv tI av x.aside::RW Fp 3 tPt (.slice (some ⟨sb,0,none⟩) st.length (st.length+1+m)) st.reverse::L):=by
   have h:=H5.at 5 rfl (Q:=RW Fp 3 tPt (.slice (some ⟨sb,0,none⟩) st.length (st.length+1+m)) st.reverse) λg hg=>by
    refine⟨some ⟨sb,0,none⟩,m+1,Fp p++sp,by rw[length_reverse,show st.length+1+m=st.length+(m+1) by omega],rfl,rfl,by rw[gD,hsp];show 3+m*3=_;omega,?_⟩;have hg':blk sb tPt (flatL Fp (st.reverse++[p])++sp) g:=hg;rw[Zfy,gI] at hg'
    have e1:flatL Fp [p]=Fp p:=by simp[flatL]
    rw[e1] at hg';exact hg'
   exact h
  clear H4 H5;replace S:=S.trans S5;refine r_fo0 (r_ld 0 H6 rfl rfl ?_);refine r_fo0 (r_ld 0 H6 rfl rfl ?_);refine r_sub (by omega) (by omega) ?_;refine r_lss (r_ifD (λh=>?_) λh=>?_)
  ·rw[if_pos (by omega)] at ej;rw[ej] at k;exact k _ S (Zao (ov:=ov) (cv:=cv) (av:=av) H6.drop)
  rw[if_neg (by omega)] at ej;rw[ej] at k;refine r_fo0 (r_ld 0 H6 rfl rfl ?_);refine r_fo0 (r_ld 0 H6 rfl rfl ?_);refine Zac (by omega) ?_;refine r_quo (by omega) (by omega) (by omega) ?_;rw[show ((p.lo+p.hi:Nat):Int)/2=(((p.lo+p.hi)/2:Nat):Int) by omega];generalize (p.lo+p.hi)/2=mid at *;refine r_dr H6 λw7 S7 H7=>?_;refine r_nc (r_fo0 (r_ld 1 H7 rfl rfl ?_));refine r_fo0 (r_ld 0 H7 rfl rfl ?_);refine r_fo0 (r_ld 0 H7 rfl rfl ?_);refine r_bd (v:=.agg (Fp ⟨p.lo,mid,p.hi⟩).toArray) (by kernel_rfl) ?_;refine r_fo0 (r_ld 0 H7 rfl rfl ?_);refine r_bd (v:=.agg (Fp ⟨mid,0,p.hi⟩).toArray) (by kernel_rfl) ?_;refine r_fo0 (r_ld 0 H7 rfl rfl ?_);refine r_bd (v:=.agg (Fp ⟨p.lo,0,mid⟩).toArray) (by kernel_rfl) ?_;refine r_bsK (e:=tPt) (Fp ⟨p.lo,mid,p.hi⟩++Fp ⟨mid,0,p.hi⟩++Fp ⟨p.lo,0,mid⟩) H7 (by kernel_rfl) λnb w8 S8 H8=>?_;refine r_rk (r_ld 2 H8 rfl rfl rfl) ?_;refine r_apN (F:=Fp) (xs:=st.reverse) (ys:=[⟨p.lo,mid,p.hi⟩,⟨mid,0,p.hi⟩,⟨p.lo,0,mid⟩]) H8 6 0 rfl rfl (by omega) rfl rfl (λ_=>rfl) Fp_sg (by simp;omega) (by simp) (by decide) λkv2 w9 S9 H9=>?_;refine r_nc (r_fo0 ?_)
  have hsg:sg kv2=true:=by
   obtain⟨oa2,m2,sp2,rfl,_⟩:=H9.openRW 6 rfl;rfl
  refine r_st 2 H9 rfl (by simp[soC]) hsg λw10 S10 H10=>?_
  have H11:Holds w10 (soL b s ov cv av kv2 { x with stack:=⟨p.lo,0,mid⟩::⟨mid,0,p.hi⟩::⟨p.lo,mid,p.hi⟩::st } n++L):=by
   have h:=H10.drop.drop;unfold soL;simp only[reverse_cons,gI];exact h
  exact k _ (S.trans (S7.trans (S8.trans (S9.trans S10)))) (Zao H11)
theorem Zuz (H:Holds w (SoR b s x n::L)) (hz:Sz s x) (hst:x.stack.length<=100000000) (h0:0 < s.length)
  (k:∀ w',Same w w'->Holds w' (SoR b s (passS s.length x) n::L)->K (.tuple #[]) w'):Cl prog 251 #[pt b] w K:=by
 refine Tz251 ?_;unfold Vz251;have hlen:=hz.len;have hol:=hz.ol;have hre:=hz.reach;obtain⟨ov,cv,av,kv,H⟩:=Zb2 H;refine r_nc (r_fo0 (r_ld 0 H rfl rfl ?_));refine r_nc (r_fo0 (r_ld 0 H rfl rfl ?_))
 have hsg:∀ {v:Value} {l:List Nat} {i:Nat},(soL b s ov cv av kv x n++L)[i]?=some (SL nv tI v l)->sg v=true:=λhi=>by
  obtain⟨oa,sp,rfl,_⟩:=H.open _ hi;rfl
 refine r_nc (r_fo0 ?_);refine r_st 0 H rfl (by simp[soC]) (hsg (i:=3) rfl) λw1 S1 H1=>?_;refine r_nc (r_fo0 ?_);refine r_st 0 H1 rfl (by simp[soC]) (hsg (i:=2) rfl) λw2 S2 H2=>?_;refine r_nc (r_fo0 ?_);refine r_st 0 H2 rfl (by simp[soC]) rfl λw3 S3 H3=>?_
 have H4:Holds w3 (soL b s ov av cv kv { x with cls:=x.aside,aside:=x.cls,ranked:=0 } n++L):=by
  have h_:=Holds.ord 5 [0,1,3,2,4] H3 rfl;exact h_
 have S:=S1.trans (S2.trans S3);clear H H1 H2 H3 S1 S2 S3 hsg;refine Za2 (λt w'=>Same w w'/\Holds w' (soL b s ov av cv kv { x with cls:=x.aside,aside:=x.cls,ranked:=0 } n++L)/\t=.bool (decide (x.last=s.length - 1\/s.length<=x.reach))) ?_ ?_
 rotate_left
 ·refine r_dr H4 λw4 S4 H5=>?_;refine r_nc (r_fo0 (r_ld 0 H5 rfl rfl ?_));refine r_nc (r_fo0 (r_ld 0 H5 rfl rfl ?_));refine r_lnS 1 H5 rfl ?_;rw[hol];refine Zaa (by omega) (by omega) ?_;refine r_eql (r_ifE (λh=>?_) λh=>?_)
  ·have h':((x.last:Nat):Int)=((s.length - 1:Nat):Int):=h;exact r_ke ⟨S.trans S4,H5,by rw[decide_eq_true (.inl (by omega))]⟩
  ·have h':¬ ((x.last:Nat):Int)=((s.length - 1:Nat):Int):=h;refine r_nc (r_fo0 (r_ld 0 H5 rfl rfl ?_));refine r_nc (r_fo0 (r_ld 0 H5 rfl rfl ?_));refine r_lnS 1 H5 rfl ?_;rw[hol];refine r_geq (r_ke ⟨S.trans S4,H5,?_⟩);rw[show decide (((s.length:Nat):Int)<=((x.reach:Nat):Int))=decide (x.last=s.length - 1\/s.length<=x.reach) from decide_eq_decide.2 (by omega)]
 rintro _ _ w4 ⟨S4,H5,rfl⟩;refine r_ifD (λh=>?_) λh=>?_
 ·refine r_nc (r_fo0 ?_);refine r_st 0 H5 rfl (by simp[soC]) rfl λw5 S5 H6=>?_
  have e:passS s.length x={ x with cls:=x.aside,aside:=x.cls,ranked:=0,done:=true }:=by unfold passS;rw[if_pos h]
  rw[e] at k;exact k _ (S4.trans S5) (Zao (ov:=ov) (cv:=av) (av:=cv) (kv:=kv) H6)
 ·have e:passS s.length x={ x with cls:=x.aside,aside:=x.cls,ranked:=0,reach:=max 1 (2*x.reach),stack:=⟨0,0,s.length⟩::x.stack }:=by unfold passS;rw[if_neg h]
  rw[e] at k;refine r_nc (r_fo0 (r_ld 0 H5 rfl rfl ?_));refine Zbc (((2*x.reach:Nat)):Int) (by show 2*((x.reach:Nat):Int)=_;omega) (by omega) (by omega) ?_;refine r_max ?_;rw[show max (1:Int) ((2*x.reach:Nat):Int)=((max 1 (2*x.reach):Nat):Int) by omega];refine r_nc (r_fo0 ?_);refine r_st 0 H5 rfl (by simp[soC]) rfl λw5 S5 H6=>?_;replace H6:Holds w5 (soL b s ov av cv kv { x with cls:=x.aside,aside:=x.cls,ranked:=0,reach:=max 1 (2*x.reach) } n++L):=H6;refine r_dr H6 λw6 S6 H7=>?_;refine r_nc (r_fo0 (r_ld 0 H7 rfl rfl ?_));refine r_nc (r_fo0 (r_ld 0 H7 rfl rfl ?_));refine r_lnS 1 H7 rfl ?_;rw[hol];refine r_bd (v:=.agg (Fp ⟨0,0,s.length⟩).toArray) (by kernel_rfl) ?_;refine r_bsK (e:=tPt) (Fp ⟨0,0,s.length⟩) H7 (by kernel_rfl) λnb w8 S8 H8=>?_;refine r_rk (r_ld 1 H8 rfl rfl rfl) ?_;refine r_apN (F:=Fp) (xs:=x.stack.reverse) (ys:=[⟨0,0,s.length⟩]) H8 5 0 rfl rfl (by omega) rfl rfl (λ_=>rfl) Fp_sg (by rw[length_reverse];simp;omega) (by simp) (by decide) λkv2 w9 S9 H9=>?_;refine r_nc (r_fo0 ?_)
  have hsg:sg kv2=true:=by
   obtain⟨oa2,m2,sp2,rfl,_⟩:=H9.openRW 5 rfl;rfl
  refine r_st 1 H9 rfl (by simp[soC]) hsg λw10 S10 H10=>?_
  have H11:Holds w10 (soL b s ov av cv kv2 { x with cls:=x.aside,aside:=x.cls,ranked:=0,reach:=max 1 (2*x.reach),stack:=⟨0,0,s.length⟩::x.stack } n++L):=by
   have h:=H10.drop;unfold soL;simp only[reverse_cons];exact h
  exact k _ (S4.trans (S5.trans (S6.trans (S8.trans (S9.trans S10))))) (Zao H11)
theorem Zup (H:Holds w (SoR b s x n::L)) (hz:Sz s x) (hst:x.stack.length<=100000000) (hr:x.ranked < s.length) (hl:0 < x.ranked->x.last<=8000) (hO:∀ a∈x.order,a < s.length)
  (k:∀ w',Same w w'->Holds w' (SoR b s (rankS (keyS s x) s.length x) n::L)->K (.tuple #[]) w'):Cl prog 226 #[pt b] w K:=by
 refine Tz226 ?_;unfold Vz226;have hlen:=hz.len;have hol:=hz.ol;have hal:=hz.al;obtain⟨ov,cv,av,kv,H⟩:=Zb2 H;refine r_nc (r_fo0 (r_ld 0 H rfl rfl ?_));refine Zdg (λw'=>Same w w'/\Holds w' (soL b s ov cv av kv { x with last:=lastN (keyS s x) x } n++L)) ?_ ?_
 ·rintro _ w1 ⟨S1,H1⟩;refine r_dr H1 λw2 S2 H2=>?_;refine r_nc (r_fo0 (r_ld 0 H2 rfl rfl ?_));refine r_nc (r_fo0 (r_ld 0 H2 rfl rfl ?_));refine Za6 1 H2 rfl (Zba (l:=x.order) (i:=x.ranked) (by omega)) ?_;refine r_nc (r_fo0 (r_ld 0 H2 rfl rfl ?_));have hm:=hO _ (Zbh (l:=x.order) (i:=x.ranked) (by omega));refine Zat (j:=x.order.getD x.ranked 0) 3 H2 (lastN (keyS s x) x) rfl (by show _ < x.aside.length;omega) rfl λw3 S3 H3=>?_;refine r_nc (r_fo0 (r_ld 0 H3 rfl rfl ?_));refine Za0 (a:=x.ranked) (by omega) ?_;refine r_nc (r_fo0 ?_);refine r_st 0 H3 rfl (by simp[soC]) rfl λw4 S4 H4=>?_;replace H4:Holds w4 (soL b s ov cv av kv (rank1 (keyS s x) x) n++L):=H4;refine r_dr H4 λw5 S5 H5=>?_;refine r_nc (r_fo0 (r_ld 0 H5 rfl rfl ?_));refine r_nc (r_fo0 (r_ld 0 H5 rfl rfl ?_));refine r_lnS 1 H5 rfl ?_;refine r_eql (r_ifE (λh=>?_) λh=>?_)
  ·have hq:x.ranked+1=s.length:=by
    have h':((x.ranked+1:Nat):Int)=((x.order.length:Nat):Int):=h;omega
   refine Zuz (Zao H5) ⟨hlen,hz.cl,by show (List.set _ _ _).length=_;rw[hX_];exact hal,hol,hz.reach⟩ hst (by omega) λw6 S6 H6=>?_
   have e:rankS (keyS s x) s.length x=passS s.length (rank1 (keyS s x) x):=by unfold rankS;rw[if_pos hq]
   rw[e] at k;exact k _ (S1.trans (S2.trans (S3.trans (S4.trans (S5.trans S6))))) H6
  ·have hq:¬ x.ranked+1=s.length:=by
    have h':¬ ((x.ranked+1:Nat):Int)=((x.order.length:Nat):Int):=h;omega
   have e:rankS (keyS s x) s.length x=rank1 (keyS s x) x:=by unfold rankS;rw[if_neg hq]
   rw[e] at k;exact k _ (S1.trans (S2.trans (S3.trans (S4.trans S5)))) (Zao H5)
 ·refine r_eql (r_ifE (λh=>?_) λh=>?_)
  ·refine r_nc (r_fo0 ?_);refine r_st 0 H rfl (by simp[soC]) rfl λw1 S1 H1=>?_;refine r_ke ⟨S1,?_⟩
   have e:lastN (keyS s x) x=0:=by unfold lastN;rw[if_pos (by omega)]
   rw[e];exact H1
  ·refine r_dr H λw1 S1 H1=>?_;refine r_nc (r_fo0 (r_ld 0 H1 rfl rfl ?_));refine Za6 1 H1 rfl (Zba (by omega)) ?_;refine r_nc (r_fo0 (r_ld 0 H1 rfl rfl ?_));refine Zaa (by omega) (by omega) ?_;refine Za6 1 H1 rfl (Zba (by omega)) ?_;refine Zk4 H1 hz (hO _ (Zbh (by omega))) (hO _ (Zbh (by omega))) λw2 S2 H2=>?_;refine r_ifD (λh2=>?_) λh2=>?_
   ·have hl':=hl (by omega);refine r_nc (r_fo0 (r_ld 0 H2 rfl rfl ?_));refine Za0 (by omega) ?_;refine r_nc (r_fo0 ?_);refine r_st 0 H2 rfl (by simp[soC]) rfl λw3 S3 H3=>?_;refine r_ke ⟨S1.trans (S2.trans S3),?_⟩
    have e:lastN (keyS s x) x=x.last+1:=by unfold lastN;rw[if_neg (by omega),if_pos h2]
    rw[e];exact H3
   ·refine r_ke ⟨S1.trans S2,?_⟩
    have e:lastN (keyS s x) x=x.last:=by unfold lastN;rw[if_neg (by omega),if_neg h2]
    rw[e];exact H2
end S16
namespace S16
open Go.Mr Go.M18
variable {w:World}{L:List HProp}{K:KT}{b n:Nat}{s:List UInt8}{x:SS}
theorem step_spec (H:Holds w (SoR b s x n::L)) (hI:Inv s x) (hlen:s.length<=4000) (hr:x.reach<=2*s.length) (hl:ldS s.length x<=4*(s.length*s.length)+s.length) (hn:n<=1000000000000)
  (k:∀ w',Same w w'->Holds w' (SoR b s (stepS (keyS s x) s.length x) (n+1)::L)->K (.tuple #[]) w'):Cl prog 183 #[pt b] w K:=by
 refine Tz183 ?_;unfold Vz183;have hsl:=Zus hI.ph hl hlen;refine join_spec H (by omega) λw1 S1 H1=>?_;have hj:=Zw1 hI.bs hI.ph
 have hjk:keyS s (joinS x)=keyS s x:=by
  unfold joinS;split
  ·rfl
  ·split <;> rfl
 have hjs:(joinS x).stack.length<=x.stack.length:=by
  unfold joinS;split
  ·exact Nat.le_refl _
  ·rename_i e;split
   ·rw[e];simp
   ·exact Nat.le_refl _
 have hjr:=Zkv x;unfold stepS at k;generalize joinS x=y at *;obtain⟨hb,hp,hm⟩:=hj;rw[<-hjk] at hp k;have hz:Sz s y:=⟨hlen,hb.cl,hb.al,hb.ol,by omega⟩;have hol:=hb.ol;have hal:=hb.al;have hwf:=Zsd hp;refine Zdg (λw'=>Same w w'/\Holds w' (SoR b s (restS (keyS s y) s.length y) n::L)) ?_ ?_
 ·rintro _ w2 ⟨S2,H2⟩;obtain⟨ov,cv,av,kv,H3⟩:=Zb2 H2;refine r_nc (r_fo0 (r_ld 0 H3 rfl rfl ?_));refine Za0 (by omega) ?_;refine r_nc (r_fo0 ?_);refine r_st 0 H3 rfl (by simp[soC]) rfl λw3 S3 H4=>?_;exact k _ (S2.trans S3) (Zao (ov:=ov) (cv:=cv) (av:=av) (kv:=kv) H4)
 refine Za2 (λt w'=>Same w w'/\Holds w' (SoR b s y n::L)/\t=.bool (decide (0 < y.merge.hi/\y.laid < y.merge.mid - y.merge.lo))) ?_ ?_
 ·rintro _ _ w2 ⟨S2,H2,rfl⟩;refine r_ifD (λh=>?_) λh=>?_
  ·have e:restS (keyS s y) s.length y=layS y:=by unfold restS;rw[if_pos h]
   rw[e];rcases hp with hp|⟨R,hp⟩
   ·have:=hp.none;omega
   have m3:=hp.m3;have m2:=hp.m2;refine Zyg H2 hz (by omega) (by omega) λw3 S3 H3=>?_;exact r_ke ⟨S2.trans S3,H3⟩
  obtain⟨ov,cv,av,kv,H3⟩:=Zb2 H2;refine r_nc (r_fo (r_fo (r_ld 0 H3 rfl rfl ?_)));refine r_gtr (r_ifD (λh2=>?_) λh2=>?_)
  ·have e:restS (keyS s y) s.length y=putS (keyS s y) y:=by unfold restS;rw[if_neg h,if_pos (by omega)]
   rw[e];rcases hp with hp|⟨R,hp⟩
   ·have:=hp.none;omega
   have m3:=hp.m3;have m2:=hp.m2;have m1:=hp.m1;have hlay:=hp.lay
   have hla:y.laid=y.merge.mid - y.merge.lo:=by omega
   obtain⟨l1,l2,l3,l4,_⟩:=hp.late hla;have hto:toS y=y.merge.lo+y.first+y.second - y.merge.mid:=rfl;refine put_spec H2 hz ⟨m3,by omega,by omega,by omega⟩ (by omega) l2 l3 l1 (by omega) (λ_=>by omega) (λhf=>?_) (λhs=>hb.om _ (Zbh (by omega))) λw3 S3 H4=>?_
   ·refine hp.asm _ ?_
    rw[show y.aside.getD y.first 0=(seg y.aside 0 y.laid).getD y.first 0 from by
     unfold seg
     rw[drop_zero,Nat.sub_zero,gB,gB,hI_ hf]]
    exact Zbh (by rw[Zdw (by omega)];omega)
   ·exact r_ke ⟨S2.trans S3,H4⟩
  refine r_nc (r_fo0 (r_ld 0 H3 rfl rfl ?_));refine P35.r_lnN 4 H3 rfl ?_;rw[length_reverse]
  have hph:PhA (keyS s y) s.length y:=by
   rcases hp with hp|⟨R,hp⟩
   ·exact hp
   ·have:=hp.m2;omega
  refine r_gtr (r_ifD (λh3=>?_) λh3=>?_)
  ·have hne:y.stack≠[]:=λe=>by rw[e] at h3;simp at h3
   have e:restS (keyS s y) s.length y=beginS y:=by unfold restS;rw[if_neg h,if_neg (by omega),if_pos hne]
   rw[e];refine begin_spec H2 hz hne (by omega) (λp hpp=>by have:=hwf p hpp;omega) λw3 S3 H4=>?_;exact r_ke ⟨S2.trans S3,H4⟩
  ·have he:y.stack=[]:=List.eq_nil_of_length_eq_zero (by omega)
   have e:restS (keyS s y) s.length y=rankS (keyS s y) s.length y:=by unfold restS;rw[if_neg h,if_neg (by omega),if_neg (by simpa using he)]
   rw[e];have hkn:=hph.rkn;refine Zup H2 hz (by omega) hkn (λhr0=>?_) hb.om λw3 S3 H4=>?_
   ·rw[hph.lst hr0];have:=Zm7 (k:=keyS s y) (o:=y.order) (y.ranked - 1);omega
   ·exact r_ke ⟨S2.trans S3,H4⟩
 ·refine r_dr H1 λw2 S2 H2=>?_;obtain⟨ov,cv,av,kv,H3⟩:=Zb2 H2;have close:Holds w2 (SoR b s y n::L):=H2;refine r_nc (r_fo (r_fo (r_ld 0 H3 rfl rfl ?_)));refine r_gtr (r_ifD (λh=>?_) λh=>?_)
  ·have hm12:y.merge.lo<=y.merge.mid/\y.merge.mid<=s.length:=by
    rcases hp with hp|⟨R,hp⟩
    ·have:=hp.none;omega
    ·have:=hp.m1;have:=hp.m2;have:=hp.m3;omega
   refine r_nc (r_fo0 (r_ld 0 H3 rfl rfl ?_));refine r_nc (r_fo (r_fo (r_ld 0 H3 rfl rfl ?_)));refine r_nc (r_fo (r_fo (r_ld 0 H3 rfl rfl ?_)));refine r_sub (by omega) (by omega) ?_;refine r_lss (r_ke ⟨S1.trans S2,H2,?_⟩);rw[show decide (((y.laid:Nat):Int) < ((y.merge.mid:Nat):Int) - ((y.merge.lo:Nat):Int))=decide (0 < y.merge.hi/\y.laid < y.merge.mid - y.merge.lo) from decide_eq_decide.2 (by omega)]
  ·refine r_ke ⟨S1.trans S2,H2,?_⟩;rw[decide_eq_false (show ¬ (0 < y.merge.hi/\y.laid < y.merge.mid - y.merge.lo) from λe=>by omega)]
def Fini (s:List UInt8) (x:SS):Prop:=x.done=true/\x.order=sortP s s.length
theorem Done_spec (H:Holds w (SoR b s x n::L)) (k:K (.bool x.done) w):Cl prog 136 #[pt b] w K:=by
 refine Tz136 ?_;unfold Vz136;obtain⟨ov,cv,av,kv,H⟩:=Zb2 H;exact Zc4 (r_vt (r_nc (r_fo0 (r_ld 0 H rfl rfl k))))
theorem Ztp (H:Holds w (SoR b s x n::L)) (hf:Fini s x) (hlen:s.length<=4000) (k:∀ v w',Same w w'->Holds w' (SL nv tI v (sortP s s.length)::SoR b s x n::L)->K v w'):Cl prog 137 #[pt b] w K:=by
 refine Tz137 ?_;unfold Vz137;refine Done_spec H ?_;rw[hf.1];refine Zak (r_vf ?_);obtain⟨ov,cv,av,kv,H⟩:=Zb2 H;refine r_nc (r_fo0 (r_ld 0 H rfl rfl ?_));refine Zbt H 1 rfl (by rw[hf.2,Zb4];omega) λv w1 S1 H1=>?_;rw[hf.2] at H1;refine k v w1 S1 ?_
 have h2:Holds w1 ((soL b s ov cv av kv x n++SL nv tI v (sortP s s.length)::L)):=by
  have h_:=Holds.ord 6 [1,2,3,4,5,0] H1 rfl;exact h_
 exact (Zao h2).swap
theorem Step_spec (H:Holds w (SoR b s x 0::L)) (hx:Fini s x\/(Inv s x/\x.reach<=2*s.length/\ldS s.length x<=4*(s.length*s.length)+s.length/\mu s.length x<=300000000000)) (hlen:s.length<=4000)
  (k:∀ y m w',Fini s y->m<=300000000000->Same w w'->Holds w' (SoR b s y m::L)->K (nv m) w'):Cl prog 135 #[pt b,iv 1099511627776] w K:=by
 refine Tz135 ?_;unfold Vz135;refine Zab (r_vf ?_);obtain⟨ov,cv,av,kv,H0⟩:=Zb2 H;refine r_nc (r_fo0 (r_ld 0 H0 rfl rfl ?_));clear H0 ov cv av kv
 refine Zlq (λj w'=>∃ (y:SS) (m:Nat),m+j<=300000000000/\Same w w'/\Holds w' (SoR b s y m::L)/\(Fini s y\/(j=mu s.length y/\Inv s y/\y.reach<=2*s.length/\ldS s.length y<=4*(s.length*s.length)+s.length)))
  (if x.done=true then 0 else mu s.length x) ?_ ?_
 ·rcases hx with hx|⟨h1,h2,h3,h4⟩
  ·rw[if_pos hx.1];exact⟨x,0,by omega,.refl _,H,.inl hx⟩
  ·rw[if_neg (by rw[h1.bs.nd];exact Bool.false_ne_true)];exact⟨x,0,by omega,.refl _,H,.inr ⟨rfl,h1,h2,h3⟩⟩
 clear H hx;rintro _ j w1 _ ⟨y,m,hm,S1,H1,hy⟩ hgo;obtain⟨ov,cv,av,kv,H2⟩:=Zb2 H1
 have hd:y.done=true->Fini s y:=λe=>by
  rcases hy with hy|⟨_,hy,_⟩
  ·exact hy
  ·rw[hy.bs.nd] at e;cases e
 refine Za2 (λt w'=>w1=w'/\t=.bool (!y.done)) ?_ ?_
 ·rintro _ _ _ ⟨rfl,rfl⟩
  cases hdn:y.done with
  |true=>
   refine r_vf ?_;refine r_nc (r_fo0 (r_ld 0 H2 rfl rfl ?_));refine r_sub (by omega) (by omega) ?_;rw[show ((m:Nat):Int) - ((0:Nat):Int)=((m:Nat):Int) by omega];exact k y m _ (hd hdn) (by omega) S1 H1
  |false=>
   refine r_vt ?_;rcases hy with hy|⟨hj,hI,hr,hl⟩
   ·rw[hy.1] at hdn;cases hdn
   refine step_spec H1 hI hlen hr hl (by omega) λw2 S2 H3=>?_;obtain⟨h5,h6⟩:=Zvw hI;refine r_ke ?_;rcases h6 with h6|h6
   ·refine hgo 0 _ ?_ ⟨_,m+1,?_,S1.trans S2,H3,.inl h6⟩
    ·omega
    ·omega
   ·obtain⟨h7,h8⟩:=Zy4 hI hl hr h6.bs.nd;refine hgo (mu s.length (stepS (keyS s y) s.length y)) _ (by omega) ⟨_,m+1,by omega,S1.trans S2,H3,.inr ⟨rfl,h6,h8,h7⟩⟩
 ·refine r_nc (r_fo0 (r_ld 0 H2 rfl rfl ?_))
  cases hdn:y.done with
  |true=>exact Zak (r_vf (r_ke ⟨rfl,rfl⟩))
  |false=>
   refine Zbo (r_vt ?_);refine r_nc (r_fo0 (r_ld 0 H2 rfl rfl ?_));refine r_sub (by omega) (by omega) ?_;exact r_lss (r_ke ⟨rfl,by rw[decide_eq_true (by omega)];rfl⟩)
def startD (n:Nat):SS:={ Go.Mr.start n with done:=decide (n < 2) }
theorem Zuo (h0:s≠[]) (hlen:s.length<=4000):Fini s (startD s.length)\/(Inv s (startD s.length)/\(startD s.length).reach<=2*s.length/\ldS s.length (startD s.length)<=4*(s.length*s.length)+s.length/\mu s.length (startD s.length)<=300000000000):=by
 have hpos:=gZ.2 h0;rcases hU_ s.length 2 with h|h
 ·refine .inl ⟨decide_eq_true h,?_⟩;show List.range s.length=_;rw[show s.length=1 by omega];rfl
 ·refine .inr ?_
  have e:startD s.length=Go.Mr.start s.length:=by unfold startD;rw[decide_eq_false (by omega)];rfl
  rw[e];exact⟨Zvm h,hE _,Nat.le_of_eq Zsv,Zz7 hlen⟩
theorem New_spec (H:Holds w L) (h0:s≠[]) (hlen:s.length<=4000) (k:∀ b w',Same w w'->Holds w' (SoR b s (startD s.length) 0::L)->K (.tuple #[pt b,iv 0]) w'):Cl prog 134 #[St_ s] w K:=by
 refine Tz134 ?_;unfold Vz134;have hpos:=gZ.2 h0
 have hsz:(⟨s.toArray⟩:ByteArray).size=s.length:=by simp[ByteArray.size]
 refine r_lns ?_;rw[hsz];refine r_gtr (r_vfD (by omega) ?_)
 refine Za2 (λx w'=>∃ (b b1 b2 b3:Nat),x=pt b/\Same w w'/\Holds w' (blk b tSo [St_ s,.slice (some ⟨b1,0,none⟩) s.length s.length,.slice (some ⟨b2,0,none⟩) s.length s.length,.slice (some ⟨b3,0,none⟩) s.length s.length,nv 0,.slice none 0 0,nv 0,nv 0,nv 0,nv 0,nv 0,nv 0,nv 0,nv 0,nv 0,.bool (decide (s.length < 2))] ::
   SL nv tI (.slice (some ⟨b1,0,none⟩) s.length s.length) (List.replicate s.length 0)::SL nv tI (.slice (some ⟨b2,0,none⟩) s.length s.length) (List.replicate s.length 0)::SL nv tI (.slice (some ⟨b3,0,none⟩) s.length s.length) (List.replicate s.length 0)::L)) ?_ ?_
 ·rintro _ _ w1 ⟨b,b1,b2,b3,rfl,S1,H1⟩;refine r_nc (r_fo0 (r_ld 0 H1 rfl rfl ?_));refine r_lnl ?_
  refine Za8 (λq w'=>∃ u:Nat,q=nv u/\u<=s.length/\Same w w'/\Holds w' (blk b tSo [St_ s,.slice (some ⟨b1,0,none⟩) s.length s.length,.slice (some ⟨b2,0,none⟩) s.length s.length,.slice (some ⟨b3,0,none⟩) s.length s.length,nv 0,.slice none 0 0,nv 0,nv 0,nv 0,nv 0,nv 0,nv 0,nv 0,nv 0,nv 0,.bool (decide (s.length < 2))] ::
   SL nv tI (.slice (some ⟨b1,0,none⟩) s.length s.length) (filled (List.range s.length) 0 s.length u)::SL nv tI (.slice (some ⟨b2,0,none⟩) s.length s.length) (List.replicate s.length 0)::SL nv tI (.slice (some ⟨b3,0,none⟩) s.length s.length) (List.replicate s.length 0)::L)) (λq _=>s.length - (intOf q).toNat)
   ⟨0,rfl,hE _,S1,by rw[Zf2];exact H1⟩ ?_
  clear H1 S1;rintro _ _ w2 ⟨u,rfl,hu,S2,H2⟩;refine r_lss (r_ifD (λh=>?_) λh=>?_)
  ·have hlt:u < s.length:=by omega
   refine r_nc (r_fo0 (r_ld 0 H2 rfl rfl ?_));refine Zat (j:=u) 1 H2 u rfl (by rw[Zbd (by omega) (by simp)];exact hlt) rfl λw3 S3 H3=>?_;refine Za0 (by omega) (r_ke ⟨⟨u+1,rfl,hlt,S2.trans S3,?_⟩,?_⟩)
   ·have e:=Zbe (xs:=List.range s.length) (z:=0) (x:=u) hlt (by simp) (by simp[hlt])
    have h3:Holds w3 (blk b tSo [St_ s,.slice (some ⟨b1,0,none⟩) s.length s.length,.slice (some ⟨b2,0,none⟩) s.length s.length,.slice (some ⟨b3,0,none⟩) s.length s.length,nv 0,.slice none 0 0,nv 0,nv 0,nv 0,nv 0,nv 0,nv 0,nv 0,nv 0,nv 0,.bool (decide (s.length < 2))] ::
     SL nv tI (.slice (some ⟨b1,0,none⟩) s.length s.length) ((filled (List.range s.length) 0 s.length u).set u u)::SL nv tI (.slice (some ⟨b2,0,none⟩) s.length s.length) (List.replicate s.length 0)::SL nv tI (.slice (some ⟨b3,0,none⟩) s.length s.length) (List.replicate s.length 0)::L):=H3
    rw[e] at h3;exact h3
   ·simp only[nv,intOf,gC];omega
  ·obtain rfl:u=s.length:=by omega
   rw[Zd8 (by simp)] at H2;refine r_bd (v:=.agg (Fp ⟨0,0,s.length⟩).toArray) (by kernel_rfl) ?_;refine r_bsK (e:=tPt) (Fp ⟨0,0,s.length⟩) H2 (by kernel_rfl) λnb w3 S3 H3=>?_;refine r_nc (r_fo0 ?_);refine r_st 1 H3 rfl (by simp) rfl λw4 S4 H4=>?_;have H5:=Zul (F:=Fp) (k:=3) 0 [⟨0,0,s.length⟩] H4 rfl;refine k b w4 (S2.trans (S3.trans S4)) (Zao (ov:=.slice (some ⟨b1,0,none⟩) s.length s.length) (cv:=.slice (some ⟨b2,0,none⟩) s.length s.length) (av:=.slice (some ⟨b3,0,none⟩) s.length s.length) (kv:=.slice (some ⟨nb,0,none⟩) 1 1) ?_);have h_:=Holds.ord 5 [1,2,3,4,0] H5 rfl;exact h_
 ·refine r_dr H λw1 S1 H1=>?_;refine r_lss ?_
  have mk:∀ {w2:World} {M:List HProp} {Q:KT},Holds w2 M->(∀ b w',Same w2 w'->Holds w' (SL nv tI (.slice (some ⟨b,0,none⟩) s.length s.length) (List.replicate s.length 0)::M)->Q (.slice (some ⟨b,0,none⟩) s.length s.length) w')->
    Ms prog 69 (nv s.length) (nv s.length) w2 Q:=λH2 hQ=>by
   refine r_ms (f:=nv) (x:=0) H2 rfl (by omega) (by omega) λb w' S' H3=>?_;rw[gC] at H3 ⊢;have H4:=H3.close 0 rfl;simp only[gJ,gP,length_nil,Nat.add_zero] at H4;exact hQ b w' S' H4
  have hdec:decide (((s.length:Nat):Int) < 2)=decide (s.length < 2):=decide_eq_decide.2 (by omega);rw[hdec]
  have fin:∀ {b1 b2 b3:Nat} {w2:World} {Q:KT},Same w w2->Holds w2 (SL nv tI (.slice (some ⟨b1,0,none⟩) s.length s.length) (List.replicate s.length 0)::SL nv tI (.slice (some ⟨b2,0,none⟩) s.length s.length) (List.replicate s.length 0)::SL nv tI (.slice (some ⟨b3,0,none⟩) s.length s.length) (List.replicate s.length 0)::L)->
    (∀ x w',(∃ (b b1 b2 b3:Nat),x=pt b/\Same w w'/\Holds w' (blk b tSo [St_ s,.slice (some ⟨b1,0,none⟩) s.length s.length,.slice (some ⟨b2,0,none⟩) s.length s.length,.slice (some ⟨b3,0,none⟩) s.length s.length,nv 0,.slice none 0 0,nv 0,nv 0,nv 0,nv 0,nv 0,nv 0,nv 0,nv 0,nv 0,.bool (decide (s.length < 2))] ::
     SL nv tI (.slice (some ⟨b1,0,none⟩) s.length s.length) (List.replicate s.length 0)::SL nv tI (.slice (some ⟨b2,0,none⟩) s.length s.length) (List.replicate s.length 0)::SL nv tI (.slice (some ⟨b3,0,none⟩) s.length s.length) (List.replicate s.length 0)::L))->Q x w')->
    Bd prog tSo #[(0,St_ s),(1,.slice (some ⟨b1,0,none⟩) s.length s.length),(2,.slice (some ⟨b2,0,none⟩) s.length s.length),(3,.slice (some ⟨b3,0,none⟩) s.length s.length),(13,.bool (decide (s.length < 2)))] w2 λx=>New x tSo w2 Q:=λ{b1 b2 b3 w2 Q} S2 H2 hQ=>by
   refine r_bd (v:=.agg #[St_ s,.slice (some ⟨b1,0,none⟩) s.length s.length,.slice (some ⟨b2,0,none⟩) s.length s.length,.slice (some ⟨b3,0,none⟩) s.length s.length,nv 0,.slice none 0 0,nv 0,nv 0,nv 0,nv 0,nv 0,nv 0,nv 0,nv 0,nv 0,.bool (decide (s.length < 2))]) (by kernel_rfl) ?_;refine r_new H2 λb w3 S3 H3=>?_;exact hQ _ _ ⟨b,b1,b2,b3,rfl,S2.trans S3,H3⟩
  refine⟨?_,?_,?_⟩
  ·refine mk H1 λb1 w2 S2 H2=>⟨mk H2 λb2 w3 S3 H3=>mk H3 λb3 w4 S4 H4=>fin (S1.trans (S2.trans (S3.trans S4))) (by have h_:=Holds.ord 3 [2,1,0] H4 rfl;exact h_) λx w' hx=>r_ke hx,mk H2 λb2 w3 S3 H3=>mk H3 λb3 w4 S4 H4=>fin (S1.trans (S2.trans (S3.trans S4))) (by have h_:=Holds.ord 3 [2,0,1] H4 rfl;exact h_) λx w' hx=>r_ke hx⟩
  ·refine mk H1 λb1 w2 S2 H2=>⟨mk H2 λb2 w3 S3 H3=>mk H3 λb3 w4 S4 H4=>fin (S1.trans (S2.trans (S3.trans S4))) (by have h_:=Holds.ord 3 [1,2,0] H4 rfl;exact h_) λx w' hx=>r_ke hx,mk H2 λb2 w3 S3 H3=>mk H3 λb3 w4 S4 H4=>fin (S1.trans (S2.trans (S3.trans S4))) (by have h_:=Holds.ord 3 [0,2,1] H4 rfl;exact h_) λx w' hx=>r_ke hx⟩
  ·refine mk H1 λb1 w2 S2 H2=>⟨mk H2 λb2 w3 S3 H3=>mk H3 λb3 w4 S4 H4=>fin (S1.trans (S2.trans (S3.trans S4))) (by have h_:=Holds.ord 3 [1,0,2] H4 rfl;exact h_) λx w' hx=>r_ke hx,mk H2 λb2 w3 S3 H3=>mk H3 λb3 w4 S4 H4=>fin (S1.trans (S2.trans (S3.trans S4))) (by have h_:=Holds.ord 3 [0,1,2] H4 rfl;exact h_) λx w' hx=>r_ke hx⟩
end S16
namespace P13
open Go.M01 Go.Mb Go.Mp Go.Mv
variable {w:World}{L:List HProp}{K:KT}{b wb n:Nat}{bs:List Bool}
abbrev tOr:Nat:=256
theorem Zir {o:List Nat}{j:Nat}(h6:o.length=6) (hj:j < 6):(o.map nv)[j]?=some (nv (o.getD j 0)):=by
 rw[hV_,gB,gA (by omega)];rfl
theorem Zp9 {i:Nat}{o:List Nat}(ho:o.length=6) (H:Holds w (blk b tOr (o.map nv)::L)) (hi:i < 6)
  (k:∀ w',Same w w'->Holds w' (blk b tOr ((front o i).map nv)::L)->K (nv (o.getD i 0)) w'):Cl prog 232 #[pt b,nv i] w K:=by
 refine Tz232 ?_;unfold Vz232;refine r_nc (Zal (by omega) (r_ld 0 H rfl (by rw[Nat.zero_add];exact Zir ho hi) ?_))
 have hlen:∀ j,j<=i->(o.take (j+1)++((o.drop j).take (i - j)++o.drop (i+1))).length=6:=λj hj=>by
  simp;omega
 refine Za8 (λx w'=>∃ j:Nat,j<=i/\x=nv j/\Same w w'/\Holds w' (blk b tOr ((o.take (j+1)++((o.drop j).take (i - j)++o.drop (i+1))).map nv)::L)) (λx _=>(intOf x).toNat) ⟨i,Nat.le_refl _,rfl,.refl w,?_⟩ ?_
 ·rw[Nat.sub_self,take_zero,hO_,hN_];exact H
 clear H;rintro _ _ w1 ⟨j,hj,rfl,S,H⟩;have h6:=hlen j hj;refine r_gtr (r_ifD (λh=>?_) λh=>?_)
 ·refine r_dr H λw2 S2 H2=>?_;refine Zaa (by omega) (by omega) ?_;refine r_nc (Zal (by omega) (r_ld 0 H2 rfl (by rw[Nat.zero_add];exact Zir h6 (by omega)) ?_));refine r_nc (Zal (by omega) ?_);refine r_st 0 H2 rfl (by rw[hS_];omega) rfl λw3 S3 H3=>?_;rw[gJ,Nat.zero_add,<-map_set] at H3
  have e:(o.take (j+1)++((o.drop j).take (i - j)++o.drop (i+1))).set j ((o.take (j+1)++((o.drop j).take (i - j)++o.drop (i+1))).getD (j - 1) 0)=o.take (j - 1+1)++((o.drop (j - 1)).take (i - (j - 1))++o.drop (i+1)):=by
   have hx:(o.take (j+1)++((o.drop j).take (i - j)++o.drop (i+1))).getD (j - 1) 0=o.getD (j - 1) 0:=by
    rw[gB,gB,gM (by simp;omega),hI_ (by omega)]
   rw[hx];obtain⟨m,rfl⟩:∃ m,j=m+1:=⟨j - 1,by omega⟩;rw[Nat.add_sub_cancel]
   have h1:o.drop m=o.getD m 0::o.drop (m+1):=by
    rw[gB,gA (by omega)];exact (List.getElem_cons_drop (by omega)).symm
   have h2:o.take (m+1+1)=o.take (m+1)++[o.getD (m+1) 0]:=by
    refine Zai ?_;rw[gB,gA (by omega)];rfl
   rw[h1,show i - m=(i - (m+1))+1 by omega,List.take_succ_cons,h2,gI,set_append_right _ _ (by simp;omega)]
   have h3:(o.take (m+1)).length=m+1:=by simp;omega
   rw[h3,Nat.sub_self];rfl
  rw[e] at H3;refine Zaa (by omega) (by omega) ?_;refine r_ke ⟨⟨j - 1,by omega,rfl,(S.trans S2).trans S3,H3⟩,?_⟩;simp only[nv,intOf,gC];omega
 ·obtain rfl:j=0:=by omega
  refine r_nc (Zal (m:=0) (by omega) ?_);refine r_st 0 H rfl (by rw[hS_];omega) rfl λw2 S2 H2=>?_;rw[gJ,Nat.zero_add,<-map_set] at H2
  have e:(o.take (0+1)++((o.drop 0).take (i - 0)++o.drop (i+1))).set 0 (o.getD i 0)=front o i:=by
   unfold front
   cases o with
   |nil=>simp at ho
   |cons x o=>rfl
  rw[e] at H2;exact k _ (S.trans S2) H2
theorem Zvf {t:Nat}{o:List Nat}(ho:o.length=6) (H:Holds w (blk b tOr (o.map nv)::L)) (ht:t∈o)
  (k:∀ w',Same w w'->Holds w' (blk b tOr ((front o (o.idxOf t)).map nv)::L)->K (nv (o.idxOf t)) w'):Cl prog 194 #[pt b,nv t] w K:=by
 refine Tz194 ?_;unfold Vz194;have hlt:=Zlz ht;refine Za8 (λx w'=>∃ i:Nat,i<=o.idxOf t/\x=nv i/\w=w') (λx _=>6 - (intOf x).toNat) ⟨0,hE _,rfl,rfl⟩ ?_;rintro _ _ _ ⟨i,hi,rfl,rfl⟩;refine r_nc (Zal (by omega) (r_ld 0 H rfl (by rw[Nat.zero_add];exact Zir ho (by omega)) ?_));refine r_neq (r_ifN (λh=>?_) λh=>?_)
 ·have hne:i≠o.idxOf t:=by
   rintro rfl;rw[Zvd ht] at h;exact h rfl
  refine Za0 (by omega) ?_;refine r_ke ⟨⟨i+1,by omega,rfl,rfl⟩,?_⟩;simp only[nv,intOf,gC];omega
 ·have hx:o[i]=t:=by
   have:o.getD i 0=t:=by omega
   rw[gB,gA (by omega)] at this;exact this
  have hie:i=o.idxOf t:=by
   rcases hU_ i (o.idxOf t) with h1|h1
   ·exact absurd hx (by simpa using List.not_of_lt_findIdx (p:=(·==t)) h1)
   ·omega
  subst hie;exact Zp9 ho H (by omega) k
theorem Zyn (A:List Nat) (m x:Nat):(A++List.replicate (m+1) 0).set A.length x=A++[x]++List.replicate m 0:=by
 rw[set_append_right _ _ (Nat.le_refl _),Nat.sub_self,List.replicate_succ,gJ];simp
abbrev ord0:List Nat:=[0,1,2,3,4,5]
theorem Zi4 {v:Value}{l:List Nat}(H:Holds w (SL nv tI v l::L)) (hl:l.length<=1000000) (hp:∀ p∈l,p < 6)
  (k:∀ v' w',Same w w'->Holds w' (SL nv tI v' (pickE ord0 l).2::SL nv tI v l::L)->K v' w'):Cl prog 144 #[v] w K:=by
 refine Tz144 ?_;unfold Vz144
 have hmem:∀ p∈l,p∈ord0:=λp h=>by
  have:=hp p h
  rcases (show p=0\/p=1\/p=2\/p=3\/p=4\/p=5 by omega) with h|h|h|h|h|h <;> rw[h] <;> simp
 refine Zju H λw1 S1 H1=>?_
 have hz:(zeroP prog tOr).cells.toList=[nv 0,nv 0,nv 0,nv 0,nv 0,nv 0]:=by kernel_rfl
 refine r_new H1 λob w2 S2 H2=>?_;rw[hz] at H2;refine r_stA 0 H2 (vs:=[nv 0,nv 1,nv 2,nv 3,nv 4,nv 5]) rfl (Nat.le_refl 6) rfl rfl λw3 S3 H3=>?_;replace H3:Holds w3 (blk ob tOr (ord0.map nv)::SL nv tI v l::L):=H3;refine r_lnS 1 H3 rfl ?_;refine r_ms (f:=nv) (x:=0) H3 rfl (by omega) (by omega) λq w4 S4 H4=>?_;rw[gC] at H4 ⊢;have H5:=H4.close 0 rfl;simp only[gJ,gP,length_nil,Nat.add_zero] at H5;generalize hv:Value.slice (some ⟨q,0,none⟩) l.length l.length=v2 at H5 ⊢;refine r_lnS 2 H5 rfl ?_
 have hinv:∀ i,i<=l.length->(∀ x,x∈(pickE ord0 (l.take i)).1↔x∈ord0)/\(pickE ord0 (l.take i)).1.length=6/\(pickE ord0 (l.take i)).2.length=i:=λi hi=>by
  have:=Zdd (o:=ord0) (l:=l.take i) λc hc=>hmem c (mem_of_mem_take hc);exact⟨this.1,this.2.1,by rw[this.2.2.1,gN];omega⟩
 refine Za8 (λx w'=>∃ i:Nat,i<=l.length/\x=nv i/\Same w w'/\Holds w' (blk ob tOr ((pickE ord0 (l.take i)).1.map nv)::SL nv tI v2 ((pickE ord0 (l.take i)).2++List.replicate (l.length - i) 0)::SL nv tI v l::L)) (λx _=>l.length - (intOf x).toNat)
  ⟨0,hE _,rfl,((S1.trans S2).trans S3).trans S4,by rw[take_zero,Nat.sub_zero];exact H5.swap⟩ ?_
 clear H H1 H2 H3 H4 H5 S1 S2 S3 S4;rintro _ _ w5 ⟨i,hi,rfl,S,H⟩;obtain⟨hm,h6,hln⟩:=hinv i hi;refine r_lss (r_ifD (λh=>?_) λh=>?_)
 ·have hlt:i < l.length:=by omega
  have hg:l.take (i+1)=l.take i++[l[i]]:=by rw[gO,gA hlt];rfl
  refine Za6 2 H rfl (gA hlt) ?_;have hc:l[i]∈(pickE ord0 (l.take i)).1:=(hm _).2 (hmem _ (getElem_mem _));refine Zvf h6 H hc λw6 S6 H6=>?_;refine Zat 1 H6 (j:=i) ((pickE ord0 (l.take i)).1.idxOf l[i]) rfl (by rw[gD,hln,gP];omega) rfl λw7 S7 H7=>?_;refine Za0 (by omega) ?_
  have e1:((pickE ord0 (l.take i)).2++List.replicate (l.length - i) 0).set i ((pickE ord0 (l.take i)).1.idxOf l[i])=(pickE ord0 (l.take (i+1))).2++List.replicate (l.length - (i+1)) 0:=by
   rw[hg,Zck];have:=Zyn (pickE ord0 (l.take i)).2 (l.length - (i+1)) ((pickE ord0 (l.take i)).1.idxOf l[i]);rw[hln,show l.length - (i+1)+1=l.length - i by omega] at this;exact this
  have e2:front (pickE ord0 (l.take i)).1 ((pickE ord0 (l.take i)).1.idxOf l[i])=(pickE ord0 (l.take (i+1))).1:=by rw[hg,Zck];rfl
  replace H7:Holds w7 (blk ob tOr ((front (pickE ord0 (l.take i)).1 ((pickE ord0 (l.take i)).1.idxOf l[i])).map nv)::SL nv tI v2 (((pickE ord0 (l.take i)).2++List.replicate (l.length - i) 0).set i ((pickE ord0 (l.take i)).1.idxOf l[i]))::SL nv tI v l::L):=H7;rw[e1,e2] at H7;refine r_ke ⟨⟨i+1,by omega,rfl,(S.trans S6).trans S7,H7⟩,?_⟩;simp only[nv,intOf,gC];omega
 ·obtain rfl:i=l.length:=by omega
  rw[hF_,Nat.sub_self,replicate_zero,gU] at H;exact k _ _ S H.drop
theorem Write_spec {v:Value}{l:List Nat}{t:Nat}(H:Holds w (W01.WrR wb bs n::SL nv tI v l::L)) (ht:2<=t/\t<=6) (hl0:l≠[]) (hll:l.length<=32767) (hp:∀ p∈l,p < t) (hl:bs.length<=10000000000) (hn:n<=bs.length/8)
  (k:∀ w',Same w w'->Holds w' (W01.WrR wb (bs++picksB l t) n::SL nv tI v l::L)->K (iv 0) w'):Cl prog 100 #[pt wb,v,nv t] w K:=by
 refine Tz100 ?_;unfold Vz100;have h0:0 < l.length:=gZ.2 hl0;refine Zab (r_vf ?_);refine r_cl (K:=λx w'=>x=.bool true/\Same w w'/\Holds w' (W01.WrR wb bs n::SL nv tI v l::L)) ?_ ?_
 ·refine Tz143 ?_;unfold Vz143;refine r_new H λtb w1 S1 H1=>?_;replace H1:Holds w1 (blk tb tI [nv t]::W01.WrR wb bs n::SL nv tI v l::L):=H1;refine Za2 (λx w'=>w1=w'/\x=.bool false) ?_ ?_
  rotate_left
  ·refine r_ld 0 H1 rfl rfl ?_;refine r_cl (K:=λx w'=>w1=w'/\x=.bool true) ?_ ?_
   ·refine Tz190 ?_;unfold Vz190;refine r_geq (r_vtD (by omega) ?_);exact r_leq ⟨rfl,by rw[decide_eq_true (by omega)]⟩
   rintro _ _ ⟨rfl,rfl⟩;refine Zak (r_vf ?_);refine r_lnS 2 H1 rfl ?_;refine r_eql (r_vfE (by omega) ?_);refine r_lnS 2 H1 rfl ?_;exact r_gtr (r_ke ⟨rfl,by rw[decide_eq_false (by omega)]⟩)
  rintro _ _ _ ⟨rfl,rfl⟩;refine r_vf ?_;refine r_mf (.func (.func 192) #[] #[pt tb]) (by kernel_rfl) ?_;refine D11.Zee H1 2 rfl (by omega) (λx hx Q hQ=>?_) ?_
  ·have:=hp x hx;refine r_inv (f:=192) (args:=#[nv x,pt tb]) (by kernel_rfl) ?_;refine Tz192 ?_;unfold Vz192;refine r_lss (r_vfD (by omega) ?_);refine r_ld 0 H1 rfl rfl ?_;refine r_geq ?_;rw[decide_eq_false (by omega)];exact hQ
  ·exact Zbo ⟨rfl,S1,H1.drop⟩
 clear H;rintro _ w1 ⟨rfl,S,H⟩;refine Zak (r_vf ?_);refine Zan (by omega) (by omega) ?_;refine W01.Put_spec (n:=3) H (by omega) hn (by omega) (by omega) λw2 S2 H2=>?_;refine r_lnS 1 H2 rfl ?_;refine Zan (by omega) (by omega) ?_;have h3:(bitsOf t 3).length=3:=Za1 _ _;have h15:(bitsOf l.length 15).length=15:=Za1 _ _;refine W01.Put_spec (n:=15) H2 (by rw[gD];omega) (by rw[gD];omega) (by omega) (by omega) λw3 S3 H3=>?_;refine Zi4 H3.swap (by omega) (λp h=>by have:=hp p h;omega) λpv w4 S4 H4=>?_
 have hinv:=Zdd (o:=ord0) (l:=l) λc hc=>by
  have:=hp c hc
  rcases (show c=0\/c=1\/c=2\/c=3\/c=4\/c=5 by omega) with h|h|h|h|h|h <;> rw[h] <;> simp
 obtain⟨_,_,hpl,hp6⟩:=hinv;generalize hP:(pickE ord0 l).2=P at *;replace H4:Holds w4 (W01.WrR wb (bs++bitsOf t 3++bitsOf l.length 15) n::SL nv tI pv P::SL nv tI v l::L):=(by have h_:=Holds.ord 3 [2,0,1] H4 rfl;exact h_);refine r_lnS 1 H4 rfl ?_
 refine Za8 (λx w'=>∃ i:Nat,i<=P.length/\x=nv i/\Same w w'/\Holds w' (W01.WrR wb (bs++bitsOf t 3++bitsOf l.length 15++onesB (P.take i)) n::SL nv tI pv P::SL nv tI v l::L)) (λx _=>P.length - (intOf x).toNat)
  ⟨0,hE _,rfl,((S.trans S2).trans S3).trans S4,by rw[take_zero,onesB,flatMap_nil,gU];exact H4⟩ ?_
 clear H H2 H3 H4 S S2 S3 S4;rintro _ _ w5 ⟨i,hi,rfl,S,H⟩;refine r_lss (r_ifD (λh=>?_) λh=>?_)
 ·have hlt:i < P.length:=by omega
  have hg:P.take (i+1)=P.take i++[P[i]]:=by rw[gO,gA hlt];rfl
  have h6:=hp6 _ (getElem_mem hlt);have hol:=Zfg (l:=P.take i) (m:=6) λp h=>hp6 p (mem_of_mem_take h);rw[gN] at hol
  have hal:(bs++bitsOf t 3++bitsOf l.length 15++onesB (P.take i)).length<=bs.length+18+6*32767:=by rw[gD,gD,gD];omega
  have hal2:bs.length<=(bs++bitsOf t 3++bitsOf l.length 15++onesB (P.take i)).length:=by rw[gD,gD,gD];omega
  refine Za6 1 H rfl (gA hlt) ?_;generalize P[i]=a at *;replace h6:a < 6:=h6;refine Za0 (by omega) ?_;have hpw:2^(a+1)<=2^6:=Nat.pow_le_pow_right (by decide) (by omega);have hpw2:2^1<=2^(a+1):=Nat.pow_le_pow_right (by decide) (by omega);refine Zcu (s:=1) (n:=a+1) (by omega) ?_;rw[Nat.one_mul,Nat.mod_eq_of_lt (by omega)];refine Zhp (s:=2^(a+1)) (t:=2) (by omega) (by omega) ?_;refine Za0 (by omega) ?_;refine W01.Put_spec (n:=a+1) H (by omega) (by omega) (by omega) (by omega) λw6 S6 H6=>?_;rw[Zvt,gI,<-Zgu,<-hg] at H6;refine Za0 (by omega) ?_;refine r_ke ⟨⟨i+1,by omega,rfl,S.trans S6,H6⟩,?_⟩;simp only[nv,intOf,gC];omega
 ·obtain rfl:i=P.length:=by omega
  rw[hF_] at H;refine k _ S ?_;unfold picksB;rw[hP,<-gI,<-gI];exact Holds.dropAt H 1
end P13
namespace F08
variable {w:World}{L:List HProp}{K:KT}
def cost (l lens:List Nat):Nat:=(l.map λx=>lens.getD x 0).sum
def costD (l lens:List Nat) (t:Nat):Nat:=((List.range t).map λx=>l.count x*lens.getD x 0).sum
theorem Zrh (l:List Nat) (x:Nat):(l++[x]).sum=l.sum+x:=by simp
theorem Zd5 (l lens:List Nat) (t:Nat):costD l lens (t+1)=costD l lens t+l.count t*lens.getD t 0:=by
 unfold costD;rw[range_succ,map_append,hR_,map_nil,Zrh]
theorem Zgp (y:Nat) (l lens:List Nat):∀ t,costD (y::l) lens t=costD l lens t+if y < t then lens.getD y 0 else 0
 |0=>by simp[costD]
 |t+1=>by
  rw[Zd5,Zd5,Zgp y l lens t,List.count_cons]
  by_cases e:y=t
  ·subst e;rw[if_neg (Nat.lt_irrefl _),if_pos (by simp),if_pos (by omega),Nat.add_mul,Nat.one_mul];omega
  ·have:(y==t)=false:=by simpa using e
   rw[this];simp only[Bool.false_eq_true,if_false,Nat.add_zero]
   by_cases q:y < t
   ·rw[if_pos q,if_pos (by omega)];omega
   ·rw[if_neg q,if_neg (by omega),Nat.add_zero,Nat.add_zero]
theorem Zn1 (lens:List Nat):∀ l:List Nat,(∀ x∈l,x < lens.length)->costD l lens lens.length=cost l lens
 |[],_=>by
  have:∀ t,costD [] lens t=0:=by
   intro t
   induction t with
   |zero=>rfl
   |succ t ih=>rw[Zd5,ih];simp
  exact this _
 |y::l,h=>by
  rw[Zgp,Zn1 lens l λx hx=>h x (hK_ _ hx),if_pos (h y (hJ_ ..))];unfold cost;rw[hR_,hQ_];omega
theorem Zie {lens:List Nat}(h:∀ x∈lens,x<=20) (y:Nat):lens.getD y 0<=20:=by
 rw[gB];rcases hU_ y lens.length with q|q
 ·rw[gA q];exact h _ (getElem_mem q)
 ·rw[getElem?_eq_none q];exact hE _
theorem Zry {lens:List Nat}(h:∀ x∈lens,x<=20) (t:Nat):∀ l:List Nat,costD l lens t<=l.length*20
 |[]=>by
  have:∀ t,costD [] lens t=0:=by
   intro t
   induction t with
   |zero=>rfl
   |succ t ih=>rw[Zd5,ih];simp
  rw[this];exact hE _
 |y::l=>by
  have h1:=Zry h t l;have h2:=Zie h y;rw[Zgp,length_cons,Nat.add_mul]
  split <;> omega
theorem Zlp {lens:List Nat}(h:∀ x∈lens,x<=20):∀ l:List Nat,cost l lens<=l.length*20
 |[]=>Nat.le_refl _
 |y::l=>by
  have h1:=Zlp h l;have h2:=Zie h y;show ((lens.getD y 0::l.map λx=>lens.getD x 0):List Nat).sum<=_;unfold cost at h1;rw[hQ_,length_cons,Nat.add_mul];omega
theorem Zma {v:Value}{l:List Nat}{i:Nat}(H:Holds w L) (hi:L[i]?=some (SL nv tI v l)) (hl:l.length<=1000000) (hb:∀ x∈l,x<=1099511627776) (k:K (.bool true) w):Cl prog 199 #[v] w K:=by
 refine Tz199 ?_;unfold Vz199;refine D11.Zee H i hi hl (λx hx Q hQ=>?_) (Zbo k);have h1:=hb x hx;refine r_inv (f:=233) (args:=#[nv x]) (by kernel_rfl) ?_;refine Tz233 ?_;unfold Vz233;refine r_cl (K:=λz w'=>w=w'/\z=.bool true) ?_ ?_
 ·refine Tz234 ?_;unfold Vz234;refine r_geq (r_vtD (by omega) ?_);exact r_leq ⟨rfl,by rw[decide_eq_true (by omega)]⟩
 rintro _ _ ⟨rfl,rfl⟩;exact Zak hQ
theorem Zgf {a b:Nat}(h:a+b<=1099511627776) (k:K (nv (a+b)) w):Cl prog 200 #[nv a,nv b] w K:=by
 refine Tz200 ?_;unfold Vz200;refine Zac (by omega) (r_min ?_);rw[show min (((a+b:Nat):Int)) 1099511627776=((a+b:Nat):Int) by omega];exact k
theorem Zng {v v2:Value}{l lens:List Nat}{i j:Nat}(H:Holds w L) (hi:L[i]?=some (SL nv tI v l)) (hj:L[j]?=some (SL nv tI v2 lens)) (hl:l.length<=10000000) (hn:lens.length<=1000000) (h20:∀ x∈lens,x<=20) (hx:∀ x∈l,x < lens.length)
  (k:K (.tuple #[nv (cost l lens),iv 0]) w):Cl prog 150 #[v,v2] w K:=by
 refine Tz150 ?_;unfold Vz150;refine Zma H hj hn (λx hx=>by have:=h20 x hx;omega) (Zak (r_vf ?_));refine r_lnS i H hi ?_;refine Za7 (λp q w'=>∃ t:Nat,p=nv (cost (l.take t) lens)/\q=nv t/\t<=l.length/\w=w') (λ_ q _=>l.length - (intOf q).toNat) ⟨0,rfl,rfl,hE _,rfl⟩ ?_;rintro _ _ _ _ ⟨t,rfl,rfl,ht,rfl⟩;refine r_lss (r_ifD (λh=>?_) λh=>?_)
 ·have hlt:t < l.length:=by omega
  have e:l.take (t+1)=l.take t++[l[t]]:=by rw[gO,gA hlt];rfl
  have hxt:=hx _ (getElem_mem hlt);have hc:=Zlp h20 (l.take t);rw[gN] at hc;refine Za6 i H hi (gA hlt) ?_;generalize l[t]=x at *;have hg:=Zie h20 x
  have e2:cost (l.take (t+1)) lens=cost (l.take t) lens+lens.getD x 0:=by
   unfold cost;rw[e,map_append,hR_,map_nil,Zrh]
  refine Za2 (λz w'=>w=w'/\z=.bool false) ?_ ?_
  rotate_left
  ·refine r_lss (r_vfD (by omega) ?_);refine r_lnS j H hj (r_geq (r_ke ⟨rfl,by rw[decide_eq_false (by omega)]⟩))
  rintro _ _ _ ⟨rfl,rfl⟩;refine r_vf ?_;refine Za6 j H hj (x:=lens.getD x 0) (by rw[gB,gA hxt];rfl) ?_;refine Zgf (by omega) ?_;rw[<-e2];refine Za0 (by omega) (r_ke ⟨⟨t+1,rfl,rfl,by omega,rfl⟩,?_⟩);simp only[nv,intOf,gC];omega
 ·rw[gK (by omega)];exact k
theorem Zkh {v v2:Value}{l lens:List Nat}{i j:Nat}(H:Holds w L) (hi:L[i]?=some (SL nv tI v l)) (hj:L[j]?=some (SL nv tI v2 lens)) (hl:l.length<=10000000) (hn:lens.length<=1000000) (h20:∀ x∈lens,x<=20) (hx:∀ x∈l,x < lens.length)
  (k:K (nv (cost l lens)) w):Cl prog 205 #[v,v2] w K:=by
 refine Tz205 ?_;unfold Vz205;refine r_lnS j H hj ?_;refine Za7 (λp q w'=>∃ t:Nat,p=nv (costD l lens t)/\q=nv t/\t<=lens.length/\w=w') (λ_ q _=>lens.length - (intOf q).toNat) ⟨0,rfl,rfl,hE _,rfl⟩ ?_;rintro _ _ _ _ ⟨t,rfl,rfl,ht,rfl⟩;refine r_lss (r_ifD (λh=>?_) λh=>?_)
 ·have hlt:t < lens.length:=by omega
  have hs:=Zd5 l lens t;have hle:=Zry h20 (t+1) l;refine Za6 j H hj (x:=lens.getD t 0) (by rw[gB,gA hlt];rfl) ?_;refine Zk2 H (i:=i) (x:=t) hi (by omega) ?_;have hcl:l.count t<=l.length:=List.count_le_length;generalize lens.getD t 0=y at *;generalize l.count t=c at *;generalize costD l lens t=b at *;refine Za7 (λp q w'=>∃ m:Nat,p=nv (b+m*y)/\q=nv m/\m<=c/\w=w') (λ_ q _=>c - (intOf q).toNat) ⟨0,by rw[Nat.zero_mul,Nat.add_zero],rfl,hE _,rfl⟩ ?_;rintro _ _ _ _ ⟨m,rfl,rfl,hm,rfl⟩;refine r_lss (r_ifD (λh2=>?_) λh2=>?_)
  ·have h3:(m+1)*y<=c*y:=Nat.mul_le_mul_right _ (by omega)
   have h4:(m+1)*y=m*y+y:=by rw[Nat.add_mul,Nat.one_mul]
   refine Zac (by omega) ?_;refine r_cl (K:=λz w'=>w=w'/\z=nv (b+(m+1)*y)) ?_ ?_
   ·refine Tz236 ?_;unfold Vz236;refine r_gtr (r_vfD (by omega) ?_);exact⟨rfl,by rw[h4,hG_]⟩
   rintro _ _ ⟨rfl,rfl⟩;refine Za0 (by omega) (r_ke ⟨⟨m+1,rfl,rfl,by omega,rfl⟩,?_⟩);simp only[nv,intOf,gC];omega
  ·obtain rfl:m=c:=by omega
   refine Za0 (by omega) (r_ke ⟨⟨t+1,by rw[hs],rfl,by omega,rfl⟩,?_⟩);simp only[nv,intOf,gC];omega
 ·obtain rfl:t=lens.length:=by omega
  rw[Zn1 lens l hx];exact k
theorem Zdf {n:Nat}(hn:n<=1000000000) (k:K (nv ((n+49)/50)) w):Cl prog 148 #[nv n] w K:=by
 refine Tz148 ?_;unfold Vz148;refine r_leq (r_ifD (λh=>?_) λh=>?_)
 ·obtain rfl:n=0:=by omega
  exact k
 ·refine Zaa (by omega) (by omega) ?_;refine r_quo (by omega) (by omega) (by omega) ?_;rw[show ((n - 1:Nat):Int)/50=(((n - 1)/50:Nat):Int) by omega];refine Za0 (by omega) ?_;rw[show (n - 1)/50+1=(n+49)/50 by omega];exact k
def addL (a b:List Nat):List Nat:=List.zipWith (·+·) a b
theorem Zyq {v v2:Value}{a b:List Nat}{i j:Nat}(H:Holds w L) (hi:L[i]?=some (SL nv tI v a)) (hj:L[j]?=some (SL nv tI v2 b)) (hl:a.length<=1000000) (hab:b.length=a.length) (ha:∀ x∈a,x<=500000000000) (hb:∀ x∈b,x<=500000000000)
  (k:∀ v' w',Same w w'->Holds w' (SL nv tI v' (addL a b)::L)->K (.tuple #[v',iv 0]) w'):Cl prog 229 #[v,v2] w K:=by
 refine Tz229 ?_;unfold Vz229;refine Za2 (λt w'=>w=w'/\t=.bool false) ?_ ?_
 rotate_left
 ·refine r_lnS i H hi (r_lnS j H hj (r_neq (r_vfN (by omega) ?_)));refine Zma H hi hl (λx hx=>by have:=ha x hx;omega) (Zak (r_vf ?_));exact Zma H hj (by omega) (λx hx=>by have:=hb x hx;omega) (Zak (r_ke ⟨rfl,rfl⟩))
 rintro _ _ _ ⟨rfl,rfl⟩;refine r_vf ?_;refine r_lnS i H hi ?_;refine r_ms (f:=nv) (x:=0) H rfl (by omega) (by omega) λob w2 S2 H2=>?_;rw[gC] at H2 ⊢;have H3:=H2.close 0 rfl;simp only[gJ,gP,length_nil,Nat.add_zero] at H3;generalize hv:Value.slice (some ⟨ob,0,none⟩) a.length a.length=ov at H3 ⊢;refine r_lnS 0 H3 rfl ?_;rw[gP];refine Za8 (λq w'=>∃ (t:Nat),q=nv t/\t<=a.length/\Same w w'/\Holds w' (SL nv tI ov (addL (a.take t) (b.take t)++List.replicate (a.length - t) 0)::L)) (λq _=>a.length - (intOf q).toNat) ⟨0,rfl,hE _,S2,H3⟩ ?_;clear H H2 H3 S2;rintro _ _ w3 ⟨t,rfl,ht,S3,H3⟩;refine r_lss (r_ifD (λh=>?_) λh=>?_)
 ·have hlt:t < a.length:=by omega
  have hlt2:t < b.length:=by omega
  have h1:=ha _ (getElem_mem hlt);have h2:=hb _ (getElem_mem hlt2)
  have e1:a.take (t+1)=a.take t++[a[t]]:=by rw[gO,gA hlt];rfl
  have e2:b.take (t+1)=b.take t++[b[t]]:=by rw[gO,gA hlt2];rfl
  refine r_dr H3 λw4 S4 H4=>?_;refine Za6 (i+1) H4 (by rw[gF];exact hi) (gA hlt) ?_;refine Za6 (j+1) H4 (by rw[gF];exact hj) (gA hlt2) ?_;generalize a[t]=x at *;generalize b[t]=y at *
  have hlen:(addL (a.take t) (b.take t)).length=t:=by unfold addL;rw[List.length_zipWith,gN,gN];omega
  refine Zgf (by omega) ?_;refine Zat 0 H4 (x+y) rfl (by rw[gD,hlen,gP];omega) rfl λw5 S5 H5=>?_;refine Za0 (by omega) (r_ke ⟨⟨t+1,rfl,by omega,S3.trans (S4.trans S5),?_⟩,?_⟩)
  ·replace H5:Holds w5 (SL nv tI ov ((addL (a.take t) (b.take t)++List.replicate (a.length - t) 0).set t (x+y))::L):=H5;rw[set_append_right _ _ (by omega),hlen,Nat.sub_self,show a.length - t=(a.length - (t+1))+1 by omega,List.replicate_succ,gJ] at H5
   have e3:addL (a.take (t+1)) (b.take (t+1))=addL (a.take t) (b.take t)++[x+y]:=by
    unfold addL;rw[e1,e2,List.zipWith_append (by rw[gN,gN];omega)];rfl
   rw[e3,gI];exact H5
  ·simp only[nv,intOf,gC];omega
 ·obtain rfl:t=a.length:=by omega
  rw[hF_,gK (by omega),Nat.sub_self,replicate_zero,gU] at H3;exact k ov w3 S3 H3
end F08
namespace T12
variable {w:World}{L:List HProp}{K:KT}
def bnd:List Nat:=[200,600,1200,2400]
def numAt (n t:Nat):Nat:=2+((bnd.take t).filter λb=>decide (b<=n)).length
def num (n:Nat):Nat:=numAt n 4
theorem Zda (n:Nat){t:Nat}(h:t < 4):numAt n (t+1)=numAt n t+if bnd.getD t 0<=n then 1 else 0:=by
 unfold numAt;have hl:t < bnd.length:=h;rw[gO,gA hl,List.filter_append,gD,gB,gA hl];show 2+(_+(List.filter _ [bnd[t]]).length)=_
 by_cases e:bnd[t]<=n
 ·rw[List.filter_cons_of_pos (by simpa using e)]
  show _=_+if bnd[t]<=n then 1 else 0
  rw[if_pos e];simp;omega
 ·rw[List.filter_cons_of_neg (by simpa using e)]
  show _=_+if bnd[t]<=n then 1 else 0
  rw[if_neg e];simp
def BndOk (L:List HProp):Prop:=∀ w',Holds w' L->∃ e z,w'.heap[1]?=some (.cells (bnd.map nv).toArray e z)
theorem BndOk.up {Q:HProp}(h:BndOk L):BndOk (Q::L):=λw' H=>h w' H.drop
theorem Number_spec {n:Nat}(H:Holds w L) (hb:BndOk L) (k:K (nv (num n)) w):Cl prog 227 #[nv n] w K:=by
 refine Tz227 ?_;unfold Vz227;obtain⟨e,z,hh⟩:=hb w H;refine Yeb (p:=⟨1,0,none⟩) (cs:=(bnd.map nv).toArray) rfl (λj v hv=>?_) ?_
 ·have e1:(⟨1,0,none⟩:Addr).add j=⟨1,j,none⟩:=by
   unfold Addr.add;split
   ·rename_i q;rw[q]
   ·simp
  rw[e1];simp only[World.cell?,hh];exact hv
 refine Za7 (λp q w'=>∃ t:Nat,p=nv (numAt n t)/\q=nv t/\t<=4/\numAt n t<=2+t/\w=w') (λ_ q _=>4 - (intOf q).toNat) ⟨0,rfl,rfl,by omega,Nat.le_refl _,rfl⟩ ?_;rintro _ _ _ _ ⟨t,rfl,rfl,ht,hle,rfl⟩;refine r_lss (r_ifD (λh=>?_) λh=>?_)
 ·have hlt:t < 4:=by omega
  have hs:=Zda n hlt;have hl:t < bnd.length:=hlt
  refine Zoh (nv (bnd.getD t 0)) (by omega) (by omega) (by
   rw[gC,hV_,gA hl,gB,gA hl];rfl) ?_
  refine r_geq (r_ifD (λq=>?_) λq=>?_)
  ·rw[if_pos (by omega)] at hs;refine Za0 (by omega) (Za0 (by omega) (r_ke ⟨⟨t+1,by rw[hs],rfl,by omega,by omega,rfl⟩,?_⟩));simp only[nv,intOf,gC];omega
  ·rw[if_neg (by omega)] at hs;refine Za0 (by omega) (r_ke ⟨⟨t+1,by rw[hs];rfl,rfl,by omega,by omega,rfl⟩,?_⟩);simp only[nv,intOf,gC];omega
 ·obtain rfl:t=4:=by omega
  exact k
theorem Zmk {n:Nat}(k:K (nv (num n)) w):Cl prog 203 #[nv n] w K:=by
 refine Tz203 ?_;unfold Vz203;have h0:numAt n 0=2:=rfl;have h1:numAt n 1=numAt n 0+_:=Zda n (t:=0) (by omega);have h2:numAt n 2=numAt n 1+_:=Zda n (t:=1) (by omega);have h3:numAt n 3=numAt n 2+_:=Zda n (t:=2) (by omega);have h4:numAt n 4=numAt n 3+_:=Zda n (t:=3) (by omega);rw[show bnd.getD 0 0=200 from rfl] at h1;rw[show bnd.getD 1 0=600 from rfl] at h2;rw[show bnd.getD 2 0=1200 from rfl] at h3;rw[show bnd.getD 3 0=2400 from rfl] at h4;have hn:num n=numAt n 4:=rfl;refine r_lss (r_ifD (λq=>?_) λq=>?_)
 ·rw[if_neg (by omega)] at h1 h2 h3 h4;rw[show num n=2 by omega] at k;exact k
 refine r_lss (r_ifD (λq2=>?_) λq2=>?_)
 ·rw[if_pos (by omega)] at h1;rw[if_neg (by omega)] at h2 h3 h4;rw[show num n=3 by omega] at k;exact k
 refine r_lss (r_ifD (λq3=>?_) λq3=>?_)
 ·rw[if_pos (by omega)] at h1 h2;rw[if_neg (by omega)] at h3 h4;rw[show num n=4 by omega] at k;exact k
 refine r_lss (r_ifD (λq4=>?_) λq4=>?_)
 ·rw[if_pos (by omega)] at h1 h2 h3;rw[if_neg (by omega)] at h4;rw[show num n=5 by omega] at k;exact k
 ·rw[if_pos (by omega)] at h1 h2 h3 h4;rw[show num n=6 by omega] at k;exact k
end T12
namespace F08
variable {w:World}{L:List HProp}{K:KT}
theorem Zpf {b o m c j:Nat}{cs:List Value}{xs:List Nat}(H:Holds w L) (hj:L[j]?=some (blk b tI cs)) (hcs:(cs.drop o).take m=xs.map nv) (hm:m=xs.length) (hne:0 < xs.length) (hn:xs.length<=1000000000)
  (k:∀ v' w',Same w w'->Holds w' (SL nv tI v' xs::L)->K v' w'):Cl prog 153 #[.slice (some ⟨b,o,none⟩) m c] w K:=by
 refine Tz153 ?_;unfold Vz153;refine Zuf _ _ _ (r_vf ?_);refine r_bsK (e:=tI) [] H (by kernel_rfl) λb0 w1 S1 H1=>?_;have H2:=Holds.slb' (f:=nv) (xs:=[]) (sp:=[]) H1 0 rfl;rw[gJ] at H2;refine r_apO (f:=nv) (xs:=[]) (ys:=xs) (sp:=[]) (l:=0) (c:=0) H2 0 (j+1) rfl (by rw[gF];exact hj) hcs hm rfl rfl sg_nv (by simp only[length_nil];omega) hne λoa' sp' w2 S2 H3=>?_;rw[gJ,hO_] at H3;have H4:=H3.close 0 rfl;rw[gJ] at H4;have:=k _ w2 (S1.trans S2) H4;simpa only[length_nil,Nat.zero_add] using this
theorem Zk0 {v:Value}{l:List Nat}{i g:Nat}(H:Holds w L) (hi:L[i]?=some (SL nv tI v l)) (hl:l.length<=100000000) (hg:g*50 < l.length)
  (k:∀ v' w',Same w w'->Holds w' (SL nv tI v' ((l.drop (g*50)).take 50)::L)->K (.tuple #[v',iv 0]) w'):Cl prog 149 #[v,nv g] w K:=by
 refine Tz149 ?_;unfold Vz149;refine Za2 (λt w'=>w=w'/\t=.bool false) ?_ ?_
 rotate_left
 ·refine r_lss (r_vfD (by omega) ?_);refine r_lnS i H hi (Zdf (by omega) ?_);exact r_geq (r_ke ⟨rfl,by rw[decide_eq_false (by omega)]⟩)
 rintro _ _ _ ⟨rfl,rfl⟩;refine r_vf ?_;refine r_cl (K:=λz w'=>Same w w'/\Holds w' (SL nv tI z ((l.drop (g*50)).take 50)::L)) ?_ ?_
 ·refine Tz198 ?_;unfold Vz198;refine Zbc ((g*50:Nat):Int) (by omega) (by omega) (by omega) ?_;refine r_lnS i H hi (Za0 (by omega) ?_);refine Zbc (((g+1)*50:Nat):Int) (by omega) (by omega) (by omega) ?_;refine r_min ?_;obtain⟨h,hh⟩:∃ h,h=min l.length ((g+1)*50):=⟨_,rfl⟩;rw[show min (l.length:Int) (((g+1)*50:Nat):Int)=(h:Int) by omega];obtain⟨oa,sp,rfl,H1⟩:=H.open i hi
  cases oa with
  |none=>
   obtain⟨q,⟨h2,_⟩,_⟩:=H1.front i (Za5 hi);subst h2;simp at hg
  |some a=>
   obtain⟨q,⟨h2,h3,_⟩,_⟩:=H1.front i (Za5 hi);obtain⟨b,o,s⟩:=a;simp only at h2 h3;subst h2;subst h3;refine Zy3 (by omega) (by omega) ?_;rw[if_neg (by omega)];have H2:=H1.slb i (Za5 hi);rw[set_set] at H2
   have e1:Option.map (λx:Addr=>x.add (g*50*1)) (some (⟨b,0,none⟩:Addr))=some (⟨b,g*50,none⟩:Addr):=by
    show some ((⟨b,0,none⟩:Addr).add (g*50*1))=_;rw[Nat.mul_one];unfold Addr.add;split
    ·rename_i e;rw[e]
    ·simp
   rw[e1]
   have hlen:((l.drop (g*50)).take 50).length=h - g*50:=by rw[gN,gS];omega
   refine Zpf (xs:=(l.drop (g*50)).take 50) H2 (j:=i) (Za5 hi) ?_ hlen.symm (by omega) (by omega) λv' w2 S2 H3=>⟨S2,?_⟩
   ·rw[List.drop_append_of_le_length (by rw[hS_];omega),List.take_append_of_le_length (by rw[gS,hS_];omega),<-List.map_drop,<-List.map_take]
    congr 1
    rcases Nat.le_total ((g+1)*50) l.length with q|q
    ·rw[show h - g*50=50 by omega]
    ·rw[gK (by rw[gS];omega),gK (by rw[gS];omega)]
   ·have H4:=(Holds.slb' (f:=nv) (xs:=l) (sp:=sp) H3 (i+1) (by rw[gF];exact Za5 hi));have H5:=H4.close (i+1) (by rw[gW,gF];exact Za5 (Za5 hi));rw[gW,gW,set_set,set_set] at H5
    have e2:L.set i (SL nv tI (.slice (some ⟨b,0,none⟩) l.length (l.length+sp.length)) l)=L:=by
     obtain⟨p1,p2⟩:=gH.1 hi;rw[<-p2,set_getElem_self]
    rw[e2] at H5;exact H5
 rintro v' w' ⟨S2,H2⟩;exact k v' w' S2 H2
theorem Yag (a b:List Nat) (n:Nat):addL (cnt a n) (cnt b n)=cnt (a++b) n:=by
 unfold addL;apply ext_getElem?;intro i;rw[List.getElem?_zipWith];rcases hU_ i n with q|q
 ·rw[Zf3 q,Zf3 q,Zf3 q,List.count_append]
 ·have e:∀ z,(cnt z n)[i]?=none:=λz=>getElem?_eq_none (by rw[Zav];exact q);rw[e,e,e]
theorem cnt_le (l:List Nat) (n:Nat):∀ x∈cnt l n,x<=l.length:=by
 intro x hx;unfold cnt at hx;obtain⟨y,_,rfl⟩:=mem_map.1 hx;exact List.count_le_length
end F08
namespace Rw
variable {w:World}{L:List HProp}{K:KT}
abbrev tIs:Nat:=69
instance rowIs:Row prog 146 tIs (.slice none 0 0):=⟨by kernel_rfl,⟨t69,by kernel_rfl,by kernel_rfl,by decide,by kernel_rfl⟩,rfl⟩
abbrev Sw:Type:=Option Addr × Nat × Nat
abbrev sw (x:Sw):Value:=.slice x.1 x.2.1 x.2.2
theorem sg_sw (x:Sw):sg (sw x)=true:=rfl
def RI (vs:List Sw) (rs:List (List Nat)):List HProp:=(vs.zip rs).map λx=>SL nv tI (sw x.1) x.2
def RR (v:Value) (rs:List (List Nat)):HProp:=λh=>∃ vs,vs.length=rs.length/\Sat (SL sw tIs v vs::RI vs rs) h
theorem Ybn {vs:List Sw}{rs:List (List Nat)}{q:Nat}{x:Sw}{l:List Nat}(hx:vs[q]?=some x) (hl:rs[q]?=some l):(RI vs rs)[q]?=some (SL nv tI (sw x) l):=by
 unfold RI;rw[hV_,(List.getElem?_zip_eq_some (z:=(x,l))).2 ⟨hx,hl⟩];rfl
theorem Zrd {vs:List Sw}{rs:List (List Nat)}(h:vs.length=rs.length):(RI vs rs).length=rs.length:=by unfold RI;simp[h]
theorem Yb3 {vs:List Sw}{rs:List (List Nat)}{q:Nat}(x:Sw) (l:List Nat) (h:vs.length=rs.length):(RI vs rs).set q (SL nv tI (sw x) l)=RI (vs.set q x) (rs.set q l):=by
 unfold RI;apply ext_getElem?;intro i;rw[getElem?_set,hV_,hV_,hS_,List.length_zip,h,Nat.min_self]
 by_cases e:q=i
 ·subst e;rw[if_pos rfl]
  by_cases hq:q < rs.length
  ·rw[if_pos hq,(List.getElem?_zip_eq_some (z:=(x,l))).2 ⟨by rw[List.getElem?_set_self (by omega)],by rw[List.getElem?_set_self hq]⟩];rfl
  ·rw[if_neg hq,getElem?_eq_none (by rw[List.length_zip,hX_,hX_];omega)];rfl
 ·rw[if_neg e]
  congr 1
  apply Option.ext;rintro⟨y,m⟩;rw[List.getElem?_zip_eq_some,List.getElem?_zip_eq_some,hY_ e,hY_ e]
theorem sl_sw {v:Value}{l:List Nat}{i:Nat}(H:Holds w L) (hi:L[i]?=some (SL nv tI v l)):∃ x,v=sw x:=by
 obtain⟨oa,sp,rfl,_⟩:=H.open i hi;exact⟨(oa,_,_),rfl⟩
theorem Zmn (H:Holds w L):Holds w (RR (.slice none 0 0) []::L):=by
 have H1:=H.nilSL sw tIs;have H2:Holds w (Sat [SL sw tIs (.slice none 0 0) []]::L):=Holds.pack (A:=[_]) H1;exact Holds.imp H2 λh hh=>⟨[],rfl,hh⟩
theorem rr_ln (i:Nat) (H:Holds w L){v:Value}{rs:List (List Nat)}{K:Value->Prop}(hi:L[i]?=some (RR v rs)) (h:K (nv rs.length)):Lnl v K:=by
 obtain⟨vs,H1⟩:=H.atEx (α:=List Sw) (Q:=λvs h=>vs.length=rs.length/\Sat (SL sw tIs v vs::RI vs rs) h) i hi λg hg=>hg;obtain⟨hl,H2⟩:=H1.atPure (Q:=Sat (SL sw tIs v vs::RI vs rs)) i (Za5 hi) λg hg=>hg;rw[set_set] at H2;have H3:=H2.front i (Za5 hi);rw[eraseIdx_set_eq] at H3;have H4:Holds w (SL sw tIs v vs::(RI vs rs++L.eraseIdx i)):=Holds.unpack H3;refine r_lnS 0 H4 rfl ?_;rw[hl];exact h
theorem Ydr {α:Type}(i:Nat) (H:Holds w L){f:α->Value}{e:TypeId}{v:Value}{xs:List α}{k:IntKind}{j:Nat}{x:α}{J:Value->Prop}(hi:L[i]?=some (SL f e v xs)) (hx:xs[j]?=some x)
  (h:∀ p,(∀ J':Value->Prop,J' (f x)->Ld p w J')->J p):Ias 1 v (.int k (j:Int)) J:=by
 obtain⟨oa,sp,rfl,H1⟩:=H.open i hi;have hj:j < xs.length:=(gH.1 hx).1;refine Zi3 i H1 (Za5 hi) hj (Nat.le_refl _) λb hb=>?_;subst hb;exact h _ λJ' hJ=>Zmr i H1 (Za5 hi) hx hJ
theorem Zgs {x:Sw}{R:HProp}{v:Value}{rs':List (List Nat)}{l':List Nat}(hR:∀ h,Sat [SL nv tI (sw x) l',R] h->RR v rs' h) (N:List HProp) (i:Nat){L':List HProp}(hi:L'[i]?=some R){w':World}
  (H:Holds w' (N++SL nv tI (sw x) l'::L')):Holds w' (N++L'.set i (RR v rs')):=by
 have key:∀ h,Sat (SL nv tI (sw x) l'::L') h->Sat (L'.set i (RR v rs')) h:=by
  intro h hh
  have h1:Sat (R::SL nv tI (sw x) l'::L'.eraseIdx i) h:=by
   have:=Sat.pull (i+1) hh (P:=R) (by rw[gF];exact hi);rw[eraseIdx_cons_succ] at this;exact this
  have h4:Sat ([SL nv tI (sw x) l',R]++L'.eraseIdx i) h:=Sat.swap h1;exact Sat.push i hi (Sat.imp (Sat.pack h4) λg hg=>hR g hg)
 have lift:∀ (N:List HProp) h,Sat (N++SL nv tI (sw x) l'::L') h->Sat (N++L'.set i (RR v rs')) h:=by
  intro N
  induction N with
  |nil=>exact key
  |cons P N ih=>exact λh hh=>Zbn ih hh
 exact lift N _ H
theorem rr_sw {v:Value}{rs:List (List Nat)}{i:Nat}(H:Holds w L) (hi:L[i]?=some (RR v rs)):∃ x,v=sw x:=by
 obtain⟨vs,H1⟩:=H.atEx (α:=List Sw) (Q:=λvs h=>vs.length=rs.length/\Sat (SL sw tIs v vs::RI vs rs) h) i hi λg hg=>hg;obtain⟨_,H2⟩:=H1.atPure (Q:=Sat (SL sw tIs v vs::RI vs rs)) i (Za5 hi) λg hg=>hg;rw[set_set] at H2;have H3:=H2.front i (Za5 hi);rw[eraseIdx_set_eq] at H3;have H4:Holds w (SL sw tIs v vs::(RI vs rs++L.eraseIdx i)):=Holds.unpack H3;obtain⟨oa,sp,rfl,_⟩:=H4.open 0 rfl;exact⟨(oa,_,_),rfl⟩
theorem Zby (i:Nat) (H:Holds w L){v:Value}{rs:List (List Nat)}{q:Nat}{l:List Nat}(hi:L[i]?=some (RR v rs)) (hq:rs[q]?=some l) :
  ∃ (x:Sw) (R:HProp),(∀ (k:IntKind) (J:Value->Prop),(∀ p,(∀ J':Value->Prop,J' (sw x)->Ld p w J')->J p)->Ias 1 v (.int k (q:Int)) J)/\Holds w (SL nv tI (sw x) l::L.set i R)/\
   (∀ (N:List HProp) (w':World),Holds w' (N++SL nv tI (sw x) l::L.set i R)->Holds w' (N++L))/\
   (∀ (l':List Nat) (N:List HProp) (w':World),Holds w' (N++SL nv tI (sw x) l'::L.set i R)->Holds w' (N++L.set i (RR v (rs.set q l'))))/\
   (∀ l' h,Sat [SL nv tI (sw x) l',R] h->RR v (rs.set q l') h)/\∀ h,Sat [SL nv tI (sw x) l,R] h->RR v rs h:=by
 obtain⟨vs,H1⟩:=H.atEx (α:=List Sw) (Q:=λvs h=>vs.length=rs.length/\Sat (SL sw tIs v vs::RI vs rs) h) i hi λg hg=>hg;obtain⟨hl,H2⟩:=H1.atPure (Q:=Sat (SL sw tIs v vs::RI vs rs)) i (Za5 hi) λg hg=>hg;rw[set_set] at H2;have hqr:q < rs.length:=(gH.1 hq).1;have hx:vs[q]?=some vs[q]:=gA (by omega);generalize vs[q]=x at hx;have hri:=Ybn hx hq
 have hA:(SL sw tIs v vs::RI vs rs)[q+1]?=some (SL nv tI (sw x) l):=by rw[gF];exact hri
 have hR:∀ l' h,Sat [SL nv tI (sw x) l',Sat ((SL sw tIs v vs::RI vs rs).eraseIdx (q+1))] h->RR v (rs.set q l') h:=by
  intro l' g hg;have h6:Sat (Sat ((SL sw tIs v vs::RI vs rs).eraseIdx (q+1))::[SL nv tI (sw x) l']) g:=Sat.swap hg;have h7:=Sat.unpack h6
  have h8:(((SL sw tIs v vs::RI vs rs).eraseIdx (q+1))++[SL nv tI (sw x) l'])[((SL sw tIs v vs::RI vs rs).eraseIdx (q+1)).length]?=some (SL nv tI (sw x) l'):=by simp
  have h9:=Sat.pull _ h7 h8;rw[List.eraseIdx_append_of_length_le (Nat.le_refl _),Nat.sub_self,List.eraseIdx_cons_zero,gU] at h9;refine⟨vs,by rw[hX_];exact hl,?_⟩;have:=Sat.push (q+1) hA h9;rw[gW,Yb3 x l' hl] at this
  have e:vs.set q x=vs:=by
   obtain⟨p1,p2⟩:=gH.1 hx;rw[<-p2,set_getElem_self]
  rw[e] at this;exact this
 have back:∀ (l':List Nat) (N:List HProp) (w':World),Holds w' (N++SL nv tI (sw x) l'::L.set i (Sat ((SL sw tIs v vs::RI vs rs).eraseIdx (q+1))))->Holds w' (N++L.set i (RR v (rs.set q l'))):=by
  intro l' N w' HN;have:=Zgs (hR l') N i (Za5 hi) HN;rw[set_set] at this;exact this
 have e1:rs.set q l=rs:=by
  obtain⟨p1,p2⟩:=gH.1 hq;rw[<-p2,set_getElem_self]
 refine⟨x,Sat ((SL sw tIs v vs::RI vs rs).eraseIdx (q+1)),?_,?_,?_,back,hR,λh hh=>by have:=hR l h hh;rw[e1] at this;exact this⟩
 ·intro k J hJ;have H3:=H2.front i (Za5 hi);rw[eraseIdx_set_eq] at H3;have H4:Holds w (SL sw tIs v vs::(RI vs rs++L.eraseIdx i)):=Holds.unpack H3;exact Ydr 0 H4 rfl hx hJ
 ·have H3:=H2.front i (Za5 hi);rw[eraseIdx_set_eq] at H3;have H4:Holds w (Sat (SL nv tI (sw x) l::(SL sw tIs v vs::RI vs rs).eraseIdx (q+1))::L.eraseIdx i):=Holds.imp H3 λg hg=>Sat.pull (q+1) hg hA;have H5:Holds w (SL nv tI (sw x) l::((SL sw tIs v vs::RI vs rs).eraseIdx (q+1)++L.eraseIdx i)):=Holds.unpack H4;have H6:Holds w (SL nv tI (sw x) l::Sat ((SL sw tIs v vs::RI vs rs).eraseIdx (q+1))::L.eraseIdx i):=Zbn (λh hh=>Sat.pack hh) H5;exact Zbn (λh hh=>Sat.push i hi hh) H6
 ·intro N w' HN;have:=back l N w' HN
  have e2:L.set i (RR v rs)=L:=by
   obtain⟨p1,p2⟩:=gH.1 hi;rw[<-p2,set_getElem_self]
  rw[e1,e2] at this;exact this
theorem Zvc (i:Nat){v v':Value}{rs:List (List Nat)}{q:Nat}{l:List Nat}(H:Holds w (SL nv tI v' l::L)) (hi:L[i]?=some (RR v rs)) (hq:q < rs.length){k:IntKind}{J:World->Prop}
  (h:∀ w',Same w w'->Holds w' (L.set i (RR v (rs.set q l)))->J w'):Ias 1 v (.int k (q:Int)) λp=>St p v' w J:=by
 obtain⟨y,rfl⟩:=sl_sw H (i:=0) rfl
 have hi':(SL nv tI (sw y) l::L)[i+1]?=some (RR v rs):=by rw[gF];exact hi
 obtain⟨vs,H1⟩:=H.atEx (α:=List Sw) (Q:=λvs h=>vs.length=rs.length/\Sat (SL sw tIs v vs::RI vs rs) h) (i+1) hi' λg hg=>hg;obtain⟨hl,H2⟩:=H1.atPure (Q:=Sat (SL sw tIs v vs::RI vs rs)) (i+1) (Za5 hi') λg hg=>hg;rw[set_set] at H2;have H3:=H2.front (i+1) (Za5 hi');rw[eraseIdx_set_eq,eraseIdx_cons_succ] at H3;have H4:Holds w (SL sw tIs v vs::(RI vs rs++SL nv tI (sw y) l::L.eraseIdx i)):=Holds.unpack H3;refine Zat (f:=sw) 0 H4 y rfl (by omega) rfl λw' S' H5=>h w' S' ?_;rw[gJ] at H5
 have h6:((SL sw tIs v (vs.set q y)::RI vs rs)++SL nv tI (sw y) l::L.eraseIdx i)[rs.length+1]?=some (SL nv tI (sw y) l):=by
  rw[List.cons_append,gF,gT (by rw[Zrd hl];omega),Zrd hl,Nat.sub_self];rfl
 have H6:Holds w' (((SL sw tIs v (vs.set q y)::RI vs rs))++SL nv tI (sw y) l::L.eraseIdx i):=H5;have H7:=H6.front _ h6;rw[List.cons_append,eraseIdx_cons_succ,List.eraseIdx_append_of_length_le (by rw[Zrd hl];omega),Zrd hl,Nat.sub_self,List.eraseIdx_cons_zero] at H7;have H8:Holds w' (Sat (SL nv tI (sw y) l::SL sw tIs v (vs.set q y)::RI vs rs)::L.eraseIdx i):=Holds.pack H7
 have H9:Holds w' (RR v (rs.set q l)::L.eraseIdx i):=Holds.imp H8 λg hg=>⟨vs.set q y,by simp[hl],by
  have hA:(SL sw tIs v (vs.set q y)::RI vs rs)[q+1]?=some (SL nv tI (sw vs[q]) rs[q]):=by
   rw[gF];exact Ybn (gA (by omega)) (gA hq)
  obtain⟨g1,hg1,hs1,hr⟩:=hg
  have h10:Sat (SL nv tI (sw y) l::(SL sw tIs v (vs.set q y)::RI vs rs).eraseIdx (q+1)) g:=by
   refine⟨g1,hg1,hs1,?_⟩;obtain⟨g2,_,_,hr2⟩:=Sat.pull (q+1) hr hA
   exact hr2.mono λb o hb=>by
    unfold Hp.minus at hb;split at hb
    ·cases hb
    ·exact hb
  have:=Sat.push (q+1) hA h10;rw[gW,Yb3 y l hl] at this
  exact this⟩
 exact Sat.push i hi H9
theorem Znu (i:Nat){v v':Value}{rs:List (List Nat)}{l:List Nat}{ty:TypeId}(H:Holds w (SL nv tI v' l::L)) (hi:L[i]?=some (RR v rs)) (hn:rs.length+1<=1099511627776)
  (h:∀ v2 w',Same w w'->Holds w' (L.set i (RR v2 (rs++[l])))->K v2 w'):Bs prog 146 1 #[(0,v')] w λy w2=>Ap prog #[146,146] ty #[v,y] w2 K:=by
 obtain⟨y,rfl⟩:=sl_sw H (i:=0) rfl
 have hi':(SL nv tI (sw y) l::L)[i+1]?=some (RR v rs):=by rw[gF];exact hi
 obtain⟨vs,H1⟩:=H.atEx (α:=List Sw) (Q:=λvs h=>vs.length=rs.length/\Sat (SL sw tIs v vs::RI vs rs) h) (i+1) hi' λg hg=>hg;obtain⟨hl,H2⟩:=H1.atPure (Q:=Sat (SL sw tIs v vs::RI vs rs)) (i+1) (Za5 hi') λg hg=>hg;rw[set_set] at H2;have H3:=H2.front (i+1) (Za5 hi');rw[eraseIdx_set_eq,eraseIdx_cons_succ] at H3;have H4:Holds w (SL sw tIs v vs::(RI vs rs++SL nv tI (sw y) l::L.eraseIdx i)):=Holds.unpack H3;refine Zam (f:=sw) H4 0 rfl y sg_sw (by omega) λv2 w' S' H5=>h v2 w' S' ?_;rw[gJ] at H5
 have e:RI (vs++[y]) (rs++[l])=RI vs rs++[SL nv tI (sw y) l]:=by
  unfold RI;rw[List.zip_append hl,map_append];rfl
 have H6:Holds w' ((SL sw tIs v2 (vs++[y])::RI (vs++[y]) (rs++[l]))++L.eraseIdx i):=by
  rw[e,List.cons_append,gI];exact H5
 have H7:Holds w' (RR v2 (rs++[l])::L.eraseIdx i):=Holds.imp (Holds.pack H6) λg hg=>⟨vs++[y],by simp[hl],hg⟩;exact Sat.push i hi H7
theorem Zx9:∀ (n:Nat){h:Hp},Sat L h->Sat (RI (List.replicate n (none,0,0)) (List.replicate n [])++L) h
 |0,_,H=>H
 |n+1,h,H=>by
  refine⟨λ_=>none,Ybi nv tI _,(λb o hb=>by cases hb),?_⟩
  have e:h.minus (λ_=>none)=h:=by funext b;simp[Hp.minus]
  rw[e];exact Zx9 n H
theorem Zve (H:Holds w L){k k':IntKind}{n:Nat}{J:KT}(hn:n<=1000000)
  (h:∀ v w',Same w w'->Holds w' (RR v (List.replicate n [])::L)->J v w'):Ms prog 146 (.int k (n:Int)) (.int k' (n:Int)) w J:=by
 refine r_ms (f:=sw) (x:=(none,0,0)) H rfl (by omega) (by omega) λb w' S' H2=>?_;rw[gC] at H2 ⊢;have H3:=H2.close 0 rfl;simp only[gJ,gP,length_nil,Nat.add_zero] at H3;refine h _ w' S' ?_;have H4:Holds w' (SL sw tIs (.slice (some ⟨b,0,none⟩) n n) (List.replicate n (none,0,0))::(RI (List.replicate n (none,0,0)) (List.replicate n [])++L)):=Zbn (λh hh=>Zx9 n hh) H3;exact Holds.imp (Holds.pack (A:=SL sw tIs (.slice (some ⟨b,0,none⟩) n n) (List.replicate n (none,0,0))::RI (List.replicate n (none,0,0)) (List.replicate n [])) H4) λg hg=>⟨List.replicate n (none,0,0),by simp,hg⟩
end Rw
namespace T12
open F08 Rw
variable {w:World}{L:List HProp}{K:KT}
def blw (c:List Nat) (n v:Nat):Nat:=min ((c.take v).sum) (n - 1)
def firstV (c:List Nat) (n t p v:Nat):Nat:=if blw c n v*t/n=p then 0 else 15
def firstR (c:List Nat) (n t p:Nat):List Nat:=(List.range c.length).map (firstV c n t p)
def firstL (c:List Nat) (n t:Nat):List (List Nat):=(List.range t).map (firstR c n t)
theorem Zcj (c:List Nat) (n t p:Nat):(firstR c n t p).length=c.length:=by simp[firstR]
theorem Zkq {c:List Nat}{n t p v:Nat}(h:v < c.length):(firstR c n t p)[v]?=some (firstV c n t p v):=by simp[firstR,h]
theorem Zk5 (c:List Nat) (n t:Nat):(firstL c n t).length=t:=by simp[firstL]
theorem blw_succ {c:List Nat}{n v:Nat}(h:v < c.length):min (blw c n v+c.getD v 0) (n - 1)=blw c n (v+1):=by
 unfold blw
 have e:c.take (v+1)=c.take v++[c.getD v 0]:=by rw[gO,gB,gA h];rfl
 rw[e,List.sum_append];simp;omega
theorem Zcc {α:Type}{t p:Nat}(g g':Nat->α) (hp:p < t) (h:∀ i,i < t->i≠p->g i=g' i):((List.range t).map g).set p (g' p)=(List.range t).map g':=by
 apply ext_getElem?;intro i;rw[getElem?_set,hS_,hW_]
 by_cases e:p=i
 ·subst e;rw[if_pos rfl,if_pos hp,hV_,getElem?_range hp];rfl
 ·rw[if_neg e,hV_,hV_];rcases hU_ i t with q|q
  ·rw[getElem?_range q];show some (g i)=some (g' i);rw[h i q (Ne.symm e)]
  ·rw[getElem?_eq_none (by simpa using q)];rfl
theorem Zbg {α:Type}{t p:Nat}(g:Nat->α) (hp:p < t):((List.range t).map g)[p]?=some (g p):=by rw[hV_,getElem?_range hp];rfl
theorem Zaz {α:Type}{t:Nat}(g g':Nat->α) (h:∀ i,i < t->g i=g' i):(List.range t).map g=(List.range t).map g':=List.map_congr_left λi hi=>h i (mem_range.1 hi)
theorem Zpl {xs:List Nat}{n i:Nat}(hi:i < n) (hn:xs.length=n) (hx:xs[i]?=some 0):filled xs 0 n i=filled xs 0 n (i+1):=by
 rw[<-Zbe hi hn hx]
 have e:(filled xs 0 n i)[i]?=some 0:=by
  unfold filled
  have hl:(xs.take i).length=i:=by rw[gN];omega
  rw[gT (by omega),hl,Nat.sub_self,List.getElem?_replicate,if_pos (by omega)]
 obtain⟨p1,p2⟩:=gH.1 e;have h:=set_getElem_self p1;rw[p2] at h;exact h.symm
theorem Zoz (n:Nat):2<=num n/\num n<=6:=by
 unfold num numAt;have h:(bnd.take 4).length=4:=rfl;have:=List.length_filter_le (λb=>decide (b<=n)) (bnd.take 4);omega
theorem Znd {c:List Nat}{n v t:Nat}(hn:1<=n) (hn2:n<=100000000) (ht:t<=6){K:Value->Prop}(h:K (nv (blw c n v*t/n))):Bp .mul (nv (blw c n v)) (nv t) λx=>Bp .quo x (nv n) K:=by
 have h1:blw c n v<=n:=by unfold blw;omega
 have h2:blw c n v*t<=n*6:=Nat.mul_le_mul h1 ht;refine Zbc ((blw c n v*t:Nat):Int) (Int.natCast_mul _ _).symm (by omega) (by omega) ?_;generalize blw c n v*t=z at *;have h3:z/n<=z:=Nat.div_le_self _ _;generalize hq:z/n=q at *;refine Zic (q:=(q:Int)) ?_ (by omega) (by omega) (by omega) h;rw[Int.tdiv_eq_ediv_of_nonneg (by omega),<-hq];rfl
theorem Ztq {v:Value}{c:List Nat}{n i:Nat}(H:Holds w L) (hb:BndOk L) (hi:L[i]?=some (SL nv tI v c)) (hc:c.length<=1000000) (hcx:∀ x∈c,x<=100000000) (hn:1<=n) (hn2:n<=100000000)
  (k:∀ v' w',Same w w'->Holds w' (RR v' (firstL c n (num n))::L)->K v' w'):Cl prog 188 #[v,nv n] w K:=by
 refine Tz188 ?_;unfold Vz188;refine Number_spec H hb ?_;have hnl:=Zoz n;generalize hnt:num n=t at *;refine Zve H (by omega) λov w2 S2 H2=>?_;refine rr_ln 0 H2 rfl ?_;rw[gP]
 refine Za8 (λq w'=>∃ p:Nat,q=nv p/\p<=t/\Same w w'/\Holds w' (RR ov ((List.range t).map λj=>if j < p then List.replicate c.length 0 else [])::L)) (λq _=>t - (intOf q).toNat)
  ⟨0,rfl,hE _,S2,by
   have e:(List.range t).map (λj=>if j < 0 then List.replicate c.length 0 else ([]:List Nat))=List.replicate t []:=by
    apply ext_getElem?;intro j;rw[List.getElem?_replicate];split
    ·rename_i q;rw[Zbg _ q,if_neg (by omega)]
    ·rename_i q;rw[getElem?_eq_none (by simpa using q)]
   rw[e];exact H2⟩ ?_
 clear H H2 S2;rintro _ _ w3 ⟨p,rfl,hp,S3,H3⟩
 have hi3:(RR ov ((List.range t).map λj=>if j < p then List.replicate c.length 0 else [])::L)[i+1]?=some (SL nv tI v c):=by rw[gF];exact hi
 refine r_lss (r_ifD (λh=>?_) λh=>?_)
 ·have hlt:p < t:=by omega
  refine r_lnS (i+1) H3 hi3 ?_;refine r_ms (f:=nv) (x:=0) H3 rfl (by omega) (by omega) λnb w4 S4 H4=>?_;rw[gC] at H4 ⊢;have H5:=H4.close 0 rfl;simp only[gJ,gP,length_nil,Nat.add_zero] at H5;refine Zvc 0 H5 rfl (by rw[hS_,hW_];exact hlt) λw5 S5 H6=>?_
  have e6:=Zcc (λj=>if j < p then List.replicate c.length 0 else ([]:List Nat)) (λj=>if j < p+1 then List.replicate c.length 0 else ([]:List Nat)) hlt (λj hj hjp=>by
   by_cases q:j < p
   ·rw[if_pos q,if_pos (by omega)]
   ·rw[if_neg q,if_neg (by omega)])
  simp only[Nat.lt_succ_self,if_true] at e6;rw[gJ,e6] at H6;refine Za0 (by omega) (r_ke ⟨⟨p+1,rfl,hlt,S3.trans (S4.trans S5),H6⟩,?_⟩);simp only[nv,intOf,gC];omega
 ·obtain rfl:p=t:=by omega
  have e0:(List.range p).map (λj=>if j < p then List.replicate c.length 0 else ([]:List Nat))=(List.range p).map λj=>filled (firstR c n p j) 0 c.length 0:=
   Zaz _ _ λj hj=>by rw[if_pos hj,Zf2]
  rw[e0] at H3;refine r_lnS (i+1) H3 (by rw[gF];exact hi) ?_
  refine Za7 (λx y w'=>∃ u:Nat,x=nv (blw c n u)/\y=nv u/\u<=c.length/\Same w w'/\Holds w' (RR ov ((List.range p).map λj=>filled (firstR c n p j) 0 c.length u)::L)) (λ_ y _=>c.length - (intOf y).toNat)
   ⟨0,by unfold blw;simp,rfl,hE _,S3,H3⟩ ?_
  clear H3 S3 hi3 h e0;rintro _ _ _ w4 ⟨u,rfl,rfl,hu,S4,H4⟩;refine r_lss (r_ifD (λh=>?_) λh=>?_)
  ·have hlt:u < c.length:=by omega
   have hcu:=hcx _ (getElem_mem hlt);refine Za6 (i+1) H4 (by rw[gF];exact hi) (x:=c.getD u 0) (by rw[gB,gA hlt];rfl) ?_;refine Znd hn hn2 hnl.2 ?_;refine rr_ln 0 H4 rfl ?_;rw[hS_,hW_]
   refine Za8 (λx w'=>∃ j:Nat,x=nv j/\j<=p/\Same w w'/\Holds w' (RR ov ((List.range p).map λz=>filled (firstR c n p z) 0 c.length (if z < j then u+1 else u))::L)) (λx _=>p - (intOf x).toNat)
    ⟨0,rfl,hE _,S4,by simpa using H4⟩ ?_
   clear H4 S4;rintro _ _ w5 ⟨j,rfl,hj,S5,H5⟩;refine r_lss (r_ifD (λh2=>?_) λh2=>?_)
   ·have hjp:j < p:=by omega
    have hfg:=Zkq (n:=n) (t:=p) (p:=j) hlt;have hfl:=Zcj c n p j
    have hnext:∀ z,z < p->z≠j->filled (firstR c n p z) 0 c.length (if z < j then u+1 else u)=filled (firstR c n p z) 0 c.length (if z < j+1 then u+1 else u):=λz _ hz=>by
     by_cases q:z < j
     ·rw[if_pos q,if_pos (by omega)]
     ·rw[if_neg q,if_neg (by omega)]
    refine r_neq (r_ifN (λq=>?_) λq=>?_)
    ·have hfv:firstV c n p j u=15:=by unfold firstV;rw[if_neg (by omega)]
     rw[hfv] at hfg
     have hrow:((List.range p).map λz=>filled (firstR c n p z) 0 c.length (if z < j then u+1 else u))[j]?=some (filled (firstR c n p j) 0 c.length u):=by
      rw[Zbg _ hjp,if_neg (by omega)]
     obtain⟨x,R,hld,H6,_,hback,_⟩:=Zby 0 H5 rfl hrow;refine hld _ _ λ_ hp_=>hp_ _ ?_;refine Zat (xs:=filled (firstR c n p j) 0 c.length u) 0 H6 15 rfl (by rw[Zbd (by omega) hfl];exact hlt) rfl λw6 S6 H7=>?_;rw[gJ,Zbe hlt hfl hfg] at H7;have H8:=hback _ [] _ H7;rw[hO_,gJ] at H8;have e:=Zcc (λz=>filled (firstR c n p z) 0 c.length (if z < j then u+1 else u)) (λz=>filled (firstR c n p z) 0 c.length (if z < j+1 then u+1 else u)) hjp hnext;simp only[Nat.lt_succ_self,if_true] at e;rw[e] at H8;refine Za0 (by omega) (r_ke ⟨⟨j+1,rfl,hjp,S5.trans S6,H8⟩,?_⟩);simp only[nv,intOf,gC];omega
    ·have hfv:firstV c n p j u=0:=by unfold firstV;rw[if_pos (by omega)]
     rw[hfv] at hfg;have hs:=Zpl hlt hfl hfg;refine Za0 (by omega) (r_ke ⟨⟨j+1,rfl,hjp,S5,?_⟩,?_⟩)
     ·have e:((List.range p).map λz=>filled (firstR c n p z) 0 c.length (if z < j then u+1 else u))=(List.range p).map λz=>filled (firstR c n p z) 0 c.length (if z < j+1 then u+1 else u):=
       Zaz _ _ λz hz=>by
        by_cases g:z=j
        ·subst g;rw[if_neg (by omega),if_pos (by omega)];exact hs
        ·exact hnext z hz g
      rw[<-e];exact H5
     ·simp only[nv,intOf,gC];omega
   ·obtain rfl:j=p:=by omega
    have e:((List.range j).map λz=>filled (firstR c n j z) 0 c.length (if z < j then u+1 else u))=(List.range j).map λz=>filled (firstR c n j z) 0 c.length (u+1):=
     Zaz _ _ λz hz=>by rw[if_pos hz]
    rw[e] at H5
    have hbl:blw c n u<=n:=by unfold blw;omega
    have hcg:c.getD u 0<=100000000:=by rw[gB,gA hlt];exact hcu
    refine Zac (by omega) ?_;refine Zaa (by omega) (by omega) (r_min ?_);rw[show min (((blw c n u+c.getD u 0:Nat)):Int) (((n - 1:Nat)):Int)=((min (blw c n u+c.getD u 0) (n - 1):Nat):Int) by omega,blw_succ hlt];refine Za0 (by omega) (r_ke ⟨⟨u+1,rfl,rfl,by omega,S5,H5⟩,?_⟩);simp only[nv,intOf,gC];omega
  ·obtain rfl:u=c.length:=by omega
   have e:((List.range p).map λj=>filled (firstR c n p j) 0 c.length c.length)=firstL c n p:=
    Zaz _ _ λz hz=>Zd8 (Zcj c n p z)
   rw[e] at H4;exact k _ _ S4 H4
theorem Zpb {v:Value}{c:List Nat}{n i:Nat}(H:Holds w L) (hi:L[i]?=some (SL nv tI v c)) (hc:c.length<=1000000) (hcx:∀ x∈c,x<=100000000) (hn:1<=n) (hn2:n<=100000000)
  (k:∀ v' w',Same w w'->Holds w' (RR v' (firstL c n (num n))::L)->K v' w'):Cl prog 155 #[v,nv n] w K:=by
 refine Tz155 ?_;unfold Vz155;refine Zmk ?_;have hnl:=Zoz n;generalize hnt:num n=t at *
 refine Za7 (λo q w'=>∃ p:Nat,q=nv p/\p<=t/\Same w w'/\Holds w' (RR o ((List.range p).map (firstR c n t))::L)) (λ_ q _=>t - (intOf q).toNat)
  ⟨0,rfl,hE _,.refl _,Zmn H⟩ ?_
 clear H;rintro _ ov _ w3 ⟨p,rfl,hp,S3,H3⟩;refine r_lss (r_ifD (λh=>?_) λh=>?_)
 ·have hlt:p < t:=by omega
  refine r_lnS (i+1) H3 (by rw[gF];exact hi) ?_
  refine Zb9 (λl x y w'=>∃ (u z:Nat),x=nv z/\min z (n - 1)=blw c n u/\z<=200000000/\y=nv u/\u<=c.length/\Same w w'/\Holds w' (SL nv tI l ((firstR c n t p).take u)::RR ov ((List.range p).map (firstR c n t))::L)) (λ_ _ y _=>c.length - (intOf y).toNat)
   ⟨0,0,rfl,by unfold blw;simp,by omega,rfl,hE _,S3,H3.nilSL nv tI⟩ ?_
  clear H3 S3;rintro _ lv _ _ w4 ⟨u,z,rfl,hz,hzl,rfl,hu,S4,H4⟩;refine r_lss (r_ifD (λh2=>?_) λh2=>?_)
  ·have hlu:u < c.length:=by omega
   have hcu:=hcx _ (getElem_mem hlu)
   have hcg:c.getD u 0<=100000000:=by rw[gB,gA hlu];exact hcu
   refine Za6 (i+2) H4 (by rw[gF,gF];exact hi) (x:=c.getD u 0) (by rw[gB,gA hlu];rfl) ?_;refine Za2 (λx w'=>w4=w'/\x=nv (blw c n u)) ?_ ?_
   rotate_left
   ·refine Zaa (by omega) (by omega) (r_gtr (r_ifD (λq=>?_) λq=>?_))
    ·refine Zaa (by omega) (by omega) (r_ke ⟨rfl,?_⟩);rw[<-hz,Nat.min_eq_right (by omega)]
    ·refine r_ke ⟨rfl,?_⟩;rw[<-hz,Nat.min_eq_left (by omega)]
   rintro _ _ _ ⟨rfl,rfl⟩;have hfg:=Zkq (n:=n) (t:=t) (p:=p) hlu
   have hgo:∀ l' w',Same w4 w'->Holds w' (SL nv tI l' ((firstR c n t p).take u++[firstV c n t p u])::RR ov ((List.range p).map (firstR c n t))::L)->Holds w' (SL nv tI l' ((firstR c n t p).take (u+1))::RR ov ((List.range p).map (firstR c n t))::L):=λl' w' _ Hx=>by
    rw[gO,hfg];exact Hx
   refine Za2 (λx w'=>Same w4 w'/\Holds w' (SL nv tI x ((firstR c n t p).take (u+1))::RR ov ((List.range p).map (firstR c n t))::L)) ?_ ?_
   rotate_left
   ·refine Znd hn hn2 hnl.2 (r_eql (r_ifE (λq=>?_) λq=>?_))
    ·refine Zam (f:=nv) H4 0 rfl 0 (λ_=>rfl) (by rw[gN,Zcj];omega) λv' w5 S5 H5=>?_;rw[gJ] at H5;refine r_ke ⟨S5,hgo _ _ S5 ?_⟩
     have e:firstV c n t p u=0:=by unfold firstV;rw[if_pos (by omega)]
     rw[e];exact H5
    ·refine Zam (f:=nv) H4 0 rfl 15 (λ_=>rfl) (by rw[gN,Zcj];omega) λv' w5 S5 H5=>?_;rw[gJ] at H5;refine r_ke ⟨S5,hgo _ _ S5 ?_⟩
     have e:firstV c n t p u=15:=by unfold firstV;rw[if_neg (by omega)]
     rw[e];exact H5
   rintro _ l' w5 ⟨S5,H5⟩
   have hbl:blw c n u<=n:=by unfold blw;omega
   refine Zac (by omega) ?_;refine Za0 (by omega) (r_ke ⟨⟨u+1,_,rfl,blw_succ hlu,by omega,rfl,by omega,S4.trans S5,H5⟩,?_⟩);simp only[nv,intOf,gC];omega
  ·rw[gK (by rw[Zcj];omega)] at H4;refine Znu 0 H4 rfl (by rw[hS_,hW_];omega) λv2 w5 S5 H5=>?_;rw[gJ] at H5;refine Za0 (by omega) (r_ke ⟨⟨p+1,rfl,by omega,S4.trans S5,?_⟩,?_⟩)
   ·rw[range_succ,map_append];exact H5
   ·simp only[nv,intOf,gC];omega
 ·obtain rfl:p=t:=by omega
  exact k _ _ S3 H3
def bst (c:Nat->Nat):Nat->Nat
 |0=>0
 |p+1=>if c p < c (bst c p) then p else bst c p
def pk (g:List Nat) (ts:List (List Nat)):Nat:=bst (λp=>cost g (ts.getD p [])) ts.length
theorem Zs8 (c:Nat->Nat):∀ n,0 < n->bst c n < n
 |0,h=>by omega
 |n+1,_=>by
  rw[bst];split
  ·omega
  ·rcases Nat.eq_zero_or_pos n with q|q
   ·subst q;exact Nat.zero_lt_one
   ·have:=Zs8 c n q;omega
structure Tb (size:Nat) (ts:List (List Nat)):Prop where
 n2:2<=ts.length
 n6:ts.length<=6
 sz:∀ t∈ts,t.length=size
 le:∀ t∈ts,∀ x∈t,x<=20
theorem Zaw {ts:List (List Nat)}{p:Nat}(h:p < ts.length):ts.getD p []∈ts:=by rw[gB,gA h];exact getElem_mem h
theorem Zcp {ts:List (List Nat)}{p:Nat}(h:p < ts.length):ts[p]?=some (ts.getD p []):=by rw[gB,gA h];rfl
theorem pick_spec {v tv:Value}{g:List Nat}{ts:List (List Nat)}{size i j:Nat}(H:Holds w L) (hi:L[i]?=some (SL nv tI v g)) (hj:L[j]?=some (RR tv ts)) (hij:i≠j) (hT:Tb size ts) (hs:size<=258) (hg:g.length<=50) (hgx:∀ x∈g,x < size)
  (k:K (nv (pk g ts)) w):Cl prog 228 #[v,tv] w K:=by
 refine Tz228 ?_;unfold Vz228;have h6:=hT.n6;have h2:=hT.n2;refine rr_ln j H hj ?_
 have hcl:∀ p,p < ts.length->cost g (ts.getD p [])<=1000:=λp hp=>by
  have:=Zlp (hT.le _ (Zaw hp)) g;omega
 refine Zb9 (λb l x w'=>∃ (p m:Nat),b=nv (bst (λp=>cost g (ts.getD p [])) p)/\l=nv m/\x=nv p/\p<=ts.length/\(if p=0 then m=1099511627776 else m=cost g (ts.getD (bst (λp=>cost g (ts.getD p [])) p) []))/\w=w') (λ_ _ x _=>ts.length - (intOf x).toNat)
  ⟨0,1099511627776,rfl,rfl,rfl,hE _,by rw[if_pos rfl],rfl⟩ ?_
 rintro _ _ _ _ _ ⟨p,m,rfl,rfl,rfl,hp,hm,rfl⟩;refine r_lss (r_ifD (λh=>?_) λh=>?_)
 ·have hlt:p < ts.length:=by omega
  have hq:ts[p]?=some (ts.getD p []):=by rw[gB,gA hlt];rfl
  have hmem:ts.getD p []∈ts:=by rw[gB,gA hlt];exact getElem_mem hlt
  have htl:=hT.sz _ hmem;obtain⟨x,R,hld,H6,_,_⟩:=Zby j H hj hq;refine hld _ _ λ_ hp_=>hp_ _ ?_;refine Zng H6 (i:=i+1) (j:=0) (by rw[gF,hY_ (Ne.symm hij)];exact hi) rfl (by omega) (by omega) (hT.le _ hmem) (λx hx=>by rw[htl];exact hgx x hx) ?_;refine Za4 (Za3 ?_)
  have hbs:bst (λp=>cost g (ts.getD p [])) (p+1)=if cost g (ts.getD p []) < cost g (ts.getD (bst (λp=>cost g (ts.getD p [])) p) []) then p else bst (λp=>cost g (ts.getD p [])) p:=rfl
  have hc1:=hcl p hlt;generalize hb:bst (λp=>cost g (ts.getD p [])) p=b at *;refine r_lss (r_ifD (λq=>?_) λq=>?_)
  ·refine Za0 (by omega) (r_ke ⟨⟨p+1,cost g (ts.getD p []),?_,rfl,rfl,by omega,?_,rfl⟩,?_⟩)
   ·rw[hbs];rcases Nat.eq_zero_or_pos p with e|e
    ·subst e;have:b=0:=hb.symm;subst this;rw[if_neg (Nat.lt_irrefl _)]
    ·rw[if_neg (by omega)] at hm;rw[if_pos (by omega)]
   ·rw[if_neg (by omega),hbs];rcases Nat.eq_zero_or_pos p with e|e
    ·subst e;have:b=0:=hb.symm;subst this;rw[if_neg (Nat.lt_irrefl _)]
    ·rw[if_neg (by omega)] at hm;rw[if_pos (by omega)]
   ·simp only[nv,intOf,gC];omega
  ·have hp0:p≠0:=λe=>by rw[if_pos e] at hm;omega
   rw[if_neg hp0] at hm;refine Za0 (by omega) (r_ke ⟨⟨p+1,m,?_,rfl,rfl,by omega,?_,rfl⟩,?_⟩)
   ·rw[hbs,if_neg (by omega)]
   ·rw[if_neg (by omega),hbs,if_neg (by omega)];exact hm
   ·simp only[nv,intOf,gC];omega
 ·obtain rfl:p=ts.length:=by omega
  exact k
theorem Zsr {v tv:Value}{g:List Nat}{ts:List (List Nat)}{size i j:Nat}(H:Holds w L) (hi:L[i]?=some (SL nv tI v g)) (hj:L[j]?=some (RR tv ts)) (hij:i≠j) (hT:Tb size ts) (hs:size<=258) (hg:g.length<=50) (hgx:∀ x∈g,x < size)
  (k:∀ w',Same w w'->Holds w' L->K (nv (pk g ts)) w'):Cl prog 158 #[v,tv] w K:=by
 refine Tz158 ?_;unfold Vz158;have h6:=hT.n6;have h2:=hT.n2;refine rr_ln j H hj ?_
 refine Za7 (λb x w'=>∃ (p:Nat),b=nv (bst (λp=>cost g (ts.getD p [])) p)/\x=nv p/\p<=ts.length/\Same w w'/\Holds w' L) (λ_ x _=>ts.length - (intOf x).toNat)
  ⟨0,rfl,rfl,hE _,.refl _,H⟩ ?_
 clear H;rintro _ _ _ w1 ⟨p,rfl,rfl,hp,S1,H1⟩;refine r_lss (r_ifD (λh=>?_) λh=>?_)
 ·have hlt:p < ts.length:=by omega
  have hget:∀ q,q < ts.length->ts[q]?=some (ts.getD q [])/\ts.getD q []∈ts:=λq hq=>⟨by rw[gB,gA hq];rfl,by rw[gB,gA hq];exact getElem_mem hq⟩
  have hbl:bst (λp=>cost g (ts.getD p [])) p < ts.length:=by
   rcases Nat.eq_zero_or_pos p with e|e
   ·subst e;show 0 < _;omega
   ·have:=Zs8 (λp=>cost g (ts.getD p [])) p e;omega
  have hbs:bst (λp=>cost g (ts.getD p [])) (p+1)=if cost g (ts.getD p []) < cost g (ts.getD (bst (λp=>cost g (ts.getD p [])) p) []) then p else bst (λp=>cost g (ts.getD p [])) p:=rfl
  generalize hb:bst (λp=>cost g (ts.getD p [])) p=b at *;obtain⟨x,R,hld,H6,hcl,_⟩:=Zby j H1 hj (hget p hlt).1;refine hld _ _ λ_ hp_=>hp_ _ ?_;have H1':=hcl [] _ H6;refine r_dr H6 λw2 S2 H7=>?_;have hL2:Holds w2 L:=hcl [] _ H7;refine Zkh H7 (i:=i+1) (j:=0) (by rw[gF,hY_ (Ne.symm hij)];exact hi) rfl (by omega) (by have:=hT.sz _ (hget p hlt).2;omega) (hT.le _ (hget p hlt).2) (λx hx=>by rw[hT.sz _ (hget p hlt).2];exact hgx x hx) ?_;obtain⟨y,R2,hld2,H8,hcl2,_⟩:=Zby j hL2 hj (hget b hbl).1;refine hld2 _ _ λ_ hp_=>hp_ _ (r_rk (hp_ _ rfl) ?_);refine Zkh H8 (i:=i+1) (j:=0) (by rw[gF,hY_ (Ne.symm hij)];exact hi) rfl (by omega) (by have:=hT.sz _ (hget b hbl).2;omega) (hT.le _ (hget b hbl).2) (λx hx=>by rw[hT.sz _ (hget b hbl).2];exact hgx x hx) ?_;refine r_lss (r_ifD (λq=>?_) λq=>?_)
  ·refine Za0 (by omega) (r_ke ⟨⟨p+1,by rw[hbs,if_pos (by omega)],rfl,by omega,S1.trans S2,hL2⟩,?_⟩);simp only[nv,intOf,gC];omega
  ·refine Za0 (by omega) (r_ke ⟨⟨p+1,by rw[hbs,if_neg (by omega)],rfl,by omega,S1.trans S2,hL2⟩,?_⟩);simp only[nv,intOf,gC];omega
 ·obtain rfl:p=ts.length:=by omega
  exact k _ S1 H1
end T12
namespace T12
open F08 Rw Go.Mh
variable {w:World}{L:List HProp}{K:KT}
theorem Zsu {w out:List Nat}(h:LensOf w out):out.length=w.length/\∀ x∈out,x<=20:=by
 induction h with
 |fit h hl=>
  obtain⟨_,_,_,_,h,_⟩:=h;exact⟨by omega,hl⟩
 |more h hl r ih=>
  unfold halved at ih;rw[hS_] at ih;exact ih
def catP (ts:List (List Nat)) (p:Nat) (gs:List (List Nat)):List Nat:=(gs.filter λg=>decide (pk g ts=p)).flatten
theorem Ze6 (ts:List (List Nat)) (p:Nat) (gs:List (List Nat)) (g:List Nat):catP ts p (gs++[g])=catP ts p gs++if pk g ts=p then g else []:=by
 unfold catP;rw[List.filter_append,List.flatten_append]
 congr 1
 by_cases q:pk g ts=p
 ·rw[if_pos q,List.filter_cons_of_pos (by simpa using q)];simp
 ·rw[if_neg q,List.filter_cons_of_neg (by simpa using q)];rfl
structure Gp (size:Nat) (gs:List (List Nat)):Prop where
 few:gs.length<=32767
 len:∀ g∈gs,g.length<=50
 lt:∀ g∈gs,∀ x∈g,x < size
theorem Zi0 {size:Nat}{ts gs:List (List Nat)}{p:Nat}(h:Gp size gs):∀ i,(catP ts p (gs.take i)).length<=i*50
 |0=>by simp[catP]
 |i+1=>by
  have ih:=Zi0 (ts:=ts) (p:=p) h i;rcases hU_ i gs.length with q|q
  ·have e:gs.take (i+1)=gs.take i++[gs[i]]:=by rw[gO,gA q];rfl
   rw[e,Ze6,gD];have:=h.len _ (getElem_mem q);split
   ·omega
   ·simp;omega
  ·rw[gK (by omega),<-gK (i:=i) q];omega
structure Rnd (gs:List (List Nat)) (size:Nat) (ts:List (List Nat)) (picks:List Nat) (ts':List (List Nat)):Prop where
 pk:picks=gs.map λg=>pk g ts
 len:ts'.length=ts.length
 lens:∀ p,p < ts.length->LensOf (O09.ones (cnt (catP ts p gs) size)) (ts'.getD p [])
theorem Rnd.uniq {gs ts ts1 ts2:List (List Nat)}{size:Nat}{p1 p2:List Nat}(h:Rnd gs size ts p1 ts1) (g:Rnd gs size ts p2 ts2):p1=p2/\ts1=ts2:=by
 refine⟨h.pk.trans g.pk.symm,?_⟩;apply ext_getElem?;intro i;rcases hU_ i ts.length with q|q
 ·rw[Zcp (by rw[h.len];exact q),Zcp (by rw[g.len];exact q),(h.lens i q).uniq (g.lens i q)]
 ·rw[getElem?_eq_none (by rw[h.len];exact q),getElem?_eq_none (by rw[g.len];exact q)]
theorem Rnd.tb {gs ts ts1:List (List Nat)}{size:Nat}{p1:List Nat}(h:Rnd gs size ts p1 ts1) (hT:Tb size ts):Tb size ts1:=by
 have hm:∀ t∈ts1,t.length=size/\∀ x∈t,x<=20:=by
  intro t ht;obtain⟨i,hi,rfl⟩:=List.getElem_of_mem ht;have h1:=Zsu (h.lens i (by rw[<-h.len];exact hi));rw[gB,gA hi] at h1;unfold O09.ones at h1;rw[hS_,Zav] at h1;exact h1
 exact⟨by rw[h.len];exact hT.n2,by rw[h.len];exact hT.n6,λt ht=>(hm t ht).1,λt ht=>(hm t ht).2⟩
theorem Rnd.lt {gs ts ts1:List (List Nat)}{size:Nat}{p1:List Nat}(h:Rnd gs size ts p1 ts1) (hT:Tb size ts):p1.length=gs.length/\∀ p∈p1,p < ts1.length:=by
 rw[h.pk];refine⟨by simp,λp hp=>?_⟩;obtain⟨g,_,rfl⟩:=mem_map.1 hp;have:=hT.n2;rw[h.len];exact Zs8 _ _ (by omega)
theorem Ztg {gv tv:Value}{gs ts:List (List Nat)}{size i j:Nat}(H:Holds w L) (hi:L[i]?=some (RR gv gs)) (hj:L[j]?=some (RR tv ts)) (hij:i≠j) (hT:Tb size ts) (hs3:3<=size) (hs:size<=258) (hG:Gp size gs)
  (k:∀ pv ov picks ts' w',Rnd gs size ts picks ts'->Same w w'->Holds w' (RR ov ts'::SL nv tI pv picks::L)->K (.tuple #[pv,ov]) w'):Cl prog 189 #[gv,tv,nv size] w K:=by
 refine Tz189 ?_;unfold Vz189;have hn2:=hT.n2;have hn6:=hT.n6;have hgl:=hG.few;refine rr_ln j H hj ?_;refine Zve H (by omega) λcv w2 S2 H2=>?_;refine rr_ln 0 H2 rfl ?_;rw[gP]
 refine Za8 (λq w'=>∃ p:Nat,q=nv p/\p<=ts.length/\Same w w'/\Holds w' (RR cv ((List.range ts.length).map λj=>if j < p then List.replicate size 0 else [])::L)) (λq _=>ts.length - (intOf q).toNat)
  ⟨0,rfl,hE _,S2,by
   have e:(List.range ts.length).map (λj=>if j < 0 then List.replicate size 0 else ([]:List Nat))=List.replicate ts.length []:=by
    apply ext_getElem?;intro j;rw[List.getElem?_replicate];split
    ·rename_i q;rw[Zbg _ q,if_neg (by omega)]
    ·rename_i q;rw[getElem?_eq_none (by simpa using q)]
   rw[e];exact H2⟩ ?_
 clear H H2 S2;rintro _ _ w3 ⟨p,rfl,hp,S3,H3⟩;refine r_lss (r_ifD (λh=>?_) λh=>?_)
 ·have hlt:p < ts.length:=by omega
  refine r_ms (f:=nv) (x:=0) H3 rfl (by omega) (by omega) λnb w4 S4 H4=>?_;rw[gC] at H4 ⊢;have H5:=H4.close 0 rfl;simp only[gJ,gP,length_nil,Nat.add_zero] at H5;refine Zvc 0 H5 rfl (by rw[hS_,hW_];exact hlt) λw5 S5 H6=>?_
  have e6:=Zcc (λj=>if j < p then List.replicate size 0 else ([]:List Nat)) (λj=>if j < p+1 then List.replicate size 0 else ([]:List Nat)) hlt (λj hj hjp=>by
   by_cases q:j < p
   ·rw[if_pos q,if_pos (by omega)]
   ·rw[if_neg q,if_neg (by omega)])
  simp only[Nat.lt_succ_self,if_true] at e6;rw[gJ,e6] at H6;refine Za0 (by omega) (r_ke ⟨⟨p+1,rfl,hlt,S3.trans (S4.trans S5),H6⟩,?_⟩);simp only[nv,intOf,gC];omega
 obtain rfl:p=ts.length:=by omega
 have e0:(List.range ts.length).map (λj=>if j < ts.length then List.replicate size 0 else ([]:List Nat))=(List.range ts.length).map λp=>cnt (catP ts p (gs.take 0)) size:=
  Zaz _ _ λj hj=>by rw[if_pos hj,take_zero];show _=cnt [] size;rw[Zvi]
 rw[e0] at H3;refine rr_ln (i+1) H3 (by rw[gF];exact hi) ?_
 refine Za7 (λpv x w'=>∃ u:Nat,x=nv u/\u<=gs.length/\Same w w'/\Holds w' (SL nv tI pv ((gs.take u).map λg=>pk g ts)::RR cv ((List.range ts.length).map λp=>cnt (catP ts p (gs.take u)) size)::L)) (λ_ x _=>gs.length - (intOf x).toNat)
  ⟨0,rfl,hE _,S3,H3.nilSL nv tI⟩ ?_
 clear H3 S3 h e0;rintro _ pv _ w4 ⟨u,rfl,hu,S4,H4⟩;refine r_lss (r_ifD (λh=>?_) λh=>?_)
 ·have hlt:u < gs.length:=by omega
  have hq:=Zcp hlt;have hmem:=Zaw hlt
  have e:gs.take (u+1)=gs.take u++[gs.getD u []]:=by rw[gO,hq];rfl
  have hcl:=λp=>Zi0 (ts:=ts) (p:=p) hG u;generalize gs.getD u []=g at *;have hgl50:=hG.len g hmem;have hgx:=hG.lt g hmem;have hpk:pk g ts < ts.length:=Zs8 _ _ (by omega);obtain⟨x,R,hld,H5,_,_,_,hR⟩:=Zby (i+2) H4 (by rw[gF,gF];exact hi) hq;refine hld _ _ λ_ hp_=>hp_ _ ?_;replace H5:Holds w4 (SL nv tI (sw x) g::SL nv tI pv ((gs.take u).map λg=>pk g ts)::RR cv ((List.range ts.length).map λp=>cnt (catP ts p (gs.take u)) size)::L.set i R):=H5;refine pick_spec H5 (i:=0) (j:=j+3) rfl (by rw[gF,gF,gF,hY_ hij];exact hj) (by omega) hT hs hgl50 hgx ?_;generalize hP:pk g ts=P at *;refine Zam (f:=nv) H5 1 rfl P (λ_=>rfl) (by rw[hS_,gN];omega) λpv2 w5 S5 H6=>?_;replace H6:Holds w5 (SL nv tI (sw x) g::SL nv tI pv2 (((gs.take u).map λg=>T12.pk g ts)++[P])::RR cv ((List.range ts.length).map λp=>cnt (catP ts p (gs.take u)) size)::L.set i R):=H6;refine Zii H6 (i:=0) rfl hs3 hs (by omega) hgx λav w6 S6 H7=>?_;refine Za4 (Za3 ?_);have hrow:((List.range ts.length).map λp=>cnt (catP ts p (gs.take u)) size)[P]?=some (cnt (catP ts P (gs.take u)) size):=Zbg _ hpk;obtain⟨y,R2,hld2,H8,hcl2,_,_,_⟩:=Zby 3 H7 rfl hrow;refine hld2 _ _ λ_ hp_=>hp_ _ ?_;have hc1:=hcl P;refine Zyq H8 (i:=0) (j:=1) rfl rfl (by rw[Zav];omega) (by rw[Zav,Zav]) (λx hx=>by have:=cnt_le _ _ x hx;omega) (λx hx=>by have:=cnt_le _ _ x hx;omega) λsv w7 S7 H9=>?_;refine Za4 (Za3 ?_);have H10:=hcl2 [_] _ H9;refine Zvc 3 H10 rfl (by rw[hS_,hW_];exact hpk) λw8 S8 H11=>?_;have H12:=H11.drop;replace H12:Holds w8 (SL nv tI (sw x) g::SL nv tI pv2 (((gs.take u).map λg=>T12.pk g ts)++[P])::RR cv (((List.range ts.length).map λp=>cnt (catP ts p (gs.take u)) size).set P (addL (cnt (catP ts P (gs.take u)) size) (cnt g size)))::L.set i R):=H12;have H13:=Zgs hR [] (i+2) (by rw[gF,gF];exact Za5 hi) H12
  have eL:(L.set i R).set i (RR gv gs)=L:=by
   obtain⟨p1,p2⟩:=gH.1 hi;rw[set_set,<-p2,set_getElem_self]
  replace H13:Holds w8 (SL nv tI pv2 (((gs.take u).map λg=>T12.pk g ts)++[P])::RR cv (((List.range ts.length).map λp=>cnt (catP ts p (gs.take u)) size).set P (addL (cnt (catP ts P (gs.take u)) size) (cnt g size)))::(L.set i R).set i (RR gv gs)):=H13;rw[eL] at H13
  have e7:=Zcc (λp=>cnt (catP ts p (gs.take u)) size) (λp=>cnt (catP ts p (gs.take (u+1))) size) hpk (λp _ hpP=>by
   rw[e,Ze6,if_neg (by omega),gU])
  have e8:addL (cnt (catP ts P (gs.take u)) size) (cnt g size)=cnt (catP ts P (gs.take (u+1))) size:=by
   rw[Yag,e,Ze6,if_pos hP]
  rw[e8,e7] at H13;refine Za0 (by omega) (r_ke ⟨⟨u+1,rfl,hlt,S4.trans (S5.trans (S6.trans (S7.trans S8))),?_⟩,?_⟩)
  ·rw[e,map_append,<-e];simp only[hR_,map_nil];rw[hP];exact H13
  ·simp only[nv,intOf,gC];omega
 obtain rfl:u=gs.length:=by omega
 rw[hF_] at H4;refine rr_ln 1 H4 rfl ?_;rw[hS_,hW_]
 refine Za7 (λov x w'=>∃ (q:Nat) (ts':List (List Nat)),x=nv q/\q<=ts.length/\ts'.length=q/\(∀ p,p < q->LensOf (O09.ones (cnt (catP ts p gs) size)) (ts'.getD p []))/\Same w w'/\
   Holds w' (RR ov ts'::SL nv tI pv (gs.map λg=>pk g ts)::RR cv ((List.range ts.length).map λp=>cnt (catP ts p gs) size)::L)) (λ_ x _=>ts.length - (intOf x).toNat)
  ⟨0,[],rfl,hE _,rfl,λp hp=>absurd hp (Nat.not_lt_zero p),S4,Zmn H4⟩ ?_
 clear H4 S4 h;rintro _ ov _ w5 ⟨q,ts',rfl,hq,hql,hqL,S5,H5⟩;refine r_lss (r_ifD (λh=>?_) λh=>?_)
 ·have hlt:q < ts.length:=by omega
  have hrow:((List.range ts.length).map λp=>cnt (catP ts p gs) size)[q]?=some (cnt (catP ts q gs) size):=Zbg _ hlt;obtain⟨x,R,hld,H6,hcl,_,_,_⟩:=Zby 2 H5 rfl hrow;refine hld _ _ λ_ hp_=>hp_ _ ?_;have hc1:=Zi0 (ts:=ts) (p:=q) hG gs.length;rw[hF_] at hc1;refine O09.Of_spec H6 (i:=0) rfl (by rw[Zav];exact hs3) (by rw[Zav];exact hs) (λx hx=>by have:=cnt_le _ _ x hx;omega) λlv out w6 hL S6 H7=>?_;refine Za4 (Za3 ?_);have H8:=hcl [_] _ H7;refine Znu 0 H8 rfl (by omega) λov2 w7 S7 H9=>?_;replace H9:Holds w7 (RR ov2 (ts'++[out])::SL nv tI pv (gs.map λg=>T12.pk g ts)::RR cv ((List.range ts.length).map λp=>cnt (catP ts p gs) size)::L):=H9;refine Za0 (by omega) (r_ke ⟨⟨q+1,_,rfl,hlt,by rw[gD,hql];rfl,λp hp=>?_,S5.trans (S6.trans S7),H9⟩,?_⟩)
  ·rw[gB];rcases hU_ p q with z|z
   ·rw[gM (by omega),<-gB];exact hqL p z
   ·obtain rfl:p=q:=by omega
    rw[gT (by omega),hql,Nat.sub_self];exact hL
  ·simp only[nv,intOf,gC];omega
 ·obtain rfl:q=ts.length:=by omega
  have H6:=Holds.dropAt H5 2;exact k _ _ _ _ _ ⟨rfl,hql,hqL⟩ S5 H6
end T12
namespace T12
open F08 Rw Go.Mh
variable {w:World}{L:List HProp}{K:KT}
def grp (l:List Nat) (g:Nat):List Nat:=(l.drop (g*50)).take 50
def nGr (l:List Nat):Nat:=(l.length+49)/50
def grps (l:List Nat):List (List Nat):=(List.range (nGr l)).map (grp l)
theorem Zr8 (l:List Nat):(grps l).length=nGr l:=by simp[grps]
theorem Zvg {l:List Nat}{size:Nat}(hl:nGr l<=32767) (hx:∀ x∈l,x < size):Gp size (grps l):=by
 refine⟨by rw[Zr8];exact hl,λg hg=>?_,λg hg x hxg=>?_⟩
 ·obtain⟨i,_,rfl⟩:=mem_map.1 hg;unfold grp;rw[gN];omega
 ·obtain⟨i,_,rfl⟩:=mem_map.1 hg;exact hx x (List.mem_of_mem_drop (mem_of_mem_take hxg))
theorem Zm1 {v:Value}{l:List Nat}{i:Nat}(H:Holds w L) (hi:L[i]?=some (SL nv tI v l)) (hl:l.length<=100000000)
  (k:∀ gv w',Same w w'->Holds w' (RR gv (grps l)::L)->K gv w'):Cl prog 187 #[v] w K:=by
 refine Tz187 ?_;unfold Vz187;refine r_lnS i H hi (Zdf (by omega) ?_);have hn:nGr l=(l.length+49)/50:=rfl;rw[<-hn]
 refine Za7 (λgv x w'=>∃ u:Nat,x=nv u/\u<=nGr l/\Same w w'/\Holds w' (RR gv ((List.range u).map (grp l))::L)) (λ_ x _=>nGr l - (intOf x).toNat)
  ⟨0,rfl,hE _,.refl _,Zmn H⟩ ?_
 clear H;rintro _ gv _ w1 ⟨u,rfl,hu,S1,H1⟩;refine r_lss (r_ifD (λh=>?_) λh=>?_)
 ·have hlt:u < nGr l:=by omega
  refine Zk0 H1 (i:=i+1) (by rw[gF];exact hi) hl (by omega) λrv w2 S2 H2=>?_;refine Za4 (Za3 ?_);refine Znu 0 H2 rfl (by rw[hS_,hW_];omega) λgv2 w3 S3 H3=>?_;rw[gJ] at H3;refine Za0 (by omega) (r_ke ⟨⟨u+1,rfl,hlt,S1.trans (S2.trans S3),?_⟩,?_⟩)
  ·rw[range_succ,map_append];exact H3
  ·simp only[nv,intOf,gC];omega
 ·obtain rfl:u=nGr l:=by omega
  exact k _ _ S1 H1
inductive Rnds (gs:List (List Nat)) (size:Nat) (ts0:List (List Nat)):Nat->List Nat->List (List Nat)->Prop
 |zero:Rnds gs size ts0 0 [] ts0
 |succ {n:Nat} {p p':List Nat} {ts ts':List (List Nat)} (h:Rnds gs size ts0 n p ts) (r:Rnd gs size ts p' ts'):Rnds gs size ts0 (n+1) p' ts'
theorem Rnds.uniq {gs ts0:List (List Nat)}{size n:Nat}{p1:List Nat}{ts1:List (List Nat)}(h:Rnds gs size ts0 n p1 ts1):∀ {p2:List Nat}{ts2:List (List Nat)},Rnds gs size ts0 n p2 ts2->p1=p2/\ts1=ts2:=by
 induction h with
 |zero=>intro p2 ts2 g;cases g;exact⟨rfl,rfl⟩
 |succ h r ih=>
  intro p2 ts2 g
  cases g with
  |succ g r2=>
   obtain⟨_,rfl⟩:=ih g;exact r.uniq r2
theorem Rnds.tb {gs ts0:List (List Nat)}{size n:Nat}{p1:List Nat}{ts1:List (List Nat)}(h:Rnds gs size ts0 n p1 ts1) (hT:Tb size ts0):Tb size ts1/\(1<=n->p1.length=gs.length/\∀ p∈p1,p < ts1.length):=by
 induction h with
 |zero=>exact⟨hT,λh=>by omega⟩
 |succ h r ih=>exact⟨r.tb ih.1,λ_=>r.lt ih.1⟩
def Cho (l:List Nat) (size:Nat) (picks:List Nat) (ts:List (List Nat)):Prop:=Rnds (grps l) size (firstL (cnt l size) l.length (num l.length)) 4 picks ts
theorem Zme (l:List Nat) (size:Nat):Tb size (firstL (cnt l size) l.length (num l.length)):=by
 have hn:=Zoz l.length;refine⟨by rw[Zk5];exact hn.1,by rw[Zk5];exact hn.2,λt ht=>?_,λt ht x hx=>?_⟩
 ·obtain⟨p,_,rfl⟩:=mem_map.1 ht;rw[Zcj,Zav]
 ·obtain⟨p,_,rfl⟩:=mem_map.1 ht;obtain⟨v,_,rfl⟩:=mem_map.1 hx;unfold firstV
  split <;> omega
theorem Cho.ok {l picks:List Nat}{size:Nat}{ts:List (List Nat)}(h:Cho l size picks ts):Tb size ts/\picks.length=nGr l/\∀ p∈picks,p < ts.length:=by
 have:=Rnds.tb h (Zme l size);have h2:=this.2 (by omega);rw[Zr8] at h2;exact⟨this.1,h2⟩
abbrev tCh:Nat:=148
theorem Of_spec {v:Value}{l:List Nat}{size i:Nat}(H:Holds w L) (hb:BndOk L) (hi:L[i]?=some (SL nv tI v l)) (h3:3<=size) (h258:size<=258) (h0:l≠[]) (hl:l.length<=1600000) (hx:∀ x∈l,x < size)
  (k:∀ ov pv picks ts w',Cho l size picks ts->Same w w'->Holds w' (RR ov ts::SL nv tI pv picks::L)->K (.tuple #[.agg #[ov,pv],iv 0]) w'):Cl prog 142 #[v,nv size] w K:=by
 refine Tz142 ?_;unfold Vz142
 have hz:(zeroP prog tCh).cells.toList=[.slice none 0 0,.slice none 0 0]:=by kernel_rfl
 have hl0:0 < l.length:=gZ.2 h0;have hng:nGr l=(l.length+49)/50:=rfl;refine r_new H λrb w1 S1 H1=>?_;rw[hz] at H1;refine Zii H1 (i:=i+1) (by rw[gF];exact hi) h3 h258 (by omega) hx λcv w2 S2 H2=>?_;refine Za4 (Za3 ?_);refine Za2 (λt w'=>w2=w'/\t=.bool false) ?_ ?_
 rotate_left
 ·refine r_neq (r_vfN (by omega) ?_);refine r_lnS (i+2) H2 (by rw[gF,gF];exact hi) (r_eql (r_ke ⟨rfl,by rw[show ((l.length:Int)==0)=false from beq_eq_false_iff_ne.2 (by omega)]⟩))
 rintro _ _ _ ⟨rfl,rfl⟩;refine r_vf ?_;refine r_lnS (i+2) H2 (by rw[gF,gF];exact hi) (Zdf (by omega) ?_);refine r_gtr (r_vfD (by omega) ?_);refine Zm1 H2 (i:=i+2) (by rw[gF,gF];exact hi) (by omega) λgv w3 S3 H3=>?_;refine r_lnS (i+3) H3 (by rw[gF,gF,gF];exact hi) ?_;refine Ztq H3 (i:=1) hb.up.up.up rfl (by rw[Zav];omega) (λx hx=>by have:=cnt_le _ _ x hx;omega) (by omega) (by omega) λfv w4 S4 H4=>?_;obtain⟨fx,rfl⟩:=rr_sw H4 (i:=0) rfl;refine r_bd (v:=.agg #[sw fx,.slice none 0 0]) (by kernel_rfl) ?_;refine r_new H4 λcb w5 S5 H5=>?_;rw[hz] at H5;refine r_stA 0 H5 (vs:=[sw fx,.slice none 0 0]) rfl (by decide) rfl rfl λw6 S6 H6=>?_;replace H6:Holds w6 (blk cb tCh [sw fx,.slice none 0 0]::RR (sw fx) (firstL (cnt l size) l.length (num l.length))::RR gv (grps l)::SL nv tI cv (cnt l size)::blk rb tCh [.slice none 0 0,.slice none 0 0]::L):=H6;have H7:=H6.nilSL nv tI
 have H8:Holds w6 (RR (sw fx) (firstL (cnt l size) l.length (num l.length))::SL nv tI (.slice none 0 0) []::blk cb tCh [sw fx,.slice none 0 0]::RR gv (grps l)::SL nv tI cv (cnt l size)::blk rb tCh [.slice none 0 0,.slice none 0 0]::L):=by have h_:=Holds.ord 3 [2,0,1] H7 rfl;exact h_
 refine Za8 (λx w'=>∃ (m:Nat) (ov pv:Value) (picks:List Nat) (ts:List (List Nat)),x=nv m/\m<=4/\Rnds (grps l) size (firstL (cnt l size) l.length (num l.length)) m picks ts/\Same w w'/\
   Holds w' (RR ov ts::SL nv tI pv picks::blk cb tCh [ov,pv]::RR gv (grps l)::SL nv tI cv (cnt l size)::blk rb tCh [.slice none 0 0,.slice none 0 0]::L)) (λx _=>4 - (intOf x).toNat)
  ⟨0,sw fx,_,[],_,rfl,by omega,.zero,((((S1.trans S2).trans S3).trans S4).trans S5).trans S6,H8⟩ ?_
 clear H H1 H2 H3 H4 H5 H6 H7 H8 S1 S2 S3 S4 S5 S6;rintro _ _ w7 ⟨m,ov,pv,picks,ts,rfl,hm,hR,S7,H7⟩;refine r_lss (r_ifD (λh=>?_) λh=>?_)
 ·have hTb:=(Rnds.tb hR (Zme l size)).1;refine r_fo0 (r_ld 2 H7 rfl rfl ?_);refine Ztg H7 (i:=3) (j:=0) rfl rfl (by omega) hTb h3 h258 (Zvg (by omega) hx) λpv2 ov2 picks2 ts2 w8 hr S8 H8=>?_;refine Za4 (Za3 ?_);obtain⟨ox,rfl⟩:=rr_sw H8 (i:=0) rfl;obtain⟨px,rfl⟩:=sl_sw H8 (i:=1) rfl;refine r_bd (v:=.agg #[sw ox,sw px]) (by kernel_rfl) ?_;refine r_stA 4 H8 (vs:=[sw ox,sw px]) rfl (by simp) rfl rfl λw9 S9 H9=>?_
  have H10:Holds w9 (RR (sw ox) ts2::SL nv tI (sw px) picks2::blk cb tCh [sw ox,sw px]::RR gv (grps l)::SL nv tI cv (cnt l size)::blk rb tCh [.slice none 0 0,.slice none 0 0]::L):=by
   have h_:=Holds.ord 8 [0,1,4,5,6,7] H9 rfl;exact h_
  refine Za0 (by omega) (r_ke ⟨⟨m+1,sw ox,sw px,picks2,ts2,rfl,by omega,.succ hR hr,S7.trans (S8.trans S9),H10⟩,?_⟩);simp only[nv,intOf,gC];omega
 ·obtain rfl:m=4:=by omega
  obtain⟨ox,rfl⟩:=rr_sw H7 (i:=0) rfl;obtain⟨px,rfl⟩:=sl_sw H7 (i:=1) rfl;refine r_ldA 2 H7 [sw ox,sw px] rfl rfl rfl ?_;refine r_stA 5 H7 (vs:=[sw ox,sw px]) rfl (by simp) rfl rfl λw8 S8 H8=>?_;refine r_ldA 5 H8 [sw ox,sw px] rfl rfl rfl ?_
  have H9:Holds w8 (RR (sw ox) ts::SL nv tI (sw px) picks::L):=by have h_:=Holds.ord 6 [0,1] H8 rfl;exact h_
  exact k _ _ _ _ _ hR (S7.trans S8) H9
theorem Ztb {v ov pv:Value}{l picks:List Nat}{ts:List (List Nat)}{size i a p:Nat}(H:Holds w L) (hi:L[i]?=some (SL nv tI v l)) (ha:L[a]?=some (RR ov ts)) (hp:L[p]?=some (SL nv tI pv picks)) (hT:Tb size ts) (hs:size<=258) (hl:l.length<=1600000) (hx:∀ x∈l,x < size)
  (hpl:picks.length=nGr l) (hpx:∀ q∈picks,q < ts.length) (k:∀ n w',n<=1099511627776->Same w w'->Holds w' L->K (.tuple #[nv n,iv 0]) w'):Cl prog 96 #[v,.agg #[ov,pv]] w K:=by
 refine Tz96 ?_;unfold Vz96;have hng:nGr l=(l.length+49)/50:=rfl;refine r_new H λcb w1 S1 H1=>?_;replace H1:Holds w1 (blk cb tCh [ov,pv]::L):=H1;refine r_dr H1 λw2 S2 H2=>?_
 have hi2:∀ A:HProp,(A::L)[i+1]?=some (SL nv tI v l):=λA=>by rw[gF];exact hi
 have hp2:∀ A:HProp,(A::L)[p+1]?=some (SL nv tI pv picks):=λA=>by rw[gF];exact hp
 have ha2:∀ A:HProp,(A::L)[a+1]?=some (RR ov ts):=λA=>by rw[gF];exact ha
 refine r_fo0 (r_ld 0 H2 rfl rfl ?_);refine r_lnS (p+1) H2 (hp2 _) ?_;refine r_lnS (i+1) H2 (hi2 _) (Zdf (by omega) ?_);refine r_rk (r_lnS (p+1) H2 (hp2 _) rfl) (r_rk (r_ld 0 H2 rfl rfl rfl) ?_);refine r_neq (r_vfN (by omega) ?_);refine r_fo0 (r_ld 0 H2 rfl rfl ?_);refine r_lnS (p+1) H2 (hp2 _) ?_
 refine Za7 (λtv x w'=>∃ u n:Nat,tv=nv n/\n<=1099511627776/\x=nv u/\u<=picks.length/\Same w w'/\Holds w' (blk cb tCh [ov,pv]::L)) (λ_ x _=>picks.length - (intOf x).toNat)
  ⟨0,0,rfl,by omega,rfl,hE _,S1.trans S2,H2⟩ ?_
 clear H H1 H2 S1 S2;rintro _ _ _ w3 ⟨u,n,rfl,hn,rfl,hu,S3,H3⟩;refine r_lss (r_ifD (λh=>?_) λh=>?_)
 ·have hlt:u < picks.length:=by omega
  have hq:=hpx _ (getElem_mem hlt);refine Za6 (p+1) H3 (hp2 _) (gA hlt) ?_;generalize picks[u]=q at *;refine Za2 (λt w'=>w3=w'/\t=.bool false) ?_ ?_
  rotate_left
  ·refine r_lss (r_vfD (by omega) ?_);refine r_fo0 (r_ld 0 H3 rfl rfl ?_);refine rr_ln (a+1) H3 (ha2 _) (r_geq (r_ke ⟨rfl,by rw[decide_eq_false (by omega)]⟩))
  rintro _ _ _ ⟨rfl,rfl⟩;refine r_vf ?_;refine Zk0 H3 (i:=i+1) (hi2 _) (by omega) (by omega) λgv w4 S4 H4=>?_;refine Za4 (Za3 ?_);refine r_fo0 (r_ld 1 H4 rfl rfl ?_);obtain⟨x,R,hld,H5,hcl,_⟩:=Zby (a+2) H4 (by rw[gF];exact ha2 _) (Zcp hq);refine hld _ _ λ_ hp_=>hp_ _ ?_;have hm:=Zaw hq
  have hgl:((l.drop (u*50)).take 50).length<=50:=by rw[gN];omega
  have hc:=Zlp (hT.le _ hm) ((l.drop (u*50)).take 50);refine Zng H5 (i:=1) (j:=0) rfl rfl (by omega) (by have:=hT.sz _ hm;omega) (hT.le _ hm) (λy hy=>by rw[hT.sz _ hm];exact hx y (List.mem_of_mem_drop (mem_of_mem_take hy))) ?_;refine Za4 (Za3 ?_);refine r_neq (r_vfN (by omega) ?_);refine Zac (by omega) (r_min ?_);have H6:=hcl [] _ H5;generalize cost ((l.drop (u*50)).take 50) (ts.getD q [])=c at *;rw[show min ((n+c:Nat):Int) 1099511627776=((min (n+c) 1099511627776:Nat):Int) by omega];refine Za0 (by omega) (r_ke ⟨⟨u+1,_,rfl,by omega,rfl,by omega,S3.trans S4,H6.drop⟩,?_⟩);simp only[nv,intOf,gC];omega
 ·exact k n _ hn S3 H3.drop
end T12
namespace W14
open Go.M01 Go.M10 Go.Mv Go.Mh F08 Rw T12
variable {w:World}{L:List HProp}{K:KT}{wb n:Nat}{bs:List Bool}
theorem Zfz {l picks:List Nat}{size:Nat}{ts:List (List Nat)}(h3:3<=size) (h:Cho l size picks ts):∀ t∈ts,Whole t:=by
 unfold Cho at h
 cases h with
 |succ h r=>
  intro t ht;obtain⟨i,hi,rfl⟩:=List.getElem_of_mem ht;have h1:=r.lens i (by rw[<-r.len];exact hi);rw[gB,gA hi] at h1;exact Zna h1 (by unfold O09.ones;rw[hS_,Zav];omega)
def fnB (ab:Nat):Value:=.func (.func 147) #[] #[pt ab]
theorem Zhu {ab v m T:Nat}(H:Holds w (blk ab tI [nv T]::L)) (hT:T<=1000000000) (hm:m<=32)
  (k:∀ w',Same w w'->Holds w' (blk ab tI [nv (T+m)]::L)->K (.tuple #[]) w'):Inv prog (do let d <-Deferred.ofValue (fnB ab) #[nv v,nv m];invoke d.target d.args) w K:=by
 refine r_inv (f:=147) (args:=#[nv v,nv m,pt ab]) (by kernel_rfl) ?_;refine Tz147 ?_;unfold Vz147;refine r_ld 0 H rfl rfl ?_;refine Zac (by omega) ?_;refine r_st 0 H rfl (by simp) rfl λw2 S2 H2=>?_;exact k _ S2 H2
theorem Zpy {ab:Nat}{v:Value}{lens:List Nat}(H:Holds w (blk ab tI [nv 0]::SL nv tI v lens::L)) (hne:lens≠[]) (hll:lens.length<=258) (hs:Sized lens)
  (k:∀ T w',T<=1000000->Same w w'->Holds w' (blk ab tI [nv T]::SL nv tI v lens::L)->K (.tuple #[]) w'):Cl prog 146 #[v,fnB ab] w K:=by
 refine Tz146 ?_;unfold Vz146;have h0:0 < lens.length:=gZ.2 hne;have hsz:∀ i,i < lens.length->1<=lens.getD i 0/\lens.getD i 0<=20:=λi hi=>C10.Zca hs hi
 have hget:∀ i,i < lens.length->lens[i]?=some (lens.getD i 0):=λi hi=>by rw[gB,gA hi];rfl
 have hf0:=hsz 0 h0;refine Za6 1 H (j:=0) rfl (hget 0 h0) ?_;refine Zhu (m:=5) H (by omega) (by omega) λw1 S1 H1=>?_;refine r_lnS 1 H1 rfl ?_
 refine Za7 (λnw x w'=>∃ i a T:Nat,i<=lens.length/\x=nv i/\nw=nv a/\1<=a/\a<=20/\T<=5+100*i/\Same w w'/\Holds w' (blk ab tI [nv T]::SL nv tI v lens::L)) (λ_ x _=>lens.length - (intOf x).toNat)
  ⟨0,_,_,by omega,rfl,rfl,hf0.1,hf0.2,by omega,S1,H1⟩ ?_
 clear H H1 S1;rintro _ _ _ w2 ⟨i,a,T,hi,rfl,rfl,ha1,ha2,hT,S,H⟩;refine r_lss (r_ifD (λh=>?_) λh=>?_)
 rotate_left
 ·exact k T _ (by omega) S H
 have hlt:i < lens.length:=by omega
 have hxi:=hsz i hlt;refine Za6 1 H rfl (hget i hlt) ?_;generalize lens.getD i 0=x at *
 refine Za8 (λy w'=>∃ j:Nat,y=nv (a+j)/\j<=x - a/\Same w w'/\Holds w' (blk ab tI [nv (T+2*j)]::SL nv tI v lens::L)) (λy _=>100 - (intOf y).toNat)
  ⟨0,rfl,hE _,S,H⟩ ?_
 clear H S;rintro _ _ w3 ⟨j,rfl,hj,S,H⟩;refine r_lss (r_ifD (λh2=>?_) λh2=>?_)
 ·refine Zhu (v:=2) (m:=2) H (by omega) (by omega) λw4 S4 H4=>?_;refine Za0 (by omega) ?_;refine r_ke ⟨⟨j+1,rfl,by omega,S.trans S4,by rw[show T+2*(j+1)=T+2*j+2 by omega];exact H4⟩,?_⟩;simp only[nv,intOf,gC];omega
 obtain rfl:j=x - a:=by omega
 refine Za8 (λy w'=>∃ j:Nat,y=nv (max a x - j)/\j<=a - x/\Same w w'/\Holds w' (blk ab tI [nv (T+2*(x - a)+2*j)]::SL nv tI v lens::L)) (λy _=>(intOf y).toNat)
  ⟨0,by rw[show max a x - 0=a+(x - a) by omega],hE _,S,H⟩ ?_
 clear H S;rintro _ _ w4 ⟨j,rfl,hj2,S,H⟩;refine r_gtr (r_ifD (λh3=>?_) λh3=>?_)
 ·refine Zhu (v:=3) (m:=2) H (by omega) (by omega) λw5 S5 H5=>?_;refine Zaa (by omega) (by omega) ?_;refine r_ke ⟨⟨j+1,by rw[show max a x - j - 1=max a x - (j+1) by omega],by omega,S.trans S5,by rw[show T+2*(x - a)+2*(j+1)=T+2*(x - a)+2*j+2 by omega];exact H5⟩,?_⟩;simp only[nv,intOf,gC];omega
 ·obtain rfl:j=a - x:=by omega
  refine Zhu (v:=0) (m:=1) H (by omega) (by omega) λw5 S5 H5=>?_;refine Za0 (by omega) ?_;refine r_ke ⟨⟨i+1,x,_,by omega,rfl,by rw[show max a x - (a - x)=x by omega],by omega,by omega,by omega,S.trans S5,H5⟩,?_⟩;simp only[nv,intOf,gC];omega
theorem Zsh {v:Value}{lens:List Nat}{j:Nat}(H:Holds w (SL nv tI v lens::L)) (h3:3<=lens.length) (h258:lens.length<=258) (hs:Sized lens)
  (k:∀ T w',T<=1000000->Same w w'->Holds w' (SL nv tI v lens::L)->K (.tuple #[nv T,iv 0]) w'):Cl prog 95 #[v] w K:=by
 refine Tz95 ?_;unfold Vz95;refine D11.Zr2 H 0 rfl h3 h258 hs ?_;refine Zak (r_vf ?_)
 have hz:(zeroP prog tI).cells.toList=[iv 0]:=by kernel_rfl
 refine r_new H λab w1 S1 H1=>?_;rw[hz] at H1;refine r_st 0 H1 rfl (by simp) rfl λw2 S2 H2=>?_;replace H2:Holds w2 (blk ab tI [nv 0]::SL nv tI v lens::L):=H2;refine r_mf (fnB ab) (by kernel_rfl) ?_;refine Zpy H2 (λe=>by rw[e] at h3;simp at h3) h258 hs λT w3 hT S3 H3=>?_;refine r_ld 0 H3 rfl rfl ?_;exact k T _ hT ((S1.trans S2).trans S3) H3.drop
theorem Zva {v:Value}{l:List Nat}{t:Nat}(H:Holds w (SL nv tI v l::L)) (ht:2<=t/\t<=6) (hl0:l≠[]) (hll:l.length<=32767) (hp:∀ p∈l,p < t)
  (k:∀ w',Same w w'->Holds w' (SL nv tI v l::L)->K (.bool true) w'):Cl prog 143 #[v,nv t] w K:=by
 have h0:0 < l.length:=gZ.2 hl0;refine Tz143 ?_;unfold Vz143;refine r_new H λtb w1 S1 H1=>?_;replace H1:Holds w1 (blk tb tI [nv t]::SL nv tI v l::L):=H1;refine Za2 (λx w'=>w1=w'/\x=.bool false) ?_ ?_
 rotate_left
 ·refine r_ld 0 H1 rfl rfl ?_;refine r_cl (K:=λx w'=>w1=w'/\x=.bool true) ?_ ?_
  ·refine Tz190 ?_;unfold Vz190;refine r_geq (r_vtD (by omega) ?_);exact r_leq ⟨rfl,by rw[decide_eq_true (by omega)]⟩
  rintro _ _ ⟨rfl,rfl⟩;refine Zak (r_vf ?_);refine r_lnS 1 H1 rfl ?_;refine r_eql (r_vfE (by omega) ?_);refine r_lnS 1 H1 rfl ?_;exact r_gtr (r_ke ⟨rfl,by rw[decide_eq_false (by omega)]⟩)
 rintro _ _ _ ⟨rfl,rfl⟩;refine r_vf ?_;refine r_mf (.func (.func 192) #[] #[pt tb]) (by kernel_rfl) ?_;refine D11.Zee H1 1 rfl (by omega) (λx hx Q hQ=>?_) ?_
 ·have:=hp x hx;refine r_inv (f:=192) (args:=#[nv x,pt tb]) (by kernel_rfl) ?_;refine Tz192 ?_;unfold Vz192;refine r_lss (r_vfD (by omega) ?_);refine r_ld 0 H1 rfl rfl ?_;refine r_geq ?_;rw[decide_eq_false (by omega)];exact hQ
 ·exact Zbo (k _ S1 H1.drop)
theorem Zt1 {v:Value}{l:List Nat}{t:Nat}(H:Holds w (SL nv tI v l::L)) (ht:2<=t/\t<=6) (hl0:l≠[]) (hll:l.length<=32767) (hp:∀ p∈l,p < t)
  (k:∀ T w',T<=1000000->Same w w'->Holds w' (SL nv tI v l::L)->K (.tuple #[nv T,iv 0]) w'):Cl prog 94 #[v,nv t] w K:=by
 refine Tz94 ?_;unfold Vz94;refine Zva H ht hl0 hll hp λw1 S1 H1=>?_;refine Zak (r_vf ?_);refine P13.Zi4 H1 (by omega) (λp h=>by have:=hp p h;omega) λpv w2 S2 H2=>?_
 have hinv:=Zdd (o:=[0,1,2,3,4,5]) (l:=l) λc hc=>by
  have:=hp c hc
  rcases (show c=0\/c=1\/c=2\/c=3\/c=4\/c=5 by omega) with h|h|h|h|h|h <;> rw[h] <;> simp
 obtain⟨_,_,hpl,hp6⟩:=hinv;replace H2:Holds w2 (SL nv tI pv (pickE [0,1,2,3,4,5] l).2::SL nv tI v l::L):=H2;generalize hP:(pickE [0,1,2,3,4,5] l).2=P at *;refine r_lnS 0 H2 rfl ?_;refine Za7 (λa x w'=>∃ i T:Nat,i<=P.length/\x=nv i/\a=nv T/\T<=18+7*i/\w2=w') (λ_ x _=>P.length - (intOf x).toNat) ⟨0,18,by omega,rfl,rfl,by omega,rfl⟩ ?_;rintro _ _ _ _ ⟨i,T,hi,rfl,rfl,hT,rfl⟩;refine r_lss (r_ifD (λh=>?_) λh=>?_)
 ·have hlt:i < P.length:=by omega
  have h6:=hp6 _ (getElem_mem hlt);refine Za6 0 H2 rfl (gA hlt) ?_;generalize P[i]=p at *;simp only[length_cons,length_nil] at h6;refine Za0 (by omega) (Zac (by omega) (Za0 (by omega) (r_ke ⟨⟨i+1,_,by omega,rfl,rfl,by omega,rfl⟩,?_⟩)));simp only[nv,intOf,gC];omega
 ·exact k T _ (by omega) (S1.trans S2) H2.drop
structure Row (l:List Nat) (size:Nat):Prop where
 s3:3<=size
 s258:size<=258
 ne:l≠[]
 len:l.length<=1600000
 lt:∀ x∈l,x < size
 fin:∀ i,i < l.length->(l.getD i 0=size - 1↔i=l.length - 1)
theorem Zjk {v:Value}{l:List Nat}{size i:Nat}(H:Holds w L) (hb:BndOk L) (hi:L[i]?=some (SL nv tI v l)) (hR:Row l size)
  (k:∀ ox px picks ts w',Cho l size picks ts->Same w w'->Holds w' (RR (sw ox) ts::SL nv tI (sw px) picks::L)->K (.tuple #[.agg #[sw ox,sw px],iv 0]) w'):Cl prog 93 #[v,nv size] w K:=by
 refine Tz93 ?_;unfold Vz93;have h0:=gZ.2 hR.ne;have h3:=hR.s3;have h258:=hR.s258;have hlen:=hR.len
 have hz:(zeroP prog tCh).cells.toList=[.slice none 0 0,.slice none 0 0]:=by kernel_rfl
 refine r_new H λrb w1 S1 H1=>?_;rw[hz] at H1
 have hi1:(blk rb tCh [.slice none 0 0,.slice none 0 0]::L)[i+1]?=some (SL nv tI v l):=by rw[gF];exact hi
 refine Za2 (λt w'=>w1=w'/\t=.bool false) ?_ ?_
 rotate_left
 ·refine r_lnS (i+1) H1 hi1 (r_eql (r_vfE (by omega) ?_));refine Zaa (by omega) (by omega) ?_;refine r_cl (K:=λx w'=>w1=w'/\x=nv (l.length - 1)) ?_ ?_
  ·refine Tz141 ?_;unfold Vz141;refine r_lnS (i+1) H1 hi1 ?_;refine Za8 (λx w'=>∃ u:Nat,x=nv u/\u<=l.length - 1/\w1=w') (λx _=>l.length - (intOf x).toNat) ⟨0,rfl,hE _,rfl⟩ ?_;rintro _ _ _ ⟨u,rfl,hu,rfl⟩;refine r_lss (r_vtD (by omega) ?_);have hf:=hR.fin u (by omega);refine Za6 (i+1) H1 hi1 (x:=l.getD u 0) (by rw[gB,gA (by omega)];rfl) ?_;refine r_eql (r_ifE (λq=>?_) λq=>?_)
   ·have:u=l.length - 1:=hf.1 (by omega);exact⟨rfl,by rw[this]⟩
   ·have:u≠l.length - 1:=λe=>q (by have:=hf.2 e;omega);refine Za0 (by omega) (r_ke ⟨⟨u+1,rfl,by omega,rfl⟩,?_⟩);simp only[nv,intOf,gC];omega
  rintro _ _ ⟨rfl,rfl⟩;refine r_lnS (i+1) H1 hi1 (Zaa (by omega) (by omega) ?_);refine r_neq (r_ke ⟨rfl,?_⟩);rw[show (((l.length - 1:Nat):Int) != ((l.length - 1:Nat):Int))=false from by simp]
 rintro _ _ _ ⟨rfl,rfl⟩;refine r_vf ?_;refine Of_spec H1 (i:=i+1) hb.up hi1 h3 h258 hR.ne hlen hR.lt λov pv picks ts w2 hC S2 H2=>?_;obtain⟨ox,rfl⟩:=rr_sw H2 (i:=0) rfl;obtain⟨px,rfl⟩:=sl_sw H2 (i:=1) rfl;refine Za4 (Za3 ?_);refine r_stA 2 H2 (vs:=[sw ox,sw px]) rfl (by simp) rfl rfl λw3 S3 H3=>?_;refine r_ldA 2 H3 [sw ox,sw px] rfl rfl rfl ?_;exact k _ _ _ _ _ hC ((S1.trans S2).trans S3) (Holds.dropAt H3 2)
theorem Bits_spec {v:Value}{l:List Nat}{size i:Nat}(H:Holds w L) (hb:BndOk L) (hi:L[i]?=some (SL nv tI v l)) (hR:Row l size)
  (k:∀ T w',Same w w'->Holds w' L->K (.tuple #[nv T,iv 0]) w'):Cl prog 44 #[v,nv size] w K:=by
 refine Tz44 ?_;unfold Vz44;have hlen:=hR.len;have h3:=hR.s3;have h258:=hR.s258;have h0:=gZ.2 hR.ne;have hng:nGr l=(l.length+49)/50:=rfl
 have hz:(zeroP prog tCh).cells.toList=[.slice none 0 0,.slice none 0 0]:=by kernel_rfl
 refine Zjk H hb hi hR λox px picks ts w1 hC S1 H1=>?_;obtain⟨hT,hpl,hpx⟩:=hC.ok;have hwh:=Zfz h3 hC;have hn2:=hT.n2;have hn6:=hT.n6;refine Za4 (Za3 ?_);refine r_new H1 λcb w2 S2 H2=>?_;rw[hz] at H2;refine r_stA 0 H2 (vs:=[sw ox,sw px]) rfl (by simp) rfl rfl λw3 S3 H3=>?_;replace H3:Holds w3 (blk cb tCh [sw ox,sw px]::RR (sw ox) ts::SL nv tI (sw px) picks::L):=H3;refine r_neq (r_vfN rfl ?_);refine r_fo0 (r_ld 0 H3 rfl rfl ?_);refine r_fo0 (r_ld 0 H3 rfl rfl ?_);refine rr_ln 1 H3 rfl ?_
 have H4:Holds w3 (SL nv tI (sw px) picks::blk cb tCh [sw ox,sw px]::RR (sw ox) ts::L):=by have h_:=Holds.ord 3 [2,0,1] H3 rfl;exact h_
 refine Zt1 H4 ⟨hn2,hn6⟩ (λe=>by rw[e] at hpl;simp at hpl;omega) (by omega) hpx λT w4 hTl S4 H5=>?_;refine Za4 (Za3 ?_);refine r_fo0 (r_ld 1 H5 rfl rfl ?_);refine rr_ln 2 H5 rfl ?_
 refine Za7 (λa x w'=>∃ u T:Nat,x=nv u/\u<=ts.length/\a=nv T/\T<=1000000+1000000*u/\Same w w'/\Holds w' (SL nv tI (sw px) picks::blk cb tCh [sw ox,sw px]::RR (sw ox) ts::L)) (λ_ x _=>ts.length - (intOf x).toNat)
  ⟨0,T,rfl,hE _,rfl,by omega,((S1.trans S2).trans S3).trans S4,H5⟩ ?_
 clear H H1 H2 H3 H4 H5 S1 S2 S3 S4 hTl T;rintro _ _ _ w5 ⟨u,T,rfl,hu,rfl,hTl,S5,H5⟩;refine r_lss (r_ifD (λh=>?_) λh=>?_)
 ·have hlt:u < ts.length:=by omega
  have hm:=Zaw hlt;obtain⟨x,R,hld,H6,hcl,_⟩:=Zby 2 H5 rfl (Zcp hlt);refine hld _ _ λ_ hp_=>hp_ _ ?_;refine Zsh (j:=0) H6 (by rw[hT.sz _ hm];exact h3) (by rw[hT.sz _ hm];exact h258) (hwh _ hm).sized λT2 w6 hT2 S6 H7=>?_;refine Za4 (Za3 ?_);refine Zac (by omega) (Za0 (by omega) (r_ke ⟨⟨u+1,_,rfl,hlt,rfl,by omega,S5.trans S6,hcl [] _ H7⟩,?_⟩));simp only[nv,intOf,gC];omega
 ·refine r_ldA 1 H5 [sw ox,sw px] rfl rfl rfl ?_;refine Ztb H5 (i:=i+3) (a:=2) (p:=0) (by rw[gF,gF,gF];exact hi) rfl rfl hT h258 hlen hR.lt hpl hpx λc w6 hc S6 H6=>?_;refine Za4 (Za3 ?_);refine Zac (by omega) ?_;exact k _ _ (S5.trans S6) H6.drop.drop.drop
def rowC (l picks:List Nat) (ts:List (List Nat)) (i:Nat):List Bool:=codeB (ts.getD (picks.getD (i/50) 0) []) (l.getD i 0)
def rowsC (l picks:List Nat) (ts:List (List Nat)) (n:Nat):List Bool:=(List.range n).flatMap (rowC l picks ts)
def codeBits (l picks:List Nat) (ts:List (List Nat)):List Bool:=picksB picks ts.length++ts.flatMap lensB++rowsC l picks ts l.length
theorem Zch (l picks:List Nat) (ts:List (List Nat)) (n:Nat):rowsC l picks ts (n+1)=rowsC l picks ts n++rowC l picks ts n:=by unfold rowsC;rw[range_succ,hL_];simp
theorem codeB_len (lens:List Nat) (i:Nat):(codeB lens i).length=lens.getD i 0:=by rw[codeB,Za1]
theorem Zux {a:Nat}:∀ {lens:List Nat},(∀ x∈lens,x<=20)->∀ a,a<=20->(stepsB a lens).length<=41*lens.length:=by
 intro lens h
 have:∀ i,i<=lens.length->∀ a,a<=20->(stepsB a (lens.take i)).length<=41*i/\lastB a (lens.take i)<=20:=by
  intro i
  induction i with
  |zero=>intro _ a ha;simp[stepsB,lastB,ha]
  |succ i ih=>
   intro hi a ha
   have hg:lens.take (i+1)=lens.take i++[lens.getD i 0]:=by rw[gO,gB,gA (by omega)];rfl
   have hx:lens.getD i 0<=20:=by rw[gB,gA (by omega)];exact h _ (getElem_mem _)
   obtain⟨i1,i2⟩:=ih (by omega) a ha;have h1:=Ziv (lastB a (lens.take i)) (lens.getD i 0) i2 hx;rw[hg,Zbr,lastB_snoc];simp only[gD,gQ];omega
 intro a ha;have h2:=(this lens.length (Nat.le_refl _) a ha).1;rw[hF_] at h2;exact h2
theorem Zji {lens:List Nat}(h:∀ x∈lens,x<=20):(lensB lens).length<=5+41*lens.length:=by
 unfold lensB;rw[gD,Za1]
 have:lens.getD 0 0<=20:=by
  cases lens with
  |nil=>simp
  |cons x r=>exact h _ (hJ_ ..)
 have:=Zux (a:=0) h _ this;omega
theorem Zec {l picks:List Nat}{ts:List (List Nat)}{size:Nat}(hT:Tb size ts):∀ n,(rowsC l picks ts n).length<=20*n
 |0=>by simp[rowsC]
 |n+1=>by
  rw[Zch,gD];have ih:=Zec (l:=l) (picks:=picks) hT n
  have:(rowC l picks ts n).length<=20:=by
   unfold rowC;rw[codeB_len];rcases hU_ (picks.getD (n/50) 0) ts.length with q|q
   ·exact Zie (hT.le _ (Zaw q)) _
   ·have e:ts.getD (picks.getD (n/50) 0) []=[]:=by rw[gB,getElem?_eq_none q];rfl
    rw[e];simp
  omega
theorem Zhd {ts:List (List Nat)}{size:Nat}(hT:Tb size ts) (hs:size<=258):∀ u,((ts.take u).flatMap lensB).length<=20000*u
 |0=>by simp
 |u+1=>by
  have ih:=Zhd hT hs u;rcases hU_ u ts.length with q|q
  ·have e:ts.take (u+1)=ts.take u++[ts.getD u []]:=by rw[gO,Zcp q];rfl
   have h1:=Zji (hT.le _ (Zaw q));rw[hT.sz _ (Zaw q)] at h1;rw[e,hL_,gD];simp only[hM_,flatMap_nil,gU];omega
  ·rw[gK (by omega),<-gK (i:=u) q];omega
theorem Zev {picks:List Nat}{t:Nat}(ht:t<=6) (h:∀ p∈picks,p < t):(picksB picks t).length<=18+6*picks.length:=by
 unfold picksB
 have hinv:=Zdd (o:=[0,1,2,3,4,5]) (l:=picks) λc hc=>by
  have:=h c hc
  rcases (show c=0\/c=1\/c=2\/c=3\/c=4\/c=5 by omega) with h|h|h|h|h|h <;> rw[h] <;> simp
 have h4:=Zfg hinv.2.2.2;rw[hinv.2.2.1] at h4;rw[gD,gD,Za1,Za1];simp only[length_cons,length_nil] at h4;omega
theorem Zn5 {l picks:List Nat}{ts:List (List Nat)}{size:Nat}(hT:Tb size ts) (hs:size<=258) (hpx:∀ p∈picks,p < ts.length):(codeBits l picks ts).length<=18+6*picks.length+120000+20*l.length:=by
 unfold codeBits;have h1:=Zev hT.n6 hpx;have h2:=Zhd hT hs ts.length;rw[hF_] at h2;have h3:=Zec (l:=l) (picks:=picks) hT l.length;have h6:=hT.n6;rw[gD,gD];omega
theorem Write_spec {v:Value}{l:List Nat}{size i:Nat}(H:Holds w (W01.WrR wb bs n::L)) (hb:BndOk L) (hi:L[i]?=some (SL nv tI v l)) (hR:Row l size) (hl:bs.length<=9000000000) (hn:n<=bs.length/8)
  (k:∀ picks ts w',Cho l size picks ts->Same w w'->Holds w' (W01.WrR wb (bs++codeBits l picks ts) n::L)->K (iv 0) w'):Cl prog 47 #[pt wb,v,nv size] w K:=by
 refine Tz47 ?_;unfold Vz47;have hlen:=hR.len;have h3:=hR.s3;have h258:=hR.s258;have h0:=gZ.2 hR.ne;have hng:nGr l=(l.length+49)/50:=rfl
 have hz:(zeroP prog tCh).cells.toList=[.slice none 0 0,.slice none 0 0]:=by kernel_rfl
 refine Zab (r_vf ?_);refine Zjk H (i:=i+1) hb.up (by rw[gF];exact hi) hR λox px picks ts w1 hC S1 H1=>?_;obtain⟨hT,hpl,hpx⟩:=hC.ok;have hwh:=Zfz h3 hC;have hn2:=hT.n2;have hn6:=hT.n6;refine Za4 (Za3 ?_);refine r_new H1 λcb w2 S2 H2=>?_;rw[hz] at H2;refine r_stA 0 H2 (vs:=[sw ox,sw px]) rfl (by simp) rfl rfl λw3 S3 H3=>?_;replace H3:Holds w3 (blk cb tCh [sw ox,sw px]::RR (sw ox) ts::SL nv tI (sw px) picks::W01.WrR wb bs n::L):=H3;refine r_neq (r_vfN rfl ?_);refine r_fo0 (r_ld 0 H3 rfl rfl ?_);refine r_fo0 (r_ld 0 H3 rfl rfl ?_);refine rr_ln 1 H3 rfl ?_
 have H4:Holds w3 (W01.WrR wb bs n::SL nv tI (sw px) picks::blk cb tCh [sw ox,sw px]::RR (sw ox) ts::L):=by have h_:=Holds.ord 4 [3,2,0,1] H3 rfl;exact h_
 have hp1:=Zev hn6 hpx;refine P13.Write_spec H4 ⟨hn2,hn6⟩ (λe=>by rw[e] at hpl;simp at hpl;omega) (by omega) hpx (by omega) hn λw4 S4 H5=>?_;refine r_fo0 (r_ld 2 H5 rfl rfl ?_);refine rr_ln 3 H5 rfl ?_
 have H6:Holds w4 (W01.WrR wb (bs++picksB picks ts.length) n::SL pt C14.tCP (.slice none 0 0) []::C14.CodesS [] []::SL nv tI (sw px) picks::blk cb tCh [sw ox,sw px]::RR (sw ox) ts::L):=by
  have h1:Holds w4 (C14.CodesS [] []::W01.WrR wb (bs++picksB picks ts.length) n::SL nv tI (sw px) picks::blk cb tCh [sw ox,sw px]::RR (sw ox) ts::L):=Holds.pack (A:=[]) H5;have h2:=h1.nilSL pt C14.tCP;have h_:=Holds.ord 3 [2,0,1] h2 rfl;exact h_
 refine Za7 (λcv x w'=>∃ (u:Nat) (cs:List Nat),x=nv u/\u<=ts.length/\cs.length=u/\Same w w'/\
   Holds w' (W01.WrR wb (bs++picksB picks ts.length++(ts.take u).flatMap lensB) n::SL pt C14.tCP cv cs::C14.CodesS cs (ts.take u)::SL nv tI (sw px) picks::blk cb tCh [sw ox,sw px]::RR (sw ox) ts::L)) (λ_ x _=>ts.length - (intOf x).toNat)
  ⟨0,[],rfl,hE _,rfl,((S1.trans S2).trans S3).trans S4,by
   rw[take_zero,flatMap_nil,gU];exact H6⟩ ?_
 clear H H1 H2 H3 H4 H5 H6 S1 S2 S3 S4;rintro _ cv _ w5 ⟨u,cs,rfl,hu,hcs,S5,H5⟩;have hfl:=Zhd hT h258 u
 have hB:(bs++picksB picks ts.length++(ts.take u).flatMap lensB).length=bs.length+(picksB picks ts.length).length+((ts.take u).flatMap lensB).length:=by rw[gD,gD]
 refine r_lss (r_ifD (λh=>?_) λh=>?_)
 ·have hlt:u < ts.length:=by omega
  have hm:=Zaw hlt
  have e:ts.take (u+1)=ts.take u++[ts.getD u []]:=by rw[gO,Zcp hlt];rfl
  obtain⟨x,R,hld,H6,_,_,_,hRR⟩:=Zby 5 H5 rfl (Zcp hlt);refine hld _ _ λ_ hp_=>hp_ _ ?_;have hsz:=hT.sz _ hm;have hwt:=hwh _ hm;generalize ts.getD u []=t at *;refine D11.Write_spec (lens:=t) H6.swap (by omega) (by omega) hwt.sized (by omega) (by omega) λw6 S6 H7=>?_;refine C10.New_spec (lens:=t) H7 (j:=1) rfl (by omega) (by omega) hwt.sized (λe=>absurd hwt.share e) λ_ c w7 S7 H8=>?_;refine Za4 (Za3 ?_)
  have H9:Holds w7 ([C10.CodeR c t,W01.WrR wb (bs++picksB picks ts.length++(ts.take u).flatMap lensB++lensB t) n]++SL nv tI (sw x) t::SL pt C14.tCP cv cs::C14.CodesS cs (ts.take u)::SL nv tI (sw px) picks::blk cb tCh [sw ox,sw px]::R::L):=H8;have H10:=Zgs hRR _ 4 rfl H9;replace H10:Holds w7 (C10.CodeR c t::W01.WrR wb (bs++picksB picks ts.length++(ts.take u).flatMap lensB++lensB t) n::SL pt C14.tCP cv cs::C14.CodesS cs (ts.take u)::SL nv tI (sw px) picks::blk cb tCh [sw ox,sw px]::RR (sw ox) ts::L):=H10
  have H11:Holds w7 (C10.CodeR c t::C14.CodesS cs (ts.take u)::W01.WrR wb (bs++picksB picks ts.length++(ts.take u).flatMap lensB++lensB t) n::SL pt C14.tCP cv cs::SL nv tI (sw px) picks::blk cb tCh [sw ox,sw px]::RR (sw ox) ts::L):=by
   have h_:=Holds.ord 4 [0,3,1,2] H10 rfl;exact h_
  have H12:=C14.Zmv (by rw[hcs,gN];omega) H11;refine Zam (f:=pt) H12 2 rfl c (λ_=>rfl) (by omega) λcv2 w8 S8 H13=>?_
  have H14:Holds w8 (W01.WrR wb (bs++picksB picks ts.length++(ts.take u).flatMap lensB++lensB t) n::SL pt C14.tCP cv2 (cs++[c])::C14.CodesS (cs++[c]) (ts.take u++[t])::SL nv tI (sw px) picks::blk cb tCh [sw ox,sw px]::RR (sw ox) ts::L):=by
   have h_:=Holds.ord 3 [1,2,0] H13 rfl;exact h_
  refine Za0 (by omega) (r_ke ⟨⟨u+1,cs++[c],rfl,hlt,by rw[gD,hcs];rfl,S5.trans (S6.trans (S7.trans S8)),?_⟩,?_⟩)
  ·rw[e,hL_,<-gI (bs++picksB picks ts.length)];simp only[hM_,flatMap_nil,gU];exact H14
  ·simp only[nv,intOf,gC];omega
 obtain rfl:u=ts.length:=by omega
 rw[hF_] at H5 hfl hB;generalize hB0:bs++picksB picks ts.length++ts.flatMap lensB=B0 at *;refine r_lnS (i+6) H5 (by rw[gF,gF,gF,gF,gF,gF];exact hi) ?_
 refine Za8 (λx w'=>∃ u:Nat,x=nv u/\u<=l.length/\Same w w'/\
   Holds w' (W01.WrR wb (B0++rowsC l picks ts u) n::SL pt C14.tCP cv cs::C14.CodesS cs ts::SL nv tI (sw px) picks::blk cb tCh [sw ox,sw px]::RR (sw ox) ts::L)) (λx _=>l.length - (intOf x).toNat)
  ⟨0,rfl,hE _,S5,by
   show Holds w5 (W01.WrR wb (B0++[]) n::_)
   rw[gU];exact H5⟩ ?_
 clear H5 S5 h;rintro _ _ w6 ⟨u,rfl,hu,S6,H6⟩;have hrl:=Zec (l:=l) (picks:=picks) hT u;refine r_lss (r_ifD (λh=>?_) λh=>?_)
 ·have hlt:u < l.length:=by omega
  have hxl:=hR.lt _ (getElem_mem hlt);refine Za6 (i+6) H6 (by rw[gF,gF,gF,gF,gF,gF];exact hi) (x:=l.getD u 0) (by rw[gB,gA hlt];rfl) ?_;refine r_fo0 (r_ld 4 H6 rfl rfl ?_);refine r_quo (by omega) (by omega) (by omega) ?_;rw[show ((u:Nat):Int)/50=((u/50:Nat):Int) by omega]
  have hup:u/50 < picks.length:=by omega
  refine Za6 3 H6 rfl (x:=picks.getD (u/50) 0) (by rw[gB,gA hup];rfl) ?_
  have hpq:picks.getD (u/50) 0 < ts.length:=by rw[gB,gA hup];exact hpx _ (getElem_mem hup)
  have hxu:l.getD u 0 < size:=by rw[gB,gA hlt];exact hxl
  have hrow:rowC l picks ts u=codeB (ts.getD (picks.getD (u/50) 0) []) (l.getD u 0):=rfl;generalize picks.getD (u/50) 0=q at *;generalize l.getD u 0=x at *
  have hcq:cs[q]?=some (cs.getD q 0):=by rw[gB,gA (by omega)];rfl
  refine Za6 1 H6 rfl hcq ?_;generalize cs.getD q 0=c at *
  have H7:Holds w6 (W01.WrR wb (B0++rowsC l picks ts u) n::C14.CodesS cs ts::SL pt C14.tCP cv cs::SL nv tI (sw px) picks::blk cb tCh [sw ox,sw px]::RR (sw ox) ts::L):=by
   have h_:=Holds.ord 3 [0,2,1] H6 rfl;exact h_
  obtain⟨A,hA1,hA2⟩:=C14.Znj (L:=SL pt C14.tCP cv cs::SL nv tI (sw px) picks::blk cb tCh [sw ox,sw px]::RR (sw ox) ts::L) hcq (Zcp hpq);have H8:Holds w6 (W01.WrR wb (B0++rowsC l picks ts u) n::C10.CodeR c (ts.getD q [])::A):=Zbn hA1 H7;refine C10.Put_spec H8.swap (by rw[hT.sz _ (Zaw hpq)];exact hxu) (by rw[gD];omega) (by rw[gD];omega) λw7 S7 H9=>?_;have H10:Holds w7 (W01.WrR wb (B0++rowsC l picks ts u++codeB (ts.getD q []) x) n::C14.CodesS cs ts::SL pt C14.tCP cv cs::SL nv tI (sw px) picks::blk cb tCh [sw ox,sw px]::RR (sw ox) ts::L):=Zbn hA2 H9.swap
  have H11:Holds w7 (W01.WrR wb (B0++rowsC l picks ts u++codeB (ts.getD q []) x) n::SL pt C14.tCP cv cs::C14.CodesS cs ts::SL nv tI (sw px) picks::blk cb tCh [sw ox,sw px]::RR (sw ox) ts::L):=by
   have h_:=Holds.ord 3 [0,2,1] H10 rfl;exact h_
  refine Za0 (by omega) (r_ke ⟨⟨u+1,rfl,hlt,S6.trans S7,?_⟩,?_⟩)
  ·rw[Zch,hrow,<-gI];exact H11
  ·simp only[nv,intOf,gC];omega
 ·obtain rfl:u=l.length:=by omega
  refine k picks ts _ hC S6 ?_
  have H7:Holds w6 (W01.WrR wb (B0++rowsC l picks ts l.length) n::L):=by have h_:=Holds.ord 6 [0] H6 rfl;exact h_
  rw[<-hB0] at H7;unfold codeBits;rw[<-gI,<-gI];exact H7
end W14
namespace U05
open Go.M01 Go.Mb Go.Mz Go.Mx Rb
variable {w:World}{L:List HProp}{K:KT}{b:Nat}
abbrev tUr:Nat:=155
abbrev tBo:Nat:=139
theorem Symbols_spec {s:List UInt8}(H:Holds w L) (hs:s.length<=1000000) (k:∀ w',Same w w'->Holds w' L->K (S_ (listed (upT s))) w'):Cl prog 41 #[S_ s] w K:=by
 refine Tz41 ?_;unfold Vz41
 have hsz:(⟨s.toArray⟩:ByteArray).size=s.length:=by show s.toArray.size=_;simp
 have hdl:(⟨s.toArray⟩:ByteArray).data.toList=s:=by simp
 have hz:(zeroP prog tBo).cells.toList=(boolsT (upT [])).map Value.bool:=by
  rw[show upT []=λ_=>false from rfl,Zh4]
  kernel_rfl
 refine r_new H λb w1 S1 H1=>?_;rw[hz] at H1;refine r_lns ?_;rw[hsz];refine Za8 (λx w'=>∃ i:Nat,i<=s.length/\x=nv i/\Same w w'/\Holds w' (blk b tBo ((boolsT (upT (s.take i))).map Value.bool)::L)) (λx _=>s.length - (intOf x).toNat) ⟨0,hE _,rfl,S1,H1⟩ ?_;clear H H1 S1;rintro _ _ w2 ⟨i,hi,rfl,S,H⟩;refine r_lss (r_ifD (λh=>?_) λh=>?_)
 ·have hlt:i < s.length:=by omega
  have hc:=(s.getD i 0).toNat_lt;refine Zb0 (by rw[hsz];exact hlt) ?_;rw[hdl];refine Zal (by omega) ?_;refine r_st 0 H rfl (by rw[hS_,Zbv];omega) rfl λw3 S3 H3=>?_;replace H3:Holds w3 (blk b tBo (((boolsT (upT (s.take i))).map Value.bool).set (0+(s.getD i 0).toNat) (.bool true))::L):=H3
  have e:((boolsT (upT (s.take i))).map Value.bool).set (0+(s.getD i 0).toNat) (.bool true)=(boolsT (upT (s.take (i+1)))).map Value.bool:=by
   rw[Nat.zero_add,<-map_set,Zjs]
   have hg:s.take (i+1)=s.take i++[s.getD i 0]:=by rw[gO,gA hlt,gB,gA hlt];rfl
   rw[hg,Zok λx hx=>(Zlk hx).symm]
  rw[e] at H3;refine Za0 (by omega) ?_;refine r_ke ⟨⟨i+1,by omega,rfl,S.trans S3,H3⟩,?_⟩;simp only[nv,intOf,gC];omega
 ·obtain rfl:i=s.length:=by omega
  rw[hF_] at H;refine r_ldA 0 H ((boolsT (upT s)).map Value.bool) rfl (by rw[drop_zero,gK (by rw[hS_,Zbv];exact Nat.le_refl _)]) (by rw[hS_,Zbv]) ?_;refine Zim H λw3 S3 H3=>?_;exact k _ (S.trans S3) H3.drop
theorem quo8 {c:Nat}(h:c < 256):bp .quo (.int .u8 (c:Int)) (.int .u8 16)=some (.int .u8 ((c/16:Nat):Int)):=by
 have e:(c:Int).tdiv 16=((c/16:Nat):Int):=by rw[Int.tdiv_eq_ediv_of_nonneg (by omega)];simp
 simp only[bp];rw[if_pos ⟨trivial,by decide⟩,e,wrapU8 (by omega) (by omega)]
theorem Zkn:∀ {cs vs:List Value},cs.length=vs.length->setL cs 0 vs=vs:=by
 have key:∀ (vs pre cs:List Value),cs.length=vs.length->setL (pre++cs) pre.length vs=pre++vs:=by
  intro vs
  induction vs with
  |nil=>intro pre cs h;simp at h;subst h;rfl
  |cons v vs ih=>
   intro pre cs h
   cases cs with
   |nil=>simp at h
   |cons c cs=>
    rw[setL,set_append_right _ _ (Nat.le_refl _),Nat.sub_self,gJ];have:=ih (pre++[v]) cs (by simpa using h);rw[gI,gD,gI] at this;exact this
 intro cs vs h;have:=key vs [] cs h;exact this
def rowsV (T:Nat->Bool):List Value:=(List.range 16).map λi=>uv (valB (bitR T i))
theorem Zaj (T:Nat->Bool):(rowsV T).length=16:=by simp[rowsV]
theorem Zea (T:Nat->Bool){i:Nat}(h:i < 16):(rowsV T)[i]?=some (uv (valB (bitR T i))):=by simp[rowsV,h]
theorem Ybh (T:Nat->Bool) (i:Nat):valB (bitR T i) < 65536:=by have:=Zb1 (bitR T i);rwa [Zb6] at this
theorem Zvp {s:List UInt8}(H:Holds w L) (hs:s.length<=1000000) (k:∀ w',Same w w'->Holds w' L->K (.agg (rowsV (upT s)).toArray) w'):Cl prog 99 #[S_ s] w K:=by
 refine Tz99 ?_;unfold Vz99
 have hsz:(⟨s.toArray⟩:ByteArray).size=s.length:=by show s.toArray.size=_;simp
 have hdl:(⟨s.toArray⟩:ByteArray).data.toList=s:=by simp
 have hz:(zeroP prog tUr).cells.toList=rowsV (upT []):=by kernel_rfl
 refine r_new H λxb w0 S0 H0=>?_;rw[hz] at H0;refine r_new H0 λb w1 S1 H1=>?_;rw[hz] at H1;refine r_lns ?_;rw[hsz];refine Za8 (λx w'=>∃ i:Nat,i<=s.length/\x=nv i/\Same w w'/\Holds w' (blk b tUr (rowsV (upT (s.take i)))::blk xb tUr (rowsV (upT []))::L)) (λx _=>s.length - (intOf x).toNat) ⟨0,hE _,rfl,S0.trans S1,H1⟩ ?_;clear H H0 H1 S0 S1;rintro _ _ w2 ⟨i,hi,rfl,S,H⟩;refine r_lss (r_ifD (λh=>?_) λh=>?_)
 ·have hlt:i < s.length:=by omega
  have hg:s.take (i+1)=s.take i++[s.getD i 0]:=by rw[gO,gA hlt,gB,gA hlt];rfl
  refine Zb0 (by rw[hsz];exact hlt) ?_;rw[hdl];generalize s.getD i 0=c at *;have hc:=c.toNat_lt;refine r_bpK (.int .u8 ((c.toNat/16:Nat):Int)) (quo8 hc) ?_;refine Zal (by omega) ?_;refine r_ld 0 H (by rfl) (by rw[Nat.zero_add];exact Zea _ (by omega)) ?_;refine Yep (by omega) (by omega) ?_;refine Zwc (s:=15) (t:=c.toNat%16) (by omega) (by omega) ?_;refine Zcu (s:=1) (n:=15 - c.toNat%16) (by omega) ?_;have hp:2^(15 - c.toNat%16)<=2^15:=Nat.pow_le_pow_right (by decide) (by omega);have hr:=Ybh (upT (s.take i)) (c.toNat/16);refine Zop (by omega) (by omega) ?_;rw[Nat.one_mul,Nat.mod_eq_of_lt (by omega),Ydg];refine Zal (by omega) ?_;refine r_st 0 H rfl (by rw[Zaj];omega) rfl λw3 S3 H3=>?_;replace H3:Holds w3 (blk b tUr ((rowsV (upT (s.take i))).set (0+c.toNat/16) (uv (valB (bitR (upT (s.take i++[c])) (c.toNat/16)))))::blk xb tUr (rowsV (upT []))::L):=H3
  have e:(rowsV (upT (s.take i))).set (0+c.toNat/16) (uv (valB (bitR (upT (s.take i++[c])) (c.toNat/16))))=rowsV (upT (s.take (i+1))):=by
   rw[hg,Nat.zero_add];apply ext_getElem?;intro j;rw[getElem?_set]
   by_cases hj:c.toNat/16=j
   ·subst hj;rw[if_pos rfl,if_pos (by rw[Zaj];omega),Zea _ (by omega)]
   ·rw[if_neg hj]
    by_cases hj2:j < 16
    ·rw[Zea _ hj2,Zea _ hj2,Zzj hj2 (by omega)]
    ·rw[getElem?_eq_none (by rw[Zaj];omega),getElem?_eq_none (by rw[Zaj];omega)]
  rw[e] at H3;refine Za0 (by omega) ?_;refine r_ke ⟨⟨i+1,by omega,rfl,S.trans S3,H3⟩,?_⟩;simp only[nv,intOf,gC];omega
 ·obtain rfl:i=s.length:=by omega
  rw[hF_] at H;refine r_ldA 0 H (rowsV (upT s)) rfl (by rw[drop_zero,gK (by rw[Zaj];exact Nat.le_refl _)]) (Zaj _) ?_;refine r_stA 1 H (vs:=rowsV (upT s)) rfl (by rw[Zaj];exact Nat.le_refl _) (Zaj _) (by rw[List.all_eq_true];intro x hx;obtain⟨j,_,rfl⟩:=mem_map.1 hx;rfl) λw3 S3 H3=>?_;have e:setL (rowsV (upT [])) 0 (rowsV (upT s))=rowsV (upT s):=Zkn (by rw[Zaj,Zaj]);replace H3:Holds w3 (blk b tUr (rowsV (upT s))::blk xb tUr (setL (rowsV (upT [])) 0 (rowsV (upT s)))::L):=H3;rw[e] at H3;refine r_ldA 1 H3 (rowsV (upT s)) rfl (by rw[drop_zero,gK (by rw[Zaj];exact Nat.le_refl _)]) (Zaj _) ?_;exact k _ (S.trans S3) H3.drop.drop
theorem Zy6 (T:Nat->Bool) (i:Nat):valB (bitR T i) < 65536:=Ybh T i
theorem Zro (T:Nat->Bool) (j:Nat):valB (whichB T j) < 65536:=by have:=Zb1 (whichB T j);rwa [Zah] at this
theorem Write_spec {T:Nat->Bool}{bs:List Bool}{n:Nat}(H:Holds w (W01.WrR b bs n::L)) (hne:listed T≠[]) (hl:bs.length<=10000000000) (hn:n<=bs.length/8)
  (k:∀ w',Same w w'->Holds w' (W01.WrR b (bs++usedB T) n::L)->K (iv 0) w'):Cl prog 46 #[pt b,S_ (listed T)] w K:=by
 refine Tz46 ?_;unfold Vz46;have hll:=Zbf T;refine Zab (r_vf ?_);refine F06.Is_spec H hne λw1 S1 H1=>?_;refine Zak (r_vf ?_);refine Zvp H1 (by omega) λw2 S2 H2=>?_
 have hz:(zeroP prog tUr).cells.toList=rowsV (upT []):=by kernel_rfl
 refine r_new H2 λab w3 S3 H3=>?_;rw[hz] at H3;refine r_stA 0 H3 (vs:=rowsV (upT (listed T))) rfl (by rw[Zaj];exact Nat.le_refl _) (Zaj _) (by rw[List.all_eq_true];intro x hx;obtain⟨j,_,rfl⟩:=mem_map.1 hx;rfl) λw4 S4 H4=>?_;have e:setL (rowsV (upT [])) 0 (rowsV (upT (listed T)))=rowsV (upT (listed T)):=Zkn (by rw[Zaj,Zaj]);replace H4:Holds w4 (blk ab tUr (setL (rowsV (upT [])) 0 (rowsV (upT (listed T))))::W01.WrR b bs n::L):=H4;rw[e] at H4
 have hrow:∀ i,i < 16->(rowsV (upT (listed T)))[i]?=some (uv (valB (bitR T i))):=λi hi=>by rw[Zea _ hi,Yc0 hi]
 have hRl:=Zaj (upT (listed T));generalize rowsV (upT (listed T))=R at *;replace S1:=((S1.trans S2).trans S3).trans S4;clear H H1 H2 H3 S2 S3 S4
 have hRd:(R.drop 0).take 16=R:=by rw[drop_zero,gK (by omega)]
 refine r_ldA 0 H4 R rfl hRd hRl ?_;refine Za7 (λv x w'=>∃ i:Nat,i<=16/\x=nv i/\v=uv (valB (whichB T i))/\w4=w') (λ_ x _=>16 - (intOf x).toNat) ⟨0,by omega,rfl,by rw[show valB (whichB T 0)=0 by unfold whichB;simp only[Nat.not_lt_zero,decide_false,Bool.false_and];decide];rfl,rfl⟩ ?_;rintro _ _ _ _ ⟨i,hi,rfl,rfl,rfl⟩;refine r_lss (r_ifD (λh=>?_) λh=>?_)
 ·have hlt:i < 16:=by omega
  have hr:=Zy6 T i;have hw:=Zro T i;refine Zoh (uv (valB (bitR T i))) (by omega) (by omega) (by rw[gC];exact hrow i hlt) ?_;refine r_neq (r_ifN (λh2=>?_) λh2=>?_)
  ·have hs:someB T i=true:=by
    cases hs:someB T i with
    |true=>rfl
    |false=>exact absurd (by rw[Zhm.2 hs];rfl) h2
   refine r_sub (by omega) (by omega) ?_;rw[show (15:Int) - (i:Int)=((15 - i:Nat):Int) by omega];refine Zcu (s:=1) (n:=15 - i) (by omega) ?_;have hp:2^(15 - i)<=2^15:=Nat.pow_le_pow_right (by decide) (by omega);refine Zop (by omega) (by omega) ?_;rw[Nat.one_mul,Nat.mod_eq_of_lt (by omega),Yb2 hlt hs];refine Za0 (by omega) ?_;refine r_ke ⟨⟨i+1,by omega,rfl,rfl,rfl⟩,?_⟩;simp only[nv,intOf,gC];omega
  ·have hs:someB T i=false:=Zhm.1 (by omega);refine Za0 (by omega) ?_;refine r_ke ⟨⟨i+1,by omega,rfl,by rw[Zsi hs],rfl⟩,?_⟩;simp only[nv,intOf,gC];omega
 obtain rfl:i=16:=by omega
 have hw:=Zro T 16;refine W01.Put_spec (n:=16) H4.swap (by omega) hn (by omega) (by omega) λw5 S5 H5=>?_
 have ew:bitsOf (valB (whichB T 16)) 16=whichB T 16:=by
  have:=Zql (whichB T 16)
  rwa [Zah] at this
 rw[ew] at H5;refine r_ldA 1 H5 R rfl hRd hRl ?_
 refine Za8 (λx w'=>∃ i:Nat,i<=16/\x=nv i/\Same w w'/\Holds w' (W01.WrR b (bs++whichB T 16++rowsB T i) n::blk ab tUr R::L)) (λx _=>16 - (intOf x).toNat)
  ⟨0,by omega,rfl,S1.trans S5,by rw[rowsB,gU];exact H5⟩ ?_
 clear H4 H5 S1 S5;rintro _ _ w6 ⟨i,hi,rfl,S,H⟩;have hrl:=Zfq T i;have hwl:=Zah T 16
 have hal:(bs++whichB T 16++rowsB T i).length<=bs.length+16+16*16:=by rw[gD,gD];omega
 have hal2:bs.length<=(bs++whichB T 16++rowsB T i).length:=by rw[gD,gD];omega
 refine r_lss (r_ifD (λh=>?_) λh=>?_)
 ·have hlt:i < 16:=by omega
  have hr:=Zy6 T i;refine Zoh (uv (valB (bitR T i))) (by omega) (by omega) (by rw[gC];exact hrow i hlt) ?_;refine r_neq (r_ifN (λh2=>?_) λh2=>?_)
  ·have hs:someB T i=true:=by
    cases hs:someB T i with
    |true=>rfl
    |false=>exact absurd (by rw[Zhm.2 hs];rfl) h2
   refine W01.Put_spec (n:=16) H (by omega) (by omega) (by omega) (by omega) λw7 S7 H7=>?_
   have er:bitsOf (valB (bitR T i)) 16=bitR T i:=by
    have:=Zql (bitR T i)
    rwa [Zb6] at this
   rw[er] at H7;refine Za0 (by omega) ?_;refine r_ke ⟨⟨i+1,by omega,rfl,S.trans S7,by rw[rowsB,if_pos hs,<-gI];exact H7⟩,?_⟩;simp only[nv,intOf,gC];omega
  ·have hs:someB T i=false:=Zhm.1 (by omega);refine Za0 (by omega) ?_;refine r_ke ⟨⟨i+1,by omega,rfl,S,by rw[rowsB,if_neg (by rw[hs];decide),gU];exact H⟩,?_⟩;simp only[nv,intOf,gC];omega
 ·obtain rfl:i=16:=by omega
  refine k _ S ?_;have hf:=H.dropAt 1;unfold usedB;rw[<-gI];exact hf
end U05
end Go.Proofs.YtgaiocpkjaaphaaGreatDoor
namespace Go.Vc
open Ev
variable {P:Program}{w:World}{L:List HProp}
theorem r_cx' {f:FuncId}{args:Array Value}{v:Value}{K:KT}(h:(callFunc f args).run P w=.ok (.value v) w) (k:K v w):Cx P f args w K:=⟨v,w,h,k⟩
theorem Ybr:∀ {l:List UInt8}{c:UInt8},c∈l->Lib.indexByte l c=(l.idxOf c:Nat)
 |[],c,h=>by cases h
 |b::l,c,h=>by
  unfold Lib.indexByte
  by_cases hb:b=c
  ·subst hb;simp
  ·have hm:c∈l:=by
    rcases mem_cons.1 h with h|h
    ·exact absurd h.symm hb
    ·exact h
   have ih:=Ybr hm;rw[if_neg (by simpa using hb),ih,if_neg (by simp),List.idxOf_cons];rw[show (b==c)=false by simpa using hb];simp
theorem Zuv {b:Nat}{xs:List UInt8}{sp:List Value}{e:TypeId}(H:Holds w L) (i:Nat) (hi:L[i]?=some (mk b e (xs.map bv++sp))) :
  (Extern.Bytes.bytesOf (.slice (some ⟨b,0,none⟩) xs.length (xs.length+sp.length))).run P w=.ok ⟨xs.toArray⟩ w:=by
 have hl:=Ev.Zg8 (P:=P) (w:=w) (b:=b) (xs.map (·.toNat)) 0 .empty λj n hj=>by
  rw[hV_,Option.map_eq_some_iff] at hj;obtain⟨c,hc,rfl⟩:=hj;have hjl:=(gH.1 hc).1;rw[Nat.zero_add,Zja H i hi,gM (by simpa using hjl),hV_,hc];rfl
 rw[hS_] at hl;refine Eq.trans hl ?_
 congr 1
 apply Zs0;simp only[List.map_map,show (UInt8.ofNat ∘ λx:UInt8=>x.toNat)=id by funext x;simp,List.map_id];simp
theorem Ye5 {f:FuncId}{fn:Func}{e:TypeId}{v:Value}{xs:List UInt8}{c:UInt8}{K:KT}(hf:extK P f=some (fn,.idxB)) (H:Holds w L) (i:Nat) (hi:L[i]?=some (SM e v xs)) (hc:c∈xs)
  (k:K (nv (xs.idxOf c)) w):Cx P f #[v,bv c] w K:=by
 obtain⟨b,sp,rfl,H1⟩:=Zgo H i hi;have hr:=Lib.run_indexByteString (P:=P) ⟨xs.toArray⟩ (c.toNat:Int) w;have hb:=Zuv (P:=P) H1 i (Za5 hi)
 have hr2:(Extern.BytealgIndexByte.indexByte #[.slice (some ⟨b,0,none⟩) xs.length (xs.length+sp.length),bv c]).run P w=.ok (.int .i64 (Lib.indexByte xs c)) w:=by
  rw[Ydb (y:=.string ⟨xs.toArray⟩) hb rfl,show bv c=Value.int .u8 (c.toNat:Int) from rfl];refine Eq.trans hr ?_;simp
 rw[Ybr hc] at hr2;exact r_cx' (callExt hf (Zuu (Zqa hf).2.2) hr2).2 k
end Go.Vc
namespace Go.Proofs.YtgaiocpkjaaphaaGreatDoor
open Go Go.Vc Go.Proofs.Tryz
attribute [local irreducible] Vc.Nc Vc.Ld Vc.LdA Vc.St Vc.StA Vc.Fo Vc.Iaa Vc.Ias Vc.Ixs Vc.Ixa Vc.Fd Vc.FdA Vc.Bp Vc.Bb Vc.Bn Vc.Up Vc.Ci Vc.Lns Vc.Lnl Vc.Ex Vc.Sst Vc.Ssl Vc.New Vc.Vif Vc.VJoin Vc.VLoop Vc.KE Vc.Dr Vc.Rk Vc.Cl Vc.Cx Vc.Inv Vc.Be Vc.Cv Vc.Cw Vc.Mf Vc.Sl Vc.Lk Vc.Bd Vc.Bs Vc.Ms Vc.Mm Vc.Mu Vc.Me Vc.Es Vc.Rg Vc.Nx Vc.Ta Vc.Ap Vc.Usd Vc.Ust Vc.Cp Vc.Ln Vc.Bc Vc.Bmin Vc.Bmax Vc.Bdel Vc.Bclr Vc.Pk
namespace F06
open Go.Mz Go.Mw
variable {w:World}{L:List HProp}{K:KT}{b:Nat}{o:List UInt8}
theorem idxB:∃ fn,Ev.extK prog 185=some (fn,.idxB):=⟨f185,by kernel_rfl⟩
theorem Zxw {c:UInt8}(H:Holds w (MtR b o::L)) (hc:c∈o) (k:∀ w',Same w w'->Holds w' (MtR b (frontB o (o.idxOf c))::L)->K (.tuple #[nv (o.idxOf c),iv 0]) w'):Cl prog 90 #[pt b,bv c] w K:=by
 refine Tz90 ?_;unfold Vz90;obtain⟨hl,ov,H1⟩:=Zmf H;obtain⟨fn,hfn⟩:=idxB;refine Zab (r_vf ?_);refine r_nc (r_fo0 (r_ld 0 H1 rfl rfl ?_));refine Tz139 ?_;unfold Vz139;refine Ye5 hfn H1 1 rfl hc ?_;refine r_lss (r_vfD (by omega) ?_);refine touch_spec H (Zn3 hc) λw2 S2 H2=>?_;exact k _ S2 H2
theorem set_mid (A:List Nat) (m x:Nat):(A++List.replicate (m+1) 0).set A.length x=A++[x]++List.replicate m 0:=by
 rw[set_append_right _ _ (Nat.le_refl _),Nat.sub_self,List.replicate_succ,gJ];simp
theorem Encode_spec {T:Nat->Bool}{s:List UInt8}(H:Holds w L) (hne:listed T≠[]) (hs:∀ c∈s,c∈listed T) (hl:s.length<=1000000)
  (k:∀ v w',Same w w'->Holds w' (SL nv tI v (mtfE (listed T) s).2::L)->K (.tuple #[v,iv 0]) w'):Cl prog 42 #[.string ⟨s.toArray⟩,.string ⟨(listed T).toArray⟩] w K:=by
 refine Tz42 ?_;unfold Vz42
 have hsz:(⟨s.toArray⟩:ByteArray).size=s.length:=by show s.toArray.size=_;simp
 have hdl:(⟨s.toArray⟩:ByteArray).data.toList=s:=by simp
 refine New_spec H hne λb w1 S1 H1=>?_;refine Za4 (Za3 ?_);refine r_neq (r_vfN rfl ?_);refine r_lns ?_;rw[hsz];refine r_ms (f:=nv) (x:=0) H1 rfl (by omega) (by omega) λq w2 S2 H2=>?_;rw[gC] at H2 ⊢;have H3:=H2.close 0 rfl;simp only[gJ,gP,length_nil,Nat.add_zero] at H3;generalize hv:Value.slice (some ⟨q,0,none⟩) s.length s.length=v at H3 ⊢;refine r_lnS 0 H3 rfl ?_;rw[gP]
 have hinv:∀ i,i<=s.length->(∀ x,x∈(mtfE (listed T) (s.take i)).1↔x∈listed T)/\(mtfE (listed T) (s.take i)).2.length=i:=λi hi=>by
  have:=Zhl (o:=listed T) (s:=s.take i) λc hc=>hs c (mem_of_mem_take hc);exact⟨this.1,by rw[this.2.2.1,gN];omega⟩
 refine Za8 (λx w'=>∃ i:Nat,i<=s.length/\x=nv i/\Same w w'/\Holds w' (SL nv tI v ((mtfE (listed T) (s.take i)).2++List.replicate (s.length - i) 0)::MtR b (mtfE (listed T) (s.take i)).1::L)) (λx _=>s.length - (intOf x).toNat)
  ⟨0,hE _,rfl,S1.trans S2,H3⟩ ?_
 clear H H1 H2 H3 S1 S2;rintro _ _ w3 ⟨i,hi,rfl,S,H⟩;obtain⟨hm,hln⟩:=hinv i hi;refine r_lss (r_ifD (λh=>?_) λh=>?_)
 ·have hlt:i < s.length:=by omega
  refine Zb0 (by rw[hsz];exact hlt) ?_;rw[hdl,gB,gA hlt,Option.getD_some];have hc:s[i]∈(mtfE (listed T) (s.take i)).1:=(hm _).2 (hs _ (getElem_mem _));refine Zxw H.swap hc λw4 S4 H4=>?_;refine Za4 (Za3 ?_);refine r_neq (r_vfN rfl ?_);refine Zat 1 H4 (j:=i) ((mtfE (listed T) (s.take i)).1.idxOf s[i]) rfl (by rw[gD,hln,gP];omega) rfl λw5 S5 H5=>?_;refine Za0 (by omega) ?_
  have hg:s.take (i+1)=s.take i++[s[i]]:=by rw[gO,gA hlt];rfl
  have e1:((mtfE (listed T) (s.take i)).2++List.replicate (s.length - i) 0).set i ((mtfE (listed T) (s.take i)).1.idxOf s[i])=(mtfE (listed T) (s.take (i+1))).2++List.replicate (s.length - (i+1)) 0:=by
   rw[hg,Zd3];have:=set_mid (mtfE (listed T) (s.take i)).2 (s.length - (i+1)) ((mtfE (listed T) (s.take i)).1.idxOf s[i]);rw[hln,show s.length - (i+1)+1=s.length - i by omega] at this;exact this
  have e2:frontB (mtfE (listed T) (s.take i)).1 ((mtfE (listed T) (s.take i)).1.idxOf s[i])=(mtfE (listed T) (s.take (i+1))).1:=by rw[hg,Zd3];rfl
  replace H5:Holds w5 (MtR b (frontB (mtfE (listed T) (s.take i)).1 ((mtfE (listed T) (s.take i)).1.idxOf s[i]))::SL nv tI v (((mtfE (listed T) (s.take i)).2++List.replicate (s.length - i) 0).set i ((mtfE (listed T) (s.take i)).1.idxOf s[i]))::L):=H5;rw[e1,e2] at H5;refine r_ke ⟨⟨i+1,by omega,rfl,(S.trans S4).trans S5,H5.swap⟩,?_⟩;simp only[nv,intOf,gC];omega
 ·obtain rfl:i=s.length:=by omega
  rw[hF_,Nat.sub_self,replicate_zero,gU] at H;exact k _ _ S (Holds.dropAt H 1)
end F06
namespace Z07
open Go.Mz Go.Mw
variable {w:World}{L:List HProp}{K:KT}
theorem row_spec {m:Nat}(H:Holds w L) (hm:m<=1000000) (k:∀ v w',Same w w'->Holds w' (SL nv tI v (rowZ m)::L)->K v w'):Cl prog 92 #[nv m] w K:=by
 refine Tz92 ?_;unfold Vz92
 refine Za7 (λx o w'=>∃ (j:Nat) (A:List Nat),x=nv j/\j<=m/\A.length+j<=m/\A++rowZ j=rowZ m/\Same w w'/\Holds w' (SL nv tI o A::L)) (λx _ _=>(intOf x).toNat)
  ⟨m,[],rfl,Nat.le_refl _,by simp,rfl,.refl w,H.nilSL nv tI⟩ ?_
 clear H;rintro _ _ o w1 ⟨j,A,rfl,hj,hA,hrow,S,H⟩;refine r_gtr (r_ifD (λh=>?_) λh=>?_)
 rotate_left
 ·obtain rfl:j=0:=by omega
  rw[Zd7,gU] at hrow;subst hrow;exact k _ _ S H
 have hj0:j≠0:=by omega
 rw[Zg1 hj0] at hrow;refine Za2 (λx w'=>w1=w'/\x=nv (if j%2=1 then 0 else 1)) ?_ ?_
 rotate_left
 ·have hr:((j:Nat):Int).tmod 2=((j%2:Nat):Int):=by rw[Int.tmod_eq_emod_of_nonneg (by omega)];simp
  refine Zff hr (by omega) ?_;refine r_eql (r_ifE (λh2=>?_) λh2=>?_)
  ·exact r_ke ⟨rfl,by rw[if_pos (by omega)];rfl⟩
  ·exact r_ke ⟨rfl,by rw[if_neg (by omega)];rfl⟩
 rintro _ _ _ ⟨rfl,rfl⟩;refine Zam H 0 rfl (if j%2=1 then 0 else 1) (λ_=>rfl) (by omega) λv2 w2 S2 H2=>?_
 have hc1:(if j%2=1 then 0 else 1:Nat)<=1:=by split <;> omega
 refine r_sub (by omega) (by omega) ?_;refine r_sub (by omega) (by omega) ?_
 have hq:((j:Int) - ((if j%2=1 then 0 else 1:Nat):Int) - 1).tdiv 2=(((j - 1)/2:Nat):Int):=by
  by_cases h2:j%2=1
  ·rw[if_pos h2,Int.tdiv_eq_ediv_of_nonneg (by omega)];omega
  ·rw[if_neg h2,Int.tdiv_eq_ediv_of_nonneg (by omega)];omega
 refine Zic hq (by omega) (by omega) (by omega) ?_;refine r_ke ⟨⟨(j - 1)/2,A++[if j%2=1 then 0 else 1],rfl,by omega,by rw[gD,gQ];omega,by rw[gI];exact hrow,S.trans S2,H2⟩,?_⟩;simp only[nv,intOf,gC];omega
theorem Encode_spec {v:Value}{l:List Nat}{n:Nat}(H:Holds w (SL nv tI v l::L)) (h1:1<=n) (h2:n<=256) (hl:l.length<=1000000) (hp:∀ p∈l,p < n)
  (k:∀ v' w',Same w w'->Holds w' (SL nv tI v' (rowE l n)::SL nv tI v l::L)->K (.tuple #[v',iv 0]) w'):Cl prog 43 #[v,nv n] w K:=by
 refine Tz43 ?_;unfold Vz43;refine r_cl (K:=λx w'=>w=w'/\x=.bool true) ?_ ?_
 ·refine Tz91 ?_;unfold Vz91;refine r_geq (r_vtD (by omega) ?_);refine r_leq ?_;exact⟨rfl,by rw[decide_eq_true (by omega)]⟩
 rintro _ _ ⟨rfl,rfl⟩;refine Zak (r_vf ?_);refine r_lnS 0 H rfl ?_
 have hzl:∀ i,i<=l.length->(zenc (l.take i)).1.length+(zenc (l.take i)).2<=i:=λi hi=>by
  have:=Zly (l.take i);rw[gN] at this;omega
 refine Zb9 (λov zv x w'=>∃ i:Nat,i<=l.length/\x=nv i/\zv=nv (zenc (l.take i)).2/\Same w w'/\Holds w' (SL nv tI ov (zenc (l.take i)).1::SL nv tI v l::L)) (λ_ _ x _=>l.length - (intOf x).toNat)
  ⟨0,hE _,rfl,rfl,.refl w,H.nilSL nv tI⟩ ?_
 clear H;rintro _ ov _ _ w1 ⟨i,hi,rfl,rfl,S,H⟩;have hzi:=hzl i hi;refine r_lss (r_ifD (λh=>?_) λh=>?_)
 ·have hlt:i < l.length:=by omega
  have hg:l[i]?=some l[i]:=gA hlt
  have hgt:l.take (i+1)=l.take i++[l[i]]:=by rw[gO,hg];rfl
  have hpi:=hp _ (getElem_mem hlt);refine Za6 1 H rfl hg ?_;refine Za2 (λx w'=>w1=w'/\x=.bool false) ?_ ?_
  rotate_left
  ·refine r_lss (r_vfD (by omega) ?_);exact r_geq (r_ke ⟨rfl,by rw[decide_eq_false (by omega)]⟩)
  rintro _ _ _ ⟨rfl,rfl⟩;refine r_vf ?_;refine r_eql (r_ifE (λh3=>?_) λh3=>?_)
  ·have e1:zenc (l.take (i+1))=((zenc (l.take i)).1,(zenc (l.take i)).2+1):=by
    rw[hgt,Zcl];unfold zE;rw[if_pos (by omega)]
   refine Za0 (by omega) ?_;refine Za0 (by omega) ?_;refine r_ke ⟨⟨i+1,by omega,rfl,by rw[e1],S,by rw[e1];exact H⟩,?_⟩;simp only[nv,intOf,gC];omega
  ·have e1:zenc (l.take (i+1))=((zenc (l.take i)).1++rowZ (zenc (l.take i)).2++[l[i]+1],0):=by
    rw[hgt,Zcl];unfold zE;rw[if_neg (by omega)]
   have hrl:=Zdi (zenc (l.take i)).2;refine row_spec H (by omega) λrv w2 S2 H2=>?_;refine r_apS H2 1 0 (by decide) rfl rfl (λ_=>rfl) (by omega) λov2 w3 S3 H3=>?_;replace H3:Holds w3 (SL nv tI rv (rowZ (zenc (l.take i)).2)::SL nv tI ov2 ((zenc (l.take i)).1++rowZ (zenc (l.take i)).2)::SL nv tI v l::L):=H3;refine Za0 (by omega) ?_;refine Zam H3.drop 0 rfl (l[i]+1) (λ_=>rfl) (by rw[gD];omega) λov3 w4 S4 H4=>?_;refine Za0 (by omega) ?_;refine r_ke ⟨⟨i+1,by omega,rfl,by rw[e1];rfl,((S.trans S2).trans S3).trans S4,by rw[e1];exact H4⟩,?_⟩;simp only[nv,intOf,gC];omega
 ·obtain rfl:i=l.length:=by omega
  rw[hF_] at H hzi ⊢;have hrl:=Zdi (zenc l).2;refine row_spec H (by omega) λrv w2 S2 H2=>?_;refine r_apS H2 1 0 (by decide) rfl rfl (λ_=>rfl) (by omega) λov2 w3 S3 H3=>?_;replace H3:Holds w3 (SL nv tI rv (rowZ (zenc l).2)::SL nv tI ov2 ((zenc l).1++rowZ (zenc l).2)::SL nv tI v l::L):=H3;refine Za0 (by omega) ?_;refine Zam H3.drop 0 rfl (n+1) (λ_=>rfl) (by rw[gD];omega) λov3 w4 S4 H4=>?_;exact k _ _ (((S.trans S2).trans S3).trans S4) H4
end Z07
namespace W20
open Go.M01 Go.Mb Go.M10 Go.Mz Go.Mw Go.Mx Go.Mv Go.Mh F08 Rw T12 W14
variable {w:World}{L:List HProp}{K:KT}{wb n:Nat}{bs:List Bool}
def symsOf (s:List UInt8):List UInt8:=listed (upT s)
def rowOf (s:List UInt8):List Nat:=rowE (mtfE (symsOf s) s).2 (symsOf s).length
theorem Zfl {s:List UInt8}{c:UInt8}(h:c∈s):c∈symsOf s:=by
 have h1:c.toNat < 256:=c.toNat_lt
 have h2:UInt8.ofNat c.toNat=c:=by simp
 unfold symsOf listed;refine mem_map.2 ⟨c.toNat,List.mem_filter.2 ⟨mem_range.2 h1,?_⟩,h2⟩;unfold upT;rw[h2];exact decide_eq_true h
theorem Zht {s:List UInt8}(h:s≠[]):1<=(symsOf s).length/\(symsOf s).length<=256:=by
 refine⟨?_,Zbf _⟩
 cases s with
 |nil=>exact absurd rfl h
 |cons c r=>exact List.length_pos_of_mem (Zfl (hJ_ ..))
theorem Zc2 (s:List UInt8):(mtfE (symsOf s) s).2.length=s.length/\∀ p∈(mtfE (symsOf s) s).2,p < (symsOf s).length:=by
 have:=Zhl (o:=symsOf s) (s:=s) λc hc=>Zfl hc;exact⟨this.2.2.1,this.2.2.2⟩
theorem Zmi {s:List UInt8}(h:s≠[]) (hl:s.length<=1000000):W14.Row (rowOf s) ((symsOf s).length+2):=by
 obtain⟨h1,h2⟩:=Zht h;obtain⟨p1,p2⟩:=Zc2 s;generalize hn:(symsOf s).length=n at *;have hrl:=Zl1 (mtfE (symsOf s) s).2 n
 have hne:rowOf s=(zenc (mtfE (symsOf s) s).2).1++rowZ (zenc (mtfE (symsOf s) s).2).2++[n+1]:=by unfold rowOf rowE;rw[hn]
 have hro:rowOf s=rowE (mtfE (symsOf s) s).2 n:=by unfold rowOf;rw[hn]
 refine⟨by omega,by omega,by rw[hne];simp,by rw[hro];omega,λx hx=>by have:=Ycc p2 h1 x (by rw[<-hro];exact hx);omega,λi hi=>?_⟩
 have hA:∀ x∈(zenc (mtfE (symsOf s) s).2).1++rowZ (zenc (mtfE (symsOf s) s).2).2,x<=n:=by
  intro x hx;rcases hT_.1 hx with hx|hx
  ·have:=Zv7 p2 x hx;omega
  ·have:=Zil _ x hx;omega
 rw[hne] at hi ⊢;generalize (zenc (mtfE (symsOf s) s).2).1++rowZ (zenc (mtfE (symsOf s) s).2).2=A at *;rw[gD,gQ] at hi ⊢;rw[gB];rcases hU_ i A.length with q|q
 ·rw[gM q,gA q];have:=hA _ (getElem_mem q);show A[i]=n+2 - 1↔_;omega
 ·rw[gT q,show i - A.length=0 by omega];show n+1=n+2 - 1↔_;omega
def blockBits (s:List UInt8) (origin sum:Nat) (picks:List Nat) (ts:List (List Nat)):List Bool:=bitsOf sum 32++[false]++bitsOf origin 24++usedB (upT s)++codeBits (rowOf s) picks ts
theorem Zg0 (T:Nat->Bool):(usedB T).length<=272:=by
 unfold usedB;rw[gD,Zah];have:=Zfq T 16;omega
theorem Zdh {s:List UInt8}{origin sum:Nat}{picks:List Nat}{ts:List (List Nat)}(h:s≠[]) (hl:s.length<=1000000) (hC:Cho (rowOf s) ((symsOf s).length+2) picks ts):(blockBits s origin sum picks ts).length<=200000+30*s.length:=by
 obtain⟨hT,hpl,hpx⟩:=hC.ok;have hR:=Zmi h hl;have h1:=Zn5 (l:=rowOf s) hT hR.s258 hpx;have h2:=Zg0 (upT s)
 have h3:(rowOf s).length<=s.length+1:=by
  have:=Zl1 (mtfE (symsOf s) s).2 (symsOf s).length;rw[(Zc2 s).1] at this;exact this
 have h4:nGr (rowOf s)=((rowOf s).length+49)/50:=rfl;unfold blockBits;simp only[gD,Za1,gQ];omega
theorem Turned_spec {s:List UInt8}{origin sum:Nat}(H:Holds w (W01.WrR wb bs n::L)) (hb:BndOk L) (h0:s≠[]) (hl:s.length<=900000) (ho:origin < s.length) (hs:sum < 4294967296) (hbl:bs.length<=8000000000) (hn:n<=bs.length/8)
  (k:∀ picks ts w',Cho (rowOf s) ((symsOf s).length+2) picks ts->Same w w'->Holds w' (W01.WrR wb (bs++blockBits s origin sum picks ts) n::L)->K (iv 0) w'):Cl prog 16 #[pt wb,.string ⟨s.toArray⟩,nv origin,uv sum] w K:=by
 refine Tz16 ?_;unfold Vz16;have hpos:=gZ.2 h0
 have hsz:(⟨s.toArray⟩:ByteArray).size=s.length:=by simp[ByteArray.size]
 have hR:=Zmi h0 (by omega);have hsy:=Zht h0;refine Zab (r_vf ?_);refine Za2 (λt w'=>w=w'/\t=.bool false) ?_ ?_
 rotate_left
 ·refine Zez (r_vfD (by rw[hsz];omega) ?_)
  refine r_lns (by
   rw[hsz];refine r_gtr (r_vfD (by omega) ?_);refine r_lss (r_vfD (by omega) ?_);refine r_lns ?_;rw[hsz]
   exact r_geq (r_ke ⟨rfl,by rw[decide_eq_false (by omega)]⟩))
 rintro _ _ _ ⟨rfl,rfl⟩;refine r_vf ?_;refine U05.Symbols_spec H (by omega) λw1 S1 H1=>?_;refine F06.Encode_spec (T:=upT s) H1 (λe=>by have:=hsy.1;unfold symsOf at this;rw[e] at this;simp at this) (λc hc=>Zfl hc) (by omega) λpv w2 S2 H2=>?_;refine Za4 (Za3 ?_)
 have hsz2:(⟨(listed (upT s)).toArray⟩:ByteArray).size=(symsOf s).length:=by simp[ByteArray.size,symsOf]
 refine r_lns ?_;rw[hsz2];refine Z07.Encode_spec H2 hsy.1 hsy.2 (by have:=(Zc2 s).1;unfold symsOf at this;omega) (Zc2 s).2 λrv w3 S3 H3=>?_;refine Za4 (Za3 ?_);replace H3:Holds w3 (SL nv tI rv (rowOf s)::SL nv tI pv (mtfE (symsOf s) s).2::W01.WrR wb bs n::L):=H3;refine r_lns ?_;rw[hsz2];refine Zac (a:=(symsOf s).length) (b:=2) (by omega) ?_;refine W14.Bits_spec H3 (i:=0) hb.up.up.up rfl hR λT w4 S4 H4=>?_;refine Za4 (Za3 ?_);refine r_neq (r_vfN rfl ?_)
 have H5:Holds w4 (W01.WrR wb bs n::SL nv tI rv (rowOf s)::L):=by have h_:=Holds.ord 3 [2,0] H4 rfl;exact h_
 refine W01.Put_spec (v:=sum) (n:=32) H5 (by omega) hn (by omega) (by omega) λw5 S5 H6=>?_;refine W01.Put_spec (v:=0) (n:=1) H6 (by rw[gD,Za1];omega) (by rw[gD];omega) (by omega) (by omega) λw6 S6 H7=>?_;refine Zan (by omega) (by omega) ?_;refine W01.Put_spec (v:=origin) (n:=24) H7 (by rw[gD,gD,Za1,Za1];omega) (by rw[gD,gD];omega) (by omega) (by omega) λw7 S7 H8=>?_
 have e1:bitsOf 0 1=[false]:=by decide
 rw[e1] at H8;refine U05.Write_spec H8 (λe=>by have:=hsy.1;unfold symsOf at this;rw[e] at this;simp at this) (by simp only[gD,Za1,gQ];omega) (by simp only[gD];omega) λw8 S8 H9=>?_;refine r_lns ?_;rw[hsz2];refine Zac (a:=(symsOf s).length) (b:=2) (by omega) ?_;have hu:=Zg0 (upT s);refine W14.Write_spec H9 (i:=0) hb.up rfl hR (by simp only[gD,Za1,gQ];omega) (by simp only[gD];omega) λpicks ts w9 hC S9 H10=>?_;refine k picks ts _ hC (S1.trans (S2.trans (S3.trans (S4.trans (S5.trans (S6.trans (S7.trans (S8.trans S9)))))))) ?_;have H11:=Holds.dropAt H10 1;unfold blockBits;simp only[<-gI];exact H11
def padB (l:List Bool):List Bool:=l++List.replicate ((8 - l.length%8)%8) false
theorem Zdp (l:List Bool):(padB l).length%8=0/\(padB l).length<=l.length+7:=by unfold padB;rw[gD,gP];omega
theorem Zz1 (H:Holds w (W01.WrR wb bs n::L)) (hl:bs.length<=100000000000) (hn:n<=bs.length/8)
  (k:∀ w',Same w w'->Holds w' (W01.WrR wb (padB bs) n::L)->K (.tuple #[]) w'):Cl prog 12 #[pt wb] w K:=by
 refine Tz12 ?_;unfold Vz12
 refine Zlq (λj w'=>j<=(8 - bs.length%8)%8/\Same w w'/\Holds w' (W01.WrR wb (bs++List.replicate ((8 - bs.length%8)%8 - j) false) n::L)) ((8 - bs.length%8)%8) ⟨Nat.le_refl _,.refl _,by
  rw[Nat.sub_self,replicate_zero,gU];exact H⟩ ?_
 clear H;rintro _ j w1 _ ⟨hj,S1,H1⟩ hgo;generalize hi:(8 - bs.length%8)%8 - j=i at *;refine Zc4 (r_vt ?_);refine r_nc ?_;obtain⟨wv,H2⟩:=W01.Zl7 H1
 have hlen:(bs++List.replicate i false).length=bs.length+i:=by simp
 refine r_fo0 (r_ld 0 H2 rfl rfl ?_);rw[hlen];refine Zff (r:=(((bs.length+i)%8:Nat):Int)) (by rw[Int.tmod_eq_emod_of_nonneg (by omega)];omega) (by omega) ?_;refine r_neq (r_ifN (λh=>?_) λh=>?_)
 ·refine W01.bit_spec (c:=false) H1 (by rw[hlen];omega) (by rw[hlen];omega) λw2 S2 H3=>?_;refine r_ke (hgo (j - 1) _ (by omega) ⟨by omega,S1.trans S2,?_⟩);rw[show (8 - bs.length%8)%8 - (j - 1)=i+1 by omega,List.replicate_succ',<-gI];exact H3
 ·refine k _ S1 ?_;unfold padB;rw[show (8 - bs.length%8)%8=i by omega];exact H1
end W20
namespace S17
open Go.Mr Go.M18 S16
variable {w:World}{L:List HProp}{K:KT}{b sb:Nat}{s:List UInt8}{x:SS}
abbrev tTu:Nat:=203
def aheadB (s:List UInt8) (a:Nat):UInt8:=if a=0 then s.getD (s.length - 1) 0 else s.getD (a - 1) 0
theorem Zsq {a:Nat}(ha:a < s.length):aheadB s a=lastB (rot s a):=by
 unfold aheadB;split
 ·rename_i e;rw[e,Zrv];rfl
 ·rename_i e;have h:=Zjl (s:=s) (a:=a) ha (i:=s.length - 1) (by omega);unfold lastB;rw[Zco s a (by omega),h]
  congr 1
  rw[Nat.mod_eq_sub_mod (by omega),show a+(s.length - 1) - s.length=a - 1 by omega,Nat.mod_eq_of_lt (by omega)]
theorem Ydp {t e d:TypeId} [hr:Bytes prog t e d] (H:Holds w L) (i:Nat){v:Value}{xs:List UInt8}{K:Value->Prop}
  (hi:L[i]?=some (SL bv e v xs)) (h:K (.string ⟨xs.toArray⟩)):Cv prog t d v w K:=by
 obtain⟨oa,sp,rfl,H1⟩:=H.open i hi;have h0:Cw prog t d (.slice oa xs.length (xs.length+sp.length)) w (λv w'=>v=.string ⟨xs.toArray⟩/\w'=w):=r_cbs H1 i (Za5 hi) rfl ⟨rfl,rfl⟩;unfold Cw at h0;obtain⟨v,w',hr,rfl,rfl⟩:=h0;unfold Cv;exact⟨_,hr,h⟩
theorem Zsy {a:Nat}(h0:s≠[]) (hl:s.length<=1000000) (ha:a < s.length) (k:K (bv (aheadB s a)) w):Cl prog 184 #[St_ s,nv a] w K:=by
 refine Tz184 ?_;unfold Vz184
 have hsz:(⟨s.toArray⟩:ByteArray).size=s.length:=by simp[ByteArray.size]
 have hd:(⟨s.toArray⟩:ByteArray).data.toList=s:=by simp
 unfold aheadB at k;refine r_eql (r_ifE (λh=>?_) λh=>?_)
 ·rw[if_pos (by omega)] at k;refine r_lns ?_;rw[hsz];refine Zaa (by omega) (by omega) ?_;refine Zb0 (by rw[hsz];omega) ?_;rw[hd];exact k
 ·rw[if_neg (by omega)] at k;refine Zaa (by omega) (by omega) ?_;refine Zb0 (by rw[hsz];omega) ?_;rw[hd];exact k
def tuL (b:Nat) (s:List UInt8) (sb:Nat) (ov lv:Value) (o:Nat) (order:List Nat) (last:List UInt8):List HProp:=[blk b tTu [St_ s,pt sb,ov,lv,nv o],SL nv tI ov order,SL bv tB lv last]
theorem Zej {ov lv:Value}{o:Nat}{order:List Nat}{last:List UInt8}(H:Holds w (tuL b s sb ov lv o order last++L)) (k:∀ w',Same w w'->Holds w' (tuL b s sb ov lv o order last++L)->K (.bool (decide (last.length=s.length))) w'):Cl prog 85 #[pt b] w K:=by
 refine Tz85 ?_;unfold Vz85
 have hsz:(⟨s.toArray⟩:ByteArray).size=s.length:=by simp[ByteArray.size]
 refine r_dr H λw1 S1 H1=>?_;refine Zc4 (r_vt ?_);refine r_nc (r_fo0 (r_ld 0 H1 rfl rfl ?_));refine r_lnS 2 H1 rfl ?_;refine r_nc (r_fo0 (r_ld 0 H1 rfl rfl ?_));refine r_lns ?_;rw[hsz];refine r_eql ?_;rw[show (((last.length:Nat):Int)==((s.length:Nat):Int))=decide (last.length=s.length) from by rw[Bool.eq_iff_iff,beq_iff_eq,decide_eq_true_iff];omega];exact k _ S1 H1
theorem sg_bv (c:UInt8):sg (bv c)=true:=rfl
theorem take_spec {ov lv:Value}{o a:Nat}{order:List Nat}{last:List UInt8}(H:Holds w (tuL b s sb ov lv o order last++L)) (h0:s≠[]) (hl:s.length<=4000) (hi:order[last.length]?=some a) (ha:a < s.length) (hll:last.length<=4000)
  (k:∀ lv' w',Same w w'->Holds w' (tuL b s sb ov lv' (if a=0 then last.length else o) order (last++[aheadB s a])++L)->K (.tuple #[]) w'):Cl prog 138 #[pt b] w K:=by
 refine Tz138 ?_;unfold Vz138;refine r_nc (r_fo0 (r_ld 0 H rfl rfl ?_));refine r_lnS 2 H rfl ?_;refine r_nc (r_fo0 (r_ld 0 H rfl rfl ?_));refine Za6 1 H rfl hi ?_;refine Zdg (λw'=>Same w w'/\Holds w' (tuL b s sb ov lv (if a=0 then last.length else o) order last++L)) ?_ ?_
 ·rintro _ w1 ⟨S1,H1⟩;generalize (if a=0 then last.length else o)=o' at *;refine r_dr H1 λw2 S2 H2=>?_;refine r_nc (r_fo0 (r_ld 0 H2 rfl rfl ?_));refine r_nc (r_fo0 (r_ld 0 H2 rfl rfl ?_));refine Zsy h0 (by omega) ha ?_;refine r_rk (r_ld 0 H2 rfl rfl rfl) ?_;refine r_bs1 H2 (sg_bv _) λb3 w3 S3 H3=>?_;refine r_rk (r_ld 1 H3 rfl rfl rfl) ?_;obtain⟨oa,sp,rfl,H4⟩:=H3.open 3 rfl;refine r_ap (f:=bv) (xs:=last) (ys:=[aheadB s a]) (sp:=sp) H4 3 0 rfl rfl rfl rfl rfl rfl sg_bv (by simp;omega) (by simp) λoa' sp' w4 S4 H5=>?_;have H6:=H5.close 3 rfl
  have hlen:last.length+[aheadB s a].length=(last++[aheadB s a]).length:=by simp
  rw[hlen];refine r_nc (r_fo0 ?_);refine r_st 1 H6 rfl (by simp) rfl λw5 S5 H7=>?_;exact k _ w5 (S1.trans (S2.trans (S3.trans (S4.trans S5)))) H7.drop
 ·refine r_eql (r_ifE (λh=>?_) λh=>?_)
  ·refine r_nc (r_fo0 ?_);refine r_st 0 H rfl (by simp) rfl λw1 S1 H1=>?_;refine r_ke ⟨S1,?_⟩;rw[if_pos (by omega)];exact H1
  ·refine r_ke ⟨.refl _,?_⟩;rw[if_neg (by omega)];exact H
theorem Zog {s:List UInt8}{o o':Nat}(h:(sortP s s.length)[o]?=some 0) (h':(sortP s s.length)[o']?=some 0):o=o':=by
 obtain⟨p1,p2⟩:=gH.1 h;obtain⟨p3,p4⟩:=gH.1 h';exact (List.getElem_inj (Zio s _)).1 (p2.trans p4.symm)
theorem Zsz {o:Nat}(H:Holds w (tuL b s sb (.slice none 0 0) (.slice none 0 0) o [] []++SoR sb s (startD s.length) 0::L)) (h0:s≠[]) (hl:s.length<=4000)
  (k:∀ ov lv o' v w',(sortP s s.length)[o']?=some 0->Same w w'->Holds w' (tuL b s sb ov lv o' (sortP s s.length) (lastL s)++L)->K v w'):Cl prog 86 #[pt b,iv 1099511627776] w K:=by
 refine Tz86 ?_;unfold Vz86;have hpos:=gZ.2 h0;have hlo:=Zb4 s s.length;refine Za2 (λt w'=>w=w'/\t=.bool false) ?_ ?_
 rotate_left
 ·exact Zab (r_vf (r_lss (r_ke ⟨rfl,rfl⟩)))
 rintro _ _ _ ⟨rfl,rfl⟩;refine r_vf ?_;refine r_nc (r_fo0 (r_ld 0 H rfl rfl ?_))
 have H0:Holds w (SoR sb s (startD s.length) 0::(tuL b s sb (.slice none 0 0) (.slice none 0 0) o [] []++L)):=by have h_:=Holds.ord 4 [3,0,1,2] H rfl;exact h_
 refine Step_spec H0 (Zuo h0 hl) hl λy m w1 hf hm S1 H1=>?_;clear H H0
 have H2:Holds w1 (tuL b s sb (.slice none 0 0) (.slice none 0 0) o [] []++SoR sb s y m::L):=by have h_:=Holds.ord 4 [1,2,3,0] H1 rfl;exact h_
 clear H1;refine Zdg (λw'=>∃ ov,Same w w'/\Holds w' (tuL b s sb ov (.slice none 0 0) o (sortP s s.length) []++SoR sb s y m::L)) ?_ ?_
 rotate_left
 ·refine Za2 (λt w'=>w1=w'/\t=.bool true) ?_ ?_
  ·rintro _ _ _ ⟨rfl,rfl⟩;refine r_vt ?_;refine r_nc (r_fo0 (r_ld 0 H2 rfl rfl ?_))
   have H3:Holds w1 (SoR sb s y m::(tuL b s sb (.slice none 0 0) (.slice none 0 0) o [] []++L)):=by have h_:=Holds.ord 4 [3,0,1,2] H2 rfl;exact h_
   refine Ztp H3 hf hl λov w2 S2 H4=>?_;obtain⟨oa,sp,rfl,_⟩:=H4.open 0 rfl;refine r_nc (r_fo0 ?_);refine r_st 2 H4 rfl (by simp) rfl λw3 S3 H5=>?_;refine r_ke ⟨.slice oa (sortP s s.length).length ((sortP s s.length).length+sp.length),S1.trans (S2.trans S3),?_⟩;have h_:=Holds.ord 5 [2,0,4,1] H5 rfl;exact h_
  ·refine r_nc (r_fo0 (r_ld 0 H2 rfl rfl ?_));refine r_be (v:=.bool true) (by kernel_rfl) (r_vt ?_);refine r_nc (r_fo0 (r_ld 0 H2 rfl rfl ?_))
   have H3:Holds w1 (SoR sb s y m::(tuL b s sb (.slice none 0 0) (.slice none 0 0) o [] []++L)):=by have h_:=Holds.ord 4 [3,0,1,2] H2 rfl;exact h_
   refine Done_spec H3 ?_;exact r_ke ⟨rfl,by rw[hf.1]⟩
 rintro _ w2 ⟨ov,S2,H3⟩;clear H2 S1
 obtain⟨oz,hoz⟩:∃ oz,(sortP s s.length)[oz]?=some 0:=by
  obtain⟨i,hi,e⟩:=List.getElem_of_mem ((Zc9 s s.length 0).2 hpos);exact⟨i,by rw[gA hi,e]⟩
 refine Za8 (λg w'=>∃ (u o':Nat) (lv:Value),g=nv (m+u)/\u<=s.length/\(oz < u->o'=oz)/\Same w w'/\Holds w' (tuL b s sb ov lv o' (sortP s s.length) (((sortP s s.length).take u).map (aheadB s))++SoR sb s y m::L)) (λg _=>m+s.length - (intOf g).toNat)
  ⟨0,o,_,rfl,hE _,λh=>by omega,S2,H3⟩ ?_
 clear H3 S2;rintro _ _ w3 ⟨u,o',lv,rfl,hu,ho',S3,H3⟩
 have hlen:(((sortP s s.length).take u).map (aheadB s)).length=u:=by rw[hS_,gN,hlo];omega
 refine Za2 (λt w'=>Same w w'/\Holds w' (tuL b s sb ov lv o' (sortP s s.length) (((sortP s s.length).take u).map (aheadB s))++SoR sb s y m::L)/\t=.bool (decide (¬ u=s.length))) ?_ ?_
 ·rintro _ _ w4 ⟨S4,H4,rfl⟩;refine r_ifD (λh=>?_) λh=>?_
  ·have hlt:u < s.length:=by omega
   have hg:(sortP s s.length)[u]?=some ((sortP s s.length).getD u 0):=Zba (by rw[hlo];exact hlt);have ha:(sortP s s.length).getD u 0 < s.length:=(Zc9 s s.length _).1 (Zbh (by rw[hlo];exact hlt))
   have htk:(sortP s s.length).take (u+1)=(sortP s s.length).take u++[(sortP s s.length).getD u 0]:=by rw[gO,hg];rfl
   refine take_spec H4 h0 hl (a:=(sortP s s.length).getD u 0) (by rw[hlen];exact hg) ha (by rw[hlen];omega) λlv2 w5 S5 H5=>?_;refine Za0 (by omega) ?_;refine r_ke ⟨⟨u+1,_,lv2,by rw[hG_],hlt,λhz=>?_,S4.trans S5,by rw[htk,map_append];exact H5⟩,?_⟩
   ·rw[hlen]
    by_cases e:(sortP s s.length).getD u 0=0
    ·rw[if_pos e];rw[e] at hg;exact Zog hg hoz
    ·rw[if_neg e];refine ho' ?_;rcases hU_ oz u with q|q
     ·exact q
     ·have:oz=u:=by omega
      rw[this,hg] at hoz;exact absurd (Option.some.inj hoz) e
   ·simp only[nv,intOf,gC];omega
  ·obtain rfl:u=s.length:=by omega
   have h1:oz < s.length:=by rw[<-hlo];exact (gH.1 hoz).1
   rw[ho' h1] at H4
   have e1:((sortP s s.length).take s.length).map (aheadB s)=lastL s:=by
    rw[gK (by rw[hlo];exact Nat.le_refl _)];unfold lastL;exact List.map_congr_left λa ha=>Zsq ((Zc9 s s.length a).1 ha)
   rw[e1] at H4;exact k ov lv oz _ _ hoz S4 (by have h_:=Holds.ord 4 [0,1,2] H4 rfl;exact h_)
 ·refine r_nc (r_fo0 (r_ld 0 H3 rfl rfl ?_))
  have H4:Holds w3 (SoR sb s y m::(tuL b s sb ov lv o' (sortP s s.length) (((sortP s s.length).take u).map (aheadB s))++L)):=by have h_:=Holds.ord 4 [3,0,1,2] H3 rfl;exact h_
  refine Done_spec H4 ?_;rw[hf.1];refine r_vt ?_;refine r_lss (r_vtD (by omega) ?_);refine Zej H3 λw4 S4 H5=>?_;rw[hlen];refine r_not (r_ke ⟨S3.trans S4,H5,?_⟩);rw[decide_not]
theorem Of_spec (H:Holds w L) (h0:s≠[]) (hl:s.length<=4000) (k:∀ o w',(sortP s s.length)[o]?=some 0->Same w w'->Holds w' L->K (.tuple #[St_ (lastL s),nv o,iv 0]) w'):Cl prog 38 #[St_ s] w K:=by
 refine Tz38 ?_;unfold Vz38;have hpos:=gZ.2 h0
 have hsz:(⟨s.toArray⟩:ByteArray).size=s.length:=by simp[ByteArray.size]
 refine r_cl (K:=λv w'=>∃ b sb,v=.tuple #[pt b,iv 0]/\Same w w'/\Holds w' (tuL b s sb (.slice none 0 0) (.slice none 0 0) 0 [] []++SoR sb s (startD s.length) 0::L)) ?_ ?_
 ·refine Tz84 ?_;unfold Vz84;refine Zez (r_vfD (by rw[hsz];omega) ?_);refine New_spec H h0 hl λsb w1 S1 H1=>?_;refine Za4 (Za3 (r_neq (r_vfN rfl ?_)));refine r_bd (v:=.agg #[St_ s,pt sb,.slice none 0 0,.slice none 0 0,nv 0]) (by kernel_rfl) ?_;refine r_new H1 λb w2 S2 H2=>?_;have H3:=(H2.nilSL nv tI).nilSL bv tB;exact⟨b,sb,rfl,S1.trans S2,by have h_:=Holds.ord 4 [2,1,0,3] H3 rfl;exact h_⟩
 rintro _ w1 ⟨b,sb,rfl,S1,H1⟩;refine Za4 (Za3 (r_neq (r_vfN rfl ?_)))
 refine Zlq (λj w'=>Same w w'/\((j=1/\Holds w' (tuL b s sb (.slice none 0 0) (.slice none 0 0) 0 [] []++SoR sb s (startD s.length) 0::L)) \/
   (j=0/\∃ ov lv o,(sortP s s.length)[o]?=some 0/\Holds w' (tuL b s sb ov lv o (sortP s s.length) (lastL s)++L)))) 1 ⟨S1,.inl ⟨rfl,H1⟩⟩ ?_
 clear H H1 S1;rintro _ j w2 _ ⟨S2,⟨rfl,H2⟩|⟨rfl,ov,lv,o,ho,H2⟩⟩ hgo
 ·refine Zej H2 λw3 S3 H3=>?_;rw[show decide (([]:List UInt8).length=s.length)=false from decide_eq_false (by simp;omega)];refine Zbo (r_vt ?_);refine Zsz H3 h0 hl λov lv o v w4 ho S4 H4=>?_;exact r_ke (hgo 0 _ (by omega) ⟨S2.trans (S3.trans S4),.inr ⟨rfl,ov,lv,o,ho,H4⟩⟩)
 ·have hll:=Zaq s;refine Zej H2 λw3 S3 H3=>?_;rw[hll,decide_eq_true rfl];refine Zak (r_vf ?_);refine r_cl (K:=λv w'=>v=.tuple #[St_ (lastL s),nv o]/\Same w3 w'/\Holds w' L) ?_ ?_
  ·refine Tz87 ?_;unfold Vz87;refine Zej H3 λw4 S4 H4=>?_;rw[hll,decide_eq_true rfl];refine Zak (r_vf ?_);refine r_dr H4 λw5 S5 H5=>?_;refine r_nc (r_fo0 (r_ld 0 H5 rfl rfl ?_));refine Ydp H5 2 rfl ?_;refine r_nc (r_fo0 (r_ld 0 H5 rfl rfl ?_));exact⟨rfl,S4.trans S5,H5.drop.drop.drop⟩
  rintro _ w4 ⟨rfl,S4,H4⟩;refine Za4 (Za3 ?_);exact k o w4 ho (S2.trans (S3.trans S4)) H4
end S17
namespace U18
open Go.M18
variable {w:World}{L:List HProp}{K:KT}
end U18
namespace U18
open Go.M18
variable {w:World}{L:List HProp}{K:KT}
theorem text_len (l:List UInt8) (o:Nat):(text l o).length=l.length:=Zhi _ _ _
end U18
namespace P36
open Go.Mh
variable {w:World}{L:List HProp}{K:KT}
theorem May_spec {v:Value}{l:List Nat}{i lo hi:Nat}(H:Holds w L) (hv:L[i]?=some (SL nv tI v l)) (hl:l.length<=1000000) (k:K (.bool (decide (∀ x∈l,lo<=x/\x<=hi))) w):Cl prog 207 #[v,nv lo,nv hi] w K:=by
 refine Tz207 ?_;unfold Vz207;refine r_lnS i H hv ?_;refine Za8 (λq w'=>∃ t:Nat,q=nv t/\t<=l.length/\(∀ x∈l.take t,lo<=x/\x<=hi)/\w=w') (λq _=>l.length - (intOf q).toNat) ⟨0,rfl,hE _,by simp,rfl⟩ ?_;rintro _ _ _ ⟨t,rfl,ht,hm,rfl⟩;refine r_lss (r_ifD (λh=>?_) λh=>?_)
 ·have hlt:t < l.length:=by omega
  refine Za6 i H hv (gA hlt) ?_
  have e:l.take (t+1)=l.take t++[l[t]]:=by rw[gO,gA hlt];rfl
  have hmem:=getElem_mem hlt;generalize l[t]=x at *;refine Za2 (λz w'=>w=w'/\z=.bool (decide (x < lo\/hi < x))) ?_ ?_
  rotate_left
  ·refine r_lss (r_ifD (λq=>?_) λq=>?_)
   ·exact r_ke ⟨rfl,by rw[decide_eq_true (.inl (by omega))]⟩
   ·refine r_gtr (r_ke ⟨rfl,?_⟩)
    congr 1
    exact decide_eq_decide.2 (by omega)
  rintro _ _ _ ⟨rfl,rfl⟩;refine r_ifD (λq=>?_) λq=>?_
  ·rw[decide_eq_false (λe=>by have:=e x hmem;omega)] at k;exact k
  ·refine Za0 (by omega) (r_ke ⟨⟨t+1,rfl,by omega,λy hy=>?_,rfl⟩,?_⟩)
   ·rw[e] at hy;rcases hT_.1 hy with hy|hy
    ·exact hm y hy
    ·rw[mem_singleton.1 hy];omega
   ·simp only[nv,intOf,gC];omega
 ·rw[gK (by omega)] at hm;rw[decide_eq_true hm] at k;exact k
theorem Halved_spec {v:Value}{l:List Nat}{i:Nat}(H:Holds w L) (hi:L[i]?=some (SL nv tI v l)) (hl:l.length<=1000000) (hb:∀ x∈l,x<=1099511627776) (k:∀ v' w',Same w w'->Holds w' (SL nv tI v' (halved l)::L)->K v' w'):Cl prog 208 #[v] w K:=by
 refine Tz208 ?_;unfold Vz208;refine r_lnS i H hi ?_;refine Za7 (λp q w'=>∃ t:Nat,q=nv t/\t<=l.length/\Same w w'/\Holds w' (SL nv tI p (halved (l.take t))::L)) (λ_ q _=>l.length - (intOf q).toNat) ⟨0,rfl,hE _,.refl _,H.nilSL nv tI⟩ ?_;clear H;rintro _ p _ w3 ⟨t,rfl,ht,S3,H3⟩;refine r_lss (r_ifD (λh=>?_) λh=>?_)
 ·have hlt:t < l.length:=by omega
  have hx:=hb _ (getElem_mem hlt)
  have e:l.take (t+1)=l.take t++[l[t]]:=by rw[gO,gA hlt];rfl
  refine Za6 (i+1) H3 (by rw[gF];exact hi) (gA hlt) ?_;generalize l[t]=x at *;refine Za2 (λz w'=>w3=w'/\z=nv x) ?_ ?_
  rotate_left
  ·refine r_lss (r_vfD (by omega) ?_);exact r_ke ⟨rfl,rfl⟩
  rintro _ _ _ ⟨rfl,rfl⟩;refine r_quo (by omega) (by omega) (by omega) ?_;rw[show (x:Int)/2=((x/2:Nat):Int) by omega];refine Za0 (by omega) ?_
  have hlen:(halved (l.take t)).length=t:=by unfold halved;rw[hS_,gN];omega
  refine Zam (f:=nv) H3 0 (xs:=halved (l.take t)) rfl (x/2+1) (λ_=>rfl) (by omega) λv' w4 S4 H4=>?_;refine Za0 (by omega) (r_ke ⟨⟨t+1,rfl,by omega,S3.trans S4,?_⟩,?_⟩)
  ·rw[e];unfold halved at *;rw[map_append];exact H4
  ·simp only[nv,intOf,gC];omega
 ·rw[gK (by omega)] at H3;exact k p w3 S3 H3
def ones (c:List Nat):List Nat:=c.map λx=>max x 1
theorem Of_spec {v:Value}{c:List Nat}{i:Nat}(H:Holds w L) (hi:L[i]?=some (SL nv tI v c)) (h3:3<=c.length) (hl:c.length<=258) (hb:∀ x∈c,x<=1099511627776)
  (k:∀ v' out w',LensOf (c.map λx=>max x 1) out->Same w w'->Holds w' (SL nv tI v' out::L)->K v' w'):Cl prog 159 #[v] w K:=by
 refine Tz159 ?_;unfold Vz159;refine r_lnS i H hi ?_;refine Za7 (λp q w'=>∃ t:Nat,q=nv t/\t<=c.length/\Same w w'/\Holds w' (SL nv tI p (ones (c.take t))::L)) (λ_ q _=>c.length - (intOf q).toNat) ⟨0,rfl,hE _,.refl _,H.nilSL nv tI⟩ ?_;clear H;rintro _ p _ w3 ⟨t,rfl,ht,S3,H3⟩;refine r_lss (r_ifD (λh=>?_) λh=>?_)
 ·have hlt:t < c.length:=by omega
  have e:c.take (t+1)=c.take t++[c[t]]:=by rw[gO,gA hlt];rfl
  refine Za6 (i+1) H3 (by rw[gF];exact hi) (gA hlt) ?_;generalize c[t]=x at *;refine Za2 (λz w'=>w3=w'/\z=nv (max x 1)) ?_ ?_
  rotate_left
  ·refine r_eql (r_ifE (λq=>?_) λq=>?_)
   ·exact r_ke ⟨rfl,by rw[show max x 1=1 by omega];rfl⟩
   ·exact r_ke ⟨rfl,by rw[show max x 1=x by omega]⟩
  rintro _ _ _ ⟨rfl,rfl⟩
  have hlen:(ones (c.take t)).length=t:=by unfold ones;rw[hS_,gN];omega
  refine Zam (f:=nv) H3 0 (xs:=ones (c.take t)) rfl (max x 1) (λ_=>rfl) (by omega) λv' w4 S4 H4=>?_;refine Za0 (by omega) (r_ke ⟨⟨t+1,rfl,by omega,S3.trans S4,?_⟩,?_⟩)
  ·rw[e];unfold ones at *;rw[map_append];exact H4
  ·simp only[nv,intOf,gC];omega
 rw[gK (by omega)] at H3
 refine Za7 (λx q w'=>∃ (t:Nat) (u:List Nat),q=nv t/\t<=40/\u.length=c.length/\(∀ x∈u,1<=x/\x<=2^(40 - t)+1/\x<=1099511627776)/\(∀ out,LensOf u out->LensOf (ones c) out)/\Same w w'/\Holds w' (SL nv tI x u::L)) (λ_ q _=>100 - (intOf q).toNat)
  ⟨0,ones c,rfl,hE _,by unfold ones;rw[hS_],λx hx=>by
   obtain⟨y,hy,rfl⟩:=mem_map.1 hx;have:=hb y hy
   have e:(2:Nat)^(40 - 0)=1099511627776:=by decide
   omega,λ_ h=>h,S3,H3⟩ ?_
 clear H3 S3;rintro _ x _ w4 ⟨t,u,rfl,ht,hu,hur,hcont,S4,H4⟩;refine r_lss (r_vtD (by omega) ?_);refine P35.Zpe H4 (i:=0) rfl (by omega) (by omega) (λx hx=>(hur x hx).2.2) λv' out w5 hD S5 H5=>?_
 have hol:out.length=c.length:=by
  obtain⟨_,_,_,_,h,_⟩:=hD;omega
 have hpos:=Zkj (by omega) hD;refine May_spec H5 (i:=0) (lo:=1) (hi:=20) rfl (by omega) ?_;refine r_ifD (λh20=>?_) λh20=>?_
 ·exact k v' out w5 (hcont _ (.fit hD λx hx=>(h20 x hx).2)) (S4.trans S5) (Holds.dropAt H5 1)
 ·have hn:¬ ∀ x∈out,x<=20:=λe=>h20 λx hx=>⟨hpos x hx,e x hx⟩
  have h40:t < 40:=by
   rcases hU_ t 40 with q|q
   ·exact q
   ·refine absurd (Zh1 (λx hx=>?_) (by omega) hD) hn;have:=hur x hx;rw[show 40 - t=0 by omega] at this;omega
  refine Halved_spec H5 (i:=1) rfl (by omega) (λx hx=>(hur x hx).2.2) λv2 w6 S6 H6=>?_;refine Za0 (by omega) (r_ke ⟨⟨t+1,halved u,rfl,by omega,by unfold halved;rw[hS_];exact hu,λx hx=>?_,λo ho=>hcont o (.more hD hn ho),S4.trans (S5.trans S6),Holds.dropAt (Holds.dropAt H6 1) 1⟩,?_⟩)
  ·obtain⟨y,hy,rfl⟩:=mem_map.1 hx;have h1:=hur y hy;rw[show 40 - t=(40 - (t+1))+1 by omega,Nat.pow_succ] at h1;generalize 2^(40 - (t+1))=z at *;omega
  ·simp only[nv,intOf,gC];omega
end P36
end Go.Proofs.YtgaiocpkjaaphaaGreatDoor
