/- Several texts in one: Gy, Hs, Hu, Hd, Hv, Hw, Ho, Hp, Hq, Hx, S41, Hr, Hy, Hz, Ia, Ib. -/
import Derived.Test.YthkaggnihbkmeaaGreatDoorMG3
import Derived.Test.YthkaggnihbkmeaaGreatDoorMG0
import Derived.Test.YthkaggnihbkmeaaGreatDoorMG1
import Derived.Test.YthkaggnihbkmeaaGreatDoorT40Z
set_option linter.unusedVariables false
set_option linter.unusedSimpArgs false
open Go.RowKit (intOf)
open List (find?_cons_of_neg find?_cons_of_pos getElem?_of_mem length_set map_append map_set mem_append mem_cons mem_map mem_of_getElem? mem_singleton not_mem_nil pairwise_cons pairwise_map set_set sum_cons)
namespace Go.Proofs.YthkaggnihbkmeaaGreatDoor
open Go Go.Vc Go.Proofs.Tryz
open Classical in
theorem Zsd {w:World}{body:(Nat->Value)->Cur 0->Cur 0}(I:Nat->World->Prop) (n0:Nat) (h0:I n0 w)
   (h:∀ jb n w (k:Cur 0),I n w->(∀ m w',m < n->I m w'->k w')->body jb k w):VLoop 0 [] w body:=by
 refine Zp7 (λw'=>∃ n,I n w') (λw'=>if h:∃ n,I n w' then Classical.choose (Zgc h) else 0) ⟨n0,h0⟩ ?_;intro jb w1 hx;have e1:=Classical.choose_spec (Zgc hx);refine h jb _ w1 _ e1.1 λm w' hm hI=>⟨⟨m,hI⟩,?_⟩;have hx':∃ n,I n w':=⟨m,hI⟩;have e2:=Classical.choose_spec (Zgc hx');show dite _ _ _ < dite _ _ _;rw[dif_pos hx,dif_pos hx'];exact Nat.lt_of_le_of_lt (e2.2 m hI) hm
section
variable {P:Program}{w:World}{L:List HProp}
def MDe (b:Nat) (f:Int->Option Value):HProp:=λh=>∃ n,MD b f n h
theorem r_lkE {t kt et:TypeId}{x:Ev.X}{z:Value}(ht:P.underlying t=some (.map kt et)) (hk:P.underlying kt=some (.int .i64)) (hx:Ev.zeroVX P et=some x) (hz:Ev.vl (λ_=>none) x=some z)
   (i:Nat) (H:Holds w L) {b:Nat} {f:Int->Option Value} (hi:L[i]?=some (MDe b f)) {k:Int} {K:Value->Prop} (h:K ((f k).getD z)):Lk P t (.map (some b)) (iv k) false w K:=by
 obtain⟨n,H1⟩:=H.atEx i hi (Q:=λn=>MD b f n) λg hg=>hg;exact r_lkD ht hk hx hz i H1 (Za6 hi) h
theorem r_muE {t kt et:TypeId}(ht:P.underlying t=some (.map kt et)) (hk:P.underlying kt=some (.int .i64))
   (i:Nat) (H:Holds w L) {b:Nat} {f:Int->Option Value} (hi:L[i]?=some (MDe b f)) {k:Int} {v:Value} {K:World->Prop} (h:∀ w',Same w w'->Holds w' (L.set i (MDe b (λj=>if j=k then some v else f j)))->K w'):Mu P t (.map (some b)) (iv k) v w K:=by
 obtain⟨n,H1⟩:=H.atEx i hi (Q:=λn=>MD b f n) λg hg=>hg;refine r_muD ht hk i H1 (Za6 hi) λw' S' H'=>h w' S' ?_;rw[set_set] at H';have H2:=H'.at i (Za6 hi) (Q:=MDe b (λj=>if j=k then some v else f j)) λg hg=>⟨n+1,hg⟩;rw[set_set] at H2;exact H2
theorem Zwr {t kt et t2 ty:TypeId}(ht:P.underlying t=some (.map kt et)) (hk:P.underlying kt=some (.int .i64))
   (i:Nat) (H:Holds w L) {b:Nat} {f:Int->Option Value} (hi:L[i]?=some (MDe b f)) {k:Int} {K:KT} (h:∀ w',Same w w'->Holds w' (L.set i (MDe b (λj=>if j=k then none else f j)))->K (.tuple #[]) w'):Bdel P #[t,t2] ty #[.map (some b),iv k] w K:=by
 obtain⟨n,H1⟩:=H.atEx i hi (Q:=λn=>MD b f n) λg hg=>hg;refine Zwd ht hk i H1 (Za6 hi) λw' S' H'=>h w' S' ?_;rw[set_set] at H';have H2:=H'.at i (Za6 hi) (Q:=MDe b (λj=>if j=k then none else f j)) λg hg=>⟨n,hg⟩;rw[set_set] at H2;exact H2
end
attribute [local irreducible] Vc.Nc Vc.Ld Vc.LdA Vc.St Vc.StA Vc.Fo Vc.Iaa Vc.Ias Vc.Ixs Vc.Ixa Vc.Fd Vc.FdA Vc.Bp Vc.Bb Vc.Bn Vc.Up Vc.Ci Vc.Lns Vc.Lnl Vc.Ex Vc.Sst Vc.Ssl Vc.New Vc.Vif Vc.VJoin Vc.VLoop Vc.KE Vc.Dr Vc.Rk Vc.Cl Vc.Cx Vc.Inv Vc.Be Vc.Cv Vc.Cw Vc.Mf Vc.Sl Vc.Lk Vc.Bd Vc.Bs Vc.Ms Vc.Mm Vc.Mu Vc.Me Vc.Es Vc.Rg Vc.Nx Vc.Ta Vc.Ap Vc.Usd Vc.Ust Vc.Cp Vc.Ln Vc.Bc Vc.Bmin Vc.Bmax Vc.Bdel Vc.Bclr Vc.Pk
namespace F33
open Go.M31 J30 J31 J32
variable {w:World}{L:List HProp}{K:KT}
def SchR (sb nt m:Nat):HProp:=λh=>∃ rb v rv ring ts,(ts.length=nt/\ring.length<=m/\∀ t∈ts,t.q.length<=m)/\Sat (Q40.ScL sb rb v rv ring ts) h
section
variable {sb nt m:Nat}
theorem Zgh (H:Holds w L){j:Nat}(hj:L[j]?=some (SchR sb nt m)):∃ rb v rv ring ts,(ts.length=nt/\ring.length<=m/\∀ t∈ts,t.q.length<=m)/\Holds w (Q40.ScL sb rb v rv ring ts++L.eraseIdx j):=by
 obtain⟨rb,H1⟩:=Holds.ex (H.front j hj);obtain⟨v,H1⟩:=Holds.ex H1;obtain⟨rv,H1⟩:=Holds.ex H1;obtain⟨ring,H1⟩:=Holds.ex H1;obtain⟨ts,H1⟩:=Holds.ex H1;obtain⟨hp,H1⟩:=Holds.pure H1;exact⟨rb,v,rv,ring,ts,hp,Holds.unpack H1⟩
theorem Zbu {Q:HProp}{j rb:Nat}{v rv:Value}{ring:List Nat}{ts:List Q40.Te}(hj:L[j]?=some Q) (hp:ts.length=nt/\ring.length<=m/\∀ t∈ts,t.q.length<=m) (H:Holds w (Q40.ScL sb rb v rv ring ts++L.eraseIdx j)):Holds w (L.set j (SchR sb nt m)):=
 Sat.push j hj (Holds.imp (Holds.pack H) λh hh=>⟨rb,v,rv,ring,ts,hp,hh⟩)
theorem Zua {j t n:Nat}(H:Holds w L) (hj:L[j]?=some (SchR sb nt m)) (ht:t < nt) (hn:nt<=1000) (hm:m<=900) (k:∀ v w',Same w w'->Holds w' (L.set j (SchR sb nt (m+1)))->K v w'):Cl prog 113 #[ptr sb,nv t,nv n] w K:=by
 obtain⟨rb,v,rv,ring,ts,⟨h1,h2,h3⟩,H1⟩:=Zgh H hj;obtain⟨x,hx⟩:∃ x,ts[t]?=some x:=⟨_,gA (by omega)⟩;refine Q40.Add_spec hx H1 (by omega) (λy hy=>by have:=h3 y hy;omega) (by omega) (λw' _ S2 H2=>?_) λv' rv' w' _ S2 H2=>?_
 . exact k _ w' S2 (Zbu hj ⟨h1,by omega,λy hy=>by have:=h3 y hy;omega⟩ H2)
 . refine k _ w' S2 (Zbu hj ⟨by rw[length_set];exact h1,?_,λy hy=>?_⟩ H2)
   . split
     . omega
     . rw[gD,gQ];omega
   . rcases List.mem_or_eq_of_mem_set hy with hy|rfl
     . have:=h3 y hy;omega
     . have:=h3 x (mem_of_getElem? hx);show (x.q++[n]).length<=m+1;rw[gD,gQ];omega
theorem Zpb {j:Nat}(hj:L[j]?=some (SchR sb nt m)) (H:Holds w L):Holds w (L.set j (SchR sb nt (m+1))):=by
 obtain⟨rb,v,rv,ring,ts,⟨h1,h2,h3⟩,H1⟩:=Zgh H hj;exact Zbu hj ⟨h1,by omega,λt ht=>Nat.le_trans (h3 t ht) (Nat.le_succ m)⟩ H1
theorem Zo3 {j n:Nat}(H:Holds w L) (hj:L[j]?=some (SchR sb nt m)) (hn:nt<=1000) (hm:m<=900) (k:∀ v w',Same w w'->Holds w' (L.set j (SchR sb nt m))->K v w'):Cl prog 158 #[ptr sb,nv n] w K:=by
 obtain⟨rb,v,rv,ring,ts,⟨h1,h2,h3⟩,H1⟩:=Zgh H hj;have he:∀ (l:List Nat) (a:Nat),(l.erase a).length<=l.length:=λl a=>List.Sublist.length_le List.erase_sublist;refine Q40.Zjv H1 (by omega) (λy hy=>by have:=h3 y hy;omega) (by omega) (λw' _ S2 H2=>?_) (λi t v' rv' w' _ ht _ S2 H2=>?_) λi t v' w' _ ht _ S2 H2=>?_
 . exact k _ w' S2 (Zbu hj ⟨h1,h2,h3⟩ H2)
 . refine k _ w' S2 (Zbu hj ⟨by rw[length_set];exact h1,Nat.le_trans (he _ _) h2,λy hy=>?_⟩ H2);rcases List.mem_or_eq_of_mem_set hy with hy|rfl
   . exact h3 y hy
   . exact Nat.le_trans (he _ _) (h3 t (mem_of_getElem? ht))
 . refine k _ w' S2 (Zbu hj ⟨by rw[length_set];exact h1,h2,λy hy=>?_⟩ H2);rcases List.mem_or_eq_of_mem_set hy with hy|rfl
   . exact h3 y hy
   . exact Nat.le_trans (he _ _) (h3 t (mem_of_getElem? ht))
end
abbrev tMt:Nat:=137
abbrev tIw:Nat:=3
def MetR (bm sp:Nat) (qs:List Nat):HProp:=λh=>∃ q c t,Sat [blk bm tMt [nv sp,iv 0,q,c,t],SL nv tIw q qs,SL nv tIw c (List.replicate qs.length 0)] h
section
variable {bm sp:Nat}{qs:List Nat}
theorem Zg6 (H:Holds w L){j:Nat}(hj:L[j]?=some (MetR bm sp qs)):∃ q c t,Holds w (blk bm tMt [nv sp,iv 0,q,c,t]::SL nv tIw q qs::SL nv tIw c (List.replicate qs.length 0)::L.eraseIdx j):=by
 obtain⟨q,H1⟩:=Holds.ex (H.front j hj);obtain⟨c,H1⟩:=Holds.ex H1;obtain⟨t,H1⟩:=Holds.ex H1;exact⟨q,c,t,Holds.unpack (A:=[_,_,_]) H1⟩
theorem At_at {j:Nat}(H:Holds w L) (hj:L[j]?=some (MetR bm sp qs)) (k:K (iv 0) w):Cl prog 63 #[ptr bm] w K:=by
 refine Tz63 ?_;unfold Vz63;obtain⟨q,c,t,H1⟩:=Zg6 H hj;exact Za2 (r_vf (r_nc (r_fo0 (r_ld 0 H1 rfl rfl k))))
theorem Zut {j t x:Nat}(H:Holds w L) (hj:L[j]?=some (MetR bm sp qs)) (ht:qs[t]?=some x) (hx:x<=1099511627776) (k:∀ w',Same w w'->Holds w' L->K (nv x) w'):Cl prog 99 #[ptr bm,nv t] w K:=by
 have hlt:t < qs.length:=(gH.1 ht).1;refine Tz99 ?_;unfold Vz99;obtain⟨q,c,u,H1⟩:=Zg6 H hj;refine Tz102 ?_;unfold Vz102;obtain⟨oq,sq,hq,_⟩:=H1.open 1 rfl;refine Zag (r_vt (r_geq (r_vtD (by omega) (r_nc (r_fo0 (r_ld 0 H1 rfl rfl ?_))))));rw[hq];refine r_lnl (r_lss ?_);rw[decide_eq_true (by omega)];refine r_not (r_vf ?_);refine r_dr H λw2 S2 H2=>?_;obtain⟨q,c,u,H1⟩:=Zg6 H2 hj;obtain⟨oq,sq,hq,Hq⟩:=H1.open 1 rfl;obtain⟨oc,sc,hc,Hc⟩:=H1.open 2 rfl;refine r_nc (r_fo0 (r_ld 0 H1 rfl rfl ?_));rw[hq];refine Zht 1 Hq rfl (by omega) (Nat.le_refl _) ?_;rintro b2 rfl;refine Zi4 1 Hq rfl (x:=x) ht ?_;refine r_nc (r_fo0 (r_ld 0 H1 rfl rfl ?_));rw[hc];refine Zht 2 Hc rfl (by simpa using hlt) (Nat.le_refl _) ?_;rintro b3 rfl;refine Zi4 2 Hc rfl (x:=0) (by rw[List.getElem?_replicate_of_lt hlt]) ?_;refine r_sub (by omega) (by omega) ?_;have:=k _ S2 H2;rw[show nv x=.int .i64 ((x:Int) - ((0:Nat):Int)) by simp[nv]] at this;exact this
end
abbrev tLive:Nat:=119
abbrev tSv:Nat:=78
structure Px where
 hd:Nat
 id:Nat
 nd:Nat
 kd:Nat
 inp:List UInt8
 en:Bool
 rest:List UInt8
 head:List UInt8
 cr:Nat
 told:Nat
 lb:Nat
 jb:Nat
 fb:Nat
 sb:Nat
def LiveR (win ch:Nat) (y:Px):HProp:=λh=>Sat [blk y.lb tLive [ptr y.jb,ptr y.fb,ptr y.sb],JobQ y.kd y.jb win y.inp y.en y.head,blk y.fb tFlow (cellsW y.jb y.rest y.en y.inp.length),blk y.sb tStr (cellsR y.jb ch y.cr y.told)] h
section
variable {win ch:Nat}{y:Px}
theorem Zbk (H:Holds w (LiveR win ch y::L)):Holds w (blk y.lb tLive [ptr y.jb,ptr y.fb,ptr y.sb]::JobQ y.kd y.jb win y.inp y.en y.head::blk y.fb tFlow (cellsW y.jb y.rest y.en y.inp.length)::blk y.sb tStr (cellsR y.jb ch y.cr y.told)::L):=Holds.unpack (A:=[_,_,_,_]) H
theorem Zc2 (H:Holds w (blk y.lb tLive [ptr y.jb,ptr y.fb,ptr y.sb]::JobQ y.kd y.jb win y.inp y.en y.head::blk y.fb tFlow (cellsW y.jb y.rest y.en y.inp.length)::blk y.sb tStr (cellsR y.jb ch y.cr y.told)::L)):Holds w (LiveR win ch y::L):=Holds.pack (A:=[_,_,_,_]) H
end
structure Sx where
 b:Nat
 lm:Nat
 lv:Nat
 bj:Nat
 bl:Nat
 bm:Nat
 bt:Nat
 ln:Nat
 pa:Nat
 cb:Nat
 a:Option Addr
 c:Nat
def stN (t:Tn):Nat:=t.st.toNat
def linesF (ln:Nat) (k:Int):Option Value:=if k=0 then some (pt ln) else none
def SvL (s:Sx) (ts:List Tn) (n:Cf) (wt last:Nat) (acs:List Ac) (out B:List UInt8) (rows:List A40.Lv) (as_:List G40.Ak) (fv:Int->Option Value) (ys:List Px) (m:Nat):List HProp:=
 [blk s.b tSv (cellsC s.a ts.length s.c (cnF n)++[.map (some s.lm),.map (some s.lv),pt s.bj,pt s.bl,pt s.bm,pt s.bt]),RW cellsT 5 tT (.slice s.a ts.length s.c) ts,MD s.lm (linesF s.ln) 1,LnR s.ln s.pa s.cb wt out,blk s.pa tPa (paC B 0),
   ConR s.cb ts acs,A40.TabR s.bj n.jo last rows,G40.LedR s.bl as_,MetR s.bm n.sp (ts.map stN),MDe s.lv fv,SchR s.bt ts.length m,PkL (LiveR n.wi n.ch) ys]
def rowP (t:Nat) (y:Px):A40.Lv:=⟨0,y.id,t,y.nd,y.hd⟩
def livesF (ys:List Px) (k:Int):Option Value:=(ys.find? λy=>decide ((y.hd:Int)=k)).map λy=>pt y.lb
def lvP (wi:Nat) (y:Px):Lv:=⟨y.id,y.nd,wi - y.inp.length,y.head,y.cr⟩
abbrev tM88:Nat:=75
abbrev tM89:Nat:=76
section
variable {s:Sx}{ts:List Tn}{n:Cf}{wt last m t i:Nat}{acs:List Ac}{out B:List UInt8}{rows:List A40.Lv}{as_:List G40.Ak}{fv:Int->Option Value}{ys:List Px}{y:Px}
theorem Zj9 {t:Nat}:∀ {ys:List Px}{i q:Nat}{y:Px},ys[i]?=some y->ys.Pairwise (λa b=>a.hd≠b.hd)->A40.placeL (λx=>x.hd==y.hd) (ys.map (rowP t)) q=some (q+i)
 |[],i,q,y,h,_=>by simp at h
 |x::r,0,q,y,h,_=>by
   obtain rfl:x=y:=by simpa using h
   rw[hR_,A40.placeL,if_pos (by show (x.hd==x.hd)=true;simp)];rfl
 |x::r,i+1,q,y,h,hd=>by
   rw[pairwise_cons] at hd
   have hy:r[i]?=some y:=by simpa using h
   have hne:=hd.1 y (mem_of_getElem? hy);rw[hR_,A40.placeL,if_neg (by show ¬ (x.hd==y.hd)=true;simpa using hne),Zj9 hy hd.2]
   congr 1
   omega
theorem Zja:∀ {ys:List Px}{i:Nat}{y:Px},ys[i]?=some y->ys.Pairwise (λa b=>a.hd≠b.hd)->livesF ys (y.hd:Int)=some (pt y.lb)
 |[],i,y,h,_=>by simp at h
 |x::r,0,y,h,_=>by
   obtain rfl:x=y:=by simpa using h
   unfold livesF;rw[find?_cons_of_pos (by simp)];rfl
 |x::r,i+1,y,h,hd=>by
   rw[pairwise_cons] at hd
   have hy:r[i]?=some y:=by simpa using h
   have hne:=hd.1 y (mem_of_getElem? hy);have:=Zja hy hd.2;unfold livesF at this ⊢;rw[find?_cons_of_neg (by simpa using λe=>hne (by omega))];exact this
theorem Zta {ys:List Px}{i q:Nat}{y z:Px}(h:ys[i]?=some y) (hz:ys[q]?=some z) (hq:i < q) (hd:ys.Pairwise (λa b=>a.hd≠b.hd)):z.hd≠y.hd:=by
 obtain⟨h1,e1⟩:=gH.1 h;obtain⟨h2,e2⟩:=gH.1 hz;have:=List.pairwise_iff_getElem.1 hd i q h1 h2 hq;rw[e1,e2] at this;exact λe=>this e.symm
theorem Zi0 (H:Holds w (SvL s ts n 0 last acs out B (ys.map (rowP t)) as_ (livesF ys) ys m++L)) (hy:ys[i]?=some y) (hd:ys.Pairwise (λa b=>a.hd≠b.hd)) (hl:ys.length<=900) (ht:t < ts.length) (hts:ts.length<=1000) (hm:m<=900)
   (h6:n.wi<=1048576) (hi:y.inp.length<=n.wi) (hfull:y.rest=[]\/y.inp.length=n.wi) (hen:y.en=true->y.rest=[]) (hr:y.rest.length<=65536) (hh:y.told+y.head.length<=4) (hc:y.cr<=1099511627776) (hid:y.id<=4294967295) (hch:n.ch<=4096) (ho:out.length<=100000000)
   (k:∀ head cr told out' w',chunksF n.ch 5 (lvP n.wi y) out=(lvP n.wi { y with head:=head,cr:=cr },out')->told+head.length<=4->cr<=y.cr->out'.length<=out.length+40->min (min head.length cr) n.ch=0->Same w w'->
     Holds w' (SvL s ts n (if y.rest=[] then 0 else y.hd) last acs out' B (ys.map (rowP t)) as_ (livesF ys) (ys.set i { y with head:=head,cr:=cr,told:=told }) (m+1)++L)->K (.tuple #[]) w') :
   Cl prog 60 #[pt s.b,nv y.hd] w K:=by
 have hlt:i < ys.length:=(gH.1 hy).1;have hpl:=Zj9 (t:=t) (q:=0) hy hd;rw[Nat.zero_add] at hpl
 have hrow:(ys.map (rowP t))[i]?=some (rowP t y):=by rw[hV_,hy];rfl
 refine Tz60 ?_;unfold Vz60;refine r_nc (r_fo0 (r_ld 0 H rfl rfl ?_));refine A40.Zwk (j:=6) H rfl (by simpa using (by omega:ys.length<=1000)) hpl hrow λw1 S1 H1=>?_;refine Za4 (Za3 ?_);refine r_new H1 λeb w2 S2 H2=>?_;rw[A40.Zg1] at H2;refine r_stA 0 H2 (vs:=A40.cellsY (rowP t y)) rfl (Nat.le_refl 4) rfl rfl λw3 S3 H3=>?_;replace H3:Holds w3 (blk eb A40.tEy (A40.cellsY (rowP t y))::(SvL s ts n 0 last acs out B (ys.map (rowP t)) as_ (livesF ys) ys m++L)):=H3;refine r_dr H3 λw4 S4 H4=>?_;have S:=S1.trans (S2.trans (S3.trans S4));clear S1 S2 S3 S4 H H1 H2 H3;refine r_nc (r_fo0 (r_ld 1 H4 rfl rfl ?_));refine r_lkE (t:=tM89) (kt:=tIw) (et:=114) (x:=.p none) (z:=.pointer none) (by kernel_rfl) (by kernel_rfl) (by kernel_rfl) rfl 10 H4 rfl ?_;rw[Zja hy hd];refine r_nc (r_fo0 (r_ld 1 H4 rfl rfl (r_fo0 (r_ld 0 H4 rfl rfl ?_))));refine r_lkD (t:=tM88) (kt:=tIw) (et:=80) (x:=.p none) (z:=.pointer none) (k:=0) (by kernel_rfl) (by kernel_rfl) (by kernel_rfl) rfl 3 H4 rfl ?_
 have H5:=Zbk (Holds.atK H4 12 rfl hy);refine r_nc (r_fo0 (r_ld 0 H5 rfl rfl ?_))
 let M:List HProp:=blk y.lb tLive [ptr y.jb,ptr y.fb,ptr y.sb]::blk y.sb tStr (cellsR y.jb n.ch y.cr y.told)::Sat ((ys.map (LiveR n.wi n.ch)).eraseIdx i)::(blk eb A40.tEy (A40.cellsY (rowP t y))::(SvL s ts n 0 last acs out B (ys.map (rowP t)) as_ (livesF ys) ys m++L)).eraseIdx 12
 have H6:Holds w4 (blk y.fb tFlow (cellsW y.jb y.rest y.en y.inp.length)::JobQ y.kd y.jb n.wi y.inp y.en y.head::M):=(by have h_:=Holds.ord 4 [2,1,0,3] H5 rfl;exact h_);refine r_cl (K:=λv w'=>Same w w'/\Holds w' (blk y.fb tFlow (cellsW y.jb y.rest y.en y.inp.length)::JobQ y.kd y.jb n.wi y.inp y.en y.head::M)) ?_ ?_
 . cases hen2:y.en with
   |true=>
     have hr0:=hen hen2;rw[hen2,hr0] at H6;refine Zgj H6 h6 hi (by omega) λw5 S5 H7=>⟨S.trans S5,?_⟩;rw[hr0];exact H7
   |false=>
     rw[hen2] at H6
     have hz:min y.rest.length (n.wi - y.inp.length)=0:=by
       rcases hfull with h|h
       . rw[h];simp
       . omega
     refine Zhx H6 h6 hi (by omega) (by omega) λw5 S5 H7=>⟨S.trans S5,?_⟩;rw[hz,List.drop_zero,List.take_zero,gU] at H7;exact H7
 rintro v w5 ⟨S5,H7⟩;clear H4 H5 H6 S
 let N (wt:Nat) (out:List UInt8) (y:Px):List HProp:=blk y.fb tFlow (cellsW y.jb y.rest y.en y.inp.length)::JobQ y.kd y.jb n.wi y.inp y.en y.head::blk y.lb tLive [ptr y.jb,ptr y.fb,ptr y.sb]::blk y.sb tStr (cellsR y.jb n.ch y.cr y.told)::Sat ((ys.map (LiveR n.wi n.ch)).eraseIdx i)::(blk eb A40.tEy (A40.cellsY (rowP t y))::(SvL s ts n wt last acs out B (ys.map (rowP t)) as_ (livesF ys) ys m++L)).eraseIdx 12
 replace H7:Holds w5 (N 0 out y):=H7;refine Zd8 (λw'=>Same w w'/\Holds w' (N (if y.rest=[] then 0 else y.hd) out y)) ?_ ?_
 rotate_left
 . refine r_nc (r_fo0 (r_ld 2 H7 rfl rfl ?_));refine Zne H7 (r_gtr (r_ifD (λh=>?_) λh=>?_))
   . have hne:y.rest≠[]:=λe=>by rw[e] at h;exact absurd h (by decide)
     obtain⟨p,v,hp,H8⟩:=Zar (j:=9) H7 rfl;refine r_nc (r_fo0 (r_st 0 H8 rfl (by show 5 < 7;decide) rfl λw6 S6 H9=>?_));refine r_ke ⟨S5.trans S6,?_⟩;rw[if_neg hne];exact Zec (L:=N 0 out y) (j:=9) (wt:=y.hd) rfl hp H9
   . have he:y.rest=[]:=List.eq_nil_of_length_eq_zero (by omega);obtain⟨p,v,hp,H8⟩:=Zar (j:=9) H7 rfl;refine r_nc (r_fo0 (r_ld 0 H8 rfl rfl (r_eql (r_ifE (λh=>?_) λh=>?_))))
     . refine r_nc (r_fo0 (r_st 0 H8 rfl (by show 5 < 7;decide) rfl λw6 S6 H9=>?_));refine r_ke ⟨S5.trans S6,?_⟩;rw[if_pos he];exact Zec (L:=N 0 out y) (j:=9) (wt:=0) rfl hp H9
     . refine r_ke ⟨S5,?_⟩;rw[if_pos he];exact H7
 clear H7 S5;generalize (if y.rest=[] then 0 else y.hd)=wt at k;rintro _ w6 ⟨S,H⟩
 refine Zsd (λf w'=>∃ (head:List UInt8) (cr told:Nat) (out':List UInt8),head.length+1<=f/\f<=5/\chunksF n.ch f (lvP n.wi { y with head:=head,cr:=cr }) out'=chunksF n.ch 5 (lvP n.wi y) out/\told+head.length<=4/\cr<=y.cr/\
     out'.length+10*head.length<=out.length+10*y.head.length/\Same w w'/\Holds w' (N wt out' { y with head:=head,cr:=cr,told:=told })) 5 ⟨y.head,y.cr,y.told,out,by omega,Nat.le_refl 5,rfl,hh,Nat.le_refl _,Nat.le_refl _,S,H⟩ ?_
 clear S H;rintro _ f w7 J ⟨head,cr,told,out1,hf1,hf5,hchk,htold,hcr,hlen,S,H⟩ hnext;obtain⟨f,rfl⟩:∃ g,f=g+1:=⟨f - 1,by omega⟩;have H':Holds w7 (blk y.sb tStr (cellsR y.jb n.ch cr told)::JobQ y.kd y.jb n.wi y.inp y.en head::blk y.fb tFlow (cellsW y.jb y.rest y.en y.inp.length)::blk y.lb tLive [ptr y.jb,ptr y.fb,ptr y.sb]::Sat ((ys.map (LiveR n.wi n.ch)).eraseIdx i)::(blk eb A40.tEy (A40.cellsY (rowP t y))::(SvL s ts n wt last acs out1 B (ys.map (rowP t)) as_ (livesF ys) ys m++L)).eraseIdx 12):=(by have h_:=Holds.ord 4 [3,1,0,2] H rfl;exact h_);refine r_nc (r_fo0 (r_ld 3 H' rfl rfl ?_));refine Zlf H' (by omega) (by omega) (λh0 w8 S8 H8=>?_) λq w8 hq hq0 S8 H8=>?_
 . refine Za4 (Za3 (r_not (r_vt ?_)));replace S:=S.trans S8;clear S8 H H';have H9:Holds w8 (JobQ y.kd y.jb n.wi y.inp y.en head::blk y.sb tStr (cellsR y.jb n.ch cr told)::blk y.fb tFlow (cellsW y.jb y.rest y.en y.inp.length)::blk y.lb tLive [ptr y.jb,ptr y.fb,ptr y.sb]::Sat ((ys.map (LiveR n.wi n.ch)).eraseIdx i)::(blk eb A40.tEy (A40.cellsY (rowP t y))::(SvL s ts n wt last acs out1 B (ys.map (rowP t)) as_ (livesF ys) ys m++L)).eraseIdx 12):=H8.swap
   have hres:chunksF n.ch 5 (lvP n.wi y) out=(lvP n.wi { y with head:=head,cr:=cr },out1):=by
     rw[<-hchk,chunksF];show (if min (min head.length cr) n.ch=0 then _ else _)=_;rw[if_pos h0]
   have fin:∀ m' w',Same w w'->m'=m+1->Holds w' (JobQ y.kd y.jb n.wi y.inp y.en head::blk y.sb tStr (cellsR y.jb n.ch cr told)::blk y.fb tFlow (cellsW y.jb y.rest y.en y.inp.length)::blk y.lb tLive [ptr y.jb,ptr y.fb,ptr y.sb]::Sat ((ys.map (LiveR n.wi n.ch)).eraseIdx i)::(blk eb A40.tEy (A40.cellsY (rowP t y))::(SvL s ts n wt last acs out1 B (ys.map (rowP t)) as_ (livesF ys) ys m'++L)).eraseIdx 12)->K (.tuple #[]) w':=by
     rintro m' w' Sz rfl Hz;have Ha:Holds w' (blk y.lb tLive [ptr y.jb,ptr y.fb,ptr y.sb]::JobQ y.kd y.jb n.wi y.inp y.en head::blk y.fb tFlow (cellsW y.jb y.rest y.en y.inp.length)::blk y.sb tStr (cellsR y.jb n.ch cr told)::Sat ((ys.map (LiveR n.wi n.ch)).eraseIdx i)::(blk eb A40.tEy (A40.cellsY (rowP t y))::(SvL s ts n wt last acs out1 B (ys.map (rowP t)) as_ (livesF ys) ys (m+1)++L)).eraseIdx 12):=(by have h_:=Holds.ord 4 [3,0,2,1] Hz rfl;exact h_);have Hb:=Holds.putK (L:=blk eb A40.tEy (A40.cellsY (rowP t y))::(SvL s ts n wt last acs out1 B (ys.map (rowP t)) as_ (livesF ys) ys (m+1)++L)) 12 rfl hy (Zc2 (y:={ y with head:=head,cr:=cr,told:=told }) Ha);refine k head cr told out1 w' hres htold hcr (by omega) h0 Sz ?_;exact Hb.drop
   refine Za0 (λx w'=>w8=w'/\x=.bool false) ?_ ?_
   rotate_left
   . exact r_nc (r_fo0 (r_ld 3 H9 rfl rfl (Zdr H9 (r_vf (r_ke ⟨rfl,rfl⟩)))))
   rintro _ _ _ ⟨rfl,rfl⟩;refine r_vf (r_nc (r_fo0 (r_ld 3 H9 rfl rfl (Zdr H9 (r_vf (r_nc (r_fo0 (r_ld 3 H9 rfl rfl ?_))))))));refine Zia H9 λz w9 S9 H10=>?_;refine r_not ?_
   cases z with
   |true=>
     refine r_vf ?_;have H11:=Zpb (j:=16) (by rfl) H10;exact fin (m+1) w9 (S.trans S9) rfl H11
   |false=>
     refine r_vt (r_dr H10 λw10 S10 H11=>?_);refine r_nc (r_fo0 (r_ld 6 H11 rfl rfl (r_fo0 (r_ld 5 H11 rfl rfl ?_))));refine Zua (j:=16) H11 rfl ht hts hm λv w11 S11 H12=>?_;exact fin (m+1) w11 (S.trans (S9.trans (S10.trans S11))) rfl H12
 . refine Za4 (Za3 (r_not (r_vf ?_)));have H9:Holds w8 (N wt out1 { y with head:=head.drop q,cr:=cr - q,told:=told+q }):=(by have h_:=Holds.ord 4 [2,1,3,0] H8 rfl;exact h_);refine r_fo0 (r_ld 5 H9 rfl rfl ?_);refine r_bd (v:=.agg (cellsN 66 y.id (head.take q) 0).toArray) (by kernel_rfl) ?_
   have hql:q<=head.length:=by omega
   have htl:(head.take q).length=q:=by rw[gN];omega
   refine Zea (j:=9) (out:=out1) (wt:=wt) (pa:=s.pa) (cb:=s.cb) (da:=head.take q) H9 rfl hid (by omega) (.inl ⟨.inr rfl,rfl,rfl⟩) (by omega) λw9 S9 H10=>?_;refine r_ke (hnext f w9 (Nat.lt_succ_self f) ⟨head.drop q,cr - q,told+q,out1++encF ⟨66,y.id,head.take q⟩,?_,by omega,?_,?_,by omega,?_,S.trans (S8.trans S9),H10⟩)
   . rw[gS];omega
   . rw[<-hchk]
     conv=>rhs;rw[chunksF]
     show _=(if min (min head.length cr) n.ch=0 then _ else _);rw[<-hq,if_neg hq0];show _=chunksF n.ch f { id:=y.id,need:=y.nd,room:=n.wi - y.inp.length,head:=head.drop (min (min head.length cr) n.ch),cr:=cr - min (min head.length cr) n.ch } (out1++encF ⟨66,y.id,head.take (min (min head.length cr) n.ch)⟩);rw[<-hq];rfl
   . rw[gS];omega
   . rw[gD,Zay,gS];show out1.length+(9+(head.take q).length)+_<=_;omega
end
end F33
namespace F33
open Go.M31 J30 J31 J32
variable {w:World}{L:List HProp}{K:KT}
section
variable {s:Sx}{ts:List Tn}{n:Cf}{wt last m t i:Nat}{acs:List Ac}{out B:List UInt8}{as_:List G40.Ak}{ys:List Px}{y:Px}{a:G40.Ak}
theorem Zkp:∀ {ys:List Px}{i:Nat}{y:Px},ys[i]?=some y->ys.Pairwise (λa b=>a.hd≠b.hd)->(λk:Int=>if k=(y.hd:Int) then none else livesF ys k)=livesF (ys.eraseIdx i)
 |[],i,y,h,_=>by simp at h
 |x::r,0,y,h,hd=>by
   obtain rfl:x=y:=by simpa using h
   rw[pairwise_cons] at hd
   funext k
   show _=livesF r k
   by_cases e:k=(x.hd:Int)
   . rw[if_pos e];unfold livesF;rw[List.find?_eq_none.2]
     . rfl
     . intro z hz;have:=hd.1 z hz;simp;omega
   . rw[if_neg e];unfold livesF;rw[find?_cons_of_neg (by simpa using λq=>e q.symm)]
 |x::r,i+1,y,h,hd=>by
   rw[pairwise_cons] at hd
   have hy:r[i]?=some y:=by simpa using h
   have hne:=hd.1 y (mem_of_getElem? hy);have ih:=Zkp hy hd.2
   funext k
   have ih':=congrFun ih k;rw[List.eraseIdx_cons_succ];unfold livesF at ih' ⊢
   by_cases e:(x.hd:Int)=k
   . rw[find?_cons_of_pos (by simpa using e),find?_cons_of_pos (by simpa using e),if_neg (by omega)]
   . rw[find?_cons_of_neg (by simpa using e),find?_cons_of_neg (by simpa using e)];exact ih'
theorem Zrh (H:Holds w (SvL s ts n 0 last acs out B (ys.map (rowP t)) as_ (livesF ys) ys m++L)) (hy:ys[i]?=some y) (hd:ys.Pairwise (λa b=>a.hd≠b.hd)) (h1:1<=y.hd) (hl:ys.length<=900) (hts:ts.length<=1000) (hm:m<=900)
   (ha:as_[t]?=some a) (hu:y.nd<=a.us) (hus:a.us<=1099511627776)
   (k:∀ w',Same w w'->Holds w' (SvL s ts n 0 last acs out B ((ys.eraseIdx i).map (rowP t)) (as_.set t ⟨a.li,a.us - y.nd,a.pk⟩) (livesF (ys.eraseIdx i)) (ys.eraseIdx i) m++L)->K (.tuple #[]) w') :
   Cl prog 112 #[pt s.b,nv y.hd] w K:=by
 have hpl:=Zj9 (t:=t) (q:=0) hy hd;rw[Nat.zero_add] at hpl
 have hrow:(ys.map (rowP t))[i]?=some (rowP t y):=by rw[hV_,hy];rfl
 refine Tz112 ?_;unfold Vz112;refine r_nc (r_fo0 (r_ld 0 H rfl rfl ?_));refine A40.Zvl (j:=6) H rfl (by simpa using (by omega:ys.length<=1000)) hpl hrow (λq z hz hq=>?_) λw1 S1 H1=>?_
 . rw[hV_] at hz
   cases hq2:ys[q]? with
   |none=>rw[hq2] at hz;cases hz
   |some z'=>
     rw[hq2] at hz;obtain rfl:=Option.some.inj hz;exact Zta hy hq2 hq hd
 have hmap:(ys.map (rowP t)).eraseIdx i=(ys.eraseIdx i).map (rowP t):=by
   have e:∀ (xs:List Px) (j:Nat),(xs.map (rowP t)).eraseIdx j=(xs.eraseIdx j).map (rowP t):=by
     intro xs
     induction xs with
     |nil=>intro j;rfl
     |cons x r ih=>intro j;cases j with
       |zero=>rfl
       |succ j=>simp[ih]
   exact e ys i
 rw[hmap] at H1;replace H1:Holds w1 (SvL s ts n 0 last acs out B ((ys.eraseIdx i).map (rowP t)) as_ (livesF ys) ys m++L):=H1;refine Za4 (Za3 ?_);refine r_new H1 λeb w2 S2 H2=>?_;rw[A40.Zg1] at H2;refine r_stA 0 H2 (vs:=A40.cellsY (rowP t y)) rfl (Nat.le_refl 4) rfl rfl λw3 S3 H3=>?_;replace H3:Holds w3 (blk eb A40.tEy (A40.cellsY (rowP t y))::(SvL s ts n 0 last acs out B ((ys.eraseIdx i).map (rowP t)) as_ (livesF ys) ys m++L)):=H3;refine r_nc (r_fo0 (r_ld 1 H3 rfl rfl ?_));refine Zo3 (j:=11) H3 rfl hts hm λv w4 S4 H4=>?_;replace H4:Holds w4 (blk eb A40.tEy (A40.cellsY (rowP t y))::(SvL s ts n 0 last acs out B ((ys.eraseIdx i).map (rowP t)) as_ (livesF ys) ys m++L)):=H4;refine r_dr H4 λw5 S5 H5=>?_;refine r_nc (r_fo0 (r_ld 1 H5 rfl rfl (r_fo0 (r_ld 0 H5 rfl rfl (r_fo0 (r_ld 0 H5 rfl rfl ?_))))));refine G40.Zny (j:=8) H5 rfl ha hu hus λw6 S6 H6=>?_;replace H6:Holds w6 (blk eb A40.tEy (A40.cellsY (rowP t y))::(SvL s ts n 0 last acs out B ((ys.eraseIdx i).map (rowP t)) (as_.set t ⟨a.li,a.us - y.nd,a.pk⟩) (livesF ys) ys m++L)):=H6;refine r_nc (r_fo0 (r_ld 1 H6 rfl rfl ?_));refine Zwr (kt:=tIw) (et:=114) (by kernel_rfl) (by kernel_rfl) 10 H6 rfl λw7 S7 H7=>?_;rw[Zkp hy hd] at H7;replace H7:Holds w7 (blk eb A40.tEy (A40.cellsY (rowP t y))::(SvL s ts n 0 last acs out B ((ys.eraseIdx i).map (rowP t)) (as_.set t ⟨a.li,a.us - y.nd,a.pk⟩) (livesF (ys.eraseIdx i)) ys m++L)):=H7;refine r_dr H7 λw8 S8 H8=>?_;refine r_nc (r_fo0 (r_ld 1 H8 rfl rfl (r_fo0 (r_ld 0 H8 rfl rfl ?_))));refine r_lkD (t:=tM88) (kt:=tIw) (et:=80) (x:=.p none) (z:=.pointer none) (k:=0) (by kernel_rfl) (by kernel_rfl) (by kernel_rfl) rfl 3 H8 rfl ?_;obtain⟨p,v,hp,H9⟩:=Zar (j:=4) H8 rfl;refine r_nc (r_fo0 (r_ld 0 H9 rfl rfl (r_eql (r_vfE (by show ¬ (0:Int)=(y.hd:Int);omega) ?_))));have H10:=Holds.delK (L:=blk eb A40.tEy (A40.cellsY (rowP t y))::(SvL s ts n 0 last acs out B ((ys.eraseIdx i).map (rowP t)) (as_.set t ⟨a.li,a.us - y.nd,a.pk⟩) (livesF (ys.eraseIdx i)) ys m++L)) 12 rfl (Holds.atK H8 12 rfl hy);exact k w8 (S1.trans (S2.trans (S3.trans (S4.trans (S5.trans (S6.trans (S7.trans S8))))))) H10.drop
theorem Zin {rows:List A40.Lv}{fv:Int->Option Value}{need:Nat}(H:Holds w (SvL s ts n wt last acs out B rows as_ fv ys m++L)) (hr:rows.length<=900) (ha:as_[t]?=some a) (hu:a.us<=a.li) (hl:a.li<=1099511627776)
   (k1:a.li < need->∀ w',Same w w'->Holds w' (SvL s ts n wt last acs out B rows as_ fv ys m++L)->K (iv 33) w')
   (k2:¬ a.li < need->(rows.length=n.jo\/a.li - a.us < need)->∀ w',Same w w'->Holds w' (SvL s ts n wt last acs out B rows as_ fv ys m++L)->K (iv 34) w')
   (k3:¬ a.li < need->¬ (rows.length=n.jo\/a.li - a.us < need)->∀ w',Same w w'->Holds w' (SvL s ts n wt last acs out B rows (as_.set t ⟨a.li,a.us+need,max a.pk (a.us+need)⟩) fv ys m++L)->K (iv 0) w') :
   Cl prog 176 #[pt s.b,nv t,nv need] w K:=by
 refine Tz176 ?_;unfold Vz176;refine r_nc (r_fo0 (r_ld 0 H rfl rfl ?_));refine G40.Zn8 (j:=7) H rfl ha λw1 S1 H1=>?_;refine r_gtr (r_ifD (λh=>k1 (by omega) w1 S1 H1) λh=>?_);refine r_dr H1 λw2 S2 H2=>?_;refine r_nc (r_fo0 (r_ld 0 H2 rfl rfl ?_));refine A40.Zwf (j:=6) H2 rfl ?_;refine r_nc (r_fo0 (r_fo0 (r_ld 0 H2 rfl rfl (r_rk (r_ld 0 H2 rfl rfl rfl) (r_eql (r_ifE (λh2=>?_) λh2=>?_))))))
 . exact k2 (by omega) (.inl (by have:(rows.length:Int)=(n.jo:Int):=h2;omega)) w2 (S1.trans S2) H2
 have hne:¬ rows.length=n.jo:=λe=>h2 (by show (rows.length:Int)=(n.jo:Int);omega);refine r_nc (r_fo0 (r_ld 0 H2 rfl rfl ?_));refine G40.Zoc (j:=7) H2 rfl ha (by omega) hu hl (λg w3 S3 H3=>?_) λg w3 S3 H3=>?_
 . exact k2 (by omega) (.inr g) w3 (S1.trans (S2.trans S3)) H3
 . exact k3 (by omega) (by omega) w3 (S1.trans (S2.trans S3)) H3
theorem Zgi {z:Px}(hz:∀ y∈ys,y.hd≠z.hd):(λk:Int=>if k=(z.hd:Int) then some (pt z.lb) else livesF ys k)=livesF (ys++[z]):=by
 funext k
 unfold livesF;rw[List.find?_append]
 by_cases e:k=(z.hd:Int)
 . rw[if_pos e,List.find?_eq_none.2 (by intro y hy;have:=hz y hy;simp;omega)];simp[e]
 . rw[if_neg e]
   have:[z].find? (λy=>decide ((y.hd:Int)=k))=none:=by
     rw[find?_cons_of_neg (by simpa using λq=>e q.symm)];rfl
   rw[this,Option.or_none]
theorem Zhs {t id:Nat}:∀ {ys:List Px}{q:Nat},(∀ y∈ys,y.id≠id)->A40.placeL (λx=>x.cn==0&&x.id==id) (ys.map (rowP t)) q=none
 |[],q,_=>rfl
 |x::r,q,h=>by
   rw[hR_,A40.placeL,if_neg,Zhs λy hy=>h y (hK_ _ hy)];have:=h x (hJ_ ..);show ¬ (true&&(x.id==id))=true;simpa using this
theorem Zlb {jb kd lv nd lb j f st:Nat}{as2:List G40.Ak}
   (H:Holds w (blk lb tLive [ptr j,ptr f,ptr st]::JobQ kd j n.wi [] false (headF kd lv)::blk f tFlow (cellsW j [] false 0)::blk st tStr (cellsR j n.ch 0 0) ::
     (SvL s ts n 0 (last+1) acs out B (ys.map (rowP t)++[⟨0,jb,t,nd,last+1⟩]) as2 (λk:Int=>if k=((last+1:Nat):Int) then some (pt lb) else livesF ys k) ys m++L)))
   (hd:ys.Pairwise (λa b=>a.hd≠b.hd)) (hhd:∀ y∈ys,y.hd<=last) (hl:ys.length<=800) (htl:t < ts.length) (hts:ts.length<=1000) (hm:m<=900)
   (g4:n.wi<=1048576) (g6:n.ch<=4096) (hjb:jb<=4294967295) (ho:out.length<=100000000)
   (k3:∀ (z:Px) w',z.hd=last+1->z.id=jb->z.nd=nd->z.inp=[]->z.en=false->z.rest=[]->z.head=headF kd lv->z.cr=0->z.told+z.head.length<=4->Same w w'->
     Holds w' (SvL s ts n 0 (last+1) acs out B ((ys++[z]).map (rowP t)) as2 (livesF (ys++[z])) (ys++[z]) (m+1)++L)->K (.tuple #[]) w') :
   Cl prog 60 #[pt s.b,nv (last+1)] w K:=by
 let z:Px:=⟨last+1,jb,nd,kd,[],false,[],headF kd lv,0,0,lb,j,f,st⟩
 have hzn:∀ y∈ys,y.hd≠z.hd:=λy hy=>by have:=hhd y hy;show y.hd≠last+1;omega
 have hfv:(λk:Int=>if k=((last+1:Nat):Int) then some (pt lb) else livesF ys k)=livesF (ys++[z]):=Zgi hzn;rw[hfv] at H;have H15:=Holds.addK (L:=SvL s ts n 0 (last+1) acs out B (ys.map (rowP t)++[⟨0,jb,t,nd,last+1⟩]) as2 (livesF (ys++[z])) ys m++L) (y:=z) 11 rfl (Zc2 (y:=z) H)
 have hrows:ys.map (rowP t)++[⟨0,jb,t,nd,last+1⟩]=(ys++[z]).map (rowP t):=by rw[map_append];rfl
 rw[hrows] at H15;replace H15:Holds w (SvL s ts n 0 (last+1) acs out B ((ys++[z]).map (rowP t)) as2 (livesF (ys++[z])) (ys++[z]) m++L):=H15
 have hzi:(ys++[z])[ys.length]?=some z:=by rw[gT (Nat.le_refl _),Nat.sub_self];rfl
 have hzh:z.head.length<=4:=by
   show (headF kd lv).length<=4;unfold headF;split
   . exact Nat.le_refl 4
   . exact Nat.zero_le 4
 have hdz:(ys++[z]).Pairwise (λa b=>a.hd≠b.hd):=by
   rw[List.pairwise_append];refine⟨hd,List.pairwise_singleton _ _,λx hx y hy=>?_⟩;rw[mem_singleton] at hy;rw[hy];exact hzn x hx
 refine Zi0 (i:=ys.length) (y:=z) H15 hzi hdz (by rw[gD,gQ];omega) htl hts hm g4 (Nat.zero_le _) (.inl rfl) (λe=>by cases e) (by show 0<=_;omega) (by show 0+z.head.length<=4;omega) (by show 0<=_;omega) hjb g6 ho λhead cr told out' w14 hch htold hcr _ _ S14 H16=>?_
 have h0:chunksF n.ch 5 (lvP n.wi z) out=(lvP n.wi z,out):=by
   rw[chunksF];show (if min (min z.head.length 0) n.ch=0 then _ else _)=_;rw[if_pos (by omega)]
 rw[h0] at hch;have e1:z.head=head:=congrArg (λp:Lv × List UInt8=>p.1.head) hch;have e2:(0:Nat)=cr:=congrArg (λp:Lv × List UInt8=>p.1.cr) hch;have e3:out=out':=congrArg (λp:Lv × List UInt8=>p.2) hch;subst e2 e3
 have hset:(ys++[z]).set ys.length { z with head:=head,cr:=0,told:=told }=ys++[{ z with told:=told }]:=by
   rw[List.set_append_right _ _ (Nat.le_refl _),Nat.sub_self,gJ,<-e1]
 rw[hset] at H16
 have hr2:(ys++[z]).map (rowP t)=(ys++[{ z with told:=told }]).map (rowP t):=by rw[map_append,map_append];rfl
 have hf2:livesF (ys++[z])=livesF (ys++[{ z with told:=told }]):=by
   rw[<-Zgi hzn];exact Zgi (z:={ z with told:=told }) hzn
 rw[hr2,hf2] at H16;refine k3 { z with told:=told } w14 rfl rfl rfl rfl rfl rfl rfl rfl (by show told+z.head.length<=4;rw[e1];exact htold) S14 H16
theorem Zrb {jb kd lv:Nat}{tn:Tn}(H:Holds w (SvL s ts n 0 last acs out B (ys.map (rowP t)) as_ (livesF ys) ys m++L)) (hd:ys.Pairwise (λa b=>a.hd≠b.hd)) (hhd:∀ y∈ys,y.hd<=last) (hid:∀ y∈ys,y.id≠jb) (hl:ys.length<=800) (hts:ts.length<=1000) (hm:m<=900) (hla:last<=1000)
   (hwho:whoD acs=some (t:Int)) (htn:ts[t]?=some tn) (ha:as_[t]?=some a) (hu:a.us<=a.li) (hli:a.li<=1099511627776) (hk:kd=1/\1<=lv/\lv<=9\/(kd=2\/kd=3)/\lv=0)
   (g1:24<=n.un) (g2:n.un<=100000) (g3:64<=n.wi) (g4:n.wi<=1048576) (g5:1<=n.ch) (g6:n.ch<=4096) (hjb:jb<=4294967295) (ho:out.length<=100000000)
   (k1:a.li < needF n kd lv->∀ w',Same w w'->Holds w' (SvL s ts n 0 last acs (out++encF ⟨69,jb,[33]⟩) B (ys.map (rowP t)) as_ (livesF ys) ys m++L)->K (.tuple #[]) w')
   (k2:¬ a.li < needF n kd lv->(ys.length=n.jo\/a.li - a.us < needF n kd lv)->∀ w',Same w w'->Holds w' (SvL s ts n 0 last acs (out++encF ⟨69,jb,[34]⟩) B (ys.map (rowP t)) as_ (livesF ys) ys m++L)->K (.tuple #[]) w')
   (k3:¬ a.li < needF n kd lv->¬ (ys.length=n.jo\/a.li - a.us < needF n kd lv)->∀ (z:Px) w',z.hd=last+1->z.id=jb->z.nd=needF n kd lv->z.inp=[]->z.en=false->z.rest=[]->z.head=headF kd lv->z.cr=0->z.told+z.head.length<=4->Same w w'->
     Holds w' (SvL s ts n 0 (last+1) acs out B ((ys++[z]).map (rowP t)) (as_.set t ⟨a.li,a.us+needF n kd lv,max a.pk (a.us+needF n kd lv)⟩) (livesF (ys++[z])) (ys++[z]) (m+1)++L)->K (.tuple #[]) w') :
   Cl prog 131 #[pt s.b,pt s.ln,.agg (cellsA ⟨3,(jb:Int),0,(kd:Int),(lv:Int),0,BA [],0⟩).toArray] w K:=by
 have htl:t < ts.length:=(gH.1 htn).1;rw[Zvz] at k1 k2 k3;refine Tz131 ?_;unfold Vz131;refine r_new H λab w1 S1 H1=>?_;replace H1:Holds w1 (blk ab tAc (cellsA ⟨3,(jb:Int),0,(kd:Int),(lv:Int),0,BA [],0⟩)::(SvL s ts n 0 last acs out B (ys.map (rowP t)) as_ (livesF ys) ys m++L)):=H1;obtain⟨p,v,hp,H2⟩:=Zar (j:=4) H1 rfl;refine r_nc (r_fo0 (r_ld 0 H2 rfl rfl ?_));refine Zjx (j:=6) H1 rfl ?_;rw[hwho];show Dr _ _;refine r_dr H1 λw2 S2 H2=>?_;refine r_fo0 (r_ld 0 H2 rfl rfl (r_fo0 (r_ld 0 H2 rfl rfl (r_nc (r_fo0 (r_fo0 (r_ld 1 H2 rfl rfl (r_nc (r_fo0 (r_fo0 (r_ld 1 H2 rfl rfl ?_)))))))))));refine Zor (kd:=kd) (lv:=lv) (u:=n.un) (wi:=n.wi) H2 hk g1 g2 g3 g4 λw3 S3 H3=>?_;refine Za4 (Za3 ?_);have S:=S1.trans (S2.trans S3);have H3s:Holds w3 (SvL s ts n 0 last acs out B (ys.map (rowP t)) as_ (livesF ys) ys m++(blk ab tAc (cellsA ⟨3,(jb:Int),0,(kd:Int),(lv:Int),0,BA [],0⟩)::L)):=(by have h_:=Holds.ord 13 [1,2,3,4,5,6,7,8,9,10,11,12,0] H3 rfl;exact h_);clear S1 S2 S3 H H1 H2 H3
 have ref:∀ (e:Nat) w',1<=e->e<=255->(∀ w',Same w w'->Holds w' (SvL s ts n 0 last acs (out++encF ⟨69,jb,[UInt8.ofNat e]⟩) B (ys.map (rowP t)) as_ (livesF ys) ys m++L)->K (.tuple #[]) w')->Same w w'->
     Holds w' (SvL s ts n 0 last acs out B (ys.map (rowP t)) as_ (livesF ys) ys m++(blk ab tAc (cellsA ⟨3,(jb:Int),0,(kd:Int),(lv:Int),0,BA [],0⟩)::L))->
     Fo 1 (pt ab) λx_24=>Ld x_24 w' λx_25=>Cl prog 77 #[pt s.ln,x_25,nv e] w' λx_26 w6=>K (.tuple #[]) w6:=by
   intro e w' h1 h2 kk Sz Hz;refine r_fo0 (r_ld 12 Hz rfl rfl ?_);refine Zkr (j:=3) (jb:=jb) (wt:=0) (pa:=s.pa) (cb:=s.cb) (out:=out) Hz rfl hjb h1 h2 (by omega) λw4 S4 H4=>?_;exact kk w4 (Sz.trans S4) (Holds.dropAt H4 12)
 refine Zin (rows:=ys.map (rowP t)) (fv:=livesF ys) H3s (by rw[hS_];omega) ha hu hli (λh w4 S4 H4=>?_) (λh h2 w4 S4 H4=>?_) λh h2 w4 S4 H4=>?_
 . exact r_neq (r_vtN (by decide) (ref 33 w4 (by decide) (by decide) (k1 h) (S.trans S4) H4))
 . rw[hS_] at h2;exact r_neq (r_vtN (by decide) (ref 34 w4 (by decide) (by decide) (k2 h h2) (S.trans S4) H4))
 rw[hS_] at h2;clear k1 k2 ref H3s;refine r_neq (r_vfN rfl ?_);refine r_dr H4 λw5 S5 H5=>?_;refine r_fo0 (r_ld 12 H5 rfl rfl (r_fo0 (r_ld 12 H5 rfl rfl (r_nc (r_fo0 (r_fo0 (r_ld 0 H5 rfl rfl (r_nc (r_fo0 (r_fo0 (r_ld 0 H5 rfl rfl ?_)))))))))));refine Zq0 (k:=kd) (lv:=lv) (unit:=n.un) (win:=n.wi) H5 hk g1 g2 g3 g4 λj w6 S6 H6=>?_;refine Za4 (Za3 ?_);refine Zrg H6 λf w7 S7 H7=>?_;refine Za4 (Za3 (r_nc (r_fo0 (r_fo0 (r_ld 2 H7 rfl rfl ?_)))));refine Zq5 (ch:=n.ch) H7 g5 g6 λst w8 S8 H8=>?_;refine Za4 (Za3 ?_);refine r_dr H8 λw9 S9 H9=>?_;replace S:=S.trans (S4.trans (S5.trans (S6.trans (S7.trans (S8.trans S9)))));clear S4 S5 S6 S7 S8 S9 H4 H5 H6 H7 H8;obtain⟨p,v,hp,H10⟩:=Zar (j:=6) H9 rfl;refine r_nc (r_fo0 (r_ld 3 H9 rfl rfl (r_nc (r_fo0 (r_ld 0 H10 rfl rfl (r_fo0 (r_ld 15 H9 rfl rfl ?_)))))));refine r_bd (v:=.agg #[nv 0,nv jb,nv t,nv (needN n.un n.wi kd lv)]) (by kernel_rfl) ?_;refine A40.Zx3 (j:=9) H9 rfl (by rw[hS_];omega) (by rw[hS_];omega) (by omega) (Zhs hid) λw11 S11 H11=>?_;refine Za4 (Za3 (r_nc (r_fo0 (r_ld 3 H11 rfl rfl ?_))));refine r_bd (v:=.agg #[ptr j,ptr f,ptr st]) (by kernel_rfl) ?_;refine r_new H11 λlb w12 S12 H12=>?_;refine r_muE (t:=tM89) (kt:=tIw) (et:=114) (by kernel_rfl) (by kernel_rfl) 13 H12 rfl λw13 S13 H13=>?_;refine Zlb (jb:=jb) (nd:=needN n.un n.wi kd lv) (as2:=as_.set t ⟨a.li,a.us+needN n.un n.wi kd lv,max a.pk (a.us+needN n.un n.wi kd lv)⟩) ((by have h_:=Holds.ord 4 [0,3,2,1] H13 rfl;exact h_)) hd hhd hl htl hts hm g4 g6 hjb ho λz w14 e1 e2 e3 e4 e5 e6 e7 e8 e9 S14 H14=>?_;exact k3 (by omega) (by omega) z w14 e1 e2 e3 e4 e5 e6 e7 e8 e9 (S.trans (S11.trans (S12.trans (S13.trans S14)))) (Holds.dropAt H14 12)
end
end F33
namespace F33
open Go.M31 J30 J31 J32
variable {w:World}{L:List HProp}{K:KT}
section
variable {win ch i j:Nat}{ys:List Px}{y:Px}{tx:List UInt8}
theorem Zx8 (H:Holds w L) (hj:L[j]?=some (PkL (LiveR win ch) ys)) (hy:ys[i]?=some y) (hen:y.en=false) (hre:y.rest=[]) (h6:win<=1048576) (hi:y.inp.length<=win) (hs:tx.length<=65536)
   (k:∀ w',Same w w'->Holds w' (L.set j (PkL (LiveR win ch) (ys.set i { y with inp:=y.inp++tx.take (min tx.length (win - y.inp.length)),rest:=tx.drop (min tx.length (win - y.inp.length)) })))->K (iv 0) w') :
   Cl prog 182 #[pt y.fb,S_ tx] w K:=by
 have H1:=Zbk (Holds.atK H j hj hy);have H2:Holds w (blk y.fb tFlow (cellsW y.jb y.rest y.en y.inp.length)::JobQ y.kd y.jb win y.inp y.en y.head::blk y.lb tLive [ptr y.jb,ptr y.fb,ptr y.sb]::blk y.sb tStr (cellsR y.jb ch y.cr y.told)::Sat ((ys.map (LiveR win ch)).eraseIdx i)::L.eraseIdx j):=(by have h_:=Holds.ord 4 [2,1,0,3] H1 rfl;exact h_);rw[hen,hre] at H2;refine Zp6 H2 h6 hi hs (by omega) λw3 S3 H3=>?_
 have H4:Holds w3 (blk y.lb tLive [ptr y.jb,ptr y.fb,ptr y.sb]::JobQ y.kd y.jb win (y.inp++tx.take (min tx.length (win - y.inp.length))) false y.head::blk y.fb tFlow (cellsW y.jb (tx.drop (min tx.length (win - y.inp.length))) false (y.inp++tx.take (min tx.length (win - y.inp.length))).length)::blk y.sb tStr (cellsR y.jb ch y.cr y.told)::Sat ((ys.map (LiveR win ch)).eraseIdx i)::L.eraseIdx j):=by
   have e:(y.inp++tx.take (min tx.length (win - y.inp.length))).length=y.inp.length+min tx.length (win - y.inp.length):=by rw[gD,gN];omega
   rw[e];exact (by have h_:=Holds.ord 4 [2,1,0,3] H3 rfl;exact h_)
 refine k w3 S3 (Holds.putK j hj hy (Zc2 (y:={ y with inp:=y.inp++tx.take (min tx.length (win - y.inp.length)),rest:=tx.drop (min tx.length (win - y.inp.length)) }) ?_));rw[<-hen] at H4;exact H4
theorem Zx7 (H:Holds w L) (hj:L[j]?=some (PkL (LiveR win ch) ys)) (hy:ys[i]?=some y) (hen:y.en=false) (hre:y.rest=[]) (h6:win<=1048576) (hi:y.inp.length<=win)
   (k:∀ w',Same w w'->Holds w' (L.set j (PkL (LiveR win ch) (ys.set i { y with en:=true })))->K (iv 0) w') :
   Cl prog 183 #[pt y.fb] w K:=by
 have H1:=Zbk (Holds.atK H j hj hy);have H2:Holds w (blk y.fb tFlow (cellsW y.jb y.rest y.en y.inp.length)::JobQ y.kd y.jb win y.inp y.en y.head::blk y.lb tLive [ptr y.jb,ptr y.fb,ptr y.sb]::blk y.sb tStr (cellsR y.jb ch y.cr y.told)::Sat ((ys.map (LiveR win ch)).eraseIdx i)::L.eraseIdx j):=(by have h_:=Holds.ord 4 [2,1,0,3] H1 rfl;exact h_);rw[hen,hre] at H2;refine Zrt H2 h6 hi (by omega) λw3 S3 H3=>?_;rw[<-hre] at H3;have H4:=(by have h_:=Holds.ord 4 [2,1,0,3] H3 rfl;exact h_);exact k w3 S3 (Holds.putK j hj hy (Zc2 (y:={ y with en:=true }) H4))
theorem Zs0 {q:Nat}(H:Holds w L) (hj:L[j]?=some (PkL (LiveR win ch) ys)) (hy:ys[i]?=some y) (hq:y.cr+q<=1099511627776)
   (k:∀ w',Same w w'->Holds w' (L.set j (PkL (LiveR win ch) (ys.set i { y with cr:=y.cr+q })))->K (iv 0) w') :
   Cl prog 184 #[pt y.sb,nv q] w K:=by
 have H1:=Zbk (Holds.atK H j hj hy);have H2:Holds w (blk y.sb tStr (cellsR y.jb ch y.cr y.told)::blk y.lb tLive [ptr y.jb,ptr y.fb,ptr y.sb]::JobQ y.kd y.jb win y.inp y.en y.head::blk y.fb tFlow (cellsW y.jb y.rest y.en y.inp.length)::Sat ((ys.map (LiveR win ch)).eraseIdx i)::L.eraseIdx j):=(by have h_:=Holds.ord 4 [3,0,1,2] H1 rfl;exact h_);refine Zl6 H2 hq λw3 S3 H3=>?_;have H4:=(by have h_:=Holds.ord 4 [1,2,3,0] H3 rfl;exact h_);exact k w3 S3 (Holds.putK j hj hy (Zc2 (y:={ y with cr:=y.cr+q }) H4))
end
theorem Zgk {ch:Nat}{z:Lv}{out:List UInt8}(hz:min (min z.head.length z.cr) ch=0):chunksF ch 5 z out=(z,out):=by
 rw[chunksF];show (if min (min z.head.length z.cr) ch=0 then _ else _)=_;rw[if_pos hz]
theorem Zek {t i:Nat}{ys:List Px}{y z:Px}(hy:ys[i]?=some y) (h:rowP t z=rowP t y):(ys.set i z).map (rowP t)=ys.map (rowP t):=by
 rw[map_set,h];exact Zcb (by rw[hV_,hy];rfl)
theorem Zck:∀ {ys:List Px}{i:Nat}{y z:Px},ys[i]?=some y->z.hd=y.hd->z.lb=y.lb->livesF (ys.set i z)=livesF ys
 |[],i,y,z,h,_,_=>by simp at h
 |x::r,0,y,z,h,h1,h2=>by
   obtain rfl:x=y:=by simpa using h
   funext k
   unfold livesF;rw[gJ]
   by_cases e:(x.hd:Int)=k
   . rw[find?_cons_of_pos (by rw[h1];simpa using e),find?_cons_of_pos (by simpa using e)];simp[h2]
   . rw[find?_cons_of_neg (by rw[h1];simpa using e),find?_cons_of_neg (by simpa using e)]
 |x::r,i+1,y,z,h,h1,h2=>by
   have ih:=Zck (ys:=r) (i:=i) (y:=y) (z:=z) (by simpa using h) h1 h2
   funext k
   have ih':=congrFun ih k;unfold livesF at ih' ⊢;rw[gW]
   by_cases e:(x.hd:Int)=k
   . rw[find?_cons_of_pos (by simpa using e),find?_cons_of_pos (by simpa using e)]
   . rw[find?_cons_of_neg (by simpa using e),find?_cons_of_neg (by simpa using e)];exact ih'
theorem Zq2 {ys:List Px}{i:Nat}{y z:Px}(hy:ys[i]?=some y) (h:z.hd=y.hd) (hd:ys.Pairwise (λa b=>a.hd≠b.hd)):(ys.set i z).Pairwise (λa b=>a.hd≠b.hd):=by
 have e:((ys.set i z).map (·.hd))=ys.map (·.hd):=by
   rw[map_set,h];exact Zcb (by rw[hV_,hy];rfl)
 have h1:(ys.map (·.hd)).Pairwise (·≠·):=by rw[pairwise_map];exact hd
 rw[<-e,pairwise_map] at h1;exact h1
theorem Zmn {t id:Nat}:∀ {ys:List Px}{q:Nat},A40.placeL (λx=>x.cn==0&&x.id==id) (ys.map (rowP t)) q=none->∀ y∈ys,y.id≠id
 |[],q,_,y,h=>by cases h
 |x::r,q,h,y,hy=>by
   rw[hR_,A40.placeL] at h;split at h
   . cases h
   . rename_i hn;rcases mem_cons.1 hy with rfl|hy
     . intro e;apply hn;show (true&&(y.id==id))=true;simpa using e
     . exact Zmn h y hy
section
variable {s:Sx}{ts:List Tn}{n:Cf}{last m t:Nat}{acs:List Ac}{out B:List UInt8}{as_:List G40.Ak}{ys:List Px}{a:G40.Ak}
structure OkY (n:Cf) (last cm:Nat) (y:Px):Prop where
 h1:1<=y.hd
 h2:y.hd<=last
 inp:y.inp.length<=n.wi
 rest:y.rest=[]
 told:y.told+y.head.length<=4
 cr:y.cr<=cm
 id:y.id<=4294967295
 z:min (min y.head.length y.cr) n.ch=0
theorem Ztd {x:Ac}{jb cm:Nat}(H:Holds w (SvL s ts n 0 last acs out B (ys.map (rowP t)) as_ (livesF ys) ys m++L)) (hd:ys.Pairwise (λa b=>a.hd≠b.hd)) (hok:∀ y∈ys,OkY n last cm y) (hcm:cm<=500000000000) (hl:ys.length<=800) (ht:t < ts.length) (hts:ts.length<=1000) (hm:m<=900)
   (g4:n.wi<=1048576) (g6:n.ch<=4096) (ho:out.length<=100000000) (hx:x.jb=(jb:Int)) (hjb:jb<=4294967295) (ha:as_[t]?=some a) (hus:a.us<=1099511627776) (hnd:∀ y∈ys,y.nd<=a.us)
   (hwh:(∃ tx:List UInt8,x.wh=4/\x.tx=BA tx/\tx.length<=65536)\/x.wh=5\/x.wh=6\/∃ q:Nat,x.wh=7/\x.nn=(q:Int)/\q < 4294967296) (hen:x.wh=4\/x.wh=5->∀ y∈ys,y.id=jb->y.en=false)
   (k0:(∀ y∈ys,y.id≠jb)->∀ w',Same w w'->Holds w' (SvL s ts n 0 last acs out B (ys.map (rowP t)) as_ (livesF ys) ys m++L)->K (.tuple #[]) w')
   (k4:∀ i y (tx:List UInt8) told w',x.wh=4->x.tx=BA tx->ys[i]?=some y->y.id=jb->told+y.head.length<=4->Same w w'->
     Holds w' (SvL s ts n (if tx.drop (min tx.length (n.wi - y.inp.length))=[] then 0 else y.hd) last acs out B (ys.map (rowP t)) as_ (livesF ys) (ys.set i { y with inp:=y.inp++tx.take (min tx.length (n.wi - y.inp.length)),rest:=tx.drop (min tx.length (n.wi - y.inp.length)),told:=told }) (m+1)++L)->K (.tuple #[]) w')
   (k5:∀ i y told w',x.wh=5->ys[i]?=some y->y.id=jb->told+y.head.length<=4->Same w w'->Holds w' (SvL s ts n 0 last acs out B (ys.map (rowP t)) as_ (livesF ys) (ys.set i { y with en:=true,told:=told }) (m+1)++L)->K (.tuple #[]) w')
   (k6:∀ i y w',x.wh=6->ys[i]?=some y->y.id=jb->Same w w'->Holds w' (SvL s ts n 0 last acs out B ((ys.eraseIdx i).map (rowP t)) (as_.set t ⟨a.li,a.us - y.nd,a.pk⟩) (livesF (ys.eraseIdx i)) (ys.eraseIdx i) m++L)->K (.tuple #[]) w')
   (k7:∀ i y (q:Nat) head cr told out' w',x.wh=7->x.nn=(q:Int)->ys[i]?=some y->y.id=jb->chunksF n.ch 5 (lvP n.wi { y with cr:=y.cr+q }) out=(lvP n.wi { y with head:=head,cr:=cr },out')->told+head.length<=4->cr<=y.cr+q->out'.length<=out.length+40->min (min head.length cr) n.ch=0->Same w w'->
     Holds w' (SvL s ts n 0 last acs out' B (ys.map (rowP t)) as_ (livesF ys) (ys.set i { y with head:=head,cr:=cr,told:=told }) (m+1)++L)->K (.tuple #[]) w') :
   Cl prog 132 #[pt s.b,pt s.ln,.agg (cellsA x).toArray] w K:=by
 refine Tz132 ?_;unfold Vz132;refine r_new H λab w1 S1 H1=>?_;replace H1:Holds w1 (blk ab tAc (cellsA x)::(SvL s ts n 0 last acs out B (ys.map (rowP t)) as_ (livesF ys) ys m++L)):=H1;refine r_dr H1 λw2 S2 H2=>?_;have S:=S1.trans S2;have H3:Holds w2 (SvL s ts n 0 last acs out B (ys.map (rowP t)) as_ (livesF ys) ys m++(blk ab tAc (cellsA x)::L)):=(by have h_:=Holds.ord 13 [1,2,3,4,5,6,7,8,9,10,11,12,0] H2 rfl;exact h_);clear S1 S2 H H1 H2;obtain⟨p,v,hp,H4⟩:=Zar (j:=3) H3 rfl;refine r_nc (r_fo0 (r_ld 0 H3 rfl rfl (r_nc (r_fo0 (r_ld 0 H4 rfl rfl (r_fo0 (r_ld 12 H3 rfl rfl ?_)))))));rw[hx];clear H4;refine A40.Zw3 (j:=6) (cn:=0) (id:=jb) H3 rfl (by rw[hS_];omega) (λi r w3 hpl hr S3 H4=>?_) λw3 hpl S3 H4=>?_
 rotate_left
 . refine Za4 (Za3 (r_neq (r_vtN (by decide) ?_)));exact k0 (Zmn hpl) w3 (S.trans S3) (Holds.dropAt H4 12)
 obtain⟨r2,hr2,hpr⟩:=A40.Zga hpl;rw[Nat.sub_zero,hr] at hr2;obtain rfl:=Option.some.inj hr2;rw[hV_] at hr
 obtain⟨y,hy⟩:∃ y,ys[i]?=some y:=by
   cases hq:ys[i]? with
   |none=>rw[hq] at hr;cases hr
   |some y=>exact⟨y,rfl⟩
 rw[hy] at hr;obtain rfl:rowP t y=r:=Option.some.inj hr
 have hyid:y.id=jb:=by
   have:(true&&(y.id==jb))=true:=hpr;simpa using this
 have hym:=mem_of_getElem? hy;have ok:=hok y hym;replace S:=S.trans S3;clear S3 H3 hpl hr hpr k0;refine Za4 (Za3 (r_neq (r_vfN rfl (r_nc (r_fo0 (r_ld 0 H4 rfl rfl ?_))))));refine r_lkE (t:=tM89) (kt:=tIw) (et:=114) (x:=.p none) (z:=.pointer none) (k:=(y.hd:Int)) (by kernel_rfl) (by kernel_rfl) (by kernel_rfl) rfl 9 H4 rfl ?_;rw[Zja hy hd];refine r_fo0 (r_ld 12 H4 rfl rfl ?_)
 have hlen:∀ z:Px,(ys.set i z).length<=900:=λz=>by rw[length_set];omega
 have hz:∀ z:Px,(ys.set i z)[i]?=some z:=λz=>by rw[List.getElem?_set_self (gH.1 hy).1]
 have hcm2:=ok.cr
 have aft:∀ (z:Px) (w':World) (hrow:rowP t z=rowP t y) (hlb:z.lb=y.lb) (hhd:z.hd=y.hd) (hi:z.inp.length<=n.wi) (hfull:z.rest=[]\/z.inp.length=n.wi) (hen2:z.en=true->z.rest=[]) (hr:z.rest.length<=65536) (hh:z.told+z.head.length<=4) (hc:z.cr<=1099511627776)
     (kk:∀ head cr told out' w',chunksF n.ch 5 (lvP n.wi z) out=(lvP n.wi { z with head:=head,cr:=cr },out')->told+head.length<=4->cr<=z.cr->out'.length<=out.length+40->min (min head.length cr) n.ch=0->Same w w'->
       Holds w' (SvL s ts n (if z.rest=[] then 0 else z.hd) last acs out' B (ys.map (rowP t)) as_ (livesF ys) (ys.set i { z with head:=head,cr:=cr,told:=told }) (m+1)++L)->K (.tuple #[]) w'),
     Same w w'->Holds w' (SvL s ts n 0 last acs out B (ys.map (rowP t)) as_ (livesF ys) (ys.set i z) m++(blk ab tAc (cellsA x)::L))->Cl prog 60 #[pt s.b,nv y.hd] w' λ_ w6=>K (.tuple #[]) w6:=by
   intro z w' hrow hlb hhd hi hfull hen2 hr hh hc kk Sz Hz;have hid:z.id=y.id:=congrArg A40.Lv.id hrow;rw[<-Zek hy hrow,<-Zck hy hhd hlb] at Hz;rw[<-hhd];refine Zi0 Hz (hz z) (Zq2 hy hhd hd) (hlen z) ht hts hm g4 hi hfull hen2 hr hh hc (by rw[hid];exact ok.id) g6 ho λhead cr told out' w7 h1 h2 h3 h4 h5 S7 H7=>?_;rw[Zek hy hrow,Zck hy hhd hlb,set_set] at H7;exact kk head cr told out' w7 h1 h2 h3 h4 h5 (Sz.trans S7) (Holds.dropAt H7 12)
 rcases hwh with⟨tx,h4,htx,htl⟩|h5|h6|⟨q,h7,hq,hql⟩
 . have hen0:=hen (.inl h4) y hym hyid;refine r_eql (r_vtE h4 ?_);refine r_dr H4 λw5 S5 H5=>?_;have H6:=Zbk (Holds.atK H5 11 rfl hy);refine r_nc (r_fo0 (r_ld 0 H6 rfl rfl (r_fo0 (r_ld 12 H5 rfl rfl ?_))));rw[htx];refine Zx8 (j:=11) H5 rfl hy hen0 ok.rest g4 ok.inp htl λw6 S6 H7=>?_;refine aft { y with inp:=y.inp++tx.take (min tx.length (n.wi - y.inp.length)),rest:=tx.drop (min tx.length (n.wi - y.inp.length)) } w6 rfl rfl rfl ?_ ?_ (λe=>?_) ?_ ok.told (by show y.cr<=_;omega) (λhead cr told out' w8 e1 e2 e3 e4 e5 S8 H8=>?_) (S.trans (S5.trans S6)) H7
   . show (y.inp++tx.take _).length<=_;have:=ok.inp;rw[gD,gN];omega
   . have:=ok.inp;rcases hU_ (n.wi - y.inp.length) tx.length with g|g
     . right;show (y.inp++tx.take _).length=_;rw[gD,gN];omega
     . left;show tx.drop _=[];rw[List.drop_eq_nil_iff];omega
   . exact absurd e (by show ¬ y.en=true;rw[hen0];decide)
   . show (tx.drop _).length<=_;rw[gS];omega
   . rw[Zgk ok.z] at e1;have a1:y.head=head:=congrArg (λp:Lv × List UInt8=>p.1.head) e1;have a2:y.cr=cr:=congrArg (λp:Lv × List UInt8=>p.1.cr) e1;have a3:out=out':=congrArg (λp:Lv × List UInt8=>p.2) e1;subst a1 a2 a3;exact k4 i y tx told w8 h4 htx hy hyid e2 S8 H8
 . have hen0:=hen (.inr h5) y hym hyid;refine r_eql (r_vfE (by rw[h5];decide) (r_eql (r_vtE h5 ?_)));have H6:=Zbk (Holds.atK H4 11 rfl hy);refine r_nc (r_fo0 (r_ld 0 H6 rfl rfl ?_));refine Zx7 (j:=11) H4 rfl hy hen0 ok.rest g4 ok.inp λw6 S6 H7=>?_;refine aft { y with en:=true } w6 rfl rfl rfl ok.inp (.inl ok.rest) (λ_=>ok.rest) (by show y.rest.length<=_;rw[ok.rest];exact Nat.zero_le _) ok.told (by show y.cr<=_;omega) (λhead cr told out' w8 e1 e2 e3 e4 e5 S8 H8=>?_) (S.trans S6) H7;rw[Zgk ok.z] at e1;have a1:y.head=head:=congrArg (λp:Lv × List UInt8=>p.1.head) e1;have a2:y.cr=cr:=congrArg (λp:Lv × List UInt8=>p.1.cr) e1;have a3:out=out':=congrArg (λp:Lv × List UInt8=>p.2) e1;subst a1 a2 a3;refine k5 i y told w8 h5 hy hyid e2 S8 ?_;have:(if y.rest=[] then 0 else y.hd)=0:=if_pos ok.rest;rw[this] at H8;exact H8
 . refine r_eql (r_vfE (by rw[h6];decide) (r_eql (r_vfE (by rw[h6];decide) (r_eql (r_vfE (by rw[h6];decide) ?_)))));refine Zrh H4 hy hd ok.h1 (by omega) hts hm ha (hnd y hym) hus λw5 S5 H5=>?_;exact k6 i y w5 h6 hy hyid (S.trans S5) (Holds.dropAt H5 12)
 . refine r_eql (r_vfE (by rw[h7];decide) (r_eql (r_vfE (by rw[h7];decide) (r_eql (r_vtE h7 ?_)))));refine r_dr H4 λw5 S5 H5=>?_;have H6:=Zbk (Holds.atK H5 11 rfl hy);refine r_nc (r_fo0 (r_ld 0 H6 rfl rfl (r_fo0 (r_ld 12 H5 rfl rfl ?_))));rw[hq];refine Zs0 (j:=11) (q:=q) H5 rfl hy (by omega) λw6 S6 H7=>?_;refine aft { y with cr:=y.cr+q } w6 rfl rfl rfl ok.inp (.inl ok.rest) (λ_=>ok.rest) (by show y.rest.length<=_;rw[ok.rest];exact Nat.zero_le _) ok.told (by show y.cr+q<=_;omega) (λhead cr told out' w8 e1 e2 e3 e4 e5 S8 H8=>?_) (S.trans (S5.trans S6)) H7;refine k7 i y q head cr told out' w8 h7 hq hy hyid e1 e2 e3 e4 e5 S8 ?_;have:(if y.rest=[] then 0 else y.hd)=0:=if_pos ok.rest;rw[this] at H8;exact H8
end
end F33
namespace F33
open Go.M31 J30 J31 J32
variable {w:World}{L:List HProp}{K:KT}
theorem Zim:∀ (l:List Nat),(∀ y∈l,y<=1000000000000000000)->(joinF l).length<=20*l.length:=by
 intro l;unfold joinF
 induction l with
 |nil=>intro _;exact Nat.le_refl _
 |cons a r ih=>
   intro h2
   have ha:=Go.Tx.dig_len 18 a (by have:=h2 a (hJ_ ..);have:(10:Nat)^(18+1)=10000000000000000000:=(by decide);omega)
   cases r with
   |nil=>show (Go.Tx.dig a).length<=20;omega
   |cons b r=>
     have:=ih λy hy=>h2 y (hK_ _ hy);show (Go.Tx.dig a++32::Go.Tx.joinC 32 ((b::r).map Go.Tx.dig)).length<=_;rw[gD,gY,gY (a:=a)];omega
theorem Zg5 {t:Nat}{ys:List Px}:(A40.handles (λx=>x.tn==t) (ys.map (rowP t))).length=ys.length:=by
 unfold A40.handles;rw[hS_,List.filter_eq_self.2,hS_];intro x hx;obtain⟨y,_,rfl⟩:=mem_map.1 hx;show (t==t)=true;simp
section
variable {s:Sx}{ts:List Tn}{n:Cf}{wt last m t:Nat}{acs:List Ac}{out B:List UInt8}{as_:List G40.Ak}{ys:List Px}{a:G40.Ak}{fv:Int->Option Value}
theorem Zl4 {tn:Tn}(H:Holds w (SvL s ts n wt last acs out B (ys.map (rowP t)) as_ fv ys m++L)) (hl:ys.length<=900) (ha:as_[t]?=some a) (htn:ts[t]?=some tn) (hst:stN tn<=1099511627776) (hus:a.us<=1099511627776) (hli:a.li<=1099511627776)
   (k:∀ w',Same w w'->Holds w' (SvL s ts n wt last acs out B (ys.map (rowP t)) as_ fv ys m++L)->K (S_ (joinF [0,ys.length,a.us,a.li,stN tn])) w') :
   Cl prog 129 #[pt s.b,nv t] w K:=by
 refine Tz129 ?_;unfold Vz129;refine r_dr H λw1 S1 H1=>?_;refine r_nc (r_fo0 (r_ld 0 H1 rfl rfl ?_));refine At_at (j:=8) H1 rfl ?_;refine r_nc (r_fo0 (r_ld 0 H1 rfl rfl (r_rk (r_ld 0 H1 rfl rfl rfl) ?_)));refine A40.By_at (j:=6) H1 rfl (by rw[hS_];omega) λo c w3 S3 H3=>?_;rw[Zg5];refine r_lnl (r_nc (r_fo0 (r_ld 0 H3 rfl rfl (r_rk (r_ld 0 H1 rfl rfl rfl) (r_rk (r_ld 0 H1 rfl rfl rfl) ?_)))));refine G40.Zpl (j:=7) H3 rfl ha λw4 S4 H4=>?_;refine r_rk (r_lnl rfl) (r_nc (r_fo0 (r_ld 0 H4 rfl rfl (r_rk (r_ld 0 H3 rfl rfl rfl) (r_rk (r_ld 0 H1 rfl rfl rfl) (r_rk (r_ld 0 H1 rfl rfl rfl) ?_))))));refine G40.Zn8 (j:=7) H4 rfl ha λw5 S5 H5=>?_;refine r_rk (r_lnl rfl) (r_nc (r_fo0 (r_ld 0 H5 rfl rfl (r_rk (r_ld 0 H4 rfl rfl rfl) (r_rk (r_ld 0 H3 rfl rfl rfl) (r_rk (r_ld 0 H1 rfl rfl rfl) (r_rk (r_ld 0 H1 rfl rfl rfl) ?_)))))));refine Zut (j:=8) (x:=stN tn) H5 rfl (by rw[hV_,htn];rfl) hst λw6 S6 H6=>?_;refine r_rk (r_lnl rfl) ?_;refine r_bsK (e:=3) [iv 0,nv ys.length,nv a.us,nv a.li,nv (stN tn)] H6 (by kernel_rfl) λb w7 S7 H7=>?_;refine Zr3 (ys:=[0,ys.length,a.us,a.li,stN tn]) (i:=0) H7 rfl (by simp) (by show 5<=10;decide) (λy hy=>?_) λw8 S8 H8=>?_
 . simp only[mem_cons,not_mem_nil,or_false] at hy
   rcases hy with rfl|rfl|rfl|rfl|rfl <;> omega
 . exact k w8 (S1.trans (S3.trans (S4.trans (S5.trans (S6.trans (S7.trans S8)))))) H8.drop
end
def ak0 (tn:Tn):G40.Ak:=⟨tn.me.toNat,0,0⟩
structure Rp (ts:List Tn) (n:Cf) (c:Nat) (q:Qt) (t wt last m:Nat) (B:List UInt8) (as_:List G40.Ak) (ys:List Px) (a:G40.Ak):Prop where
 al:q.acs.length<=c
 wf:WfA q.acs
 who:∀ i,whoD q.acs=some i->i=(t:Int)
 no:whoD q.acs=none->ys=[]/\as_=ts.map ak0
 tl:t < ts.length
 ta:as_[t]?=some a
 tm:∀ tn,ts[t]?=some tn->a.li=tn.me.toNat
 us:a.us=usedF q.xs
 ul:a.us<=a.li
 ll:a.li<=1099511627776
 xs:q.xs=ys.map (lvP n.wi)
 hd:ys.Pairwise (λa b=>a.hd≠b.hd)
 ids:ys.Pairwise (λa b=>a.id≠b.id)
 ok:wt=0->∀ y∈ys,OkY n last (c*4294967296) y
 en:∀ y∈ys,y.en=hadF 5 y.id q.acs
 op:∀ y∈ys,hadF 3 y.id q.acs=true
 la:last<=c
 mm:m<=c
 ou:q.out.length<=2000*c
 wq:q.wt=decide (wt≠0)
 bz:wt=0->B=[]
 bl:B.length<=300*c
 ln:ys.length<=c
structure Kn (ts:List Tn) (n:Cf):Prop where
 t1:∀ tn∈ts,0<=tn.me/\tn.me<=1099511627776/\0<=tn.st/\tn.st<=1099511627776/\tn.nm.size<=1000
 t0:0 < ts.length
 t2:ts.length<=16
 g1:24<=n.un
 g2:n.un<=100000
 g3:64<=n.wi
 g4:n.wi<=1048576
 g5:1<=n.ch
 g6:n.ch<=4096
def Rep (s:Sx) (ts:List Tn) (n:Cf) (c:Nat) (q:Qt) (L:List HProp) (w:World):Prop:=
 ∃ t wt last m B as_ ys a,Rp ts n c q t wt last m B as_ ys a/\Holds w (SvL s ts n wt last q.acs q.out B (ys.map (rowP t)) as_ (livesF ys) ys m++L)
section
variable {s:Sx}{ts:List Tn}{n:Cf}{wt last m t c:Nat}{B:List UInt8}{as_:List G40.Ak}{ys:List Px}{a:G40.Ak}{q:Qt}
theorem Zgg {cm cm' last':Nat}{y:Px}(h:OkY n last cm y) (h1:cm<=cm') (h2:last<=last'):OkY n last' cm' y:={ h with h2:=Nat.le_trans h.h2 h2,cr:=Nat.le_trans h.cr h1 }
theorem Rp.sent (h:Rp ts n c q t 0 last m B as_ ys a){x:Ac}(hx:x.wh≠3/\x.wh≠5/\x.wh≠6) (hw:whoD q.acs=none->x.wh≠2){o:List UInt8}(ho:o.length<=2000):Rp ts n (c+1) { q with acs:=q.acs++[x],out:=q.out++o } t 0 last m B as_ ys a:=by
 have hwho:whoD (q.acs++[x])=whoD q.acs:=by
   cases e:whoD q.acs with
   |none=>exact Zke e (hw e)
   |some i=>exact Zb4 e
 exact { al:=by rw[gD,gQ];have:=h.al;omega
         wf:=(Zbr (f:=λ_=>none) hx).1 h.wf
         who:=λi hi=>h.who i (by rw[<-hwho];exact hi)
         no:=λhi=>h.no (by rw[<-hwho];exact hi)
         tl:=h.tl,ta:=h.ta,tm:=h.tm,us:=h.us,ul:=h.ul,ll:=h.ll,xs:=h.xs,hd:=h.hd,ids:=h.ids
         ok:=λe y hy=>Zgg (h.ok e y hy) (by omega) (Nat.le_refl _)
         en:=λy hy=>by rw[Zau λe=>hx.2.1 e.1];exact h.en y hy
         op:=λy hy=>by rw[Zau λe=>hx.1 e.1];exact h.op y hy
         la:=Nat.le_succ_of_le h.la,mm:=Nat.le_succ_of_le h.mm
         ou:=by rw[gD];have:=h.ou;omega
         wq:=h.wq,bz:=h.bz
         bl:=by have:=h.bl;omega
         ln:=Nat.le_succ_of_le h.ln }
theorem Zd7 {wi:Nat}{ys:List Px}:usedF (ys.map (lvP wi))=(ys.map (·.nd)).sum:=by
 unfold usedF;rw[List.map_map];rfl
theorem nd_le {ys:List Px}{y:Px}(hy:y∈ys):y.nd<=(ys.map (·.nd)).sum:=by
 induction ys with
 |nil=>cases hy
 |cons x r ih=>
   rw[hR_,sum_cons];rcases mem_cons.1 hy with rfl|hy
   . omega
   . have:=ih hy;omega
theorem Zxo {ys:List Px}{i:Nat}{y:Px}(hy:ys[i]?=some y):(ys.map (·.nd)).sum=y.nd+((ys.eraseIdx i).map (·.nd)).sum:=by
 induction ys generalizing i with
 |nil=>simp at hy
 |cons x r ih=>
   cases i with
   |zero=>
     obtain rfl:x=y:=by simpa using hy
     rfl
   |succ i=>
     rw[List.eraseIdx_cons_succ,hR_,hR_,sum_cons,sum_cons,ih (by simpa using hy)];omega
theorem Zww {ys:List Px}{i:Nat}{y z:Px}(hy:ys[i]?=some y) (h:z.nd=y.nd):((ys.set i z).map (·.nd))=ys.map (·.nd):=by
 rw[map_set,h];exact Zcb (by rw[hV_,hy];rfl)
theorem Zv8 {wi:Nat}{ys:List Px}{i:Nat}{y:Px}(hy:ys[i]?=some y) (hd:ys.Pairwise (λa b=>a.id≠b.id)):(ys.map (lvP wi)).find? (λz=>decide ((z.id:Int)=(y.id:Int)))=some (lvP wi y):=by
 induction ys generalizing i with
 |nil=>simp at hy
 |cons x r ih=>
   rw[pairwise_cons] at hd
   cases i with
   |zero=>
     obtain rfl:x=y:=by simpa using hy
     rw[hR_,find?_cons_of_pos (by show decide ((x.id:Int)=x.id)=true;simp)]
   |succ i=>
     have hy':r[i]?=some y:=by simpa using hy
     have hne:=hd.1 y (mem_of_getElem? hy');rw[hR_,find?_cons_of_neg (by show ¬ decide ((x.id:Int)=y.id)=true;simpa using λe=>hne (by omega))];exact ih hy' hd.2
theorem Zv5 {wi jb:Nat}{ys:List Px}(h:∀ y∈ys,y.id≠jb):(ys.map (lvP wi)).find? (λz=>decide ((z.id:Int)=(jb:Int)))=none:=by
 rw[List.find?_eq_none];intro z hz;obtain⟨y,hy,rfl⟩:=mem_map.1 hz;have:=h y hy;show ¬ decide ((y.id:Int)=jb)=true;simpa using λe=>this (by omega)
theorem Zm7 {wi:Nat}{ys:List Px}{i:Nat}{y z:Px}{v:Lv}(hy:ys[i]?=some y) (hd:ys.Pairwise (λa b=>a.id≠b.id)) (hv:v.id=y.id) (hz:lvP wi z=v):withF v false (ys.map (lvP wi))=(ys.set i z).map (lvP wi):=by
 unfold withF
 induction ys generalizing i with
 |nil=>simp at hy
 |cons x r ih=>
   rw[pairwise_cons] at hd
   cases i with
   |zero=>
     obtain rfl:x=y:=by simpa using hy
     rw[hR_,hM_,gJ,hR_,hz,if_neg (by show ¬ x.id≠v.id;omega),if_neg (by decide)]
     have:(r.map (lvP wi)).flatMap (λy=>if y.id≠v.id then [y] else if false=true then [] else [v])=r.map (lvP wi):=by
       have hr:∀ y∈r,y.id≠v.id:=λy hy2=>by have:=hd.1 y hy2;omega
       clear ih hy hd
       induction r with
       |nil=>rfl
       |cons b r ih=>
         rw[hR_,hM_,ih λy hy=>hr y (hK_ _ hy),if_pos (by show b.id≠v.id;exact hr b (hJ_ ..))];rfl
     exact congrArg (v::·) this
   |succ i=>
     have hy':r[i]?=some y:=by simpa using hy
     have hne:=hd.1 y (mem_of_getElem? hy');rw[hR_,hM_,gW,hR_,ih hy' hd.2,if_pos (by show x.id≠v.id;omega)];rfl
theorem Zsz {wi:Nat}{ys:List Px}{i:Nat}{y:Px}{v:Lv}(hy:ys[i]?=some y) (hd:ys.Pairwise (λa b=>a.id≠b.id)) (hv:v.id=y.id):withF v true (ys.map (lvP wi))=(ys.eraseIdx i).map (lvP wi):=by
 unfold withF
 induction ys generalizing i with
 |nil=>simp at hy
 |cons x r ih=>
   rw[pairwise_cons] at hd
   cases i with
   |zero=>
     obtain rfl:x=y:=by simpa using hy
     rw[hR_,hM_,List.eraseIdx_cons_zero,if_neg (by show ¬ x.id≠v.id;omega),if_pos rfl]
     have hr:∀ y∈r,y.id≠v.id:=λy hy2=>by have:=hd.1 y hy2;omega
     clear ih hy hd;rw[hO_]
     induction r with
     |nil=>rfl
     |cons b r ih=>
       rw[hR_,hM_,ih λy hy=>hr y (hK_ _ hy),if_pos (by show b.id≠v.id;exact hr b (hJ_ ..))];rfl
   |succ i=>
     have hy':r[i]?=some y:=by simpa using hy
     have hne:=hd.1 y (mem_of_getElem? hy');rw[hR_,hM_,List.eraseIdx_cons_succ,hR_,ih hy' hd.2,if_pos (by show x.id≠v.id;omega)];rfl
theorem Zv9 {ys:List Px}{i:Nat}{y z:Px}(hy:ys[i]?=some y) (h:z.id=y.id) (hd:ys.Pairwise (λa b=>a.id≠b.id)):(ys.set i z).Pairwise (λa b=>a.id≠b.id):=by
 have e:((ys.set i z).map (·.id))=ys.map (·.id):=by
   rw[map_set,h];exact Zcb (by rw[hV_,hy];rfl)
 have h1:(ys.map (·.id)).Pairwise (·≠·):=by rw[pairwise_map];exact hd
 rw[<-e,pairwise_map] at h1;exact h1
theorem Zmf {R:Px->Px->Prop}{ys:List Px}{i:Nat}(h:ys.Pairwise R):(ys.eraseIdx i).Pairwise R:=h.sublist (List.eraseIdx_sublist ys i)
end
end F33
end Go.Proofs.YthkaggnihbkmeaaGreatDoor
namespace Go.Proofs.YthkaggnihbkmeaaGreatDoor
open Go Go.Vc Go.Proofs.Tryz
theorem Zu8 {α:Type}{F:α->List Value}{k:Nat}{a:Option Addr}{xs:List α}{x:α}{i l c j:Nat}{v:Value}{q:IntKind}{K:Value->Prop}{w:World}{L:List HProp}(hT:S4r.InG F k L a xs) (H:Holds w L) (hx:xs[i]?=some x) (hv:(F x)[j]?=some v) (hi:i < l) (h:K v) :
   Ias k (.slice a l c) (.int q (i:Int)) λy=>Fo j y λz=>Ld z w K:=by
 obtain⟨p,rfl,hc⟩:=hT w H i x hx;exact Zcj hi (r_foA (r_ldP (hc j v hv) h))
theorem Ztr {α:Type}{F:α->List Value}{k:Nat}{a:Option Addr}{xs:List α}{x:α}{i l c:Nat}{q:IntKind}{K:Value->Value->Prop}{w:World}{L:List HProp}(hT:S4r.InG F k L a xs) (H:Holds w L) (hx:xs[i]?=some x) (hk:(F x).length=k) (hi:i < l)
   (h:∀ p:Addr,(∀ w',Holds w' L->∀ j v,(F x)[j]?=some v->w'.cell? (p.add j)=some v)->K (.pointer (some p)) (.agg (F x).toArray)) :
   Ias k (.slice a l c) (.int q (i:Int)) λy=>LdA k y w (K y):=by
 obtain⟨p,rfl,hc⟩:=hT w H i x hx;refine Zcj hi ?_;refine Zgm (cs:=(F x).toArray) (by simpa using hk) (λj v hv=>hc j v (by simpa using hv)) (h _ λw' H' j v hv=>?_);obtain⟨p',hp,hc'⟩:=hT w' H' i x hx;obtain rfl:=Option.some.inj hp;exact hc' j v hv
theorem Zx4 {P:Program}{w:World}{ats:Array TypeId}{t:TypeId}{a b c:Nat}{K:Value->Prop}(h:K (nv (min (min a b) c))):Bmin P ats t #[nv a,nv b,nv c] w K:=by
 refine⟨.int .i64 (if (c:Int) < (if (b:Int) < a then (b:Int) else a) then (c:Int) else (if (b:Int) < a then (b:Int) else a)),by simp[nv,Builtin.min_,Builtin.min2,Sem.run_pure,List.foldlM],?_⟩
 have:(if (c:Int) < (if (b:Int) < a then (b:Int) else a) then (c:Int) else (if (b:Int) < a then (b:Int) else a))=((min (min a b) c:Nat):Int):=by split <;> split at*<;> omega
 rw[this];exact h
attribute [local irreducible] Vc.Nc Vc.Ld Vc.LdA Vc.St Vc.StA Vc.Fo Vc.Iaa Vc.Ias Vc.Ixs Vc.Ixa Vc.Fd Vc.FdA Vc.Bp Vc.Bb Vc.Bn Vc.Up Vc.Ci Vc.Lns Vc.Lnl Vc.Ex Vc.Sst Vc.Ssl Vc.New Vc.Vif Vc.VJoin Vc.VLoop Vc.KE Vc.Dr Vc.Rk Vc.Cl Vc.Cx Vc.Inv Vc.Be Vc.Cv Vc.Cw Vc.Mf Vc.Sl Vc.Lk Vc.Bd Vc.Bs Vc.Ms Vc.Mm Vc.Mu Vc.Me Vc.Es Vc.Rg Vc.Nx Vc.Ta Vc.Ap Vc.Usd Vc.Ust Vc.Cp Vc.Ln Vc.Bc Vc.Bmin Vc.Bmax Vc.Bdel Vc.Bclr Vc.Pk
namespace F33
open Go.M31 J30 J31 J32
variable {w:World}{L:List HProp}{K:KT}
abbrev tQt:Nat:=38
abbrev tL4:Nat:=102
abbrev tAn4:Nat:=98
def cellsV (x:Lv):List Value:=[nv x.id,nv x.need,nv x.room,S_ x.head,nv x.cr]
structure Sl3 where
 o:Option Addr
 l:Nat
 c:Nat
abbrev Sl3.v (s:Sl3):Value:=.slice s.o s.l s.c
abbrev nl3:Sl3:=⟨none,0,0⟩
def cellsZ (a:Option Addr) (l c:Nat) (n:Cf) (va vx:Sl3) (out:List UInt8) (wt:Bool):List Value:=cellsC a l c (cnF n)++[.slice a l c,va.v,vx.v,S_ out,.bool wt]
theorem Zdg:(zeroP prog tQt).cells.toList=[.slice none 0 0,iv 0,iv 0,iv 0,iv 0,iv 0,iv 0,.slice none 0 0,.slice none 0 0,.slice none 0 0,S_ [],.bool false]:=by kernel_rfl
theorem Zik:(zeroP prog tL4).cells.toList=[iv 0,iv 0,iv 0,S_ [],iv 0]:=by kernel_rfl
set_option maxRecDepth 1000000 in
instance rowL4:RowN prog 36 tL4 5:=⟨underlying36,_,_,rfl,rfl,by decide,rfl,rfl⟩
theorem l4_sg:∀ y:Lv,∀ u∈cellsV y,sg u=true:=by
 intro y u hu;simp only[cellsV,mem_cons,not_mem_nil,or_false] at hu
 rcases hu with rfl|rfl|rfl|rfl|rfl <;> rfl
abbrev LvIn:=S4r.InG cellsV 5
theorem LvIn.of {vx:Value}{xs:List Lv}{i:Nat}(H:Holds w L) (hi:L[i]?=some (RW cellsV 5 tL4 vx xs)):∃ o z,vx=.slice o xs.length z/\LvIn L o xs:=by
 obtain⟨o,m,sp,rfl,_⟩:=H.openRW i hi;exact⟨o,_,rfl,S4r.InG.own i hi λ_=>rfl⟩
theorem AsIn.of {va:Value}{xs:List Ac}{i:Nat}(H:Holds w L) (hi:L[i]?=some (RW cellsA 8 tDA va xs)):∃ o z,va=.slice o xs.length z/\AsIn L o xs:=by
 obtain⟨o,m,sp,rfl,_⟩:=H.openRW i hi;exact⟨o,_,rfl,S4r.InG.own i hi λ_=>rfl⟩
section
variable {a:Option Addr}{ts:List Tn}{c tl:Nat}{n:Cf}{va vx:Sl3}{out:List UInt8}{wt:Bool}
theorem Zqs (H:Holds w L) (k:∀ w',Same w w'->Holds w' L->K (.agg (cellsZ a tl c n nl3 nl3 [] false).toArray) w'):Cl prog 8 #[.agg (cellsC a tl c (cnF n)).toArray] w K:=by
 refine Tz8 ?_;unfold Vz8;refine r_new H λcb w1 S1 H1=>?_;replace H1:Holds w1 (blk cb tC (cellsC a tl c (cnF n))::L):=H1;refine r_new H1 λqb w2 S2 H2=>?_;rw[Zdg] at H2;refine r_ldA 1 H2 (cellsC a tl c (cnF n)) rfl rfl rfl ?_;refine r_fo0 (r_ld 1 H2 rfl rfl ?_);refine r_bd (v:=.agg #[.slice a tl c,.slice none 0 0]) (by kernel_rfl) ?_;refine r_bd (v:=.agg (cellsZ a tl c n nl3 nl3 [] false).toArray) (by kernel_rfl) ?_;refine r_stA 0 H2 (vs:=cellsZ a tl c n nl3 nl3 [] false) rfl (Nat.le_refl 12) rfl rfl λw3 S3 H3=>?_;refine r_ldA 0 H3 (cellsZ a tl c n nl3 nl3 [] false) rfl rfl rfl ?_;exact k w3 (S1.trans (S2.trans S3)) H3.drop.drop
theorem Zoo {ty jb e:Nat}{da da':List UInt8}(H:Holds w L) (h:ty=69/\1<=e/\e<=255/\da'=[UInt8.ofNat e]\/ty≠68/\ty≠69/\da'=da) (k:∀ w',Same w w'->Holds w' L->K (S_ da') w'):Cl prog 86 #[.agg #[nv ty,nv jb,S_ da,nv e]] w K:=by
 refine Tz86 ?_;unfold Vz86;refine r_new H λb w1 S1 H1=>?_;replace H1:Holds w1 (blk b tAn4 [nv ty,nv jb,S_ da,nv e]::L):=H1;rcases h with⟨rfl,h1,h2,rfl⟩|⟨h1,h2,rfl⟩
 . refine Za0 (λx w'=>w1=w'/\x=.bool false) ?_ ?_
   rotate_left
   . exact r_fo0 (r_ld 0 H1 rfl rfl (r_neq (r_vtN (by decide) (r_fo0 (r_ld 0 H1 rfl rfl (r_neq (r_ke ⟨rfl,rfl⟩)))))))
   rintro _ _ _ ⟨rfl,rfl⟩;refine r_vf ?_;refine Za0 (λx w'=>w1=w'/\x=.bool false) ?_ ?_
   rotate_left
   . exact r_fo0 (r_ld 0 H1 rfl rfl (r_lss (r_vfD (by omega) (r_fo0 (r_ld 0 H1 rfl rfl (r_gtr (r_ke ⟨rfl,by rw[decide_eq_false (by omega)]⟩)))))))
   rintro _ _ _ ⟨rfl,rfl⟩;refine r_vf (r_fo0 (r_ld 0 H1 rfl rfl (Zac (by omega) (by omega) ?_)));rw[show Value.int .u8 (e:Int)=bv (UInt8.ofNat e) by rw[bvN];congr 1;omega];refine r_bsK (e:=L42.tU8) [bv (UInt8.ofNat e)] H1 (by kernel_rfl) λb w2 S2 H2=>?_;exact r_cbs (L42.Zii (xs:=[UInt8.ofNat e]) H2) 0 rfl rfl (k w2 (S1.trans S2) H2.drop.drop)
 . refine Za0 (λx w'=>w1=w'/\x=.bool true) ?_ ?_
   rotate_left
   . exact r_fo0 (r_ld 0 H1 rfl rfl (r_neq (r_vtN (by omega) (r_fo0 (r_ld 0 H1 rfl rfl (r_neq (r_ke ⟨rfl,congrArg Value.bool (bne_iff_ne.2 (by omega))⟩)))))))
   rintro _ _ _ ⟨rfl,rfl⟩;exact r_vt (r_fo0 (r_ld 0 H1 rfl rfl (k w1 S1 H1.drop)))
theorem Zcg {ty jb e:Nat}{da da':List UInt8}(H:Holds w L) (h:ty=69/\1<=e/\e<=255/\da'=[UInt8.ofNat e]\/ty≠68/\ty≠69/\da'=da) (hty:ty < 256) (hjb:jb<=4294967295) (hda:da'.length<=65536) (ho:out.length<=100000000)
   (k:∀ w',Same w w'->Holds w' L->K (.agg (cellsZ a tl c n va vx (out++encF ⟨ty,jb,da'⟩) wt).toArray) w'):Cl prog 43 #[.agg (cellsZ a tl c n va vx out wt).toArray,.agg #[nv ty,nv jb,S_ da,nv e]] w K:=by
 refine Tz43 ?_;unfold Vz43;refine r_new H λqb w1 S1 H1=>?_;replace H1:Holds w1 (blk qb tQt (cellsZ a tl c n va vx out wt)::L):=H1;refine r_new H1 λab w2 S2 H2=>?_;replace H2:Holds w2 (blk ab tAn4 [nv ty,nv jb,S_ da,nv e]::blk qb tQt (cellsZ a tl c n va vx out wt)::L):=H2;refine r_new H2 λrb w3 S3 H3=>?_;rw[Zdg] at H3;refine r_dr H3 λw4 S4 H4=>?_;refine r_fo0 (r_ld 2 H4 rfl rfl (r_fo0 (r_ld 1 H4 rfl rfl (r_fo0 (r_ld 1 H4 rfl rfl (r_ldA 1 H4 [nv ty,nv jb,S_ da,nv e] rfl rfl rfl ?_))))));refine Zoo (da':=da') H4 h λw5 S5 H5=>?_;refine r_rk (r_ld 1 H5 rfl rfl rfl) (r_rk (r_ld 1 H5 rfl rfl rfl) (r_rk (r_ld 2 H5 rfl rfl rfl) ?_));refine r_bd (v:=.agg (cellsF ⟨ty,jb,da'⟩).toArray) (by kernel_rfl) ?_;refine Zda H5 hty hjb hda λw6 S6 H6=>?_;have hel:=Zay ⟨ty,jb,da'⟩;have hel2:(encF ⟨ty,jb,da'⟩).length=9+da'.length:=hel;refine r_rk (r_ld 2 H6 rfl rfl rfl) (Zaw (by omega) ?_);refine r_fo0 (r_st 2 H6 rfl (by show 10 < 12;decide) rfl λw7 S7 H7=>?_);refine r_ldA 2 H7 (cellsZ a tl c n va vx (out++encF ⟨ty,jb,da'⟩) wt) rfl rfl rfl ?_;refine r_stA 0 H7 (vs:=cellsZ a tl c n va vx (out++encF ⟨ty,jb,da'⟩) wt) rfl (Nat.le_refl 12) rfl rfl λw8 S8 H8=>?_;refine r_ldA 0 H8 (cellsZ a tl c n va vx (out++encF ⟨ty,jb,da'⟩) wt) rfl rfl rfl ?_;exact k w8 (S1.trans (S2.trans (S3.trans (S4.trans (S5.trans (S6.trans (S7.trans S8))))))) H8.drop.drop.drop
theorem Zow {xs:List Lv}{i:Nat}{x:Lv}(h:xs[i]?=some x):usedF (xs.take (i+1))=usedF (xs.take i)+x.need:=by
 unfold usedF;rw[gO,h];simp
theorem Zs9 {xs:List Lv}{i:Nat}:usedF (xs.take i)<=usedF xs:=by
 unfold usedF
 conv=>rhs;rw[<-List.take_append_drop i xs]
 rw[map_append,List.sum_append];omega
theorem Zeq {o:Option Addr}{z:Nat}{xs:List Lv}(H:Holds w L) (hX:LvIn L o xs) (hu:usedF xs<=1099511627776) (hl:xs.length<=1000) (k:∀ w',Same w w'->Holds w' L->K (nv (usedF xs)) w') :
   Cl prog 16 #[.agg (cellsZ a tl c n va ⟨o,xs.length,z⟩ out wt).toArray] w K:=by
 refine Tz16 ?_;unfold Vz16;refine r_new H λqb w1 S1 H1=>?_;replace H1:Holds w1 (blk qb tQt (cellsZ a tl c n va ⟨o,xs.length,z⟩ out wt)::L):=H1;refine r_fo0 (r_ld 0 H1 rfl rfl (r_lnl ?_));refine Zb1 (λy x w'=>∃ i:Nat,i<=xs.length/\x=nv i/\y=nv (usedF (xs.take i))/\Same w w'/\Holds w' L) (λ_ x _=>xs.length - (intOf x).toNat) ⟨0,by omega,rfl,rfl,S1,H1.drop⟩ ?_;clear H H1 S1;rintro _ _ _ w2 ⟨i,hi,rfl,rfl,S,H⟩;refine r_lss (r_ifD (λh=>?_) λh=>?_)
 . replace h:(i:Int) < (xs.length:Int):=h
   have hlt:i < xs.length:=by omega
   obtain⟨x,hx⟩:∃ x,xs[i]?=some x:=⟨_,gA hlt⟩;refine S4r.r_ldG hX H hx rfl hlt ?_;refine r_new H λb w3 S3 H3=>?_;rw[Zik] at H3;refine r_stA 0 H3 (vs:=cellsV x) rfl (Nat.le_refl 5) rfl rfl λw4 S4 H4=>?_;have e1:=Zow hx;have e2:usedF (xs.take (i+1))<=usedF xs:=Zs9;refine r_fo0 (r_ld 0 H4 rfl rfl (Zaa (by omega) (Za1 (by omega) (r_ke ⟨⟨i+1,by omega,rfl,by rw[e1],S.trans (S3.trans S4),H4.drop⟩,?_⟩))));simp only[intOf,gC];omega
 . replace h:¬ (i:Int) < (xs.length:Int):=h
   obtain rfl:i=xs.length:=by omega
   rw[hF_];exact k w2 S H
theorem Znx {l:List Nat}{x:Nat}(h:l≠[]):joinF (l++[x])=joinF l++32::Go.Tx.dig x:=by
 unfold joinF
 induction l with
 |nil=>exact absurd rfl h
 |cons b r ih=>
   cases r with
   |nil=>rfl
   |cons d r=>
     have:=ih (by simp);show Go.Tx.dig b++32::Go.Tx.joinC 32 (((d::r)++[x]).map Go.Tx.dig)=(Go.Tx.dig b++32::Go.Tx.joinC 32 ((d::r).map Go.Tx.dig))++_;rw[this,gI];rfl
theorem Zk3 {o ox:Option Addr}{q z i:Nat}{acs:List Ac}{xs:List Lv}{tn:Tn}(H:Holds w L) (hT:TsIn L a ts) (hA:AsIn L o acs) (hX:LvIn L ox xs) (hal:acs.length<=999) (hl:xs.length<=1000) (hu:usedF xs<=1099511627776)
   (hw:whoD acs=some (i:Int)) (htn:ts[i]?=some tn) (h1:0<=tn.me/\tn.me<=1099511627776) (h2:0<=tn.st/\tn.st<=1099511627776)
   (k:∀ w',Same w w'->Holds w' L->K (S_ (joinF [0,xs.length,usedF xs,tn.me.toNat,tn.st.toNat])) w') :
   Cl prog 45 #[.agg (cellsZ a ts.length c n ⟨o,acs.length,q⟩ ⟨ox,xs.length,z⟩ out wt).toArray] w K:=by
 have hlt:i < ts.length:=(gH.1 htn).1;refine Tz45 ?_;unfold Vz45;refine r_new H λqb w1 S1 H1=>?_;replace H1:Holds w1 (blk qb tQt (cellsZ a ts.length c n ⟨o,acs.length,q⟩ ⟨ox,xs.length,z⟩ out wt)::L):=H1;refine Za0 (λx w'=>∃ tb,x=pt tb/\Same w w'/\Holds w' (blk tb tT (cellsT tn)::blk qb tQt (cellsZ a ts.length c n ⟨o,acs.length,q⟩ ⟨ox,xs.length,z⟩ out wt)::L)) ?_ ?_
 rotate_left
 . refine r_dr H1 λw2 S2 H2=>⟨?_,?_⟩
   . refine r_fo0 (r_fo0 (r_ld 0 H2 rfl rfl (r_fo0 (r_ldA 0 H2 [.slice a ts.length c,.slice o acs.length q] rfl rfl rfl ?_))));refine Zbn H2 hA.up (by omega) λw3 S3 H3=>?_;rw[hw];refine r_rk (r_ld 0 H3 rfl rfl rfl) ?_;refine Ztr (F:=cellsT) (k:=5) (i:=i) hT H3.drop htn rfl hlt λp hp=>?_;refine r_new H3 λtb w4 S4 H4=>?_;rw[Zi7] at H4;refine r_rk (Zgm (cs:=(cellsT tn).toArray) rfl (λj v hv=>hp w4 H4.drop.drop j v (by simpa using hv)) rfl) ?_;refine r_rk (r_ldA 1 H4 [.slice a ts.length c,.slice o acs.length q] rfl rfl rfl rfl) (r_rk (r_ld 1 H4 rfl rfl rfl) ?_);refine r_stA 0 H4 (vs:=cellsT tn) rfl (Nat.le_refl 5) rfl (Zb7 tn) λw5 S5 H5=>?_;exact r_ke ⟨tb,rfl,S1.trans (S2.trans (S3.trans (S4.trans S5))),H5⟩
   . refine r_fo0 (r_fo0 (r_ld 0 H2 rfl rfl (r_fo0 (r_ldA 0 H2 [.slice a ts.length c,.slice o acs.length q] rfl rfl rfl ?_))));refine r_new H2 λtb w3 S3 H3=>?_;rw[Zi7] at H3;refine r_rk (r_ldA 1 H3 [.slice a ts.length c,.slice o acs.length q] rfl rfl rfl rfl) (r_rk (r_ld 1 H3 rfl rfl rfl) ?_);refine Zbn H3 hA.up.up (by omega) λw4 S4 H4=>?_;rw[hw];refine r_rk (r_ld 1 H4 rfl rfl rfl) ?_;refine Ztr (F:=cellsT) (k:=5) (i:=i) hT H4.drop.drop htn rfl hlt λp hp=>?_;refine r_rk (Zgm (cs:=(cellsT tn).toArray) rfl (λj v hv=>hp w2 H2.drop j v (by simpa using hv)) rfl) ?_;refine r_stA 0 H4 (vs:=cellsT tn) rfl (Nat.le_refl 5) rfl (Zb7 tn) λw5 S5 H5=>?_;exact r_ke ⟨tb,rfl,S1.trans (S2.trans (S3.trans (S4.trans S5))),H5⟩
 rintro _ _ w2 ⟨tb,rfl,S,H2⟩;refine r_dr H2 λw3 S3 H3=>?_;refine r_fo0 (r_ld 1 H3 rfl rfl (r_lnl (r_ldA 1 H3 (cellsZ a ts.length c n ⟨o,acs.length,q⟩ ⟨ox,xs.length,z⟩ out wt) rfl rfl rfl ?_)));refine Zeq H3 hX.up.up hu hl λw4 S4 H4=>?_;refine r_rk (r_lnl rfl) (r_rk (r_ld 1 H4 rfl rfl rfl) (r_fo0 (r_ld 0 H4 rfl rfl (r_rk (r_ld 0 H3 rfl rfl rfl) (r_fo0 (r_ld 0 H4 rfl rfl (r_rk (r_ld 0 H3 rfl rfl rfl) ?_)))))))
 have e1:iv tn.me=nv tn.me.toNat:=by unfold nv iv;congr 1;omega
 have e2:iv tn.st=nv tn.st.toNat:=by unfold nv iv;congr 1;omega
 rw[e1,e2];refine r_bsK (e:=3) [iv 0,nv xs.length,nv (usedF xs),nv tn.me.toNat,nv tn.st.toNat] H4 (by kernel_rfl) λb w5 S5 H5=>?_;have hl5:[0,xs.length,usedF xs,tn.me.toNat,tn.st.toNat].length=5:=rfl
 have hb5:∀ y∈[0,xs.length,usedF xs,tn.me.toNat,tn.st.toNat],y<=1000000000000000000:=by
   intro y hy;simp only[mem_cons,not_mem_nil,or_false] at hy
   rcases hy with rfl|rfl|rfl|rfl|rfl <;> omega
 have H6:=Zjr (f:=nv) (e:=3) (b:=b) 0 [0,xs.length,usedF xs,tn.me.toNat,tn.st.toNat] H5 rfl;generalize [0,xs.length,usedF xs,tn.me.toNat,tn.st.toNat]=l at k hl5 hb5 H6;replace H6:Holds w5 (SL nv 3 (.slice (some ⟨b,0,none⟩) l.length l.length) l::blk tb tT (cellsT tn)::blk qb tQt (cellsZ a ts.length c n ⟨o,acs.length,q⟩ ⟨ox,xs.length,z⟩ out wt)::L):=H6;rw[hl5] at H6;refine r_lnl ?_;refine Zb1 (λy x w'=>∃ i:Nat,i<=5/\x=nv i/\y=S_ (joinF (l.take i))/\Same w w'/\Holds w' (SL nv 3 (.slice (some ⟨b,0,none⟩) 5 5) l::blk tb tT (cellsT tn)::blk qb tQt (cellsZ a ts.length c n ⟨o,acs.length,q⟩ ⟨ox,xs.length,z⟩ out wt)::L)) (λ_ x _=>5 - (intOf x).toNat) ⟨0,by omega,rfl,rfl,S.trans (S3.trans (S4.trans S5)),H6⟩ ?_;clear H H1 H2 H3 H4 H5 H6 S S3 S4 S5;rintro _ _ _ w2 ⟨j,hj,rfl,rfl,S,H⟩;refine r_lss (r_ifD (λh=>?_) λh=>?_)
 . have hjl:j < l.length:=by omega
   obtain⟨x,hx⟩:∃ x,l[j]?=some x:=⟨_,gA hjl⟩;have hxb:=hb5 x (mem_of_getElem? hx);obtain⟨oa,sp,hv,H7⟩:=H.open 0 rfl
   obtain rfl:oa=some ⟨b,0,none⟩:=by injection hv with h1 _ _;exact h1.symm
   refine Zht (xs:=l) 0 H7 rfl (by omega) (by omega) ?_;rintro b2 hb2;cases hb2;refine Zi4 0 H7 rfl (x:=x) hx ?_;have hjoin:=Zim (l.take j) λy hy=>hb5 y (List.mem_of_mem_take hy);rw[gN] at hjoin
   have hdl:=Go.Tx.dig_len 18 x (by have:(10:Nat)^(18+1)=10000000000000000000:=(by decide);omega)
   have htk:l.take (j+1)=l.take j++[x]:=by rw[gO,hx];rfl
   refine Za0 (λy w'=>w2=w'/\y=S_ (if j=0 then [] else joinF (l.take j)++[32])) ?_ ?_
   rotate_left
   . refine r_gtr (r_ifD (λh0=>?_) λh0=>?_)
     . refine Zaw (ys:=[32]) (by simp;omega) (r_ke ⟨rfl,?_⟩);rw[if_neg (by omega)]
     . obtain rfl:j=0:=by omega
       exact r_ke ⟨rfl,rfl⟩
   rintro _ _ _ ⟨rfl,rfl⟩;refine L42.Zk0 hxb (Zaw (by split <;> simp <;> omega) (Za1 (by omega) (r_ke ⟨⟨j+1,by omega,rfl,?_,S,H⟩,?_⟩)))
   . congr 3
     rw[htk]
     by_cases h0:j=0
     . subst h0;rfl
     . rw[if_neg h0,Znx (λe=>by have h5:=congrArg List.length e;rw[gN,List.length_nil] at h5;omega)];simp
   . simp only[intOf,gC];omega
 . obtain rfl:j=5:=by omega
   rw[<-hl5,hF_];exact k w2 S H.drop.drop.drop
theorem Zog {y:Lv}{g:Bool}{xs:List Lv}{i:Nat}{x:Lv}(h:xs[i]?=some x):withF y g (xs.take (i+1))=withF y g (xs.take i)++(if x.id≠y.id then [x] else if g then [] else [y]):=by
 unfold withF;rw[gO,h,List.flatMap_append];simp
theorem Zqt {y:Lv}{g:Bool}{xs:List Lv}:(withF y g xs).length<=xs.length:=by
 unfold withF
 induction xs with
 |nil=>exact Nat.le_refl _
 |cons x r ih=>
   rw[hM_,gD,gY]
   have:(if x.id≠y.id then [x] else if g=true then [] else [y]).length<=1:=by
     split
     . simp
     . split <;> simp
   omega
theorem Zer {ox:Option Addr}{z:Nat}{xs:List Lv}{y:Lv}{g:Bool}(H:Holds w L) (hX:LvIn L ox xs) (hl:xs.length<=900)
   (k:∀ v w',Same w w'->Holds w' (RW cellsV 5 tL4 (Sl3.v v) (withF y g xs)::L)->K (.agg (cellsZ a tl c n va v out wt).toArray) w') :
   Cl prog 89 #[.agg (cellsZ a tl c n va ⟨ox,xs.length,z⟩ out wt).toArray,.agg (cellsV y).toArray,.bool g] w K:=by
 refine Tz89 ?_
 unfold Vz89
 refine r_new H λqb w1 S1 H1=>?_;replace H1:Holds w1 (blk qb tQt (cellsZ a tl c n va ⟨ox,xs.length,z⟩ out wt)::L):=H1;refine r_new H1 λyb w2 S2 H2=>?_;replace H2:Holds w2 (blk yb tL4 (cellsV y)::blk qb tQt (cellsZ a tl c n va ⟨ox,xs.length,z⟩ out wt)::L):=H2;refine r_new H2 λrb w3 S3 H3=>?_;rw[Zdg] at H3;refine r_fo0 (r_ld 2 H3 rfl rfl (r_lnl ?_));generalize hB:[blk rb tQt [.slice none 0 0,iv 0,iv 0,iv 0,iv 0,iv 0,iv 0,.slice none 0 0,.slice none 0 0,.slice none 0 0,S_ [],.bool false],blk yb tL4 (cellsV y),blk qb tQt (cellsZ a tl c n va ⟨ox,xs.length,z⟩ out wt)]=M
 have H4:Holds w3 (RW cellsV 5 tL4 (.slice none 0 0) (withF y g (xs.take 0))::(M++L)):=by
   subst hB;exact H3.nilRW cellsV 5 tL4
 refine Zb1 (λv x w'=>∃ i:Nat,i<=xs.length/\x=nv i/\Same w w'/\Holds w' (RW cellsV 5 tL4 v (withF y g (xs.take i))::(M++L))) (λ_ x _=>xs.length - (intOf x).toNat) ⟨0,by omega,rfl,S1.trans (S2.trans S3),H4⟩ ?_;subst hB;clear H H1 H2 H3 H4 S1 S2 S3;rintro _ v _ w4 ⟨i,hi,rfl,S,H⟩;refine r_lss (r_ifD (λh=>?_) λh=>?_)
 . replace h:(i:Int) < (xs.length:Int):=h
   have hlt:i < xs.length:=by omega
   obtain⟨x,hx⟩:∃ x,xs[i]?=some x:=⟨_,gA hlt⟩;have hmu:∀ P:Prop,P->P/\xs.length - (intOf (nv (i+1))).toNat < xs.length - (intOf (nv i)).toNat:=λP hP=>⟨hP,by simp only[intOf,gC];omega⟩
   have hwl:(withF y g (xs.take i)).length<=i:=by
     have:=Zqt (y:=y) (g:=g) (xs:=xs.take i);rw[gN] at this;omega
   have htk:=Zog (y:=y) (g:=g) hx;refine S4r.r_ldG (hX.up.up.up.up) H hx rfl hlt ?_;refine r_new H λb w5 S5 H5=>?_;rw[Zik] at H5;refine r_stA 0 H5 (vs:=cellsV x) rfl (Nat.le_refl 5) rfl rfl λw6 S6 H6=>?_;replace H6:Holds w6 (blk b tL4 (cellsV x)::RW cellsV 5 tL4 v (withF y g (xs.take i))::_):=H6;have S':=S.trans (S5.trans S6);refine r_fo0 (r_ld 0 H6 rfl rfl (r_fo0 (r_ld 3 H6 rfl rfl (r_neq (r_ifN (λh2=>?_) λh2=>?_)))))
   . refine r_ldA 0 H6 (cellsV x) rfl rfl rfl ?_;refine Zhz H6 1 x rfl (by kernel_rfl) (λ_=>rfl) l4_sg (by omega) (by decide) λv2 w7 S7 H7=>?_;refine Za1 (by omega) (r_ke (hmu _ ⟨i+1,by omega,rfl,S'.trans S7,?_⟩));rw[htk,if_pos (by omega)];exact H7.drop
   . refine r_not (r_vif (λhg=>?_) λhg=>?_)
     . refine r_ldA 3 H6 (cellsV y) rfl rfl rfl ?_;refine Zhz H6 1 y rfl (by kernel_rfl) (λ_=>rfl) l4_sg (by omega) (by decide) λv2 w7 S7 H7=>?_;refine Za1 (by omega) (r_ke (hmu _ ⟨i+1,by omega,rfl,S'.trans S7,?_⟩));rw[htk,if_neg (by omega),if_neg (by simpa using hg)];exact H7.drop
     . refine Za1 (by omega) (r_ke (hmu _ ⟨i+1,by omega,rfl,S',?_⟩));rw[htk,if_neg (by omega),if_pos (by simpa using hg),gU];exact H6.drop
 . replace h:¬ (i:Int) < (xs.length:Int):=h
   obtain rfl:i=xs.length:=by omega
   rw[hF_] at H;obtain⟨o4,m4,sp4,rfl,_⟩:=H.openRW 0 rfl;refine r_fo0 (r_st 3 H rfl (by show 9 < 12;decide) rfl λw5 S5 H5=>?_);refine r_ldA 3 H5 (cellsZ a tl c n va ⟨o4,(withF y g xs).length,(withF y g xs).length+m4⟩ out wt) rfl rfl rfl ?_;refine r_stA 1 H5 (vs:=cellsZ a tl c n va ⟨o4,(withF y g xs).length,(withF y g xs).length+m4⟩ out wt) rfl (Nat.le_refl 12) rfl rfl λw6 S6 H6=>?_;refine r_ldA 1 H6 (cellsZ a tl c n va ⟨o4,(withF y g xs).length,(withF y g xs).length+m4⟩ out wt) rfl rfl rfl ?_;exact k _ w6 (S.trans (S5.trans S6)) (Holds.dropAt (Holds.dropAt (Holds.dropAt H6 1) 1) 1)
end
end F33
namespace F33
open Go.M31 J30 J31 J32
variable {w:World}{L:List HProp}{K:KT}
def zqL:List Value:=[.slice none 0 0,iv 0,iv 0,iv 0,iv 0,iv 0,iv 0,.slice none 0 0,.slice none 0 0,.slice none 0 0,S_ [],.bool false]
section
variable {a:Option Addr}{ts:List Tn}{c tl z:Nat}{n:Cf}{va vx:Sl3}{out:List UInt8}{wt:Bool}{ox:Option Addr}{xs:List Lv}
theorem Ze4 {rb:Nat}{v x:Sl3}{out:List UInt8}{wt:Bool}(i:Nat) (H:Holds w L) (hi:L[i]?=some (blk rb tQt zqL)){K:KT}(k:∀ w',Same w w'->Holds w' (L.set i (blk rb tQt (cellsZ a tl c n v x out wt)))->K (.agg (cellsZ a tl c n v x out wt).toArray) w') :
   StA 12 (pt rb) (.agg (cellsZ a tl c n v x out wt).toArray) w λw1=>LdA 12 (pt rb) w1 λy=>K y w1:=by
 have hlt:i < L.length:=(gH.1 hi).1;refine r_stA i H (vs:=cellsZ a tl c n v x out wt) hi (Nat.le_refl 12) rfl rfl λw1 S1 H1=>?_;exact r_ldA i H1 (cellsZ a tl c n v x out wt) (List.getElem?_set_self hlt) rfl rfl (k w1 S1 H1)
theorem Zjc {y:Lv}{N:Nat}(H:Holds w L) (hX:LvIn L ox xs) (hl:xs.length<=900) (hh:y.head.length<=1000) (hcr:y.cr+N<=1099511627776) (hid:y.id<=4294967295) (ho:out.length<=10000000)
   (k:∀ v w',Same w w'->Holds w' (RW cellsV 5 tL4 (Sl3.v v) (withF (chunksF n.ch 5 { y with cr:=y.cr+N } out).1 false xs)::L)->K (.agg (cellsZ a tl c n va v (chunksF n.ch 5 { y with cr:=y.cr+N } out).2 wt).toArray) w') :
   Cl prog 90 #[.agg (cellsZ a tl c n va ⟨ox,xs.length,z⟩ out wt).toArray,.agg (cellsV y).toArray,nv N] w K:=by
 refine Tz90 ?_;unfold Vz90;refine r_new H λqb w1 S1 H1=>?_;replace H1:Holds w1 (blk qb tQt (cellsZ a tl c n va ⟨ox,xs.length,z⟩ out wt)::L):=H1;refine r_new H1 λyb w2 S2 H2=>?_;replace H2:Holds w2 (blk yb tL4 (cellsV y)::blk qb tQt (cellsZ a tl c n va ⟨ox,xs.length,z⟩ out wt)::L):=H2;refine r_new H2 λrb w3 S3 H3=>?_;rw[Zdg] at H3;refine r_fo0 (r_ld 1 H3 rfl rfl (Zaa (by omega) ?_));refine r_fo0 (r_st 1 H3 rfl (by show 4 < 5;decide) rfl λw4 S4 H4=>?_)
 have fin:∀ (y':Lv) (out':List UInt8) w',chunksF n.ch 5 { y with cr:=y.cr+N } out=(y',out')->Same w w'->Holds w' (blk rb tQt zqL::blk yb tL4 (cellsV y')::blk qb tQt (cellsZ a tl c n va ⟨ox,xs.length,z⟩ out' wt)::L)->
     LdA 12 (pt qb) w' λx_21=>LdA 5 (pt yb) w' λx_22=>Cl prog 89 #[x_21,x_22,.bool false] w' λx_23 w6=>StA 12 (pt rb) x_23 w6 λw7=>LdA 12 (pt rb) w7 λx_24=>K x_24 w7:=by
   intro y' out' w' he S H;rw[he] at k;refine r_ldA 2 H (cellsZ a tl c n va ⟨ox,xs.length,z⟩ out' wt) rfl rfl rfl (r_ldA 1 H (cellsV y') rfl rfl rfl ?_);refine Zer H hX.up.up.up hl λv w5 S5 H5=>?_;refine Ze4 1 H5 rfl λw6 S6 H6=>?_;exact k v w6 (S.trans (S5.trans S6)) (Holds.dropAt (Holds.dropAt (Holds.dropAt H6 1) 1) 1)
 refine Zat (λx w'=>∃ (i:Nat) (head:List UInt8) (cr:Nat) (out':List UInt8),i<=5/\x=nv i/\chunksF n.ch (5 - i) { y with head:=head,cr:=cr } out'=chunksF n.ch 5 { y with cr:=y.cr+N } out/\head.length<=1000/\cr<=y.cr+N/\
     out'.length<=out.length+1009*i/\Same w w'/\Holds w' (blk rb tQt zqL::blk yb tL4 (cellsV { y with head:=head,cr:=cr })::blk qb tQt (cellsZ a tl c n va ⟨ox,xs.length,z⟩ out' wt)::L)) (λx _=>5 - (intOf x).toNat) ⟨0,y.head,y.cr+N,out,by omega,rfl,rfl,hh,Nat.le_refl _,by omega,S1.trans (S2.trans (S3.trans S4)),H4⟩ ?_
 clear H H1 H2 H3 H4 S1 S2 S3 S4 k;rintro _ _ w5 ⟨i,head,cr,out',hi,rfl,hch,hhl,hcl,hol,S,H⟩;refine r_lss (r_ifD (λh=>?_) λh=>?_)
 . have e5:5 - i=(5 - (i+1))+1:=by omega
   rw[e5,chunksF] at hch;refine r_fo0 (r_ld 1 H rfl rfl (q_len (r_fo0 (r_ld 1 H rfl rfl (r_fo0 (r_fo0 (r_ld 2 H rfl rfl ?_)))))));refine Zx4 (c:=n.ch) ?_;replace hch:(if min (min head.length cr) n.ch=0 then (({ y with head:=head,cr:=cr }:Lv),out') else chunksF n.ch (5 - (i+1)) { y with head:=head.drop (min (min head.length cr) n.ch),cr:=cr - min (min head.length cr) n.ch } (out'++encF ⟨66,y.id,head.take (min (min head.length cr) n.ch)⟩))=chunksF n.ch 5 { y with cr:=y.cr+N } out:=hch
   have hm1:min (min head.length cr) n.ch<=head.length:=by omega
   have hm2:min (min head.length cr) n.ch<=cr:=by omega
   generalize min (min head.length cr) n.ch=m at hch hm1 hm2;refine r_eql (r_ifE (λh0=>?_) λh0=>?_)
   . obtain rfl:m=0:=by omega
     rw[if_pos rfl] at hch;exact fin _ out' w5 hch.symm S H
   . rw[if_neg (by omega)] at hch;refine r_dr H λw6 S6 H6=>?_;refine r_ldA 2 H6 (cellsZ a tl c n va ⟨ox,xs.length,z⟩ out' wt) rfl rfl rfl ?_;refine r_fo0 (r_ld 1 H6 rfl rfl (r_fo0 (r_ld 1 H6 rfl rfl (q_T hm1 ?_))));refine r_bd (v:=.agg #[nv 66,nv y.id,S_ (head.take m),nv 0]) (by kernel_rfl) ?_
     have htl:(head.take m).length=m:=by rw[gN];omega
     refine Zcg (ty:=66) (jb:=y.id) (e:=0) (da:=head.take m) (da':=head.take m) H6 (.inr ⟨by decide,by decide,rfl⟩) (by decide) hid (by omega) (by omega) λw7 S7 H7=>?_;refine r_stA 2 H7 (vs:=cellsZ a tl c n va ⟨ox,xs.length,z⟩ (out'++encF ⟨66,y.id,head.take m⟩) wt) rfl (Nat.le_refl 12) rfl rfl λw8 S8 H8=>?_;refine r_fo0 (r_ld 1 H8 rfl rfl (q_D hm1 (r_fo0 (r_st 1 H8 rfl (by show 3 < 5;decide) rfl λw9 S9 H9=>?_))));refine r_fo0 (r_ld 1 H9 rfl rfl (r_sub (a:=cr) (b:=m) (by omega) (by omega) ?_));rw[show (cr:Int) - (m:Int)=((cr - m:Nat):Int) by omega];refine r_fo0 (r_st 1 H9 rfl (by show 4 < 5;decide) rfl λw10 S10 H10=>?_);refine Za1 (by omega) (r_ke ⟨⟨i+1,head.drop m,cr - m,out'++encF ⟨66,y.id,head.take m⟩,by omega,rfl,hch,by rw[gS];omega,by omega,?_,S.trans (S6.trans (S7.trans (S8.trans (S9.trans S10)))),H10⟩,?_⟩)
     . rw[gD,Zay];show _+(9+(head.take m).length)<=_;omega
     . simp only[intOf,gC];omega
 . obtain rfl:i=5:=by omega
   exact fin _ out' w5 hch.symm S H
theorem Zvw {xs:List Lv}{i:Nat}{y:Lv}{jb:Int}(hy:xs[i]?=some y) (he:(y.id:Int)=jb) (hn:∀ j u,j < i->xs[j]?=some u->(u.id:Int)≠jb):xs.find? (λy=>decide ((y.id:Int)=jb))=some y:=by
 induction xs generalizing i with
 |nil=>simp at hy
 |cons x r ih=>
   cases i with
   |zero=>
     obtain rfl:x=y:=by simpa using hy
     rw[find?_cons_of_pos (by simpa using he)]
   |succ i=>
     have h0:=hn 0 x (by omega) rfl;rw[find?_cons_of_neg (by simpa using h0)];exact ih (by simpa using hy) λj u hj hu=>hn (j+1) u (by omega) (by simpa using hu)
theorem Zpq {q:Qt}{x:Ac}(H:Holds w L) (hX:LvIn L ox q.xs) (hl:q.xs.length<=900) (hw:x.wh=4\/x.wh=5\/x.wh=6\/x.wh=7) (hnn:0<=x.nn/\x.nn < 4294967296) (htx:x.tx.data.toList.length<=65536)
   (hok:∀ y∈q.xs,y.head.length<=1000/\y.cr<=500000000000/\y.id<=4294967295/\y.room<=1048576) (ho:q.out.length<=10000000)
   (k1:∀ w',useF n q x=q->Same w w'->Holds w' L->K (.agg (cellsZ a tl c n va ⟨ox,q.xs.length,z⟩ q.out q.wt).toArray) w')
   (k2:∀ v w',Same w w'->Holds w' (RW cellsV 5 tL4 (Sl3.v v) (useF n q x).xs::L)->K (.agg (cellsZ a tl c n va v (useF n q x).out (useF n q x).wt).toArray) w') :
   Cl prog 46 #[.agg (cellsZ a tl c n va ⟨ox,q.xs.length,z⟩ q.out q.wt).toArray,.agg (cellsA x).toArray] w K:=by
 refine Tz46 ?_;unfold Vz46;refine r_new H λqb w1 S1 H1=>?_;replace H1:Holds w1 (blk qb tQt (cellsZ a tl c n va ⟨ox,q.xs.length,z⟩ q.out q.wt)::L):=H1;refine r_new H1 λab w2 S2 H2=>?_;replace H2:Holds w2 (blk ab tDA (cellsA x)::blk qb tQt (cellsZ a tl c n va ⟨ox,q.xs.length,z⟩ q.out q.wt)::L):=H2;refine r_new H2 λrb w3 S3 H3=>?_;rw[Zdg] at H3;replace H3:Holds w3 (blk rb tQt zqL::blk ab tDA (cellsA x)::blk qb tQt (cellsZ a tl c n va ⟨ox,q.xs.length,z⟩ q.out q.wt)::L):=H3;refine r_fo0 (r_ld 2 H3 rfl rfl (r_lnl ?_))
 refine Zat (λu w'=>∃ i:Nat,i<=q.xs.length/\u=nv i/\(x.wh=5\/∀ j y,j < i->q.xs[j]?=some y->(y.id:Int)≠x.jb)/\Same w w'/\Holds w' (blk rb tQt zqL::blk ab tDA (cellsA x)::blk qb tQt (cellsZ a tl c n va ⟨ox,q.xs.length,z⟩ q.out q.wt)::L)) (λu _=>q.xs.length - (intOf u).toNat)
   ⟨0,by omega,rfl,.inr λj y hj=>by omega,S1.trans (S2.trans S3),H3⟩ ?_
 clear H H1 H2 H3 S1 S2 S3;rintro _ _ w4 ⟨i,hi,rfl,hn,S,H⟩;refine r_lss (r_ifD (λh=>?_) λh=>?_)
 . replace h:(i:Int) < (q.xs.length:Int):=h
   have hlt:i < q.xs.length:=by omega
   obtain⟨y,hy⟩:∃ y,q.xs[i]?=some y:=⟨_,gA hlt⟩;obtain⟨o1,o2,o3,o4⟩:=hok y (mem_of_getElem? hy);have hmu:∀ P:Prop,P->P/\q.xs.length - (intOf (nv (i+1))).toNat < q.xs.length - (intOf (nv i)).toNat:=λP hP=>⟨hP,by simp only[intOf,gC];omega⟩;refine S4r.r_ldG hX.up.up.up H hy rfl hlt ?_;refine r_new H λb w5 S5 H5=>?_;rw[Zik] at H5;refine r_stA 0 H5 (vs:=cellsV y) rfl (Nat.le_refl 5) rfl rfl λw6 S6 H6=>?_;replace H6:Holds w6 (blk b tL4 (cellsV y)::blk rb tQt zqL::blk ab tDA (cellsA x)::blk qb tQt (cellsZ a tl c n va ⟨ox,q.xs.length,z⟩ q.out q.wt)::L):=H6;replace S:=S.trans (S5.trans S6);clear S5 S6 H5 H;refine r_fo0 (r_ld 0 H6 rfl rfl (r_fo0 (r_ld 2 H6 rfl rfl (r_neq (r_ifN (λh2=>?_) λh2=>?_)))))
   . refine Za1 (by omega) (r_ke (hmu _ ⟨i+1,by omega,rfl,?_,S,H6.drop⟩));rcases hn with hn|hn
     . exact .inl hn
     . refine .inr λj u hj hu=>?_;rcases hU_ j i with h5|h5
       . exact hn j u h5 hu
       . obtain rfl:j=i:=by omega
         rw[hy] at hu;obtain rfl:=Option.some.inj hu;exact h2
   . have hf:x.wh≠5->q.xs.find? (λy=>decide ((y.id:Int)=x.jb))=some y:=λe=>Zvw hy h2 (hn.resolve_left e);refine r_fo0 (r_ld 2 H6 rfl rfl (r_eql (r_ifE (λh4=>?_) λh4=>?_)))
     . have hu:useF n q x={ q with wt:=decide (y.room < x.tx.data.toList.length),xs:=withF { y with room:=y.room - x.tx.data.toList.length } false q.xs }:=by
         unfold useF;rw[hf (by omega)];show (if x.wh=4 then _ else _)=_;rw[if_pos h4]
       rw[hu] at k2
       have hsz:x.tx.size=x.tx.data.toList.length:=by simp
       refine r_fo0 (r_ld 2 H6 rfl rfl (r_lns (r_fo0 (r_ld 0 H6 rfl rfl (r_gtr ?_)))));refine r_fo0 (r_st 3 H6 rfl (by show 11 < 12;decide) rfl λw7 S7 H7=>?_);refine r_fo0 (r_ld 0 H7 rfl rfl (r_fo0 (r_ld 2 H7 rfl rfl (r_lns (r_sub (by omega) (by omega) (r_max ?_))))));rw[hsz,show max (0:Int) ((y.room:Int) - (x.tx.data.toList.length:Int))=((y.room - x.tx.data.toList.length:Nat):Int) by omega];refine r_fo0 (r_st 0 H7 rfl (by show 2 < 5;decide) rfl λw8 S8 H8=>?_)
       have e1:decide ((x.tx.size:Int) > (y.room:Int))=decide (y.room < x.tx.data.toList.length):=by
         rw[hsz,Bool.eq_iff_iff,decide_eq_true_iff,decide_eq_true_iff];omega
       replace H8:Holds w8 (blk b tL4 (cellsV { y with room:=y.room - x.tx.data.toList.length })::blk rb tQt zqL::blk ab tDA (cellsA x)::blk qb tQt (cellsZ a tl c n va ⟨ox,q.xs.length,z⟩ q.out (decide ((x.tx.size:Int) > (y.room:Int))))::L):=H8;rw[e1] at H8;refine r_ldA 3 H8 (cellsZ a tl c n va ⟨ox,q.xs.length,z⟩ q.out (decide (y.room < x.tx.data.toList.length))) rfl rfl rfl ?_;refine r_ldA 0 H8 (cellsV { y with room:=y.room - x.tx.data.toList.length }) rfl rfl rfl ?_;refine Zer H8 hX.up.up.up.up hl λv w9 S9 H9=>?_;refine Ze4 2 H9 rfl λw10 S10 H10=>?_;exact k2 v w10 (S.trans (S7.trans (S8.trans (S9.trans S10)))) (Holds.dropAt (Holds.dropAt (Holds.dropAt (Holds.dropAt H10 1) 1) 1) 1)
     refine r_eql (r_ifE (λh6=>?_) λh6=>?_)
     . have hu:useF n q x={ q with xs:=withF y true q.xs }:=by
         unfold useF;rw[hf (by omega)];show (if x.wh=4 then _ else if x.wh=6 then _ else _)=_;rw[if_neg h4,if_pos h6]
       rw[hu] at k2;refine r_ldA 3 H6 (cellsZ a tl c n va ⟨ox,q.xs.length,z⟩ q.out q.wt) rfl rfl rfl ?_;refine r_ldA 0 H6 (cellsV y) rfl rfl rfl ?_;refine Zer H6 hX.up.up.up.up hl λv w9 S9 H9=>?_;refine Ze4 2 H9 rfl λw10 S10 H10=>?_;exact k2 v w10 (S.trans (S9.trans S10)) (Holds.dropAt (Holds.dropAt (Holds.dropAt (Holds.dropAt H10 1) 1) 1) 1)
     refine r_eql (r_ifE (λh7=>?_) λh7=>?_)
     . have hu:useF n q x={ q with xs:=withF (chunksF n.ch 5 { y with cr:=y.cr+x.nn.toNat } q.out).1 false q.xs,out:=(chunksF n.ch 5 { y with cr:=y.cr+x.nn.toNat } q.out).2 }:=by
         unfold useF;rw[hf (by omega)];show (if x.wh=4 then _ else if x.wh=6 then _ else if x.wh=7 then _ else _)=_;rw[if_neg h4,if_neg h6,if_pos h7]
       rw[hu] at k2
       have e1:iv x.nn=nv x.nn.toNat:=by unfold nv iv;congr 1;omega
       refine r_ldA 3 H6 (cellsZ a tl c n va ⟨ox,q.xs.length,z⟩ q.out q.wt) rfl rfl rfl ?_;refine r_ldA 0 H6 (cellsV y) rfl rfl rfl (r_fo0 (r_ld 2 H6 rfl rfl ?_));rw[e1];refine Zjc H6 hX.up.up.up.up hl o1 (by omega) o3 ho λv w9 S9 H9=>?_;refine Ze4 2 H9 rfl λw10 S10 H10=>?_;exact k2 v w10 (S.trans (S9.trans S10)) (Holds.dropAt (Holds.dropAt (Holds.dropAt (Holds.dropAt H10 1) 1) 1) 1)
     refine Za1 (by omega) (r_ke (hmu _ ⟨i+1,by omega,rfl,.inl (by omega),S,H6.drop⟩))
 . replace h:¬ (i:Int) < (q.xs.length:Int):=h
   obtain rfl:i=q.xs.length:=by omega
   have hu:useF n q x=q:=by
     unfold useF
     cases hf:q.xs.find? (λy=>decide ((y.id:Int)=x.jb)) with
     |none=>rfl
     |some y=>
       rcases hn with hn|hn
       . show (if x.wh=4 then _ else if x.wh=6 then _ else if x.wh=7 then _ else _)=_;rw[if_neg (by omega),if_neg (by omega),if_neg (by omega)]
       . exfalso;obtain⟨j,hj⟩:=getElem?_of_mem (List.mem_of_find?_eq_some hf);exact hn j y (gH.1 hj).1 hj (by simpa using List.find?_some hf)
   refine r_ldA 2 H (cellsZ a tl c n va ⟨ox,q.xs.length,z⟩ q.out q.wt) rfl rfl rfl ?_;refine Ze4 0 H rfl λw10 S10 H10=>?_;exact k1 w10 hu (S.trans S10) H10.drop.drop.drop
end
end F33
namespace F33
open Go.M31 J30 J31 J32
variable {w:World}{L:List HProp}{K:KT}
section
variable {s:Sx}{ts:List Tn}{n:Cf}{wt last m t c:Nat}{B:List UInt8}{as_:List G40.Ak}{ys:List Px}{a:G40.Ak}{q:Qt}{f:Fr}
theorem Zsa {e:Nat}(h:Rp ts n c q t 0 last m B as_ ys a) (hc:c<=60) (hx:stepF ts q.acs f=refF f e) (he1:1<=e) (he2:e<=255) (hjb:f.jb<=4294967295)
   (H:Holds w (SvL s ts n 0 last (q.acs++[stepF ts q.acs f]) q.out B (ys.map (rowP t)) as_ (livesF ys) ys m++L))
   (post:∀ w',Same w w'->Rep s ts n (c+1) (quiF ts n q f) L w'->K (.tuple #[]) w'):Cl prog 80 #[pt s.b,pt s.ln,.agg (cellsA (stepF ts q.acs f)).toArray] w K:=by
 have hou:=h.ou
 have hq:quiF ts n q f={ q with acs:=q.acs++[refF f e],out:=q.out++encF ⟨69,f.jb,[UInt8.ofNat e]⟩ }:=by unfold quiF;rw[hx];rfl
 rw[hq] at post;rw[hx] at H ⊢;refine Tz80 ?_;unfold Vz80;refine r_new H λab w1 S1 H1=>?_;replace H1:Holds w1 (blk ab tAc (cellsA (refF f e))::(SvL s ts n 0 last (q.acs++[refF f e]) q.out B (ys.map (rowP t)) as_ (livesF ys) ys m++L)):=H1;refine r_fo0 (r_ld 0 H1 rfl rfl (r_eql (r_vtE rfl (r_fo0 (r_ld 0 H1 rfl rfl (r_fo0 (r_ld 0 H1 rfl rfl ?_)))))));refine Zkr (j:=4) (jb:=f.jb) (e:=e) (wt:=0) (pa:=s.pa) (cb:=s.cb) (out:=q.out) H1 rfl hjb he1 he2 (by omega) λw2 S2 H2=>?_;refine post w2 (S1.trans S2) ⟨t,0,last,m,B,as_,ys,a,h.sent (by show (1:Int)≠3/\(1:Int)≠5/\(1:Int)≠6;decide) (λ_=>by show (1:Int)≠2;decide) (by rw[Zay];show 9+1<=_;decide),H2.drop⟩
theorem Zsp {i:Nat}(hK:Kn ts n) (h:Rp ts n c q t 0 last m B as_ ys a) (hc:c<=60) (hwho:whoD q.acs=none) (hi:i < ts.length) (hx:stepF ts q.acs f=⟨2,0,(i:Int),0,0,0,BA [],0⟩)
   (H:Holds w (SvL s ts n 0 last (q.acs++[stepF ts q.acs f]) q.out B (ys.map (rowP t)) as_ (livesF ys) ys m++L))
   (post:∀ w',Same w w'->Rep s ts n (c+1) (quiF ts n q f) L w'->K (.tuple #[]) w'):Cl prog 80 #[pt s.b,pt s.ln,.agg (cellsA (stepF ts q.acs f)).toArray] w K:=by
 have hou:=h.ou;obtain⟨tn,htn⟩:∃ tn,ts[i]?=some tn:=⟨_,gA hi⟩;have hk1:=hK.t1 tn (mem_of_getElem? htn)
 have hnl:tn.nm.data.toList.length<=1000:=by have:=hk1.2.2.2.2;simpa using this
 have hq:quiF ts n q f={ q with acs:=q.acs++[⟨2,0,(i:Int),0,0,0,BA [],0⟩],out:=q.out++encF ⟨65,0,tn.nm.data.toList⟩ }:=by
   unfold quiF;rw[hx];show sendF _ 65 0 ((ts[i]?.map λt=>t.nm.data.toList).getD [])=_;rw[htn];rfl
 rw[hq] at post;rw[hx] at H ⊢;refine Tz80 ?_;unfold Vz80;refine r_new H λab w1 S1 H1=>?_;replace H1:Holds w1 (blk ab tAc (cellsA ⟨2,0,(i:Int),0,0,0,BA [],0⟩)::(SvL s ts n 0 last (q.acs++[⟨2,0,(i:Int),0,0,0,BA [],0⟩]) q.out B (ys.map (rowP t)) as_ (livesF ys) ys m++L)):=H1;refine r_fo0 (r_ld 0 H1 rfl rfl (r_eql (r_vfE (by show ¬ (2:Int)=1;decide) (r_eql (r_vtE rfl ?_)))));refine r_dr H1 λw2 S2 H2=>?_;refine r_nc (r_fo0 (r_fo0 (r_ld 1 H2 rfl rfl (r_fo0 (r_ld 0 H2 rfl rfl ?_)))));have hA:S4r.InG cellsT 5 (blk ab tAc (cellsA ⟨2,0,(i:Int),0,0,0,BA [],0⟩)::(SvL s ts n 0 last (q.acs++[⟨2,0,(i:Int),0,0,0,BA [],0⟩]) q.out B (ys.map (rowP t)) as_ (livesF ys) ys m++L)) s.a ts:=S4r.InG.own (e:=tT) (n:=ts.length) (c:=s.c) 2 rfl λ_=>rfl;obtain⟨p,hpa,hcl⟩:=hA w2 H2 i tn htn;rw[hpa];refine Zcj hi (r_foA (r_ldP (hcl 0 (.string tn.nm) rfl) ?_));rw[S_of tn.nm];refine r_bd (v:=.agg (cellsN 65 0 tn.nm.data.toList 0).toArray) (by kernel_rfl) ?_;refine Zea (j:=4) (wt:=0) (pa:=s.pa) (cb:=s.cb) (out:=q.out) (da:=tn.nm.data.toList) H2 rfl (by decide) (by omega) (.inl ⟨.inl ⟨.inl rfl,rfl⟩,rfl,rfl⟩) (by omega) λw3 S3 H3=>?_;obtain⟨hys,has⟩:=h.no hwho;subst hys;have hwd:whoD (q.acs++[⟨2,0,(i:Int),0,0,0,BA [],0⟩])=some (i:Int):=Zk2 hwho rfl
 have hta:as_[i]?=some (ak0 tn):=by rw[has,hV_,htn];rfl
 have hxs:q.xs=[]:=by rw[h.xs];rfl
 have hme:=hk1.2.1;refine post w3 (S1.trans (S2.trans S3)) ⟨i,0,last,m,B,as_,[],ak0 tn,?_,H3.drop⟩
 exact { al:=by rw[gD,gQ];have:=h.al;omega
         wf:=(Zbr (f:=λ_=>none) (by show (2:Int)≠3/\(2:Int)≠5/\(2:Int)≠6;decide)).1 h.wf
         who:=λj hj=>by rw[hwd] at hj;exact (Option.some.inj hj).symm
         no:=λe=>by rw[hwd] at e;cases e
         tl:=hi,ta:=hta
         tm:=λtn' e=>by rw[htn] at e;obtain rfl:=Option.some.inj e;rfl
         us:=by show 0=usedF q.xs;rw[hxs];rfl
         ul:=Nat.zero_le _
         ll:=by show tn.me.toNat<=_;omega
         xs:=hxs,hd:=List.Pairwise.nil,ids:=List.Pairwise.nil
         ok:=λ_ y hy=>by cases hy
         en:=λy hy=>by cases hy
         op:=λy hy=>by cases hy
         la:=Nat.le_succ_of_le h.la,mm:=Nat.le_succ_of_le h.mm
         ou:=by rw[gD,Zay];show q.out.length+(9+tn.nm.data.toList.length)<=_;omega
         wq:=h.wq,bz:=h.bz
         bl:=by have:=h.bl;omega
         ln:=Nat.zero_le _ }
theorem Zst (hK:Kn ts n) (h:Rp ts n c q t 0 last m B as_ ys a) (hc:c<=60) (hwho:whoD q.acs≠none) (hx:stepF ts q.acs f=⟨8,0,0,0,0,0,BA [],0⟩)
   (H:Holds w (SvL s ts n 0 last (q.acs++[stepF ts q.acs f]) q.out B (ys.map (rowP t)) as_ (livesF ys) ys m++L))
   (post:∀ w',Same w w'->Rep s ts n (c+1) (quiF ts n q f) L w'->K (.tuple #[]) w'):Cl prog 80 #[pt s.b,pt s.ln,.agg (cellsA (stepF ts q.acs f)).toArray] w K:=by
 have hou:=h.ou;have hln:=h.ln;have hul:=h.ul;have hll:=h.ll;obtain⟨tn,htn⟩:∃ tn,ts[t]?=some tn:=⟨_,gA h.tl⟩;have hk1:=hK.t1 tn (mem_of_getElem? htn);have hli:=h.tm tn htn
 have hw0:whoD q.acs=some (t:Int):=by
   cases e:whoD q.acs with
   |none=>exact absurd e hwho
   |some i=>rw[h.who i e]
 have hst:stN tn<=1099511627776:=by unfold stN;omega
 have hus:a.us<=1099511627776:=by omega
 have hjl:(joinF [0,ys.length,a.us,a.li,stN tn]).length<=100:=Zim _ λy hy=>by
   simp only[mem_cons,not_mem_nil,or_false] at hy
   rcases hy with rfl|rfl|rfl|rfl|rfl <;> omega
 have hq:quiF ts n q f={ q with acs:=q.acs++[⟨8,0,0,0,0,0,BA [],0⟩],out:=q.out++encF ⟨70,0,joinF [0,ys.length,a.us,a.li,stN tn]⟩ }:=by
   unfold quiF;rw[hx];show (match whoD (q.acs++[⟨8,0,0,0,0,0,BA [],0⟩]) with|none=>_|some i=>_)=_;rw[Zb4 hw0];show (match ts[t]? with|none=>_|some t=>_)=_;rw[htn];show sendF _ 70 0 (joinF [0,q.xs.length,usedF q.xs,tn.me.toNat,tn.st.toNat])=_;rw[<-h.us,<-hli,h.xs,hS_];rfl
 rw[hq] at post;rw[hx] at H ⊢;refine Tz80 ?_;unfold Vz80;refine r_new H λab w1 S1 H1=>?_;have H2:Holds w1 (SvL s ts n 0 last (q.acs++[⟨8,0,0,0,0,0,BA [],0⟩]) q.out B (ys.map (rowP t)) as_ (livesF ys) ys m++(blk ab tAc (cellsA ⟨8,0,0,0,0,0,BA [],0⟩)::L)):=(by have h_:=Holds.ord 13 [1,2,3,4,5,6,7,8,9,10,11,12,0] (show Holds w1 (blk ab tAc (cellsA ⟨8,0,0,0,0,0,BA [],0⟩)::(SvL s ts n 0 last (q.acs++[⟨8,0,0,0,0,0,BA [],0⟩]) q.out B (ys.map (rowP t)) as_ (livesF ys) ys m++L)) from H1) rfl;exact h_);refine r_fo0 (r_ld 12 H2 rfl rfl (r_eql (r_vfE (by decide) (r_eql (r_vfE (by decide) (r_eql (r_vtE rfl ?_)))))));obtain⟨p,v,hp,H3⟩:=Zar (j:=3) H2 rfl;refine r_nc (r_fo0 (r_ld 0 H3 rfl rfl ?_));refine Zjx (j:=5) H2 rfl ?_;rw[Zb4 hw0];refine Zl4 (t:=t) H2 (by omega) h.ta htn hst hus hll λw2 S2 H4=>?_;refine r_bd (v:=.agg (cellsN 70 0 (joinF [0,ys.length,a.us,a.li,stN tn]) 0).toArray) (by kernel_rfl) ?_;refine Zea (j:=3) (wt:=0) (pa:=s.pa) (cb:=s.cb) (out:=q.out) (da:=joinF [0,ys.length,a.us,a.li,stN tn]) H4 rfl (by decide) (by omega) (.inl ⟨.inl ⟨.inr rfl,rfl⟩,rfl,rfl⟩) (by omega) λw3 S3 H5=>?_;refine post w3 (S1.trans (S2.trans S3)) ⟨t,0,last,m,B,as_,ys,a,h.sent (by show (8:Int)≠3/\(8:Int)≠5/\(8:Int)≠6;decide) (λ_=>by show (8:Int)≠2;decide) (by rw[Zay];show 9+(joinF _).length<=_;omega),Holds.dropAt H5 12⟩
theorem Zs3 (hK:Kn ts n) (h:Rp ts n c q t 0 last m B as_ ys a) (hc:c<=60) (hwho:whoD q.acs≠none) (h3:hadF 3 f.jb q.acs=false) (hkd:(kindF f.da).1≠0) (hjb:f.jb<=4294967295)
   (hx:stepF ts q.acs f=⟨3,(f.jb:Int),0,((kindF f.da).1:Int),((kindF f.da).2:Int),0,BA [],0⟩)
   (H:Holds w (SvL s ts n 0 last (q.acs++[stepF ts q.acs f]) q.out B (ys.map (rowP t)) as_ (livesF ys) ys m++L))
   (post:∀ w',Same w w'->Rep s ts n (c+1) (quiF ts n q f) L w'->K (.tuple #[]) w'):Cl prog 80 #[pt s.b,pt s.ln,.agg (cellsA (stepF ts q.acs f)).toArray] w K:=by
 have hou:=h.ou;have hln:=h.ln;have hul:=h.ul;have hll:=h.ll;have hla:=h.la;have hmm:=h.mm;have hk:=Zkt f.da;generalize hkk:(kindF f.da).1=kd at hx hk hkd;generalize hvv:(kindF f.da).2=lv at hx hk
 have hk2:kd=1/\1<=lv/\lv<=9\/(kd=2\/kd=3)/\lv=0:=by omega
 obtain⟨tn,htn⟩:∃ tn,ts[t]?=some tn:=⟨_,gA h.tl⟩;have hli:=h.tm tn htn
 have hw0:whoD q.acs=some (t:Int):=by
   cases e:whoD q.acs with
   |none=>exact absurd e hwho
   |some i=>rw[h.who i e]
 generalize hxe:(⟨3,(f.jb:Int),0,(kd:Int),(lv:Int),0,BA [],0⟩:Ac)=x at hx
 have hxw:x.wh=3:=by rw[<-hxe]
 have hxj:x.jb=(f.jb:Int):=by rw[<-hxe]
 have hw1:whoD (q.acs++[x])=some (t:Int):=Zb4 hw0
 have hq:quiF ts n q f=openF tn n { q with acs:=q.acs++[x] } f.jb kd lv:=by
   unfold quiF;rw[hx];unfold doF;rw[if_neg (by rw[hxw];decide),if_neg (by rw[hxw];decide),if_pos hxw];show (match whoD (q.acs++[x]) with|none=>_|some i=>_)=_;rw[hw1];show (match ts[t]? with|none=>_|some t=>_)=_;rw[htn,<-hxe];rfl
 rw[hq] at post;rw[hx] at H ⊢
 have hids:∀ y∈ys,y.id≠f.jb:=λy hy e=>by have:=h.op y hy;rw[e,h3] at this;cases this
 have hok:=h.ok rfl;have mk:=Zqb (f:=λ_=>none) hxw hxj h.wf h3
 have e5:∀ k:Nat,hadF 5 k (q.acs++[x])=hadF 5 k q.acs:=λk=>Zau λe=>by have:=e.1;omega
 have ref:∀ o:List UInt8,o.length<=2000->Rp ts n (c+1) { q with acs:=q.acs++[x],out:=q.out++o } t 0 last m B as_ ys a:=λo ho=>
   { al:=by rw[gD,gQ];have:=h.al;omega
     wf:=mk.1
     who:=λi hi=>by rw[hw1] at hi;exact (Option.some.inj hi).symm
     no:=λe=>by rw[hw1] at e;cases e
     tl:=h.tl,ta:=h.ta,tm:=h.tm,us:=h.us,ul:=h.ul,ll:=h.ll,xs:=h.xs,hd:=h.hd,ids:=h.ids
     ok:=λe y hy=>Zgg (h.ok e y hy) (by omega) (Nat.le_refl _)
     en:=λy hy=>by rw[e5];exact h.en y hy
     op:=λy hy=>by rw[Zc5,h.op y hy];rfl
     la:=Nat.le_succ_of_le h.la,mm:=Nat.le_succ_of_le h.mm
     ou:=by rw[gD];omega
     wq:=h.wq,bz:=h.bz
     bl:=by have:=h.bl;omega
     ln:=Nat.le_succ_of_le h.ln }
 have hneed:=Zml (u:=n.un) (wi:=n.wi) hk2 hK.g1 hK.g2 hK.g4;refine Tz80 ?_;unfold Vz80;refine r_new H λab w1 S1 H1=>?_;have H2:Holds w1 (SvL s ts n 0 last (q.acs++[x]) q.out B (ys.map (rowP t)) as_ (livesF ys) ys m++(blk ab tAc (cellsA x)::L)):=(by have h_:=Holds.ord 13 [1,2,3,4,5,6,7,8,9,10,11,12,0] (show Holds w1 (blk ab tAc (cellsA x)::(SvL s ts n 0 last (q.acs++[x]) q.out B (ys.map (rowP t)) as_ (livesF ys) ys m++L)) from H1) rfl;exact h_);refine r_fo0 (r_ld 12 H2 (v:=iv x.wh) rfl rfl ?_);rw[hxw];refine r_eql (r_vfE (by decide) (r_eql (r_vfE (by decide) (r_eql (r_vfE (by decide) (r_eql (r_vtE rfl ?_)))))));refine r_ldA 12 H2 (cellsA x) rfl rfl rfl ?_;rw[<-hxe];rw[<-hxe] at H2;have hts2:=hK.t2;refine Zrb (t:=t) (tn:=tn) (a:=a) H2 h.hd (λy hy=>(hok y hy).h2) hids (by omega) (by omega) (by omega) (by omega) (by rw[hxe];exact hw1) htn h.ta hul hll hk2 hK.g1 hK.g2 hK.g3 hK.g4 hK.g5 hK.g6 hjb (by omega) (λg w2 S2 H3=>?_) (λg g2 w2 S2 H3=>?_) λg g2 z w2 z1 z2 z3 z4 z5 z6 z7 z8 z9 S2 H3=>?_
 . have he:openF tn n { q with acs:=q.acs++[x] } f.jb kd lv={ q with acs:=q.acs++[x],out:=q.out++encF ⟨69,f.jb,[33]⟩ }:=by
     unfold openF;rw[if_pos (by rw[<-hli];exact g)];rfl
   rw[he] at post;rw[hxe] at H3;exact post w2 (S1.trans S2) ⟨t,0,last,m,B,as_,ys,a,ref _ (by rw[Zay];show 9+1<=_;decide),Holds.dropAt H3 12⟩
 . have he:openF tn n { q with acs:=q.acs++[x] } f.jb kd lv={ q with acs:=q.acs++[x],out:=q.out++encF ⟨69,f.jb,[34]⟩ }:=by
     unfold openF;rw[if_neg (by rw[<-hli];exact g),if_pos (by rw[<-hli];show q.xs.length=_\/a.li - usedF q.xs < _;rw[<-h.us,h.xs,hS_];exact g2)];rfl
   rw[he] at post;rw[hxe] at H3;exact post w2 (S1.trans S2) ⟨t,0,last,m,B,as_,ys,a,ref _ (by rw[Zay];show 9+1<=_;decide),Holds.dropAt H3 12⟩
 . have he:openF tn n { q with acs:=q.acs++[x] } f.jb kd lv={ q with acs:=q.acs++[x],xs:=q.xs++[⟨f.jb,needF n kd lv,n.wi,headF kd lv,0⟩] }:=by
     unfold openF;rw[if_neg (by rw[<-hli];exact g),if_neg (by rw[<-hli];show ¬ (q.xs.length=_\/a.li - usedF q.xs < _);rw[<-h.us,h.xs,hS_];exact g2)]
   rw[he] at post;rw[hxe] at H3
   have hzl:lvP n.wi z=⟨f.jb,needF n kd lv,n.wi,headF kd lv,0⟩:=by
     unfold lvP;rw[z2,z3,z4,z7,z8];rfl
   have hzn:∀ y∈ys,y.hd≠z.hd:=λy hy=>by have:=(hok y hy).h2;omega
   have hzi:∀ y∈ys,y.id≠z.id:=λy hy=>by rw[z2];exact hids y hy
   have hlt:t < as_.length:=(gH.1 h.ta).1;have h5j:hadF 5 f.jb q.acs=false:=(h.wf f.jb h3).1;refine post w2 (S1.trans S2) ⟨t,0,last+1,m+1,B,_,ys++[z],⟨a.li,a.us+needF n kd lv,max a.pk (a.us+needF n kd lv)⟩,?_,Holds.dropAt H3 12⟩
   exact { al:=by rw[gD,gQ];have:=h.al;omega
           wf:=mk.1
           who:=λi hi=>by rw[hw1] at hi;exact (Option.some.inj hi).symm
           no:=λe=>by rw[hw1] at e;cases e
           tl:=h.tl
           ta:=by rw[List.getElem?_set_self hlt]
           tm:=h.tm
           us:=by
             show a.us+needF n kd lv=usedF (q.xs++[_]);unfold usedF;rw[map_append,List.sum_append,h.us];rfl
           ul:=by show a.us+needF n kd lv<=a.li;omega
           ll:=hll
           xs:=by
             show q.xs++[_]=(ys++[z]).map (lvP n.wi);rw[map_append,<-h.xs,hR_,hzl];rfl
           hd:=by
             rw[List.pairwise_append];exact⟨h.hd,List.pairwise_singleton _ _,λy hy y' hy'=>by rw[mem_singleton.1 hy'];exact hzn y hy⟩
           ids:=by
             rw[List.pairwise_append];exact⟨h.ids,List.pairwise_singleton _ _,λy hy y' hy'=>by rw[mem_singleton.1 hy'];exact hzi y hy⟩
           ok:=λe y hy=>by
             rcases mem_append.1 hy with hy|hy
             . exact Zgg (hok y hy) (by omega) (Nat.le_succ _)
             . rw[mem_singleton.1 hy];exact { h1:=by omega,h2:=by omega,inp:=by rw[z4];exact Nat.zero_le _,rest:=z6,told:=z9,cr:=by rw[z8];exact Nat.zero_le _,id:=by rw[z2];exact hjb,z:=by rw[z8];omega }
           en:=λy hy=>by
             rw[e5];rcases mem_append.1 hy with hy|hy
             . exact h.en y hy
             . rw[mem_singleton.1 hy,z5,z2,h5j]
           op:=λy hy=>by
             rcases mem_append.1 hy with hy|hy
             . rw[Zc5,h.op y hy];rfl
             . rw[mem_singleton.1 hy,z2];exact Ze5 ⟨hxw,hxj⟩
           la:=by omega,mm:=by omega
           ou:=by show q.out.length<=_;omega
           wq:=h.wq,bz:=h.bz
           bl:=by have:=h.bl;omega
           ln:=by rw[gD,gQ];omega }
end
end F33
namespace F33
open Go.M31 J30 J31 J32
variable {w:World}{L:List HProp}{K:KT}
section
variable {s:Sx}{ts:List Tn}{n:Cf}{wt last m t c:Nat}{B:List UInt8}{as_:List G40.Ak}{ys:List Px}{a:G40.Ak}{q:Qt}{f:Fr}
theorem Rp.one (h:Rp ts n c q t 0 last m B as_ ys a){x:Ac}{i:Nat}{y z:Px}{xs:List Lv}{wt':Nat}{o:List UInt8}(hy:ys[i]?=some y) (hw0:whoD q.acs=some (t:Int)) (hwf:WfA (q.acs++[x])) (hx3:x.wh≠3)
   (z1:z.hd=y.hd) (z2:z.id=y.id) (z3:z.nd=y.nd) (hen:z.en=hadF 5 y.id (q.acs++[x])) (hen2:∀ v∈ys,v.id≠y.id->hadF 5 v.id (q.acs++[x])=hadF 5 v.id q.acs)
   (hxs:xs=(ys.set i z).map (lvP n.wi)) (ho:o.length<=q.out.length+2000) (hz:wt'=0->∃ C,C<=(c+1)*4294967296/\OkY n last C z) (hB:wt'≠0->True) (hb:B=[]) :
   Rp ts n (c+1) { acs:=q.acs++[x],xs:=xs,out:=o,wt:=decide (wt'≠0) } t wt' last (m+1) B as_ (ys.set i z) a:=by
 have hw1:whoD (q.acs++[x])=some (t:Int):=Zb4 hw0;have hlt:i < ys.length:=(gH.1 hy).1
 have mem:∀ v∈ys.set i z,(v∈ys/\v.id≠y.id)\/v=z:=by
   intro v hv;obtain⟨j,hj⟩:=getElem?_of_mem hv;rw[List.getElem?_set] at hj;split at hj
   . rename_i e;subst e;exact .inr (Option.some.inj hj).symm
   . rename_i e;refine .inl ⟨mem_of_getElem? hj,?_⟩;obtain⟨hjl,hje⟩:=gH.1 hj;obtain⟨hil,hie⟩:=gH.1 hy;rcases Nat.lt_or_gt_of_ne e with g|g
     . have:=List.pairwise_iff_getElem.1 h.ids i j hil hjl g;rw[hie,hje] at this;exact λe2=>this e2.symm
     . have:=List.pairwise_iff_getElem.1 h.ids j i hjl hil g;rw[hie,hje] at this;exact this
 have hsum:usedF xs=usedF q.xs:=by rw[hxs,h.xs,Zd7,Zd7,Zww hy z3]
 have hou:=h.ou;have hop:=h.op y (mem_of_getElem? hy)
 exact { al:=by show (q.acs++[x]).length<=_;rw[gD,gQ];have:=h.al;omega
         wf:=hwf
         who:=λj hj=>by rw[hw1] at hj;exact (Option.some.inj hj).symm
         no:=λe=>by rw[hw1] at e;cases e
         tl:=h.tl,ta:=h.ta,tm:=h.tm
         us:=by show a.us=usedF xs;rw[hsum];exact h.us
         ul:=h.ul,ll:=h.ll
         xs:=hxs
         hd:=Zq2 hy z1 h.hd
         ids:=Zv9 hy z2 h.ids
         ok:=λe v hv=>by
           rcases mem v hv with⟨hv,_⟩|rfl
           . exact Zgg (h.ok rfl v hv) (by omega) (Nat.le_refl _)
           . obtain⟨C,h1,h2⟩:=hz e;exact Zgg h2 h1 (Nat.le_refl _)
         en:=λv hv=>by
           show v.en=hadF 5 v.id (q.acs++[x]);rcases mem v hv with⟨hv,hne⟩|rfl
           . rw[hen2 v hv hne];exact h.en v hv
           . rw[hen,z2]
         op:=λv hv=>by
           show hadF 3 v.id (q.acs++[x])=true;rcases mem v hv with⟨hv,_⟩|rfl
           . rw[Zc5,h.op v hv];rfl
           . rw[z2,Zc5,hop];rfl
         la:=Nat.le_succ_of_le h.la
         mm:=by have:=h.mm;omega
         ou:=by show o.length<=_;omega
         wq:=rfl
         bz:=λ_=>hb
         bl:=by rw[hb];exact Nat.zero_le _
         ln:=by rw[length_set];exact Nat.le_succ_of_le h.ln }
theorem Zry (hK:Kn ts n) (h:Rp ts n c q t 0 last m B as_ ys a) (hc:c<=60) (hwho:whoD q.acs≠none) (h3:hadF 3 f.jb q.acs=true) (h6:hadF 6 f.jb q.acs=false) (hjb:f.jb<=4294967295) (hda:f.da.length<=200){x:Ac}(hx:stepF ts q.acs f=x)
   (hxe:(hadF 5 f.jb q.acs=false/\x=⟨4,(f.jb:Int),0,0,0,0,BA f.da,0⟩)\/(hadF 5 f.jb q.acs=false/\x=⟨5,(f.jb:Int),0,0,0,0,BA [],0⟩)\/x=⟨6,(f.jb:Int),0,0,0,0,BA [],0⟩\/(∃ p:Nat,p < 4294967296/\x=⟨7,(f.jb:Int),0,0,0,(p:Int),BA [],0⟩))
   (H:Holds w (SvL s ts n 0 last (q.acs++[stepF ts q.acs f]) q.out B (ys.map (rowP t)) as_ (livesF ys) ys m++L))
   (post:∀ w',Same w w'->Rep s ts n (c+1) (quiF ts n q f) L w'->K (.tuple #[]) w'):Cl prog 80 #[pt s.b,pt s.ln,.agg (cellsA (stepF ts q.acs f)).toArray] w K:=by
 have hou:=h.ou;have hln:=h.ln;have hul:=h.ul;have hll:=h.ll;have hla:=h.la;have hmm:=h.mm;have hb:=h.bz rfl;have hts2:=hK.t2;have hok:=h.ok rfl
 have hw0:whoD q.acs=some (t:Int):=by
   cases e:whoD q.acs with
   |none=>exact absurd e hwho
   |some i=>rw[h.who i e]
 have hw1:whoD (q.acs++[x])=some (t:Int):=Zb4 hw0
 have hxj:x.jb=(f.jb:Int):=by rcases hxe with⟨_,rfl⟩|⟨_,rfl⟩|rfl|⟨p,_,rfl⟩ <;> rfl
 have hxw:x.wh=4\/x.wh=5\/x.wh=6\/x.wh=7:=by
   rcases hxe with⟨_,rfl⟩|⟨_,rfl⟩|rfl|⟨p,_,rfl⟩
   . exact .inl rfl
   . exact .inr (.inl rfl)
   . exact .inr (.inr (.inl rfl))
   . exact .inr (.inr (.inr rfl))
 have hq:quiF ts n q f=useF n { q with acs:=q.acs++[x] } x:=by
   unfold quiF;rw[hx];unfold doF;rw[if_neg (by omega),if_neg (by omega),if_neg (by omega),if_neg (by omega)]
 rw[hq] at post;rw[hx] at H ⊢
 have h5:x.wh=4\/x.wh=5->hadF 5 f.jb q.acs=false:=by
   intro e;rcases hxe with⟨g,_⟩|⟨g,_⟩|rfl|⟨p,_,rfl⟩
   . exact g
   . exact g
   . exfalso;rcases e with e|e
     . exact absurd e (by show ¬ (6:Int)=4;decide)
     . exact absurd e (by show ¬ (6:Int)=5;decide)
   . exfalso;rcases e with e|e
     . exact absurd e (by show ¬ (7:Int)=4;decide)
     . exact absurd e (by show ¬ (7:Int)=5;decide)
 have hwf:WfA (q.acs++[x]):=by
   rcases hxw with e|e|e|e
   . exact (Zbr (f:=λ_=>none) (by omega)).1 h.wf
   . exact (Zp5 (f:=λ_=>none) (n:=markN f.jb q.acs+2) (.inl ⟨e,rfl,h5 (.inr e)⟩) hxj h.wf h3).1
   . exact (Zp5 (f:=λ_=>none) (n:=markN f.jb q.acs+4) (.inr ⟨e,rfl,h6⟩) hxj h.wf h3).1
   . exact (Zbr (f:=λ_=>none) (by omega)).1 h.wf
 have e5:x.wh≠5->∀ k:Nat,hadF 5 k (q.acs++[x])=hadF 5 k q.acs:=λg k=>Zau λe=>g e.1;have e5':∀ k:Nat,k≠f.jb->hadF 5 k (q.acs++[x])=hadF 5 k q.acs:=λk g=>Zau λe=>g (by have:=e.2;omega)
 have hnd:∀ y∈ys,y.nd<=a.us:=λy hy=>by rw[h.us,h.xs,Zd7];exact nd_le hy
 have hfind:∀ {i:Nat} {y:Px},ys[i]?=some y->y.id=f.jb->(({ q with acs:=q.acs++[x] }:Qt).xs.find? λz=>decide ((z.id:Int)=x.jb))=some (lvP n.wi y):=by
   intro i y hy hid;show (q.xs.find? _)=_;rw[h.xs,hxj,<-hid];exact Zv8 hy h.ids
 refine Tz80 ?_;unfold Vz80;refine r_new H λab w1 S1 H1=>?_;have H2:Holds w1 (SvL s ts n 0 last (q.acs++[x]) q.out B (ys.map (rowP t)) as_ (livesF ys) ys m++(blk ab tAc (cellsA x)::L)):=(by have h_:=Holds.ord 13 [1,2,3,4,5,6,7,8,9,10,11,12,0] (show Holds w1 (blk ab tAc (cellsA x)::(SvL s ts n 0 last (q.acs++[x]) q.out B (ys.map (rowP t)) as_ (livesF ys) ys m++L)) from H1) rfl;exact h_);refine r_fo0 (r_ld 12 H2 (v:=iv x.wh) rfl rfl ?_);refine r_eql (r_vfE (by omega) (r_eql (r_vfE (by omega) (r_eql (r_vfE (by omega) (r_eql (r_vfE (by omega) ?_)))))));refine r_ldA 12 H2 (cellsA x) rfl rfl rfl ?_;clear H H1;refine Ztd (t:=t) (a:=a) (jb:=f.jb) (cm:=c*4294967296) H2 h.hd hok (by omega) (by omega) h.tl (by omega) (by omega) hK.g4 hK.g6 (by omega) hxj hjb h.ta (by omega) hnd ?_ (λe y hy hid=>?_) (λhno w2 S2 H3=>?_) (λi y tx told w2 hwh htx hy hid ht4 S2 H3=>?_) (λi y told w2 hwh hy hid ht4 S2 H3=>?_) (λi y w2 hwh hy hid S2 H3=>?_) (λi y p head cr told out' w2 hwh hp hy hid hch ht4 hcr hol hmin S2 H3=>?_)
 . rcases hxe with⟨_,rfl⟩|⟨_,rfl⟩|rfl|⟨p,hp,rfl⟩
   . exact .inl ⟨f.da,rfl,rfl,by omega⟩
   . exact .inr (.inl rfl)
   . exact .inr (.inr (.inl rfl))
   . exact .inr (.inr (.inr ⟨p,rfl,rfl,hp⟩))
 . rw[h.en y hy,hid];exact h5 e
 . have he:useF n { q with acs:=q.acs++[x] } x={ q with acs:=q.acs++[x] }:=by
     unfold useF
     have:(({ q with acs:=q.acs++[x] }:Qt).xs.find? λz=>decide ((z.id:Int)=x.jb))=none:=by
       show (q.xs.find? _)=_;rw[h.xs,hxj];exact Zv5 hno
     rw[this]
   rw[he] at post;refine post w2 (S1.trans S2) ⟨t,0,last,m,B,as_,ys,a,?_,Holds.dropAt H3 12⟩
   exact { al:=by show (q.acs++[x]).length<=_;rw[gD,gQ];have:=h.al;omega
           wf:=hwf
           who:=λi hi=>by rw[hw1] at hi;exact (Option.some.inj hi).symm
           no:=λe=>by rw[hw1] at e;cases e
           tl:=h.tl,ta:=h.ta,tm:=h.tm,us:=h.us,ul:=h.ul,ll:=h.ll,xs:=h.xs,hd:=h.hd,ids:=h.ids
           ok:=λe y hy=>Zgg (h.ok e y hy) (by omega) (Nat.le_refl _)
           en:=λy hy=>by
             show y.en=hadF 5 y.id (q.acs++[x]);rw[e5' y.id (hno y hy)];exact h.en y hy
           op:=λy hy=>by show hadF 3 y.id (q.acs++[x])=true;rw[Zc5,h.op y hy];rfl
           la:=Nat.le_succ_of_le h.la,mm:=Nat.le_succ_of_le h.mm
           ou:=by show q.out.length<=_;omega
           wq:=h.wq,bz:=h.bz
           bl:=by have:=h.bl;omega
           ln:=Nat.le_succ_of_le h.ln }
 . have hym:=mem_of_getElem? hy;have ok:=hok y hym;have hil:=ok.inp;have hcy:=ok.cr
   have htd:tx=f.da:=by
     rcases hxe with⟨_,rfl⟩|⟨_,rfl⟩|rfl|⟨p,hp,rfl⟩
     . have:=congrArg (λb:ByteArray=>b.data.toList) htx;simpa using this.symm
     . exact absurd hwh (by show ¬ (5:Int)=4;decide)
     . exact absurd hwh (by show ¬ (6:Int)=4;decide)
     . exact absurd hwh (by show ¬ (7:Int)=4;decide)
   have hxt:x.tx.data.toList=tx:=by rw[htx]
   generalize hk:min tx.length (n.wi - y.inp.length)=k at H3;generalize hzz:({ y with inp:=y.inp++tx.take k,rest:=tx.drop k,told:=told }:Px)=z at H3
   have hr:(tx.drop k=[]↔¬ n.wi - y.inp.length < tx.length):=by
     rw[List.drop_eq_nil_iff];omega
   have hzl:lvP n.wi z={ lvP n.wi y with room:=(lvP n.wi y).room - tx.length }:=by
     rw[<-hzz];unfold lvP
     have:n.wi - (y.inp++tx.take k).length=n.wi - y.inp.length - tx.length:=by
       rw[gD,gN];omega
     dsimp only
     rw[this]
   have he:useF n { q with acs:=q.acs++[x] } x={ acs:=q.acs++[x],xs:=(ys.set i z).map (lvP n.wi),out:=q.out,wt:=decide ((if tx.drop k=[] then 0 else y.hd)≠0) }:=by
     unfold useF;rw[hfind hy hid];show (if x.wh=4 then _ else _)=_;rw[if_pos hwh,hxt];show ({ acs:=q.acs++[x],xs:=withF _ false q.xs,out:=q.out,wt:=decide ((lvP n.wi y).room < tx.length) }:Qt)=_;rw[h.xs,Zm7 (v:={ lvP n.wi y with room:=(lvP n.wi y).room - tx.length }) hy h.ids rfl hzl]
     congr 1
     rw[Bool.eq_iff_iff,decide_eq_true_iff,decide_eq_true_iff];show n.wi - y.inp.length < tx.length↔_;have h1:=ok.h1
     by_cases g:tx.drop k=[]
     . rw[if_pos g];exact⟨λe=>absurd e (hr.1 g),λe=>absurd rfl e⟩
     . rw[if_neg g];exact⟨λ_=>by omega,λ_=>Nat.lt_of_not_le λe=>g (hr.2 (by omega))⟩
   rw[he] at post;refine post w2 (S1.trans S2) ⟨t,(if tx.drop k=[] then 0 else y.hd),last,m+1,B,as_,ys.set i z,a,?_,?_⟩
   . refine h.one hy hw0 hwf (by omega) (by rw[<-hzz]) (by rw[<-hzz]) (by rw[<-hzz]) ?_ (λv hv hne=>e5 (by omega) _) rfl (by omega) (λe=>?_) (λ_=>trivial) hb
     . rw[<-hzz,e5 (by omega)];exact h.en y hym
     . have g:tx.drop k=[]:=by
         by_cases g:tx.drop k=[]
         . exact g
         . rw[if_neg g] at e;have:=ok.h1;omega
       rw[<-hzz];exact⟨y.cr,Nat.le_trans hcy (Nat.mul_le_mul_right _ (Nat.le_succ c)),{ h1:=ok.h1,h2:=ok.h2,inp:=by show (y.inp++tx.take k).length<=_;rw[gD,gN];omega,rest:=g,told:=ht4,cr:=Nat.le_refl _,id:=ok.id,z:=ok.z }⟩
   . rw[Zek hy (by rw[<-hzz];rfl),Zck hy (by rw[<-hzz]) (by rw[<-hzz])];exact Holds.dropAt H3 12
 . have hym:=mem_of_getElem? hy;have ok:=hok y hym;have hcy:=ok.cr;generalize hzz:({ y with en:=true,told:=told }:Px)=z at H3
   have hzl:lvP n.wi z=lvP n.wi y:=by rw[<-hzz];rfl
   have hmap:(ys.set i z).map (lvP n.wi)=ys.map (lvP n.wi):=by
     rw[map_set,hzl];exact Zcb (by rw[hV_,hy];rfl)
   have he:useF n { q with acs:=q.acs++[x] } x={ acs:=q.acs++[x],xs:=(ys.set i z).map (lvP n.wi),out:=q.out,wt:=decide ((0:Nat)≠0) }:=by
     unfold useF;rw[hfind hy hid];show (if x.wh=4 then _ else _)=_;rw[if_neg (by omega),if_neg (by omega),if_neg (by omega),hmap,<-h.xs];have:=h.wq;show ({ acs:=q.acs++[x],xs:=q.xs,out:=q.out,wt:=q.wt }:Qt)=_;rw[this]
   rw[he] at post;refine post w2 (S1.trans S2) ⟨t,0,last,m+1,B,as_,ys.set i z,a,?_,?_⟩
   . refine h.one hy hw0 hwf (by omega) (by rw[<-hzz]) (by rw[<-hzz]) (by rw[<-hzz]) ?_ (λv hv hne=>e5' v.id (by rw[<-hid];exact hne)) rfl (by omega) (λe=>?_) (λ_=>trivial) hb
     . rw[<-hzz,hid];exact (Ze5 ⟨hwh,hxj⟩).symm
     . rw[<-hzz];exact⟨y.cr,Nat.le_trans hcy (Nat.mul_le_mul_right _ (Nat.le_succ c)),{ h1:=ok.h1,h2:=ok.h2,inp:=ok.inp,rest:=ok.rest,told:=ht4,cr:=Nat.le_refl _,id:=ok.id,z:=ok.z }⟩
   . rw[Zek hy (by rw[<-hzz];rfl),Zck hy (by rw[<-hzz]) (by rw[<-hzz])];exact Holds.dropAt H3 12
 . have hym:=mem_of_getElem? hy;have hnd1:=Zxo hy;have hlt:t < as_.length:=(gH.1 h.ta).1;have hus:=h.us;rw[h.xs,Zd7] at hus
   have he:useF n { q with acs:=q.acs++[x] } x={ q with acs:=q.acs++[x],xs:=(ys.eraseIdx i).map (lvP n.wi) }:=by
     unfold useF;rw[hfind hy hid];show (if x.wh=4 then _ else _)=_;rw[if_neg (by omega),if_pos hwh];show ({ acs:=q.acs++[x],xs:=withF (lvP n.wi y) true q.xs,out:=q.out,wt:=q.wt }:Qt)=_;rw[h.xs,Zsz (v:=lvP n.wi y) hy h.ids rfl]
   rw[he] at post;have hmem:∀ v∈ys.eraseIdx i,v∈ys:=λv hv=>List.mem_of_mem_eraseIdx hv;refine post w2 (S1.trans S2) ⟨t,0,last,m,B,_,ys.eraseIdx i,⟨a.li,a.us - y.nd,a.pk⟩,?_,Holds.dropAt H3 12⟩
   exact { al:=by show (q.acs++[x]).length<=_;rw[gD,gQ];have:=h.al;omega
           wf:=hwf
           who:=λi hi=>by rw[hw1] at hi;exact (Option.some.inj hi).symm
           no:=λe=>by rw[hw1] at e;cases e
           tl:=h.tl
           ta:=by rw[List.getElem?_set_self hlt]
           tm:=h.tm
           us:=by show a.us - y.nd=usedF ((ys.eraseIdx i).map (lvP n.wi));rw[Zd7];omega
           ul:=by show a.us - y.nd<=a.li;omega
           ll:=h.ll,xs:=rfl
           hd:=Zmf h.hd,ids:=Zmf h.ids
           ok:=λe v hv=>Zgg (h.ok e v (hmem v hv)) (by omega) (Nat.le_refl _)
           en:=λv hv=>by
             show v.en=hadF 5 v.id (q.acs++[x]);rw[e5 (by omega)];exact h.en v (hmem v hv)
           op:=λv hv=>by show hadF 3 v.id (q.acs++[x])=true;rw[Zc5,h.op v (hmem v hv)];rfl
           la:=Nat.le_succ_of_le h.la,mm:=Nat.le_succ_of_le h.mm
           ou:=by show q.out.length<=_;omega
           wq:=h.wq,bz:=h.bz
           bl:=by have:=h.bl;omega
           ln:=by
             have:=(List.eraseIdx_sublist ys i).length_le
             omega }
 . have hym:=mem_of_getElem? hy;have ok:=hok y hym;have hcy:=ok.cr
   have hpl:p < 4294967296:=by
     rcases hxe with⟨_,rfl⟩|⟨_,rfl⟩|rfl|⟨p',hp',rfl⟩
     . exact absurd hwh (by show ¬ (4:Int)=7;decide)
     . exact absurd hwh (by show ¬ (5:Int)=7;decide)
     . exact absurd hwh (by show ¬ (6:Int)=7;decide)
     . have:(p':Int)=(p:Int):=hp;omega
   generalize hzz:({ y with head:=head,cr:=cr,told:=told }:Px)=z at H3
   have hzl:lvP n.wi z=lvP n.wi { y with head:=head,cr:=cr }:=by rw[<-hzz];rfl
   have he:useF n { q with acs:=q.acs++[x] } x={ acs:=q.acs++[x],xs:=(ys.set i z).map (lvP n.wi),out:=out',wt:=decide ((0:Nat)≠0) }:=by
     unfold useF;rw[hfind hy hid];show (if x.wh=4 then _ else _)=_;rw[if_neg (by omega),if_neg (by omega),if_pos hwh]
     have hnn:x.nn.toNat=p:=by rw[hp];rfl
     rw[hnn];show ({ acs:=q.acs++[x],xs:=withF (chunksF n.ch 5 (lvP n.wi { y with cr:=y.cr+p }) q.out).1 false q.xs,out:=(chunksF n.ch 5 (lvP n.wi { y with cr:=y.cr+p }) q.out).2,wt:=q.wt }:Qt)=_;rw[hch];show ({ acs:=q.acs++[x],xs:=withF (lvP n.wi { y with head:=head,cr:=cr }) false q.xs,out:=out',wt:=q.wt }:Qt)=_;rw[h.xs,Zm7 (v:=lvP n.wi { y with head:=head,cr:=cr }) hy h.ids rfl hzl,h.wq]
   rw[he] at post;refine post w2 (S1.trans S2) ⟨t,0,last,m+1,B,as_,ys.set i z,a,?_,?_⟩
   . refine h.one hy hw0 hwf (by omega) (by rw[<-hzz]) (by rw[<-hzz]) (by rw[<-hzz]) ?_ (λv hv hne=>e5 (by omega) _) rfl (by omega) (λe=>?_) (λ_=>trivial) hb
     . rw[<-hzz,e5 (by omega)];exact h.en y hym
     . rw[<-hzz];exact⟨cr,by omega,{ h1:=ok.h1,h2:=ok.h2,inp:=ok.inp,rest:=ok.rest,told:=ht4,cr:=Nat.le_refl _,id:=ok.id,z:=hmin }⟩
   . rw[Zek hy (by rw[<-hzz];rfl),Zck hy (by rw[<-hzz]) (by rw[<-hzz])];exact Holds.dropAt H3 12
theorem Zw2 (hK:Kn ts n) (h:Rp ts n c q t 0 last m B as_ ys a) (hc:c<=60) (hjb:f.jb<=4294967295) (hda:f.da.length<=200)
   (H:Holds w (SvL s ts n 0 last (q.acs++[stepF ts q.acs f]) q.out B (ys.map (rowP t)) as_ (livesF ys) ys m++L))
   (post:∀ w',Same w w'->Rep s ts n (c+1) (quiF ts n q f) L w'->K (.tuple #[]) w'):Cl prog 80 #[pt s.b,pt s.ln,.agg (cellsA (stepF ts q.acs f)).toArray] w K:=by
 rcases Zgw ts q.acs f with⟨e,hx,he1,he2⟩|⟨hno,i,hi,hx⟩|⟨hwho,⟨h3,hkd,hx⟩|hx|⟨h3,h6,hr⟩⟩
 . exact Zsa h hc hx he1 he2 hjb H post
 . exact Zsp hK h hc hno hi hx H post
 . exact Zs3 hK h hc hwho h3 hkd hjb hx H post
 . exact Zst hK h hc hwho hx H post
 . exact Zry hK h hc hwho h3 h6 hjb hda rfl hr H post
end
end F33
namespace F33
open Go.M31 J30 J31 J32
variable {w:World}{L:List HProp}{K:KT}
theorem Zjd {n:Nat}{r:List UInt8}(hn:n < 4294967296):numK (fourF n++r) 4=n:=by
 have h:∀ m:Nat,(UInt8.ofNat m).toNat=m%256:=λm=>UInt8.toNat_ofNat';show ((((0*256+(UInt8.ofNat (n/16777216)).toNat)*256+(UInt8.ofNat (n/65536%256)).toNat)*256+(UInt8.ofNat (n/256%256)).toNat)*256+(UInt8.ofNat (n%256)).toNat)=n;rw[h,h,h,h];omega
def okFr (f:Fr):Prop:=(cli f.ty\/srv f.ty)/\f.jb<=4294967295/\f.da.length<=200
theorem Zuv {f:Fr}(h:okFr f):dec (encF f)=.ok f (9+f.da.length):=by
 obtain⟨h1,h2,h3⟩:=h
 have hty:f.ty < 256:=by unfold cli srv at h1;omega
 have hl:=Zay f
 have e0:((encF f).getD 0 0).toNat=f.ty:=by
   show (UInt8.ofNat f.ty).toNat=f.ty;rw[UInt8.toNat_ofNat'];omega
 have e5:numK ((encF f).drop 5) 4=f.da.length:=by
   show numK (fourF f.da.length++f.da) 4=_;exact Zjd (by omega)
 have e1:numK ((encF f).drop 1) 4=f.jb:=by
   show numK (fourF f.jb++(fourF f.da.length++f.da)) 4=_;exact Zjd (by omega)
 have ed:((encF f).take (9+f.da.length)).drop 9=f.da:=by
   rw[gK (by omega)];rfl
 unfold dec;rw[if_neg (λe=>by rw[e] at hl;simp at hl;omega),e0,if_neg (λg=>g h1),if_neg (by omega),e5,if_neg (by omega),if_neg (by omega),e1,ed]
section
variable {s:Sx}{ts:List Tn}{n:Cf}{wt last m t c:Nat}{B:List UInt8}{as_:List G40.Ak}{ys:List Px}{a:G40.Ak}{q:Qt}{f:Fr}
theorem Rp.who0 (h:Rp ts n c q t wt last m B as_ ys a):∀ i,whoD q.acs=some i->0<=i:=λi hi=>by rw[h.who i hi];omega
theorem Zn3 (H:Holds w (SvL s ts n wt last q.acs q.out B (ys.map (rowP t)) as_ (livesF ys) ys m++L)) (hw:wt≠0) (k:K (.bool false) w):Cl prog 40 #[pt s.b,pt s.ln] w K:=by
 refine Tz40 ?_;unfold Vz40;refine Zat (λx w'=>w=w'/\x=.bool false) (λ_ _=>0) ⟨rfl,rfl⟩ ?_;rintro _ _ _ ⟨rfl,rfl⟩;obtain⟨p,v,hp,H3⟩:=Zar (j:=3) H rfl;refine Za0 (λx w'=>w=w'/\x=.bool false) ?_ ?_
 rotate_left
 . exact r_nc (r_fo0 (r_ld 0 H3 rfl rfl (r_eql (r_vfE (by show ¬ (wt:Int)=0;omega) (r_ke ⟨rfl,rfl⟩)))))
 rintro _ _ _ ⟨rfl,rfl⟩;exact r_vf k
theorem Zsv (H:Holds w (SvL s ts n 0 last q.acs q.out [] (ys.map (rowP t)) as_ (livesF ys) ys m++L)) (k:∀ w',Same w w'->Holds w' (SvL s ts n 0 last q.acs q.out [] (ys.map (rowP t)) as_ (livesF ys) ys m++L)->K (.bool false) w'):Cl prog 40 #[pt s.b,pt s.ln] w K:=by
 refine Tz40 ?_;unfold Vz40;refine Zat (λx w'=>w=w'/\x=.bool false) (λ_ _=>0) ⟨rfl,rfl⟩ ?_;rintro _ _ _ ⟨rfl,rfl⟩;obtain⟨p,v,hp,H3⟩:=Zar (j:=3) H rfl;refine Za0 (λx w'=>w=w'/\x=.bool true) ?_ ?_
 rotate_left
 . exact r_nc (r_fo0 (r_ld 0 H3 rfl rfl (r_eql (r_vtE rfl (r_nc (r_fo0 (r_ld 0 H3 rfl rfl (r_not (r_ke ⟨rfl,rfl⟩)))))))))
 rintro _ _ _ ⟨rfl,rfl⟩;refine r_vt (r_nc (r_fo0 (r_ld 0 H3 rfl rfl ?_)));have H4:Holds w (blk s.pa tPa (paC [] 0)::(SvL s ts n 0 last q.acs q.out [] (ys.map (rowP t)) as_ (livesF ys) ys m++L).eraseIdx 4):=H.front 4 rfl;refine Zgd H4 (by decide) λw2 S2 H5=>?_;have hd:dec []=.no 3:=rfl;rw[hd] at H5 ⊢;have H6:Holds w2 (SvL s ts n 0 last q.acs q.out [] (ys.map (rowP t)) as_ (livesF ys) ys m++L):=Sat.push (L:=SvL s ts n 0 last q.acs q.out [] (ys.map (rowP t)) as_ (livesF ys) ys m++L) 4 rfl H5;refine Zae (Zah (Zaf ?_));refine r_new H6 λfb w3 S3 H7=>?_;rw[Zb6] at H7;refine r_stA 0 H7 (vs:=cellsF fr0) rfl (Nat.le_refl 3) rfl rfl λw4 S4 H8=>?_;refine r_neq (r_vfN rfl (r_not (r_vt ?_)));exact k w4 (S2.trans (S3.trans S4)) H8.drop
set_option maxHeartbeats 4000000 in
theorem Zp1 {z:Bool}(hK:Kn ts n) (hs:∀ t∈ts,szT t) (hU:J33.TabZ z L) (hA:J33.Asc z f.da) (h:Rp ts n c q t 0 last m [] as_ ys a) (hc:c<=60) (hf:okFr f)
   (H:Holds w (SvL s ts n 0 last q.acs q.out (encF f) (ys.map (rowP t)) as_ (livesF ys) ys m++L))
   (k:∀ w',Same w w'->Rep s ts n (c+1) (quiF ts n q f) L w'->K (.bool true) w'):Cl prog 40 #[pt s.b,pt s.ln] w K:=by
 have hdec:=Zuv hf;obtain⟨hf1,hf2,hf3⟩:=hf;have hal:=h.al;have hts2:=hK.t2;refine Tz40 ?_;unfold Vz40
 refine Zat (λx w'=>(w=w'/\x=.bool false)\/(x=.bool true/\Same w w'/\Rep s ts n (c+1) (quiF ts n q f) L w')) (λx _=>match x with
   |.bool false=>1
   |_=>0) (.inl ⟨rfl,rfl⟩) ?_
 rintro _ x w1 (⟨rfl,rfl⟩|⟨rfl,S,t2,wt2,last2,m2,B2,as2,ys2,a2,h2,H2⟩)
 . obtain⟨p,v,hp,H3⟩:=Zar (j:=3) H rfl;refine Za0 (λx w'=>w=w'/\x=.bool true) ?_ ?_
   rotate_left
   . exact r_nc (r_fo0 (r_ld 0 H3 rfl rfl (r_eql (r_vtE rfl (r_nc (r_fo0 (r_ld 0 H3 rfl rfl (r_not (r_ke ⟨rfl,rfl⟩)))))))))
   rintro _ _ _ ⟨rfl,rfl⟩;refine r_vt (r_nc (r_fo0 (r_ld 0 H3 rfl rfl ?_)));have H4:Holds w (blk s.pa tPa (paC (encF f) 0)::(SvL s ts n 0 last q.acs q.out (encF f) (ys.map (rowP t)) as_ (livesF ys) ys m++L).eraseIdx 4):=H.front 4 rfl;refine Zgd H4 (by rw[Zay];omega) λw2 S2 H5=>?_;rw[hdec] at H5 ⊢;have hdr:(encF f).drop (9+f.da.length)=[]:=List.drop_eq_nil_of_le (by rw[Zay];exact Nat.le_refl _)
   have H6:Holds w2 (SvL s ts n 0 last q.acs q.out [] (ys.map (rowP t)) as_ (livesF ys) ys m++L):=by
     have:=Sat.push (L:=SvL s ts n 0 last q.acs q.out (encF f) (ys.map (rowP t)) as_ (livesF ys) ys m++L) 4 rfl H5;rw[<-hdr];exact this
   refine Zae (Zah (Zaf ?_));refine r_new H6 λfb w3 S3 H7=>?_;rw[Zb6] at H7;refine r_stA 0 H7 (vs:=cellsF f) rfl (Nat.le_refl 3) rfl rfl λw4 S4 H8=>?_;replace H8:Holds w4 (blk fb tFr (cellsF f)::(SvL s ts n 0 last q.acs q.out [] (ys.map (rowP t)) as_ (livesF ys) ys m++L)):=H8;refine r_neq (r_vfN rfl (r_not (r_vf ?_)));have S:=S2.trans (S3.trans S4);clear S2 S3 S4 H3 H4 H5 H6 H7
   refine Za0 (λx w'=>∃ ab,x=pt ab/\Same w w'/\Holds w' (SvL s ts n 0 last (q.acs++[stepF ts q.acs f]) q.out [] (ys.map (rowP t)) as_ (livesF ys) ys m++(blk ab tAc (cellsA (stepF ts q.acs f))::blk fb tFr (cellsF f)::L))) ?_ ?_
   rotate_left
   . refine r_dr H8 λw5 S5 H9=>?_;have hT:∀ {Q1 Q2 Q3 Q4 Q5 Q6 Q7 Q8 Q9 Q10 Q11 Q12:HProp},J33.TabZ z (Q1::Q2::Q3::Q4::Q5::Q6::Q7::Q8::Q9::Q10::Q11::Q12::L):=hU.up.up.up.up.up.up.up.up.up.up.up.up;refine⟨?_,?_⟩
     . obtain⟨p,v,hp,H10⟩:=Zar (j:=4) H9 rfl;refine r_nc (r_fo0 (r_ld 0 H10 rfl rfl (r_ldA 0 H9 (cellsF f) rfl rfl rfl ?_)));refine Zmw (j:=6) H9 rfl hT hA hf2 (by omega) (by omega) hs (by omega) h.wf h.who0 λw6 S6 H11=>?_;replace H11:Holds w6 (blk fb tFr (cellsF f)::(SvL s ts n 0 last (q.acs++[stepF ts q.acs f]) q.out [] (ys.map (rowP t)) as_ (livesF ys) ys m++L)):=H11;refine Za4 (Za3 ?_);refine r_new H11 λab w7 S7 H12=>?_;rw[Zd3] at H12;refine r_rk (r_ldA 1 H12 (cellsF f) rfl rfl rfl rfl) ?_;obtain⟨p,v,hp,H13⟩:=Zar (j:=5) H12 rfl;refine r_rk (r_ld 0 H13 rfl rfl rfl) ?_;refine r_stA 0 H12 (vs:=cellsA (stepF ts q.acs f)) rfl (Nat.le_refl 8) rfl rfl λw8 S8 H14=>?_;refine r_ke ⟨ab,rfl,S.trans (S5.trans (S6.trans (S7.trans S8))),?_⟩;exact (by have h_:=Holds.ord 14 [2,3,4,5,6,7,8,9,10,11,12,13,0,1] (show Holds w8 (blk ab tAc (cellsA (stepF ts q.acs f))::blk fb tFr (cellsF f)::(SvL s ts n 0 last (q.acs++[stepF ts q.acs f]) q.out [] (ys.map (rowP t)) as_ (livesF ys) ys m++L)) from H14) rfl;exact h_)
     . obtain⟨p,v,hp,H10⟩:=Zar (j:=4) H9 rfl;refine r_nc (r_fo0 (r_ld 0 H10 rfl rfl (r_ldA 0 H9 (cellsF f) rfl rfl rfl ?_)));refine r_new H9 λab w6 S6 H11=>?_;rw[Zd3] at H11;refine r_rk (r_ldA 1 H11 (cellsF f) rfl rfl rfl rfl) ?_;obtain⟨p,v,hp,H12⟩:=Zar (j:=5) H11 rfl;refine r_rk (r_ld 0 H12 rfl rfl rfl) ?_;refine Zmw (j:=7) H11 rfl hT.up hA hf2 (by omega) (by omega) hs (by omega) h.wf h.who0 λw7 S7 H13=>?_;refine Za4 (Za3 ?_);refine r_stA 0 H13 (vs:=cellsA (stepF ts q.acs f)) rfl (Nat.le_refl 8) rfl rfl λw8 S8 H14=>?_;refine r_ke ⟨ab,rfl,S.trans (S5.trans (S6.trans (S7.trans S8))),?_⟩;exact (by have h_:=Holds.ord 14 [2,3,4,5,6,7,8,9,10,11,12,13,0,1] (show Holds w8 (blk ab tAc (cellsA (stepF ts q.acs f))::blk fb tFr (cellsF f)::(SvL s ts n 0 last (q.acs++[stepF ts q.acs f]) q.out [] (ys.map (rowP t)) as_ (livesF ys) ys m++L)) from H14) rfl;exact h_)
   rintro _ _ w5 ⟨ab,rfl,S,H9⟩;refine r_ldA 12 H9 (cellsA (stepF ts q.acs f)) rfl rfl rfl ?_;refine Zw2 hK h hc hf2 hf3 H9 λw6 S6 hR=>?_;obtain⟨t2,wt2,last2,m2,B2,as2,ys2,a2,h2,H2⟩:=hR;refine r_ke ⟨.inr ⟨rfl,S.trans S6,t2,wt2,last2,m2,B2,as2,ys2,a2,h2,Holds.dropAt (Holds.dropAt H2 12) 12⟩,?_⟩;show 0 < 1;decide
 . by_cases hw:wt2=0
   . subst hw;obtain rfl:=h2.bz rfl;obtain⟨p,v,hp,H3⟩:=Zar (j:=3) H2 rfl;refine Za0 (λx w'=>w1=w'/\x=.bool true) ?_ ?_
     rotate_left
     . exact r_nc (r_fo0 (r_ld 0 H3 rfl rfl (r_eql (r_vtE rfl (r_nc (r_fo0 (r_ld 0 H3 rfl rfl (r_not (r_ke ⟨rfl,rfl⟩)))))))))
     rintro _ _ _ ⟨rfl,rfl⟩;refine r_vt (r_nc (r_fo0 (r_ld 0 H3 rfl rfl ?_)));have H4:Holds w1 (blk s.pa tPa (paC [] 0)::(SvL s ts n 0 last2 (quiF ts n q f).acs (quiF ts n q f).out [] (ys2.map (rowP t2)) as2 (livesF ys2) ys2 m2++L).eraseIdx 4):=H2.front 4 rfl;refine Zgd H4 (by decide) λw2 S2 H5=>?_;have hd:dec []=.no 3:=rfl;rw[hd] at H5 ⊢;have H6:Holds w2 (SvL s ts n 0 last2 (quiF ts n q f).acs (quiF ts n q f).out [] (ys2.map (rowP t2)) as2 (livesF ys2) ys2 m2++L):=Sat.push (L:=SvL s ts n 0 last2 (quiF ts n q f).acs (quiF ts n q f).out [] (ys2.map (rowP t2)) as2 (livesF ys2) ys2 m2++L) 4 rfl H5;refine Zae (Zah (Zaf ?_));refine r_new H6 λfb w3 S3 H7=>?_;rw[Zb6] at H7;refine r_stA 0 H7 (vs:=cellsF fr0) rfl (Nat.le_refl 3) rfl rfl λw4 S4 H8=>?_;refine r_neq (r_vfN rfl (r_not (r_vt ?_)));exact k w4 (S.trans (S2.trans (S3.trans S4))) ⟨t2,0,last2,m2,[],as2,ys2,a2,h2,H8.drop⟩
   . obtain⟨p,v,hp,H3⟩:=Zar (j:=3) H2 rfl;refine Za0 (λx w'=>w1=w'/\x=.bool false) ?_ ?_
     rotate_left
     . exact r_nc (r_fo0 (r_ld 0 H3 rfl rfl (r_eql (r_vfE (by show ¬ (wt2:Int)=0;omega) (r_ke ⟨rfl,rfl⟩)))))
     rintro _ _ _ ⟨rfl,rfl⟩;exact r_vf (k w1 S ⟨t2,wt2,last2,m2,B2,as2,ys2,a2,h2,H2⟩)
end
end F33
namespace F33
open Go.M31 J30 J31 J32
variable {w:World}{L:List HProp}{K:KT}
section
variable {a:Option Addr}{ts:List Tn}{c z:Nat}{n:Cf}{va vx:Sl3}{ox o:Option Addr}{xs:List Lv}
theorem Zsf:∀ m:Nat,m < 10->([48,49,50,51,52,53,54,55,56,57]:List UInt8).getD m 0=UInt8.ofNat (48+m):=by decide
set_option maxHeartbeats 4000000 in
theorem Zou {q:Qt}{i r jb kd lv:Nat}{acs:List Ac}{tn:Tn}(H:Holds w L) (hT:TsIn L a ts) (hA:AsIn L o acs) (hX:LvIn L ox q.xs) (hal:acs.length<=999) (hl:q.xs.length<=900) (hu:usedF q.xs<=tn.me.toNat)
   (hw:whoD acs=some (i:Int)) (htn:ts[i]?=some tn) (h1:0<=tn.me/\tn.me<=1099511627776) (hk:kd=1/\1<=lv/\lv<=9\/(kd=2\/kd=3)/\lv=0) (hK:Kn ts n) (ho:q.out.length<=10000000) (hjb:jb<=4294967295)
   (k1:∀ w',(openF tn n q jb kd lv).xs=q.xs->Same w w'->Holds w' L->K (.agg (cellsZ a ts.length c n ⟨o,acs.length,r⟩ ⟨ox,q.xs.length,z⟩ (openF tn n q jb kd lv).out (openF tn n q jb kd lv).wt).toArray) w')
   (k2:∀ v w',Same w w'->Holds w' (RW cellsV 5 tL4 (Sl3.v v) (openF tn n q jb kd lv).xs::L)->K (.agg (cellsZ a ts.length c n ⟨o,acs.length,r⟩ v (openF tn n q jb kd lv).out (openF tn n q jb kd lv).wt).toArray) w') :
   Cl prog 44 #[.agg (cellsZ a ts.length c n ⟨o,acs.length,r⟩ ⟨ox,q.xs.length,z⟩ q.out q.wt).toArray,.agg (cellsA ⟨3,(jb:Int),0,(kd:Int),(lv:Int),0,BA [],0⟩).toArray] w K:=by
 have hlt:i < ts.length:=(gH.1 htn).1;have hnb:=Zml hk hK.g1 hK.g2 hK.g4;have hne:needF n kd lv=needN n.un n.wi kd lv:=rfl;refine Tz44 ?_;unfold Vz44;refine r_new H λqb w1 S1 H1=>?_;replace H1:Holds w1 (blk qb tQt (cellsZ a ts.length c n ⟨o,acs.length,r⟩ ⟨ox,q.xs.length,z⟩ q.out q.wt)::L):=H1;refine r_new H1 λab w2 S2 H2=>?_;replace H2:Holds w2 (blk ab tDA (cellsA ⟨3,(jb:Int),0,(kd:Int),(lv:Int),0,BA [],0⟩)::blk qb tQt (cellsZ a ts.length c n ⟨o,acs.length,r⟩ ⟨ox,q.xs.length,z⟩ q.out q.wt)::L):=H2;refine r_new H2 λrb w3 S3 H3=>?_;rw[Zdg] at H3;replace H3:Holds w3 (blk rb tQt zqL::blk ab tDA (cellsA ⟨3,(jb:Int),0,(kd:Int),(lv:Int),0,BA [],0⟩)::blk qb tQt (cellsZ a ts.length c n ⟨o,acs.length,r⟩ ⟨ox,q.xs.length,z⟩ q.out q.wt)::L):=H3;refine r_dr H3 λw4 S4 H4=>?_;refine r_fo0 (r_fo0 (r_ld 2 H4 rfl rfl (r_fo0 (r_ldA 2 H4 [.slice a ts.length c,.slice o acs.length r] rfl rfl rfl ?_))));refine Zbn H4 hA.up.up.up (by omega) λw5 S5 H5=>?_;rw[hw];refine r_rk (r_ld 2 H5 rfl rfl rfl) ?_;refine Zu8 (F:=cellsT) (k:=5) (i:=i) (j:=2) (v:=iv tn.me) hT.up.up.up H5 htn rfl hlt ?_
 have e1:iv tn.me=nv tn.me.toNat:=by unfold nv iv;congr 1;omega
 rw[e1]
 have hme:tn.me.toNat<=1099511627776:=by omega
 have S:=S1.trans (S2.trans (S3.trans (S4.trans S5)));clear S1 S2 S3 S4 S5 H H1 H2 H3 H4 e1;refine r_fo0 (r_ld 1 H5 rfl rfl (r_fo0 (r_ld 1 H5 rfl rfl (r_fo0 (r_fo0 (r_ld 2 H5 rfl rfl (r_fo0 (r_fo0 (r_ld 2 H5 rfl rfl ?_)))))))));refine Zoi (kd:=kd) (lv:=lv) (u:=n.un) (wi:=n.wi) hk hK.g1 hK.g2 hK.g3 hK.g4 ?_;rw[<-hne];rw[<-hne] at hnb;generalize hnd:needF n kd lv=nd at hnb
 have ho':openF tn n q jb kd lv=if tn.me.toNat < nd then sendF q 69 jb [33] else if q.xs.length=n.jo\/tn.me.toNat - usedF q.xs < nd then sendF q 69 jb [34] else { q with xs:=q.xs++[⟨jb,nd,n.wi,headF kd lv,0⟩] }:=by
   unfold openF;rw[hnd]
 rw[ho'] at k1 k2;clear hne ho' hw
 refine Za0 (λx w'=>∃ e:Nat,x=nv e/\(e=33/\tn.me.toNat < nd\/e=34/\¬ tn.me.toNat < nd/\(q.xs.length=n.jo\/tn.me.toNat - usedF q.xs < nd)\/e=0/\¬ tn.me.toNat < nd/\¬ (q.xs.length=n.jo\/tn.me.toNat - usedF q.xs < nd))/\Same w w'/\
   Holds w' (blk rb tQt zqL::blk ab tDA (cellsA ⟨3,(jb:Int),0,(kd:Int),(lv:Int),0,BA [],0⟩)::blk qb tQt (cellsZ a ts.length c n ⟨o,acs.length,r⟩ ⟨ox,q.xs.length,z⟩ q.out q.wt)::L)) ?_ ?_
 rotate_left
 . refine r_gtr (r_ifD (λh=>?_) λh=>?_)
   . exact r_ke ⟨33,rfl,.inl ⟨rfl,by omega⟩,S,H5⟩
   . refine Za0 (λx w'=>∃ g:Bool,x=.bool g/\(g=true↔q.xs.length=n.jo\/tn.me.toNat - usedF q.xs < nd)/\Same w w'/\
       Holds w' (blk rb tQt zqL::blk ab tDA (cellsA ⟨3,(jb:Int),0,(kd:Int),(lv:Int),0,BA [],0⟩)::blk qb tQt (cellsZ a ts.length c n ⟨o,acs.length,r⟩ ⟨ox,q.xs.length,z⟩ q.out q.wt)::L)) ?_ ?_
     . rintro _ _ w6 ⟨g,rfl,hg,S6,H6⟩;refine r_vif (λe=>r_ke ⟨34,rfl,.inr (.inl ⟨rfl,by omega,hg.1 e⟩),S6,H6⟩) λe=>r_ke ⟨0,rfl,.inr (.inr ⟨rfl,by omega,λp=>?_⟩),S6,H6⟩;rw[hg.2 p] at e;cases e
     . refine r_fo0 (r_ld 2 H5 rfl rfl (r_lnl (r_fo0 (r_fo0 (r_ld 2 H5 rfl rfl (r_eql (r_ifE (λh2=>?_) λh2=>?_)))))))
       . replace h2:(q.xs.length:Int)=(n.jo:Int):=h2;exact r_ke ⟨true,rfl,⟨λ_=>.inl (by omega),λ_=>rfl⟩,S,H5⟩
       . replace h2:¬ (q.xs.length:Int)=(n.jo:Int):=h2;refine r_ldA 2 H5 (cellsZ a ts.length c n ⟨o,acs.length,r⟩ ⟨ox,q.xs.length,z⟩ q.out q.wt) rfl rfl rfl ?_;refine Zeq H5 hX.up.up.up (by omega) (by omega) λw6 S6 H6=>?_;refine r_sub (by omega) (by omega) (r_gtr (r_ke ⟨_,rfl,?_,S.trans S6,H6⟩));rw[decide_eq_true_iff];omega
 clear S H5;rintro _ _ w6 ⟨e,rfl,he,S,H⟩
 have snd:∀ {e:Nat},1<=e->e<=255->(∀ w',Same w w'->Holds w' L->K (.agg (cellsZ a ts.length c n ⟨o,acs.length,r⟩ ⟨ox,q.xs.length,z⟩ (q.out++encF ⟨69,jb,[UInt8.ofNat e]⟩) q.wt).toArray) w')->
     LdA 12 (pt qb) w6 λx_29=>Fo 1 (pt ab) λx_30=>Ld x_30 w6 λx_31=>Bd prog tAn4 #[(0,(.int .i64 69)),(1,x_31),(3,nv e)] w6 λx_32=>Cl prog 43 #[x_29,x_32] w6 λx_33 w8=>
       StA 12 (pt rb) x_33 w8 λw9=>LdA 12 (pt rb) w9 λx_34=>K x_34 w9:=by
   intro e h1 h2 kk;refine r_ldA 2 H (cellsZ a ts.length c n ⟨o,acs.length,r⟩ ⟨ox,q.xs.length,z⟩ q.out q.wt) rfl rfl rfl (r_fo0 (r_ld 1 H rfl rfl ?_));refine r_bd (v:=.agg #[nv 69,nv jb,S_ [],nv e]) (by kernel_rfl) ?_;refine Zcg (ty:=69) (jb:=jb) (e:=e) (da:=[]) (da':=[UInt8.ofNat e]) H (.inl ⟨rfl,h1,h2,rfl⟩) (by decide) hjb (by show 1<=_;decide) (by omega) λw7 S7 H7=>?_;refine Ze4 0 H7 rfl λw8 S8 H8=>?_;exact kk w8 (S.trans (S7.trans S8)) H8.drop.drop.drop
 rcases he with⟨rfl,he⟩|⟨rfl,he1,he2⟩|⟨rfl,he1,he2⟩
 . rw[if_pos he] at k1;refine r_neq (r_vtN (by decide) ?_);exact snd (e:=33) (by decide) (by decide) λw' S' H'=>k1 w' rfl S' H'
 . rw[if_neg he1,if_pos he2] at k1;refine r_neq (r_vtN (by decide) ?_);exact snd (e:=34) (by decide) (by decide) λw' S' H'=>k1 w' rfl S' H'
 . rw[if_neg he1,if_neg he2] at k2;refine r_neq (r_vfN rfl ?_);refine r_fo0 (r_ld 1 H rfl rfl (r_fo0 (r_fo0 (r_ld 2 H rfl rfl ?_))));refine r_bd (v:=.agg (cellsV ⟨jb,nd,n.wi,[],0⟩).toArray) (by kernel_rfl) ?_;refine r_new H λxb w7 S7 H7=>?_;rw[Zik] at H7;refine r_stA 0 H7 (vs:=cellsV ⟨jb,nd,n.wi,[],0⟩) rfl (Nat.le_refl 5) rfl rfl λw8 S8 H8=>?_;replace H8:Holds w8 (blk xb tL4 (cellsV ⟨jb,nd,n.wi,[],0⟩)::blk rb tQt zqL::blk ab tDA (cellsA ⟨3,(jb:Int),0,(kd:Int),(lv:Int),0,BA [],0⟩)::blk qb tQt (cellsZ a ts.length c n ⟨o,acs.length,r⟩ ⟨ox,q.xs.length,z⟩ q.out q.wt)::L):=H8;replace S:=S.trans (S7.trans S8);clear S7 S8 H7 H;refine Zd8 (λw'=>Same w w'/\Holds w' (blk xb tL4 (cellsV ⟨jb,nd,n.wi,headF kd lv,0⟩)::blk rb tQt zqL::blk ab tDA (cellsA ⟨3,(jb:Int),0,(kd:Int),(lv:Int),0,BA [],0⟩)::blk qb tQt (cellsZ a ts.length c n ⟨o,acs.length,r⟩ ⟨ox,q.xs.length,z⟩ q.out q.wt)::L)) ?_ ?_
   rotate_left
   . refine r_fo0 (r_ld 2 H8 rfl rfl (r_eql (r_ifE (λh=>?_) λh=>?_)))
     . replace h:(kd:Int)=1:=h
       have hk1:kd=1:=by omega
       have hlv:1<=lv/\lv<=9:=by omega
       refine r_fo0 (r_ld 2 H8 rfl rfl (r_fo0 (r_ld 2 H8 rfl rfl (Za1 (a:=lv) (by omega) ?_))));refine L42.q_cut (t:=[48,49,50,51,52,53,54,55,56,57]) (m:=lv) (by show lv < 10;omega) ?_;rw[Zsf lv (by omega)];refine Zaw (xs:=[66,90,104]) (ys:=[UInt8.ofNat (48+lv)]) (by show 4<=_;decide) ?_;refine r_fo0 (r_st 0 H8 rfl (by show 3 < 5;decide) rfl λw9 S9 H9=>?_);refine r_ke ⟨S.trans S9,?_⟩;unfold headF;rw[if_pos hk1];exact H9
     . replace h:¬ (kd:Int)=1:=h;refine r_ke ⟨S,?_⟩;unfold headF;rw[if_neg (by omega)];exact H8
   clear H8 S;rintro _ w9 ⟨S,H⟩;refine r_fo0 (r_ld 3 H rfl rfl ?_);refine S4r.Ztg (F:=cellsV) (k:=5) (e:=tL4) H hX.up.up.up.up (λ_=>rfl) (by omega) λv w10 S10 H10=>?_;refine r_ldA 1 H10 (cellsV ⟨jb,nd,n.wi,headF kd lv,0⟩) rfl rfl rfl ?_;refine Zhz H10 0 (⟨jb,nd,n.wi,headF kd lv,0⟩:Lv) rfl (by kernel_rfl) (λ_=>rfl) l4_sg (by omega) (by decide) λv w11 S11 H11=>?_;obtain⟨o4,m4,sp4,rfl,_⟩:=H11.openRW 0 rfl;refine r_fo0 (r_st 4 H11 rfl (by show 9 < 12;decide) rfl λw12 S12 H12=>?_);refine r_ldA 4 H12 (cellsZ a ts.length c n ⟨o,acs.length,r⟩ ⟨o4,(q.xs++[(⟨jb,nd,n.wi,headF kd lv,0⟩:Lv)]).length,(q.xs++[(⟨jb,nd,n.wi,headF kd lv,0⟩:Lv)]).length+m4⟩ q.out q.wt) rfl rfl rfl ?_;refine Ze4 2 H12 rfl λw13 S13 H13=>?_;exact k2 _ w13 (S.trans (S10.trans (S11.trans (S12.trans S13)))) (Holds.dropAt (Holds.dropAt (Holds.dropAt (Holds.dropAt H13 1) 1) 1) 1)
theorem Zky {f:Fr}(hf:okFr f):f.ty<=255:=by
 have:=hf.1;unfold cli srv at this;omega
set_option maxHeartbeats 4000000 in
theorem Znf {q:Qt}{f:Fr}{t last m cc:Nat}{B:List UInt8}{as_:List G40.Ak}{ys:List Px}{ak:G40.Ak}(hK:Kn ts n) (h:Rp ts n cc q t 0 last m B as_ ys ak) (hc:cc<=60) (hf:okFr f) (hT:TsIn L a ts)
   (H:Holds w (RW cellsA 8 tDA va.v q.acs::RW cellsV 5 tL4 vx.v q.xs::L))
   (k:∀ va' vx' w',Same w w'->Holds w' (RW cellsA 8 tDA (Sl3.v va') (quiF ts n q f).acs::RW cellsV 5 tL4 (Sl3.v vx') (quiF ts n q f).xs::L)->K (.agg (cellsZ a ts.length c n va' vx' (quiF ts n q f).out (quiF ts n q f).wt).toArray) w') :
   Cl prog 11 #[.agg (cellsZ a ts.length c n va vx q.out q.wt).toArray,.agg (cellsF f).toArray] w K:=by
 have hfj:=hf.2.1;have hfd:=hf.2.2;have hft:=Zky hf;have hal:=h.al;have hou:=h.ou;have hln:=h.ln;have hul:=h.ul;have hll:=h.ll;have hts2:=hK.t2
 have hxl:q.xs.length<=100:=by rw[h.xs,hS_];omega
 obtain⟨tn,htn⟩:∃ tn,ts[t]?=some tn:=⟨_,gA h.tl⟩;have hk1:=hK.t1 tn (mem_of_getElem? htn);have hli:=h.tm tn htn
 have hus:usedF q.xs<=tn.me.toNat:=by rw[<-h.us,<-hli];exact hul
 have hxok:∀ y∈q.xs,y.head.length<=1000/\y.cr<=500000000000/\y.id<=4294967295/\y.room<=1048576:=by
   intro y hy;rw[h.xs] at hy;obtain⟨p,hp,rfl⟩:=mem_map.1 hy;have g:=h.ok rfl p hp;have g1:=g.told;have g2:=g.id;have g3:p.cr<=60*4294967296:=Nat.le_trans g.cr (Nat.mul_le_mul_right _ hc);have g4:=hK.g4;exact⟨by show p.head.length<=1000;omega,by show p.cr<=500000000000;omega,g2,by show n.wi - p.inp.length<=1048576;omega⟩
 obtain⟨oa,la,ca⟩:=va;obtain⟨ox,lx,cx⟩:=vx;obtain⟨oa2,za,hva,hA⟩:=AsIn.of (i:=0) H rfl;obtain⟨ox2,zx,hvx,hX⟩:=LvIn.of (i:=1) H rfl
 obtain⟨rfl,rfl,rfl⟩:oa=oa2/\la=q.acs.length/\ca=za:=by injection hva with h1 h2 h3;exact⟨h1,h2,h3⟩
 obtain⟨rfl,rfl,rfl⟩:ox=ox2/\lx=q.xs.length/\cx=zx:=by injection hvx with h1 h2 h3;exact⟨h1,h2,h3⟩
 refine Tz11 ?_;unfold Vz11;refine r_new H λqb w1 S1 H1=>?_;replace H1:Holds w1 (blk qb tQt (cellsZ a ts.length c n ⟨oa,q.acs.length,ca⟩ ⟨ox,q.xs.length,cx⟩ q.out q.wt)::RW cellsA 8 tDA (.slice oa q.acs.length ca) q.acs::RW cellsV 5 tL4 (.slice ox q.xs.length cx) q.xs::L):=H1;refine r_new H1 λfb w2 S2 H2=>?_;replace H2:Holds w2 (blk fb tFr (cellsF f)::blk qb tQt (cellsZ a ts.length c n ⟨oa,q.acs.length,ca⟩ ⟨ox,q.xs.length,cx⟩ q.out q.wt)::RW cellsA 8 tDA (.slice oa q.acs.length ca) q.acs::RW cellsV 5 tL4 (.slice ox q.xs.length cx) q.xs::L):=H2;refine r_new H2 λrb w3 S3 H3=>?_;rw[Zdg] at H3;replace H3:Holds w3 (blk rb tQt zqL::blk fb tFr (cellsF f)::blk qb tQt (cellsZ a ts.length c n ⟨oa,q.acs.length,ca⟩ ⟨ox,q.xs.length,cx⟩ q.out q.wt)::RW cellsA 8 tDA (.slice oa q.acs.length ca) q.acs::RW cellsV 5 tL4 (.slice ox q.xs.length cx) q.xs::L):=H3;refine r_fo0 (r_ldA 2 H3 [.slice a ts.length c,.slice oa q.acs.length ca] rfl rfl rfl (r_ldA 1 H3 (cellsF f) rfl rfl rfl ?_));refine Zl1 H3 hT.up.up.up.up.up hA.up.up.up (by omega) (by omega) hfj (by omega) hft (λi hi=>by rw[h.who i hi];omega) λw4 S4 H4=>?_;refine r_new H4 λxb w5 S5 H5=>?_;rw[Zd9] at H5;have hsc:=Zgw ts q.acs f;have hqd:quiF ts n q f=doF ts n { q with acs:=q.acs++[stepF ts q.acs f] } (stepF ts q.acs f):=rfl;generalize stepF ts q.acs f=x at hsc hqd;refine r_stA 0 H5 (vs:=cellsA x) rfl (Nat.le_refl 8) rfl rfl λw6 S6 H6=>?_;replace H6:Holds w6 (blk xb tDA (cellsA x)::blk rb tQt zqL::blk fb tFr (cellsF f)::blk qb tQt (cellsZ a ts.length c n ⟨oa,q.acs.length,ca⟩ ⟨ox,q.xs.length,cx⟩ q.out q.wt)::RW cellsA 8 tDA (.slice oa q.acs.length ca) q.acs::RW cellsV 5 tL4 (.slice ox q.xs.length cx) q.xs::L):=H6;refine r_fo0 (r_ldA 3 H6 [.slice a ts.length c,.slice oa q.acs.length ca] rfl rfl rfl (r_ldA 0 H6 (cellsA x) rfl rfl rfl ?_));refine Znn H6 hA.up.up.up.up (by omega) λv w7 _ S7 H7=>?_;obtain⟨oz,mz,sz,rfl,_⟩:=H7.openRW 0 rfl;refine r_fo0 (r_stA 4 H7 (vs:=[.slice a ts.length c,.slice oz (q.acs++[x]).length ((q.acs++[x]).length+mz)]) rfl (by show 7+2<=12;decide) rfl rfl λw8 S8 H8=>?_);generalize hcz:(q.acs++[x]).length+mz=cz at H8;replace H8:Holds w8 (RW cellsA 8 tDA (.slice oz (q.acs++[x]).length cz) (q.acs++[x])::blk xb tDA (cellsA x)::blk rb tQt zqL::blk fb tFr (cellsF f)::blk qb tQt (cellsZ a ts.length c n ⟨oz,(q.acs++[x]).length,cz⟩ ⟨ox,q.xs.length,cx⟩ q.out q.wt)::RW cellsA 8 tDA (.slice oa q.acs.length ca) q.acs::RW cellsV 5 tL4 (.slice ox q.xs.length cx) q.xs::L):=H8;have S:=S1.trans (S2.trans (S3.trans (S4.trans (S5.trans (S6.trans (S7.trans S8))))));clear S1 S2 S3 S4 S5 S6 S7 S8 H1 H2 H3 H4 H5 H6 H7 H hcz;have hT8:TsIn (RW cellsA 8 tDA (.slice oz (q.acs++[x]).length cz) (q.acs++[x])::blk xb tDA (cellsA x)::blk rb tQt zqL::blk fb tFr (cellsF f)::blk qb tQt (cellsZ a ts.length c n ⟨oz,(q.acs++[x]).length,cz⟩ ⟨ox,q.xs.length,cx⟩ q.out q.wt)::RW cellsA 8 tDA (.slice oa q.acs.length ca) q.acs::RW cellsV 5 tL4 (.slice ox q.xs.length cx) q.xs::L) a ts:=hT.up.up.up.up.up.up.up;have hX8:LvIn (RW cellsA 8 tDA (.slice oz (q.acs++[x]).length cz) (q.acs++[x])::blk xb tDA (cellsA x)::blk rb tQt zqL::blk fb tFr (cellsF f)::blk qb tQt (cellsZ a ts.length c n ⟨oz,(q.acs++[x]).length,cz⟩ ⟨ox,q.xs.length,cx⟩ q.out q.wt)::RW cellsA 8 tDA (.slice oa q.acs.length ca) q.acs::RW cellsV 5 tL4 (.slice ox q.xs.length cx) q.xs::L) ox q.xs:=hX.up.up.up.up.up;have hA8:AsIn (RW cellsA 8 tDA (.slice oz (q.acs++[x]).length cz) (q.acs++[x])::blk xb tDA (cellsA x)::blk rb tQt zqL::blk fb tFr (cellsF f)::blk qb tQt (cellsZ a ts.length c n ⟨oz,(q.acs++[x]).length,cz⟩ ⟨ox,q.xs.length,cx⟩ q.out q.wt)::RW cellsA 8 tDA (.slice oa q.acs.length ca) q.acs::RW cellsV 5 tL4 (.slice ox q.xs.length cx) q.xs::L) oz (q.acs++[x]):=S4r.InG.own 0 rfl λ_=>rfl
 have hacl:(q.acs++[x]).length<=999:=by rw[gD,gQ];omega
 have fin1:∀ (out':List UInt8) (wt':Bool) w',quiF ts n q f={ q with acs:=q.acs++[x],out:=out',wt:=wt' }->Same w w'->Holds w' (RW cellsA 8 tDA (.slice oz (q.acs++[x]).length cz) (q.acs++[x])::blk xb tDA (cellsA x)::blk rb tQt zqL::blk fb tFr (cellsF f)::blk qb tQt (cellsZ a ts.length c n ⟨oz,(q.acs++[x]).length,cz⟩ ⟨ox,q.xs.length,cx⟩ q.out q.wt)::RW cellsA 8 tDA (.slice oa q.acs.length ca) q.acs::RW cellsV 5 tL4 (.slice ox q.xs.length cx) q.xs::L)->
     StA 12 (pt rb) (.agg (cellsZ a ts.length c n ⟨oz,(q.acs++[x]).length,cz⟩ ⟨ox,q.xs.length,cx⟩ out' wt').toArray) w' λw1=>LdA 12 (pt rb) w1 λy=>K y w1:=by
   intro out' wt' w' hq S' H';rw[hq] at k;refine Ze4 2 H' rfl λw10 S10 H10=>?_;exact k ⟨oz,(q.acs++[x]).length,cz⟩ ⟨ox,q.xs.length,cx⟩ w10 (S'.trans S10) (by have h_:=Holds.ord 7 [0,6] H10 rfl;exact h_)
 have fin2:∀ (q':Qt) (vx':Sl3) w',quiF ts n q f=q'->q'.acs=q.acs++[x]->Same w w'->Holds w' (RW cellsV 5 tL4 vx'.v q'.xs::RW cellsA 8 tDA (.slice oz (q.acs++[x]).length cz) (q.acs++[x])::blk xb tDA (cellsA x)::blk rb tQt zqL::blk fb tFr (cellsF f)::blk qb tQt (cellsZ a ts.length c n ⟨oz,(q.acs++[x]).length,cz⟩ ⟨ox,q.xs.length,cx⟩ q.out q.wt)::RW cellsA 8 tDA (.slice oa q.acs.length ca) q.acs::RW cellsV 5 tL4 (.slice ox q.xs.length cx) q.xs::L)->
     StA 12 (pt rb) (.agg (cellsZ a ts.length c n ⟨oz,(q.acs++[x]).length,cz⟩ vx' q'.out q'.wt).toArray) w' λw1=>LdA 12 (pt rb) w1 λy=>K y w1:=by
   intro q' vx' w' hq ha S' H';rw[hq,ha] at k;refine Ze4 3 H' rfl λw10 S10 H10=>?_;exact k ⟨oz,(q.acs++[x]).length,cz⟩ vx' w10 (S'.trans S10) (by have h_:=Holds.ord 8 [1,0] H10 rfl;exact h_)
 clear k;refine r_fo0 (r_ld 1 H8 rfl rfl ?_);rcases hsc with⟨e,rfl,he1,he2⟩|⟨hno,i,hi,rfl⟩|⟨hwho,⟨h3,hkd,rfl⟩|rfl|⟨h3,h6,hr⟩⟩
 . refine r_eql (r_vtE rfl ?_);refine r_ldA 4 H8 (cellsZ a ts.length c n ⟨oz,(q.acs++[refF f e]).length,cz⟩ ⟨ox,q.xs.length,cx⟩ q.out q.wt) rfl rfl rfl (r_fo0 (r_ld 1 H8 rfl rfl (r_fo0 (r_ld 1 H8 rfl rfl ?_))));refine r_bd (v:=.agg #[nv 69,nv f.jb,S_ [],nv e]) (by kernel_rfl) ?_;refine Zcg (ty:=69) (jb:=f.jb) (e:=e) (da:=[]) (da':=[UInt8.ofNat e]) H8 (.inl ⟨rfl,he1,he2,rfl⟩) (by decide) hfj (by show 1<=_;decide) (by omega) λw9 S9 H9=>?_;refine fin1 _ _ w9 ?_ (S.trans S9) H9;rw[hqd];rfl
 . refine r_eql (r_vfE (by show ¬ (2:Int)=1;decide) (r_eql (r_vtE rfl ?_)));obtain⟨ti,hti⟩:∃ ti,ts[i]?=some ti:=⟨_,gA hi⟩;have hk2:=hK.t1 ti (mem_of_getElem? hti);refine r_dr H8 λw9 S9 H9=>?_;refine r_ldA 4 H9 (cellsZ a ts.length c n ⟨oz,(q.acs++[(⟨2,0,(i:Int),0,0,0,BA [],0⟩:Ac)]).length,cz⟩ ⟨ox,q.xs.length,cx⟩ q.out q.wt) rfl rfl rfl (r_fo0 (r_fo0 (r_ld 4 H9 rfl rfl (r_fo0 (r_ld 1 H9 rfl rfl ?_)))));refine Zu8 (F:=cellsT) (k:=5) (i:=i) (j:=0) (v:=.string ti.nm) hT8 H9 hti rfl hi ?_;rw[S_of ti.nm];refine r_bd (v:=.agg #[nv 65,nv 0,S_ ti.nm.data.toList,nv 0]) (by kernel_rfl) ?_
   have hsz:ti.nm.data.toList.length<=1000:=by have:=hk2.2.2.2.2;simpa using this
   refine Zcg (ty:=65) (jb:=0) (e:=0) (da:=ti.nm.data.toList) (da':=ti.nm.data.toList) H9 (.inr ⟨by decide,by decide,rfl⟩) (by decide) (by decide) (by omega) (by omega) λw10 S10 H10=>?_;refine fin1 _ _ w10 ?_ (S.trans (S9.trans S10)) H10;rw[hqd];show sendF _ 65 0 ((ts[i]?.map λt=>t.nm.data.toList).getD [])=_;rw[hti];rfl
 . have hw0:whoD q.acs=some (t:Int):=by
     cases e:whoD q.acs with
     |none=>exact absurd e hwho
     |some i=>rw[h.who i e]
   have hk:=Zkt f.da;generalize hkk:(kindF f.da).1=kd at hk hkd H8 hT8 hX8 hA8 fin1 fin2 hqd hacl ⊢;generalize hvv:(kindF f.da).2=lv at hk H8 hT8 hX8 hA8 fin1 fin2 hqd hacl ⊢
   have hk2:kd=1/\1<=lv/\lv<=9\/(kd=2\/kd=3)/\lv=0:=by omega
   refine r_eql (r_vfE (by show ¬ (3:Int)=1;decide) (r_eql (r_vfE (by show ¬ (3:Int)=2;decide) (r_eql (r_vtE rfl ?_)))))
   have hq:quiF ts n q f=openF tn n { q with acs:=q.acs++[⟨3,(f.jb:Int),0,(kd:Int),(lv:Int),0,BA [],0⟩] } f.jb kd lv:=by
     rw[hqd];show (match whoD (q.acs++[⟨3,(f.jb:Int),0,(kd:Int),(lv:Int),0,BA [],0⟩]) with|none=>_|some i=>_)=_;rw[Zb4 hw0];show (match ts[t]? with|none=>_|some t=>_)=_;rw[htn];rfl
   refine r_ldA 4 H8 (cellsZ a ts.length c n ⟨oz,(q.acs++[(⟨3,(f.jb:Int),0,(kd:Int),(lv:Int),0,BA [],0⟩:Ac)]).length,cz⟩ ⟨ox,q.xs.length,cx⟩ q.out q.wt) rfl rfl rfl ?_;refine r_ldA 1 H8 (cellsA ⟨3,(f.jb:Int),0,(kd:Int),(lv:Int),0,BA [],0⟩) rfl rfl rfl ?_
   have hopa:(openF tn n { q with acs:=q.acs++[⟨3,(f.jb:Int),0,(kd:Int),(lv:Int),0,BA [],0⟩] } f.jb kd lv).acs=q.acs++[⟨3,(f.jb:Int),0,(kd:Int),(lv:Int),0,BA [],0⟩]:=by
     unfold openF;split
     . rfl
     . split <;> rfl
   refine Zou (q:={ q with acs:=q.acs++[⟨3,(f.jb:Int),0,(kd:Int),(lv:Int),0,BA [],0⟩] }) (tn:=tn) (i:=t) H8 hT8 hA8 hX8 hacl (by show q.xs.length<=900;omega) hus (Zb4 hw0) htn ⟨hk1.1,hk1.2.1⟩ hk2 hK (by show q.out.length<=_;omega) hfj (λw9 hxs S9 H9=>?_) λv w9 S9 H9=>?_
   . refine fin1 _ _ w9 ?_ (S.trans S9) H9;rw[hq];generalize openF tn n _ f.jb kd lv=q2 at hopa hxs;obtain⟨a1,a2,a3,a4⟩:=q2;obtain rfl:a1=_:=hopa;obtain rfl:a2=_:=hxs;rfl
   . exact fin2 _ v w9 hq hopa (S.trans S9) H9
 . have hw0:whoD q.acs=some (t:Int):=by
     cases e:whoD q.acs with
     |none=>exact absurd e hwho
     |some i=>rw[h.who i e]
   refine r_eql (r_vfE (by decide) (r_eql (r_vfE (by decide) (r_eql (r_vfE (by decide) (r_eql (r_vtE rfl ?_)))))));refine r_dr H8 λw9 S9 H9=>?_;refine r_ldA 4 H9 (cellsZ a ts.length c n ⟨oz,(q.acs++[(⟨8,0,0,0,0,0,BA [],0⟩:Ac)]).length,cz⟩ ⟨ox,q.xs.length,cx⟩ q.out q.wt) rfl rfl rfl (r_ldA 4 H9 (cellsZ a ts.length c n ⟨oz,(q.acs++[(⟨8,0,0,0,0,0,BA [],0⟩:Ac)]).length,cz⟩ ⟨ox,q.xs.length,cx⟩ q.out q.wt) rfl rfl rfl ?_);refine Zk3 (i:=t) (tn:=tn) H9 hT8 hA8 hX8 hacl (by omega) (by omega) (Zb4 hw0) htn ⟨hk1.1,hk1.2.1⟩ ⟨hk1.2.2.1,hk1.2.2.2.1⟩ λw10 S10 H10=>?_;refine r_rk (r_ldA 4 H10 (cellsZ a ts.length c n ⟨oz,(q.acs++[(⟨8,0,0,0,0,0,BA [],0⟩:Ac)]).length,cz⟩ ⟨ox,q.xs.length,cx⟩ q.out q.wt) rfl rfl rfl rfl) ?_
   have hjl:(joinF [0,q.xs.length,usedF q.xs,tn.me.toNat,tn.st.toNat]).length<=100:=Zim _ λy hy=>by
     simp only[mem_cons,not_mem_nil,or_false] at hy
     rcases hy with rfl|rfl|rfl|rfl|rfl <;> omega
   refine r_bd (v:=.agg #[nv 70,nv 0,S_ (joinF [0,q.xs.length,usedF q.xs,tn.me.toNat,tn.st.toNat]),nv 0]) (by kernel_rfl) ?_;refine Zcg (ty:=70) (jb:=0) (e:=0) (da':=joinF [0,q.xs.length,usedF q.xs,tn.me.toNat,tn.st.toNat]) H10 (.inr ⟨by decide,by decide,rfl⟩) (by decide) (by decide) (by omega) (by omega) λw11 S11 H11=>?_;refine fin1 _ _ w11 ?_ (S.trans (S9.trans (S10.trans S11))) H11;rw[hqd];show (match whoD (q.acs++[⟨8,0,0,0,0,0,BA [],0⟩]) with|none=>_|some i=>_)=_;rw[Zb4 hw0];show (match ts[t]? with|none=>_|some t=>_)=_;rw[htn];rfl
 . have hxw:(x.wh=4\/x.wh=5\/x.wh=6\/x.wh=7)/\(0<=x.nn/\x.nn < 4294967296)/\x.tx.data.toList.length<=65536:=by
     rcases hr with⟨_,rfl⟩|⟨_,rfl⟩|rfl|⟨p,hp,rfl⟩
     . exact⟨.inl rfl,⟨Int.le_refl 0,by show (0:Int) < 4294967296;decide⟩,by show f.da.length<=65536;omega⟩
     . exact⟨.inr (.inl rfl),⟨Int.le_refl 0,by show (0:Int) < 4294967296;decide⟩,by show 0<=65536;decide⟩
     . exact⟨.inr (.inr (.inl rfl)),⟨Int.le_refl 0,by show (0:Int) < 4294967296;decide⟩,by show 0<=65536;decide⟩
     . exact⟨.inr (.inr (.inr rfl)),⟨by show 0<=(p:Int);omega,by show (p:Int) < 4294967296;omega⟩,by show 0<=65536;decide⟩
   obtain⟨hxw,hnn,htx⟩:=hxw
   have hq:quiF ts n q f=useF n { q with acs:=q.acs++[x] } x:=by
     rw[hqd];unfold doF;rw[if_neg (by omega),if_neg (by omega),if_neg (by omega),if_neg (by omega)]
   have hua:(useF n { q with acs:=q.acs++[x] } x).acs=q.acs++[x]:=by
     unfold useF;split
     . rfl
     . split
       . rfl
       . split
         . rfl
         . split <;> rfl
   refine r_eql (r_vfE (by omega) (r_eql (r_vfE (by omega) (r_eql (r_vfE (by omega) (r_eql (r_vfE (by omega) ?_)))))));refine r_ldA 4 H8 (cellsZ a ts.length c n ⟨oz,(q.acs++[x]).length,cz⟩ ⟨ox,q.xs.length,cx⟩ q.out q.wt) rfl rfl rfl (r_ldA 1 H8 (cellsA x) rfl rfl rfl ?_);refine Zpq (q:={ q with acs:=q.acs++[x] }) H8 hX8 (by show q.xs.length<=900;omega) hxw hnn htx hxok (by show q.out.length<=_;omega) (λw9 hun S9 H9=>?_) λv w9 S9 H9=>?_
   . refine fin1 _ _ w9 ?_ (S.trans S9) H9;rw[hq,hun]
   . exact fin2 _ v w9 hq hua (S.trans S9) H9
end
end F33
end Go.Proofs.YthkaggnihbkmeaaGreatDoor
set_option maxRecDepth 100000
namespace Go.Proofs.YthkaggnihbkmeaaGreatDoor
open Go Go.Vc Go.Proofs.Tryz
attribute [local irreducible] Vc.Nc Vc.Ld Vc.LdA Vc.St Vc.StA Vc.Fo Vc.Iaa Vc.Ias Vc.Ixs Vc.Ixa Vc.Fd Vc.FdA Vc.Bp Vc.Bb Vc.Bn Vc.Up Vc.Ci Vc.Lns Vc.Lnl Vc.Ex Vc.Sst Vc.Ssl Vc.New Vc.Vif Vc.VJoin Vc.VLoop Vc.KE Vc.Dr Vc.Rk Vc.Cl Vc.Cx Vc.Inv Vc.Be Vc.Cv Vc.Cw Vc.Mf Vc.Sl Vc.Lk Vc.Bd Vc.Bs Vc.Ms Vc.Mm Vc.Mu Vc.Me Vc.Es Vc.Rg Vc.Nx Vc.Ta Vc.Ap Vc.Usd Vc.Ust Vc.Cp Vc.Ln Vc.Bc Vc.Bmin Vc.Bmax Vc.Bdel Vc.Bclr Vc.Pk
namespace S41
open Go.M31 J30 J31 J32 J34 S40
variable {w:World}{L:List HProp}{K:KT}
abbrev tSv:Nat:=78
abbrev tTb:Nat:=128
abbrev tLd:Nat:=132
abbrev tAc:Nat:=134
abbrev tMt:Nat:=137
abbrev tSc:Nat:=142
abbrev tDt:Nat:=145
abbrev tQu:Nat:=224
def accF (x:Nat):List Value:=[nv x,iv 0,iv 0]
def me (t:Tn):Nat:=t.me.toNat
def st (t:Tn):Nat:=t.st.toNat
def qu (t:Tn):Nat:=t.qu.toNat
theorem Zjf {n:Int}(H:Holds w L) (h1:1<=n) (h2:n<=64) (post:∀ b w',Same w w'->Holds w' (blk b tTb [iv n,iv 0,.slice none 0 0]::L)->K (.tuple #[pt b,iv 0]) w'):Cl prog 28 #[iv n] w K:=by
 refine Tz28 ?_;unfold Vz28;refine Za0 (λx w'=>w=w'/\x=.bool false) ?_ ?_
 rotate_left
 . repeat (first|refine r_ke ?_|refine r_lss ?_|refine r_gtr ?_|((with_reducible refine r_vfD ?h ?_);(case h=>omega)))
   exact⟨rfl,by rw[decide_eq_false (by omega)]⟩
 rintro _ _ _ ⟨rfl,rfl⟩
 repeat (with_reducible refine r_vf ?_)
 refine r_bd (v:=.agg #[iv n,iv 0,.slice none 0 0]) (by kernel_rfl) ?_;refine r_new H λb w2 S2 H2=>?_;exact post b w2 S2 H2
theorem Zem (H:Holds w L) (post:∀ b w',Same w w'->Holds w' (blk b tQu [iv 1099511627776,.slice none 0 0]::L)->K (pt b) w'):Cl prog 73 #[] w K:=by
 refine Tz73 ?_;unfold Vz73;refine Tz119 ?_;unfold Vz119;refine Za0 (λx w'=>w=w'/\x=.bool false) ?_ ?_
 rotate_left
 . repeat (first|refine r_ke ?_|refine r_lss ?_|refine r_gtr ?_|((with_reducible refine r_vfD ?h ?_);(case h=>omega)))
   exact⟨rfl,rfl⟩
 rintro _ _ _ ⟨rfl,rfl⟩
 repeat (with_reducible refine r_vf ?_)
 refine r_bd (v:=.agg #[iv 1099511627776,.slice none 0 0]) (by kernel_rfl) ?_;refine r_new H λb w2 S2 H2=>?_
 repeat (first|(with_reducible first|refine Za4 ?_|refine Za3 ?_))
 exact post b w2 S2 H2
theorem Zra {n:Nat}(h:n<=1099511627776) (k:K (.bool false) w):Cl prog 67 #[nv n] w K:=by
 refine Tz67 ?_;unfold Vz67;refine Tz68 ?_;unfold Vz68
 repeat (first|refine r_leq ?_|refine r_geq ?_|refine r_not ?_|((with_reducible refine r_vtD ?h ?_);(case h=>omega)))
 rw[decide_eq_true (by omega)]
 repeat (fail)
 exact k
theorem Zqp {n:Nat}(h:n<=1099511627776) (k:K (.bool false) w):Cl prog 69 #[nv n] w K:=by
 refine Tz69 ?_;unfold Vz69;refine Tz70 ?_;unfold Vz70
 repeat (first|refine r_leq ?_|refine r_geq ?_|refine r_not ?_|((with_reducible refine r_vtD ?h ?_);(case h=>omega)))
 rw[decide_eq_true (by omega)]
 repeat (fail)
 exact k
theorem Zr4 {n:Nat}(h0:1<=n) (h:n<=1099511627776) (k:K (.bool false) w):Cl prog 72 #[nv n] w K:=by
 refine Tz72 ?_;unfold Vz72
 repeat (first|refine r_lss ?_|refine r_gtr ?_|((with_reducible refine r_vfD ?h ?_);(case h=>omega)))
 rw[decide_eq_false (by omega)];exact k
theorem Zh9 {xs:List Nat}{v:Value}(H:Holds w (SL nv tI v xs::L)) (h1:0 < xs.length) (h2:xs.length<=16) (hx:∀ x∈xs,x<=1099511627776)
   (post:∀ b u w',Same w w'->Holds w' (blk b tLd [u]::RW accF 3 tAc u xs::L)->K (.tuple #[pt b,iv 0]) w'):Cl prog 29 #[v] w K:=by
 refine Tz29 ?_;unfold Vz29;refine Za0 (λx w'=>w=w'/\x=.bool false) ?_ ?_
 rotate_left
 . refine r_lnS 0 H rfl ?_
   repeat (first|refine r_eql ?_|((with_reducible refine r_vfE ?h ?_);(case h=>omega)))
   refine r_lnS 0 H rfl ?_
   repeat (first|refine r_gtr ?_|((with_reducible refine r_vfD ?h ?_);(case h=>omega)))
   refine Zgz 0 H rfl (by omega) (λx w K hm k=>Zra (hx x hm) k) (λx w=>by kernel_rfl) ?_;exact r_ke ⟨rfl,rfl⟩
 rintro _ _ _ ⟨rfl,rfl⟩
 repeat (with_reducible refine r_vf ?_)
 refine r_bd (v:=.agg #[.slice none 0 0]) (by kernel_rfl) ?_;refine r_new H λb w2 S2 H2=>?_;replace H2:Holds w2 (blk b tLd [.slice none 0 0]::SL nv tI v xs::L):=H2;refine r_lnS 1 H2 rfl ?_;refine Zat (λx w'=>∃ (i:Nat) (u:Value),i<=xs.length/\x=nv i/\Same w w'/\Holds w' (RW accF 3 tAc u (xs.take i)::blk b tLd [u]::SL nv tI v xs::L)) (λx _=>xs.length - (intOf x).toNat) ⟨0,.slice none 0 0,by omega,rfl,S2,H2.nilRW accF 3 tAc⟩ ?_;clear H H2 S2;rintro _ _ w3 ⟨i,u,hi,rfl,S,H⟩
 repeat (refine r_lss ?_)
 refine r_ifD (λh=>?_) λh=>?_
 . have hlt:i < xs.length:=by omega
   obtain⟨x,hxi⟩:∃ x,xs[i]?=some x:=⟨_,gA hlt⟩;have H0:=H;obtain⟨oa,sp,rfl,H1⟩:=H0.open 2 rfl;refine Zht 2 H1 rfl hlt (Nat.le_refl _) ?_;rintro b2 rfl;refine Zi4 2 H1 rfl hxi ?_
   repeat (first|refine r_nc ?_|refine r_fo0 ?_|refine r_ld 1 H rfl rfl ?_)
   refine r_bd (v:=.agg (accF x).toArray) (by kernel_rfl) ?_
   refine Zhz H 0 x rfl (by kernel_rfl) (λy=>rfl) (λy u hu=>by
     simp only[accF,mem_cons,not_mem_nil,or_false] at hu
     rcases hu with rfl|rfl|rfl <;> rfl) (by rw[gN];omega) (by omega) λv' w6 S6 H6=>?_
   rw[gJ] at H6;refine r_nc (r_fo0 ?_);refine r_st 1 H6 rfl (by simp) ?_ λw7 S7 H7=>?_
   . obtain⟨oa,m,sp,rfl,_⟩:=H6.openRW 0 rfl;rfl
   rw[gW,gJ] at H7
   repeat (first|refine r_ke ?_|(refine Za1 (by omega) ?_))
   refine⟨⟨i+1,v',by omega,rfl,(S.trans S6).trans S7,?_⟩,?_⟩
   . rw[gO,hxi];exact H7
   . simp[nv,intOf];omega
 . obtain rfl:i=xs.length:=by omega
   rw[hF_] at H;exact post b u _ S (by have h_:=Holds.ord 3 [1,0] H rfl;exact h_)
theorem Zh8 {xs:List Nat}{v:Value}{sp:Int}(H:Holds w (SL nv tI v xs::L)) (h0:1<=sp) (h9:sp<=1048576) (h1:0 < xs.length) (h2:xs.length<=16) (hx:∀ x∈xs,x<=1099511627776)
   (post:∀ b q c t w',Same w w'->Holds w' (blk b tMt [iv sp,iv 0,q,c,t]::SL nv tI q xs::SL nv tI c (List.replicate xs.length 0)::SL nv tI t (List.replicate xs.length 0)::L)->K (.tuple #[pt b,iv 0]) w') :
   Cl prog 32 #[iv sp,v] w K:=by
 refine Tz32 ?_;unfold Vz32;refine r_lnS 0 H rfl ?_;refine Zgz 0 H rfl (by omega) (λx w K hm k=>Zqp (hx x hm) k) (λx w=>by kernel_rfl) ?_;refine Za0 (λx w'=>w=w'/\x=.bool false) ?_ ?_
 rotate_left
 . repeat (first|refine r_ke ?_|refine r_eql ?_|refine r_lss ?_|refine r_gtr ?_|((with_reducible refine r_vfD ?h ?_);(case h=>omega))|((with_reducible refine r_vfE ?h ?_);(case h=>omega)))
   exact⟨rfl,rfl⟩
 rintro _ _ _ ⟨rfl,rfl⟩;have S:=Same.refl w
 repeat (first|(with_reducible refine r_vf ?_)|(refine r_dr H ?_;clear H;intro _ S_ H;replace S:=S.trans S_;clear S_))
 have fin:∀ (q c t:Value) (w':World),Same w w'->Holds w' (SL nv tI q xs::SL nv tI c (List.replicate xs.length 0)::SL nv tI t (List.replicate xs.length 0)::L)->
     Bd prog tMt #[(0,iv sp),(2,q),(3,c),(4,t)] w' λx_7=>New x_7 tMt w' λx_9 w7=>K (.tuple #[x_9,iv 0]) w7:=by
   intro q c t w' S' H';refine r_bd (v:=.agg #[iv sp,iv 0,q,c,t]) ?_ ?_
   . obtain⟨oa,p1,rfl,_⟩:=H'.open 0 rfl;obtain⟨ob,p2,rfl,_⟩:=H'.open 1 rfl;obtain⟨oc,p3,rfl,_⟩:=H'.open 2 rfl
     kernel_rfl
   refine r_new H' λb w8 S8 H8=>?_;exact post b q c t _ (S'.trans S8) H8
 have ms:∀ {L:List HProp} {w1:World} {K:KT},Holds w1 L->(∀ v w',Same w1 w'->Holds w' (SL nv tI v (List.replicate xs.length 0)::L)->K v w')->Ms prog 66 (nv xs.length) (nv xs.length) w1 K:=by
   intro L w1 K H' k';refine r_ms (f:=nv) (x:=0) H' rfl (by omega) (by omega) λb w2 S2 H2=>?_;have H3:=H2.close 0 rfl;rw[gJ] at H3
   have e:(xs.length:Int).toNat=xs.length:=by omega
   rw[e] at H3 ⊢;have:=k' _ w2 S2 H3;simpa using this
 have cl:∀ {L:List HProp} {w1:World} {K:KT} (j:Nat),Holds w1 L->L[j]?=some (SL nv tI v xs)->(∀ v' w',Same w1 w'->Holds w' (SL nv tI v' xs::L)->K v' w')->Cl prog 71 #[v] w1 K:=
   λj H' hj k'=>Zod H' j hj (by omega) k'
 refine⟨?_,?_,?_⟩
 . refine cl 0 H rfl λa w3 S3 H3=>?_;refine⟨?_,?_⟩
   . refine ms H3 λb w4 S4 H4=>ms H4 λc w5 S5 H5=>?_;exact fin a b c w5 (((S.trans S3).trans S4).trans S5) (by have h_:=Holds.ord 4 [2,1,0] H5 rfl;exact h_)
   . refine ms H3 λb w4 S4 H4=>ms H4 λc w5 S5 H5=>?_;exact fin a c b w5 (((S.trans S3).trans S4).trans S5) (by have h_:=Holds.ord 4 [2,0,1] H5 rfl;exact h_)
 . refine ms H λa w3 S3 H3=>?_;refine⟨?_,?_⟩
   . refine cl 1 H3 rfl λb w4 S4 H4=>ms H4 λc w5 S5 H5=>?_;exact fin b a c w5 (((S.trans S3).trans S4).trans S5) (by have h_:=Holds.ord 4 [1,2,0] H5 rfl;exact h_)
   . refine ms H3 λb w4 S4 H4=>cl 2 H4 rfl λc w5 S5 H5=>?_;exact fin c a b w5 (((S.trans S3).trans S4).trans S5) (by have h_:=Holds.ord 4 [0,2,1] H5 rfl;exact h_)
 . refine ms H λa w3 S3 H3=>?_;refine⟨?_,?_⟩
   . refine cl 1 H3 rfl λb w4 S4 H4=>ms H4 λc w5 S5 H5=>?_;exact fin b c a w5 (((S.trans S3).trans S4).trans S5) (by have h_:=Holds.ord 4 [1,0,2] H5 rfl;exact h_)
   . refine ms H3 λb w4 S4 H4=>cl 2 H4 rfl λc w5 S5 H5=>?_;exact fin c b a w5 (((S.trans S3).trans S4).trans S5) (by have h_:=Holds.ord 4 [0,1,2] H5 rfl;exact h_)
end S41
namespace F33
open Go.M31 J30 J31 J32
variable {w:World}{L:List HProp}{K:KT}
section
variable {s:Sx}{ts:List Tn}{n:Cf}{wt last m t c:Nat}{B:List UInt8}{as_:List G40.Ak}{ys:List Px}{a:G40.Ak}{q:Qt}{f:Fr}
theorem Zhh (H:Holds w (SvL s ts n wt last q.acs q.out B (ys.map (rowP t)) as_ (livesF ys) ys m++L)) (k:K (pt s.ln) w):Cl prog 47 #[pt s.b,iv 0] w K:=by
 refine Tz47 ?_;unfold Vz47;refine Za2 (r_vf (r_nc (r_fo0 (r_ld 0 H rfl rfl ?_))));exact r_lkD (t:=tM88) (kt:=tIw) (et:=80) (x:=.p none) (z:=.pointer none) (k:=0) (by kernel_rfl) (by kernel_rfl) (by kernel_rfl) rfl 2 H rfl k
theorem Zq6 (h:Rp ts n c q t wt last m B as_ ys a) (hc:c<=100) (H:Holds w (SvL s ts n wt last q.acs q.out B (ys.map (rowP t)) as_ (livesF ys) ys m++L)) (k:∀ w',Same w w'->Holds w' (SvL s ts n wt last q.acs q.out B (ys.map (rowP t)) as_ (livesF ys) ys m++L)->K (S_ q.out) w'):Cl prog 12 #[pt s.b,iv 0] w K:=by
 refine Tz12 ?_;unfold Vz12;have:=h.ou;refine Zhh H (Za2 (r_vf (r_nc (r_fo0 ?_))));exact Zk1 (j:=3) H rfl (by omega) k
theorem Zon (h:Rp ts n c q t wt last m B as_ ys a) (H:Holds w (SvL s ts n wt last q.acs q.out B (ys.map (rowP t)) as_ (livesF ys) ys m++L)) (k:K (.bool q.wt) w):Cl prog 13 #[pt s.b,iv 0] w K:=by
 refine Tz13 ?_;unfold Vz13;refine Zhh H (Zag (r_vt ?_));obtain⟨p,v,hp,H3⟩:=Zar (j:=3) H rfl;refine r_nc (r_fo0 (r_ld 0 H3 rfl rfl (r_gtr ?_)));rw[show decide ((wt:Int) > 0)=q.wt by rw[h.wq,Bool.eq_iff_iff,decide_eq_true_iff,decide_eq_true_iff];omega];exact k
theorem Zot (h:Rp ts n c q t wt last m B as_ ys a) (H:Holds w (SvL s ts n wt last q.acs q.out B (ys.map (rowP t)) as_ (livesF ys) ys m++L)) (k:∀ w',Same w w'->Holds w' (SvL s ts n wt last q.acs q.out B (ys.map (rowP t)) as_ (livesF ys) ys m++L)->K (nv (usedF q.xs)) w'):Cl prog 15 #[pt s.b,nv t] w K:=by
 refine Tz15 ?_;unfold Vz15;refine Za2 (r_vf (r_nc (r_fo0 (r_ld 0 H rfl rfl ?_))));refine G40.Zpl (j:=7) H rfl h.ta λw2 S2 H2=>?_;have:=k w2 S2 H2;rw[<-h.us] at this;exact this
theorem Zo5 (h:Rp ts n c q t wt last m B as_ ys a) (hc:c<=100) (H:Holds w (SvL s ts n wt last q.acs q.out B (ys.map (rowP t)) as_ (livesF ys) ys m++L)) (k:∀ w',Same w w'->Holds w' (SvL s ts n wt last q.acs q.out B (ys.map (rowP t)) as_ (livesF ys) ys m++L)->K (nv q.xs.length) w'):Cl prog 17 #[pt s.b,nv t] w K:=by
 refine Tz17 ?_;unfold Vz17;have:=h.ln;refine Za2 (r_vf (r_nc (r_fo0 (r_ld 0 H rfl rfl ?_))));refine A40.By_at (j:=6) H rfl (by rw[hS_];omega) λo cc w2 S2 H2=>?_;rw[Zg5];refine r_lnl ?_;have:=k w2 S2 H2;rw[h.xs,hS_] at this;exact this
theorem Rp.up (h:Rp ts n c q t wt last m B as_ ys a) (hw:wt≠0){B':List UInt8}(hB:B'.length<=B.length+300):Rp ts n (c+1) q t wt last m B' as_ ys a:=
 { al:=Nat.le_succ_of_le h.al,wf:=h.wf,who:=h.who,no:=h.no,tl:=h.tl,ta:=h.ta,tm:=h.tm,us:=h.us,ul:=h.ul,ll:=h.ll,xs:=h.xs,hd:=h.hd,ids:=h.ids
   ok:=λe=>absurd e hw
   en:=h.en,op:=h.op,la:=Nat.le_succ_of_le h.la,mm:=Nat.le_succ_of_le h.mm
   ou:=by have:=h.ou;omega
   wq:=h.wq
   bz:=λe=>absurd e hw
   bl:=by have:=h.bl;omega
   ln:=Nat.le_succ_of_le h.ln }
theorem Zqr {j p:Nat}{sx:List UInt8}(H:Holds w L) (hj:L[j]?=some (blk p tPa (paC B 0))) (hl:B.length+sx.length<=65545) (k:∀ w',Same w w'->Holds w' (L.set j (blk p tPa (paC (B++sx) 0)))->K (nv sx.length) w'):Cl prog 39 #[pt p,S_ sx] w K:=
 Zpa (H.front j hj) hl λw2 S2 H2=>k w2 S2 (Sat.push j hj H2)
theorem q_D2 {t:List UInt8}{m:Nat}{K:Value->Prop}(h1:m<=t.length) (h:K (S_ (t.drop m))):Sst (S_ t) (some (nv m)) none K:=q_D h1 h
theorem Zl5 (h:Rp ts n c q t wt last m B as_ ys a) (hc:c<=100) (H:Holds w (SvL s ts n wt last q.acs q.out B (ys.map (rowP t)) as_ (livesF ys) ys m++L))
   {b:List UInt8} {P:KT} (k:∀ w',Same w w'->Holds w' (SvL s ts n wt last q.acs q.out B (ys.map (rowP t)) as_ (livesF ys) ys m++L)->K (nv b.length) w') (hb:b.length<=1000) :
   Nc (pt s.ln) <| Fo 6 (pt s.ln) λx_5=>Ld x_5 w λx_6=>Up .not x_6 λx_7=>Vif x_7 (Dr w λw4=>Nc (pt s.ln) <| Fo 1 (pt s.ln) λx_8=>Ld x_8 w4 λx_9=>Sst (S_ b) (some (nv b.length)) none λx_11=>
     Cl prog 39 #[x_9,x_11] w4 λx_13 w5=>Bp .add (nv b.length) x_13 λx_14=>Cl prog 40 #[pt s.b,pt s.ln] w5 λx_15 w6=>Up .not x_15 λx_16=>
       Vif x_16 (Bp .eql x_13 (iv 0) λx_17=>Vif x_17 (K x_14 w6) (P x_14 w6)) (P x_14 w6)) (K (nv b.length) w):=by
 obtain⟨p,v,hp,H3⟩:=Zar (j:=3) H rfl;have hbl:=h.bl;refine r_nc (r_fo0 (r_ld 0 H3 rfl rfl (r_not (r_vt ?_))));refine r_dr H λw4 S4 H4=>?_;obtain⟨p,v,hp,H5⟩:=Zar (j:=3) H4 rfl;refine r_nc (r_fo0 (r_ld 0 H5 rfl rfl (q_D2 (Nat.le_refl _) ?_)));rw[List.drop_length];refine Zqr (j:=4) H4 rfl (by show B.length+0<=_;omega) λw5 S5 H6=>?_;rw[gU] at H6;replace H6:Holds w5 (SvL s ts n wt last q.acs q.out B (ys.map (rowP t)) as_ (livesF ys) ys m++L):=H6;refine Zaa (a:=b.length) (b:=0) (by omega) ?_
 by_cases hw:wt=0
 . subst hw;obtain rfl:=h.bz rfl;refine Zsv H6 λw6 S6 H7=>?_;exact r_not (r_vt (r_eql (r_vtE rfl (k w6 (S4.trans (S5.trans S6)) H7))))
 . refine Zn3 H6 hw ?_;exact r_not (r_vt (r_eql (r_vtE rfl (k w5 (S4.trans S5) H6))))
set_option maxHeartbeats 4000000 in
theorem Zjq {z:Bool}{b:Nat}(hK:Kn ts n) (hs:∀ t∈ts,szT t) (hU:J33.TabZ z L) (hA:J33.Asc z f.da) (hc:c<=60) (hf:okFr f)
   (hline:∀ {K:KT},(∀ s w',s.b=b->Same w w'->Rep s ts n c q L w'->K (pt s.ln) w')->Cl prog 38 #[pt b,iv 0] w K)
   (k:∀ s w',s.b=b->Same w w'->Rep s ts n (c+1) (nextF ts n q f) L w'->K (nv (encF f).length) w'):Cl prog 10 #[pt b,iv 0,S_ (encF f)] w K:=by
 have hel:=Zay f;have hf3:=hf.2.2;refine Tz10 ?_;unfold Vz10;refine Za0 (λx w'=>w=w'/\x=.bool false) ?_ ?_
 rotate_left
 . refine Za2 (r_vf ?_);refine Tz37 ?_;unfold Vz37;exact r_geq (r_vtD (by decide) (r_lss (r_not (r_ke ⟨rfl,rfl⟩))))
 rintro _ _ _ ⟨rfl,rfl⟩;refine r_vf ?_;refine hline λs w2 hsb S2 hR2=>?_;subst hsb;clear hline;refine Zat (λx w'=>(w2=w'/\x=iv 0)\/(x=nv (encF f).length/\Same w w'/\Rep s ts n (c+1) (nextF ts n q f) L w')) (λx _=>(encF f).length - (intOf x).toNat) (.inl ⟨rfl,rfl⟩) ?_;rintro _ x w3 (⟨rfl,rfl⟩|⟨rfl,S,t2,wt2,last2,m2,B2,as2,ys2,a2,h2,H2⟩)
 . obtain⟨t,wt,last,m,B,as_,ys,a,h,H⟩:=hR2;have hbl:=h.bl;obtain⟨p,v,hp,H3⟩:=Zar (j:=3) H rfl;refine r_nc (r_fo0 (r_ld 0 H3 rfl rfl (r_not (r_vt ?_))));refine r_dr H λw4 S4 H4=>?_;obtain⟨p,v,hp,H5⟩:=Zar (j:=3) H4 rfl;refine r_nc (r_fo0 (r_ld 0 H5 rfl rfl (q_D2 (m:=0) (Nat.zero_le _) ?_)));rw[List.drop_zero];refine Zqr (j:=4) H4 rfl (by omega) λw5 S5 H6=>?_;replace H6:Holds w5 (SvL s ts n wt last q.acs q.out (B++encF f) (ys.map (rowP t)) as_ (livesF ys) ys m++L):=H6;refine Zaa (a:=0) (b:=(encF f).length) (by omega) ?_;rw[Nat.zero_add];have hmu:∀ P:Prop,P->P/\(encF f).length - (intOf (nv (encF f).length)).toNat < (encF f).length - (intOf (iv 0)).toNat:=λP hP=>⟨hP,by simp only[intOf,gC];show _ < (encF f).length - 0;omega⟩
   by_cases hw:wt=0
   . subst hw;obtain rfl:=h.bz rfl;rw[hO_] at H6;refine Zp1 hK hs hU hA h hc hf H6 λw6 S6 hR3=>?_
     have hn:nextF ts n q f=quiF ts n q f:=by
       unfold nextF;rw[h.wq,if_neg (by decide)]
     refine r_not (r_vf (r_ke (hmu _ (.inr ⟨rfl,S2.trans (S4.trans (S5.trans S6)),?_⟩))));rw[hn];exact hR3
   . refine Zn3 H6 hw ?_
     have hn:nextF ts n q f=q:=by
       unfold nextF;rw[h.wq,if_pos (by simpa using hw)]
     refine r_not (r_vt (r_eql (r_vfE (by show ¬ ((encF f).length:Int)=0;omega) (r_ke (hmu _ (.inr ⟨rfl,S2.trans (S4.trans S5),?_⟩))))));rw[hn];exact⟨t,wt,last,m,B++encF f,as_,ys,a,h.up hw (by rw[gD];omega),H6⟩
 . exact Zl5 h2 (by omega) H2 (λw' S' H'=>k s w' rfl (S.trans S') ⟨t2,wt2,last2,m2,B2,as2,ys2,a2,h2,H'⟩) (by omega)
theorem Zo6 (hR:Rep s ts n c q L w) (k:∀ s' w',s'.b=s.b->Same w w'->Rep s' ts n c q L w'->K (pt s'.ln) w'):Cl prog 38 #[pt s.b,iv 0] w K:=by
 have hR0:=hR;obtain⟨t,wt,last,m,B,as_,ys,a,h,H⟩:=hR;refine Tz38 ?_;unfold Vz38;refine r_nc (r_fo0 (r_ld 0 H rfl rfl ?_));refine r_lkD (t:=tM88) (kt:=tIw) (et:=80) (x:=.p none) (z:=.pointer none) (k:=0) (by kernel_rfl) (by kernel_rfl) (by kernel_rfl) rfl 2 H rfl ?_;exact Za2 (r_vf (k s w rfl (.refl w) hR0))
end
end F33
end Go.Proofs.YthkaggnihbkmeaaGreatDoor
namespace Go.Proofs.YthkaggnihbkmeaaGreatDoor
open Go Go.Vc Go.Proofs.Tryz
theorem Zu0 {α β:Type}{F:α->List Value}{k:Nat}{e:TypeId}{v:Value}{g:β->α}{xs:List β}:RW F k e v (xs.map g)=RW (λx=>F (g x)) k e v xs:=by
 have h:∀ xs:List β,flatL F (xs.map g)=flatL (λx=>F (g x)) xs:=by
   intro xs
   induction xs with
   |nil=>rfl
   |cons x r ih=>rw[hR_,flatL,flatL,ih]
 funext hp
 unfold RW;simp only[hS_];unfold rwb;rw[h xs];simp only[List.map_eq_nil_iff]
attribute [local irreducible] Vc.Nc Vc.Ld Vc.LdA Vc.St Vc.StA Vc.Fo Vc.Iaa Vc.Ias Vc.Ixs Vc.Ixa Vc.Fd Vc.FdA Vc.Bp Vc.Bb Vc.Bn Vc.Up Vc.Ci Vc.Lns Vc.Lnl Vc.Ex Vc.Sst Vc.Ssl Vc.New Vc.Vif Vc.VJoin Vc.VLoop Vc.KE Vc.Dr Vc.Rk Vc.Cl Vc.Cx Vc.Inv Vc.Be Vc.Cv Vc.Cw Vc.Mf Vc.Sl Vc.Lk Vc.Bd Vc.Bs Vc.Ms Vc.Mm Vc.Mu Vc.Me Vc.Es Vc.Rg Vc.Nx Vc.Ta Vc.Ap Vc.Usd Vc.Ust Vc.Cp Vc.Ln Vc.Bc Vc.Bmin Vc.Bmax Vc.Bdel Vc.Bclr Vc.Pk
namespace F33
open Go.M31 J30 J31 J32
variable {w:World}{L:List HProp}{K:KT}
theorem Zjl {xs:List Nat}{v:Value}(H:Holds w (SL nv Q40.tI v xs::L)) (h1:0 < xs.length) (h2:xs.length<=16) (hx:∀ x∈xs,1<=x/\x<=1099511627776)
   (post:∀ b w',Same w w'->Holds w' (SchR b xs.length 0::L)->K (.tuple #[pt b,iv 0]) w'):Cl prog 34 #[v] w K:=by
 refine Tz34 ?_;unfold Vz34;refine S40.Zgz 0 H rfl (by omega) (λx w K hm k=>S41.Zr4 (hx x hm).1 (hx x hm).2 k) (λx w=>by kernel_rfl) ?_;refine Za0 (λx w'=>w=w'/\x=.bool false) ?_ ?_
 rotate_left
 . refine r_lnS 0 H rfl (r_eql (r_vfE (by omega) (r_lnS 0 H rfl (r_gtr (r_vfD (by omega) (r_ke ⟨rfl,rfl⟩))))))
 rintro _ _ _ ⟨rfl,rfl⟩;refine r_vf ?_;refine S41.Zem H λbq w1 S1 H1=>?_;refine r_bd (v:=.agg #[.slice none 0 0,pt bq]) (by kernel_rfl) ?_;refine r_new H1 λb w2 S2 H2=>?_;replace H2:Holds w2 (blk b Q40.tSc [.slice none 0 0,pt bq]::blk bq Q40.tQu [iv 1099511627776,.slice none 0 0]::SL nv Q40.tI v xs::L):=H2;refine r_lnS 2 H2 rfl ?_
 have H3:Holds w2 (SL Q40.ptr Q40.tPt (.slice none 0 0) ([]:List Nat)::blk b Q40.tSc [.slice none 0 0,pt bq]::blk bq Q40.tQu [iv 1099511627776,.slice none 0 0]::SL nv Q40.tI v xs::PkL Q40.TeR []::L):=by
   have Ha:=Holds.nilSL (Holds.nilK Q40.TeR H2) Q40.ptr Q40.tPt;exact (by have h_:=Holds.ord 5 [0,2,3,4,1] Ha rfl;exact h_)
 refine Zat (λx w'=>∃ (i:Nat) (u:Value) (ps:List Q40.Te),i<=xs.length/\x=nv i/\ps.length=i/\(∀ t∈ps,t.q=[])/\Same w w'/\Holds w' (SL Q40.ptr Q40.tPt u (ps.map (·.tb))::blk b Q40.tSc [u,pt bq]::blk bq Q40.tQu [iv 1099511627776,.slice none 0 0]::SL nv Q40.tI v xs::PkL Q40.TeR ps::L)) (λx _=>xs.length - (intOf x).toNat)
   ⟨0,.slice none 0 0,[],by omega,rfl,rfl,(λt ht=>by cases ht),S1.trans S2,H3⟩ ?_
 clear H H1 H2 H3 S1 S2;rintro _ _ w3 ⟨i,u,ps,hi,rfl,hps,hpq,S,H⟩;refine r_lss (r_ifD (λh=>?_) λh=>?_)
 . have hlt:i < xs.length:=by omega
   obtain⟨x,hxi⟩:∃ x,xs[i]?=some x:=⟨_,gA hlt⟩;have H0:=H;obtain⟨oa,sp,rfl,H1⟩:=H0.open 3 rfl;refine Zht 3 H1 rfl hlt (Nat.le_refl _) ?_;rintro b2 rfl;refine Zi4 3 H1 rfl hxi ?_;clear H0 H1;refine r_dr H λw4 S4 H4=>?_;refine r_nc (r_fo0 (r_ld 1 H4 rfl rfl ?_));refine S41.Zem H4 λbx w5 S5 H5=>?_;refine r_rk (r_ld 2 H5 rfl rfl rfl) ?_;refine r_bd (v:=.agg #[pt bx,nv x,iv 0]) (by kernel_rfl) ?_;refine r_new H5 λby_ w6 S6 H6=>?_;refine r_rk (r_ld 3 H6 rfl rfl rfl) ?_;refine Zw6 (f:=Q40.ptr) H6 2 rfl by_ (λ_=>rfl) (by rw[hS_];omega) (λw' H'=>r_ld 3 H' rfl rfl rfl) λv' w7 S7 H7=>?_;refine r_nc (r_fo0 ?_);refine r_st 3 H7 rfl (by simp) ?_ λw8 S8 H8=>?_
   . obtain⟨oa,sp,rfl,_⟩:=H7.open 2 rfl;rfl
   have hnew:∀ {M:List HProp},Holds w8 (blk by_ Q40.tTe [pt bx,nv x,iv 0]::blk bx Q40.tQu [iv 1099511627776,.slice none 0 0]::M)->Holds w8 (Q40.TeR ⟨by_,bx,x,0,.slice none 0 0,[]⟩::M):=by
     intro M HM;refine Q40.Zel (t:=⟨by_,bx,x,0,.slice none 0 0,[]⟩) ?_;have H9:=HM.nilSL nv Q40.tI;exact (by have h_:=Holds.ord 3 [1,2,0] H9 rfl;exact h_)
   have H9:=Holds.addK 4 rfl (hnew H8);refine Za1 (by omega) (r_ke ⟨⟨i+1,v',ps++[⟨by_,bx,x,0,.slice none 0 0,[]⟩],by omega,rfl,by simp[hps],λt ht=>?_,S.trans (S4.trans (S5.trans (S6.trans (S7.trans S8)))),?_⟩,?_⟩)
   . rcases mem_append.1 ht with ht|ht
     . exact hpq t ht
     . obtain rfl:=mem_singleton.1 ht;rfl
   . rw[map_append];exact H9
   . simp only[intOf,gC];omega
 . obtain rfl:i=xs.length:=by omega
   refine post b _ S ?_
   have H1:Holds w3 (blk b Q40.tSc [u,pt bq]::SL Q40.ptr Q40.tPt u (ps.map (·.tb))::blk bq Q40.tQu [iv 1099511627776,.slice none 0 0]::SL nv Q40.tI (.slice none 0 0) []::PkL Q40.TeR ps::L):=by
     have H2:=H.nilSL nv Q40.tI;exact (by have h_:=Holds.ord 6 [2,1,3,0,5] H2 rfl;exact h_)
   refine Holds.imp (Holds.pack (A:=[_,_,_,_,_]) H1) λh hh=>⟨bq,u,.slice none 0 0,[],ps,⟨hps,by decide,λt ht=>by rw[hpq t ht];decide⟩,?_⟩;refine Zc9 (λ_=>Zc9 λ_=>Zc9 λ_=>Zc9 λg hg=>?_) hh;have:=Sat.unpack (A:=ps.map Q40.TeR) (L:=[]) hg;rw[gU] at this;exact this
theorem Zue {n:Cn}(h:okC n):∃ n':Cf,n=cnF n':=by
 obtain⟨a1,a2,a3,a4,a5,a6⟩:=n;unfold okC at h;refine⟨⟨a1.toNat,a2.toNat,a3.toNat,a4.toNat,a5.toNat,a6.toNat⟩,?_⟩;unfold cnF
 dsimp only at h ⊢
 congr 1 <;> omega
theorem Kn_of {ts:List Tn}{n:Cf}(h:goodTs ts/\okC (cnF n)) (hs:∀ t∈ts,szT t):Kn ts n:=by
 obtain⟨⟨g1,g2,g3,g4⟩,hn⟩:=h;unfold okC cnF at hn
 dsimp only at hn
 refine⟨λt ht=>?_,g3,g4,by omega,by omega,by omega,by omega,by omega,by omega⟩;obtain⟨q,hq⟩:=getElem?_of_mem ht;have:=g1 q t hq;unfold okT at this;exact⟨by omega,by omega,by omega,by omega,(hs t ht).1⟩
def NvL (s:Sx) (ts:List Tn) (n:Cf):List HProp:=
 [blk s.b tSv (cellsC s.a ts.length s.c (cnF n)++[.map (some s.lm),.map (some s.lv),pt s.bj,pt s.bl,pt s.bm,pt s.bt]),RW cellsT 5 tT (.slice s.a ts.length s.c) ts,MD s.lm (λ_=>none) 0,
   A40.TabR s.bj n.jo 0 [],G40.LedR s.bl (ts.map ak0),MetR s.bm n.sp (ts.map stN),MDe s.lv (λ_=>none),SchR s.bt ts.length 0]
section
variable {a:Option Addr}{ts:List Tn}{c:Nat}{n:Cf}
theorem Zqn (H:Holds w L) (hT:TsIn L a ts) (hU:J30.TabIn L) (hs:∀ t∈ts,szT t) (hc:ts.length<=c) (h0:ChkC ts (cnF n) 0)
   (pg:∀ s w',ts.length<=s.c->Same w w'->Holds w' (NvL s ts n++L)->K (.tuple #[pt s.b,iv 0]) w'):Cl prog 7 #[.agg (cellsC a ts.length c (cnF n)).toArray] w K:=by
 refine Tz7 ?_;unfold Vz7;refine r_new H λbc w1 S1 H1=>?_;replace H1:Holds w1 (blk bc tC (cellsC a ts.length c (cnF n))::L):=H1;refine r_ldA 0 H1 (cellsC a ts.length c (cnF n)) rfl rfl rfl ?_;refine J33.Config_spec H1 hT.up hU.up hs hc λe w2 S2 H2 hk=>?_;obtain rfl:=Zsq h0 hk;have S:=S1.trans S2;clear H H1 S1 S2;obtain⟨⟨g1,g2,g3,g4⟩,hn⟩:=Zkj h0
 have hok:∀ t∈ts,okT t:=λt ht=>by
   obtain⟨q,hq⟩:=getElem?_of_mem ht;exact g1 q t hq
 have hm:∀ {g:Tn->Nat} {x:Nat},x∈ts.map g->∃ t∈ts,g t=x:=λh=>mem_map.1 h;unfold okC cnF at hn
 dsimp only at hn
 refine r_neq (r_vfN rfl ?_);refine r_fo0 (r_ld 0 H2 rfl rfl ?_);refine S41.Zjf (n:=(n.jo:Int)) H2 (by omega) (by omega) λbj w3 S3 H3=>?_;refine Za4 (Za3 (r_fo0 (r_ld 1 H3 rfl rfl ?_)));refine S40.Zfy (f:=31) (g:=S41.me) H3 hT.up.up (by omega) (λt w L K ht H post=>?_) (λt w=>by kernel_rfl) λv1 w4 S4 H4=>?_
 . refine Tz31 ?_;unfold Vz31;refine r_new H λbt w1 S1 H1=>?_;replace H1:Holds w1 (blk bt tT (cellsT t)::L):=H1;refine r_fo0 (r_ld 0 H1 rfl rfl ?_);have h9:=(hok t ht).2.2.1;have:=post _ S1 H1.drop;rw[show nv (S41.me t)=iv t.me by unfold nv iv S41.me;congr 1;omega] at this;exact this
 refine S41.Zh9 H4 (by simpa using g3) (by simpa using g4) (λx hx=>by obtain⟨t,ht,rfl⟩:=hm hx;have:=hok t ht;unfold okT at this;unfold S41.me;omega) λbl u w5 S5 H5=>?_;replace S:=S.trans (S3.trans (S4.trans S5));clear S3 S4 S5 H2 H3 H4;refine Za4 (Za3 ?_)
 have H6:Holds w5 (G40.LedR bl (ts.map ak0)::blk bj S41.tTb [iv (n.jo:Int),iv 0,.slice none 0 0]::blk bc tC (cellsC a ts.length c (cnF n))::L):=by
   rw[show RW S41.accF 3 S41.tAc u (ts.map S41.me)=RW G40.cellsK 3 G40.tAc u (ts.map ak0) by rw[Zu0,Zu0];rfl] at H5;exact Holds.imp (Holds.pack (A:=[_,_]) H5) λh hh=>⟨u,hh⟩
 clear H5;refine r_dr H6 λw6 S6 H7=>?_;refine r_fo0 (r_ld 2 H7 rfl rfl (r_fo0 (r_ld 2 H7 rfl rfl ?_)));refine S40.Zfy (f:=33) (g:=stN) H7 hT.up.up.up (by omega) (λt w L K ht H post=>?_) (λt w=>by kernel_rfl) λv2 w7 S7 H8=>?_
 . refine Tz33 ?_;unfold Vz33;refine r_new H λbt w1 S1 H1=>?_;replace H1:Holds w1 (blk bt tT (cellsT t)::L):=H1;refine r_fo0 (r_ld 0 H1 rfl rfl ?_);have h9:=(hok t ht).2.2.2.2.1;have:=post _ S1 H1.drop;rw[show nv (stN t)=iv t.st by unfold nv iv stN;congr 1;omega] at this;exact this
 refine r_rk (r_ld 3 H8 rfl rfl rfl) ?_;refine S41.Zh8 (sp:=(n.sp:Int)) H8 (by omega) (by omega) (by simpa using g3) (by simpa using g4) (λx hx=>by obtain⟨t,ht,rfl⟩:=hm hx;have:=hok t ht;unfold okT at this;unfold stN;omega) λbm q ch t w8 S8 H9=>?_;replace S:=S.trans (S6.trans (S7.trans S8));clear S6 S7 S8 H6 H7 H8;refine Za4 (Za3 ?_)
 have H10:Holds w8 (MetR bm n.sp (ts.map stN)::G40.LedR bl (ts.map ak0)::blk bj S41.tTb [iv (n.jo:Int),iv 0,.slice none 0 0]::blk bc tC (cellsC a ts.length c (cnF n))::L):=
   Holds.imp (Holds.pack (A:=[_,_,_]) (Holds.dropAt H9 3)) λh hh=>⟨q,ch,t,hh⟩
 clear H9;refine r_fo0 (r_ld 3 H10 rfl rfl ?_);refine S40.Zfy (f:=35) (g:=S41.qu) H10 hT.up.up.up.up (by omega) (λt w L K ht H post=>?_) (λt w=>by kernel_rfl) λv3 w9 S9 H11=>?_
 . refine Tz35 ?_;unfold Vz35;refine r_new H λbt w1 S1 H1=>?_;replace H1:Holds w1 (blk bt tT (cellsT t)::L):=H1;refine r_fo0 (r_ld 0 H1 rfl rfl ?_);have h9:=(hok t ht).2.2.2.2.2.2.1;have:=post _ S1 H1.drop;rw[show nv (S41.qu t)=iv t.qu by unfold nv iv S41.qu;congr 1;omega] at this;exact this
 refine Zjl H11 (by simpa using g3) (by simpa using g4) (λx hx=>by obtain⟨t,ht,rfl⟩:=hm hx;have:=hok t ht;unfold okT at this;unfold S41.qu;omega) λbt w10 S10 H12=>?_;rw[hS_] at H12;replace S:=S.trans (S9.trans S10);clear S9 S10 H10 H11;refine Za4 (Za3 ?_);refine r_bsK (e:=tT) [] H12 (by kernel_rfl) λbz w11 S11 H13=>?_;refine r_fo0 (r_ld 5 H13 rfl rfl ?_);have hT1:S4r.InG cellsT 5 (blk bz tT []::SchR bt ts.length 0::MetR bm n.sp (ts.map stN)::G40.LedR bl (ts.map ak0)::blk bj S41.tTb [iv (n.jo:Int),iv 0,.slice none 0 0]::blk bc tC (cellsC a ts.length c (cnF n))::L) a ts:=hT.up.up.up.up.up.up;refine r_apG (F:=cellsT) (k:=5) (e:=tT) H13 hT1 (λ_=>rfl) g3 (by omega) λv5 w12 S12 H14=>?_;obtain⟨o5,m5,sp5,rfl,_⟩:=H14.openRW 0 rfl;generalize hcap:ts.length+m5=cap at H14;refine r_fo0 (r_st 6 H14 rfl (by simp[cellsC]) rfl λw13 S13 H15=>?_);replace H15:Holds w13 (RW cellsT 5 tT (.slice o5 ts.length cap) ts::blk bz tT []::SchR bt ts.length 0::MetR bm n.sp (ts.map stN)::G40.LedR bl (ts.map ak0)::blk bj S41.tTb [iv (n.jo:Int),iv 0,.slice none 0 0]::blk bc tC (cellsC o5 ts.length cap (cnF n))::L):=H15;refine r_ldA 6 H15 (cellsC o5 ts.length cap (cnF n)) rfl rfl rfl ?_;refine r_mmD H15 λlm w14 S14 H16=>?_;refine r_mmD H16 λlv w15 S15 H17=>?_;refine r_bd (v:=.agg (cellsC o5 ts.length cap (cnF n)++[.map (some lm),.map (some lv),pt bj,pt bl,pt bm,pt bt]).toArray) (by kernel_rfl) ?_;refine r_new H17 λb w16 S16 H18=>?_;replace H18:Holds w16 (blk b tSv (cellsC o5 ts.length cap (cnF n)++[.map (some lm),.map (some lv),pt bj,pt bl,pt bm,pt bt])::MD lv (λ_=>none) 0::MD lm (λ_=>none) 0::RW cellsT 5 tT (.slice o5 ts.length cap) ts::blk bz tT []::SchR bt ts.length 0::MetR bm n.sp (ts.map stN)::G40.LedR bl (ts.map ak0)::blk bj S41.tTb [iv (n.jo:Int),iv 0,.slice none 0 0]::blk bc tC (cellsC o5 ts.length cap (cnF n))::L):=H18
 have H19:Holds w16 (A40.TabR bj n.jo 0 []::blk b tSv (cellsC o5 ts.length cap (cnF n)++[.map (some lm),.map (some lv),pt bj,pt bl,pt bm,pt bt])::MD lv (λ_=>none) 0::MD lm (λ_=>none) 0::RW cellsT 5 tT (.slice o5 ts.length cap) ts::SchR bt ts.length 0::MetR bm n.sp (ts.map stN)::G40.LedR bl (ts.map ak0)::L):=by
   have h1:Holds w16 (blk bj S41.tTb [iv (n.jo:Int),iv 0,.slice none 0 0]::RW A40.cellsL 5 A40.tLv (.slice none 0 0) []::blk b tSv (cellsC o5 ts.length cap (cnF n)++[.map (some lm),.map (some lv),pt bj,pt bl,pt bm,pt bt])::MD lv (λ_=>none) 0::MD lm (λ_=>none) 0::RW cellsT 5 tT (.slice o5 ts.length cap) ts::SchR bt ts.length 0::MetR bm n.sp (ts.map stN)::G40.LedR bl (ts.map ak0)::L):=by
     have h2:=H18.nilRW A40.cellsL 5 A40.tLv;exact (by have h_:=Holds.ord 11 [9,0,1,2,3,4,6,7,8] h2 rfl;exact h_)
   exact Holds.imp (Holds.pack (A:=[_,_]) h1) λh hh=>⟨none,0,hh⟩
 have H20:Holds w16 (MDe lv (λ_=>none)::A40.TabR bj n.jo 0 []::blk b tSv (cellsC o5 ts.length cap (cnF n)++[.map (some lm),.map (some lv),pt bj,pt bl,pt bm,pt bt])::MD lm (λ_=>none) 0::RW cellsT 5 tT (.slice o5 ts.length cap) ts::SchR bt ts.length 0::MetR bm n.sp (ts.map stN)::G40.LedR bl (ts.map ak0)::L):=
   Holds.imp ((by have h_:=Holds.ord 8 [2,0,1,3,4,5,6,7] H19 rfl;exact h_)) λh hh=>⟨0,hh⟩
 exact pg ⟨b,lm,lv,bj,bl,bm,bt,0,0,0,o5,cap⟩ w16 (by show ts.length<=cap;omega) (S.trans (S11.trans (S12.trans (S13.trans (S14.trans (S15.trans S16)))))) (by have h_:=Holds.ord 8 [2,4,3,1,7,6,0,5] H20 rfl;exact h_)
def q0:Qt:=⟨[],[],[],false⟩
theorem Zph {t0:Tn}(hK:Kn ts n) (ht:ts[0]?=some t0):Rp ts n 0 q0 0 0 0 0 [] (ts.map ak0) [] (ak0 t0):=by
 have h1:=hK.t1 t0 (mem_of_getElem? ht)
 exact { al:=Nat.le_refl 0,wf:=Zuk,who:=(λi hi=>by cases hi),no:=λ_=>⟨rfl,rfl⟩,tl:=hK.t0
         ta:=by rw[hV_,ht];rfl
         tm:=λtn h=>by rw[ht] at h;cases h;rfl
         us:=rfl,ul:=Nat.zero_le _
         ll:=by show t0.me.toNat<=_;omega
         xs:=rfl,hd:=List.Pairwise.nil,ids:=List.Pairwise.nil
         ok:=(λ_ y hy=>by cases hy),en:=(λy hy=>by cases hy),op:=(λy hy=>by cases hy)
         la:=Nat.le_refl 0,mm:=Nat.le_refl 0,ou:=Nat.le_refl 0,wq:=rfl,bz:=λ_=>rfl,bl:=Nat.le_refl 0,ln:=Nat.le_refl 0 }
set_option maxHeartbeats 4000000 in
theorem Zt4 {s:Sx}(hK:Kn ts n) (hg:goodTs ts) (hU:J30.TabIn L) (hs:∀ t∈ts,szT t) (hsc:ts.length<=s.c) (H:Holds w (NvL s ts n++L))
   (k:∀ s' w',s'.b=s.b->Same w w'->Rep s' ts n 0 q0 L w'->K (pt s'.ln) w'):Cl prog 38 #[pt s.b,iv 0] w K:=by
 refine Tz38 ?_;unfold Vz38;refine r_nc (r_fo0 (r_ld 0 H rfl rfl ?_));refine r_lkD (t:=tM88) (kt:=tIw) (et:=80) (x:=.p none) (z:=.pointer none) (k:=0) (by kernel_rfl) (by kernel_rfl) (by kernel_rfl) rfl 2 H rfl ?_;refine Zam (r_vt ?_);refine Zqi H λpa w1 S1 H1=>?_;refine Za4 (Za3 (r_nc (r_fo0 (r_fo0 (r_ld 1 H1 rfl rfl ?_)))));have hT:TsIn (blk pa tPa (paC [] 0)::(NvL s ts n++L)) s.a ts:=S4r.InG.own (F:=cellsT) (k:=5) 2 rfl λ_=>rfl;refine Zpo (z:=true) H1 hT (λ_=>hU.up.up.up.up.up.up.up.up.up) (λt _=>⟨J33.Asc.yes _,J33.Asc.yes _⟩) hs hsc hg λcb v m w2 S2 H2=>?_;refine Za4 (Za3 ?_);refine r_bd (v:=.agg (cellsLn pa cb 0 (.pointer none) (.slice none 0 0)).toArray) (by kernel_rfl) ?_;refine r_new H2 λln w3 S3 H3=>?_;replace H3:Holds w3 (blk ln tLn (cellsLn pa cb 0 (.pointer none) (.slice none 0 0))::blk cb tCo [v,iv (-1),.map (some m)]::RW cellsT 5 tT v ts::MD m (λ_=>none) 0::blk pa tPa (paC [] 0)::(NvL s ts n++L)):=H3;refine r_nc (r_fo0 (r_ld 5 H3 rfl rfl ?_));refine r_muD (t:=tM88) (kt:=tIw) (et:=80) (by kernel_rfl) (by kernel_rfl) 7 H3 rfl λw4 S4 H4=>?_;have hS:=S1.trans (S2.trans (S3.trans S4));obtain⟨t0,ht0⟩:∃ t0,ts[0]?=some t0:=⟨_,gA hK.t0⟩
 replace H4:Holds w4 (blk ln tLn (cellsLn pa cb 0 (.pointer none) (.slice none 0 0))::blk cb tCo [v,iv (-1),.map (some m)]::RW cellsT 5 tT v ts::MD m (λ_=>none) 0::blk pa tPa (paC [] 0) ::
   blk s.b tSv (cellsC s.a ts.length s.c (cnF n)++[.map (some s.lm),.map (some s.lv),pt s.bj,pt s.bl,pt s.bm,pt s.bt])::RW cellsT 5 tT (.slice s.a ts.length s.c) ts::MD s.lm (linesF ln) 1 ::
   A40.TabR s.bj n.jo 0 []::G40.LedR s.bl (ts.map ak0)::MetR s.bm n.sp (ts.map stN)::MDe s.lv (λ_=>none)::SchR s.bt ts.length 0::L):=H4
 have H5:Holds w4 (ConR cb ts []::blk ln tLn (cellsLn pa cb 0 (.pointer none) (.slice none 0 0))::blk pa tPa (paC [] 0) ::
   blk s.b tSv (cellsC s.a ts.length s.c (cnF n)++[.map (some s.lm),.map (some s.lv),pt s.bj,pt s.bl,pt s.bm,pt s.bt])::RW cellsT 5 tT (.slice s.a ts.length s.c) ts::MD s.lm (linesF ln) 1 ::
   A40.TabR s.bj n.jo 0 []::G40.LedR s.bl (ts.map ak0)::MetR s.bm n.sp (ts.map stN)::MDe s.lv (λ_=>none)::SchR s.bt ts.length 0::L):=by
   have h1:=(by have h_:=Holds.ord 13 [1,2,3,0,4,5,6,7,8,9,10,11,12] H4 rfl;exact h_);exact Holds.imp (Holds.pack (A:=[_,_,_]) h1) λh hh=>⟨v,m,λ_=>none,Zup,hh⟩
 have H6:Holds w4 (LnR ln pa cb 0 []::ConR cb ts []::blk pa tPa (paC [] 0) ::
   blk s.b tSv (cellsC s.a ts.length s.c (cnF n)++[.map (some s.lm),.map (some s.lv),pt s.bj,pt s.bl,pt s.bm,pt s.bt])::RW cellsT 5 tT (.slice s.a ts.length s.c) ts::MD s.lm (linesF ln) 1 ::
   A40.TabR s.bj n.jo 0 []::G40.LedR s.bl (ts.map ak0)::MetR s.bm n.sp (ts.map stN)::MDe s.lv (λ_=>none)::SchR s.bt ts.length 0::L):=by
   have h1:=Holds.imp (P:=SL bv L42.tU8 (.slice none 0 0) []) (Q:=SF L42.tU8 (.slice none 0 0) []) (H5.nilSL bv L42.tU8) λh hh=>SF_of hh;have h2:=(by have h_:=Holds.ord 12 [2,0,1,3,4,5,6,7,8,9,10,11] h1 rfl;exact h_);exact Holds.imp (Holds.pack (A:=[_,_]) h2) λh hh=>⟨.pointer none,.slice none 0 0,.inl rfl,hh⟩
 have H7:=Holds.nilK (LiveR n.wi n.ch) H6;have H8:=(by have h_:=Holds.ord 12 [4,5,6,1,3,2,7,8,9,10,11,0] H7 rfl;exact h_);have e1:livesF []=λ_=>none:=rfl;have H9:Holds w4 (SvL ⟨s.b,s.lm,s.lv,s.bj,s.bl,s.bm,s.bt,ln,pa,cb,s.a,s.c⟩ ts n 0 0 [] [] [] [] (ts.map ak0) (λ_=>none) [] 0++L):=H8;rw[<-e1] at H9;refine k ⟨s.b,s.lm,s.lv,s.bj,s.bl,s.bm,s.bt,ln,pa,cb,s.a,s.c⟩ w4 rfl hS ⟨0,0,0,0,[],ts.map ak0,[],ak0 t0,Zph hK ht0,?_⟩;exact H9
end
end F33
end Go.Proofs.YthkaggnihbkmeaaGreatDoor
namespace Go.Proofs.YthkaggnihbkmeaaGreatDoor
open Go Go.Vc Go.Proofs.Tryz
theorem Zvu {xs ys:List UInt8}{K:Value->Prop}(h:K (.bool (!decide (xs=ys)))):Bp .neq (.string ⟨xs.toArray⟩) (.string ⟨ys.toArray⟩) K:=by
 refine r_sne ?_
 have e:((⟨xs.toArray⟩:ByteArray)=⟨ys.toArray⟩)↔xs=ys:=by
   constructor
   . intro h;have:=congrArg (λb:ByteArray=>b.data.toList) h;simpa using this
   . rintro rfl;rfl
 rw[show (!decide ((⟨xs.toArray⟩:ByteArray)=⟨ys.toArray⟩))=(!decide (xs=ys)) by congr 1;exact decide_eq_decide.2 e];exact h
attribute [local irreducible] Vc.Nc Vc.Ld Vc.LdA Vc.St Vc.StA Vc.Fo Vc.Iaa Vc.Ias Vc.Ixs Vc.Ixa Vc.Fd Vc.FdA Vc.Bp Vc.Bb Vc.Bn Vc.Up Vc.Ci Vc.Lns Vc.Lnl Vc.Ex Vc.Sst Vc.Ssl Vc.New Vc.Vif Vc.VJoin Vc.VLoop Vc.KE Vc.Dr Vc.Rk Vc.Cl Vc.Cx Vc.Inv Vc.Be Vc.Cv Vc.Cw Vc.Mf Vc.Sl Vc.Lk Vc.Bd Vc.Bs Vc.Ms Vc.Mm Vc.Mu Vc.Me Vc.Es Vc.Rg Vc.Nx Vc.Ta Vc.Ap Vc.Usd Vc.Ust Vc.Cp Vc.Ln Vc.Bc Vc.Bmin Vc.Bmax Vc.Bdel Vc.Bclr Vc.Pk
namespace F33
open Go.M31 J30 J31 J32
variable {w:World}{L:List HProp}{K:KT}
structure Fi where
 ty:Int
 jb:Int
 da:ByteArray
def cellsFi (f:Fi):List Value:=[iv f.ty,iv f.jb,.string f.da]
def fi (f:Fr):Fi:=⟨(f.ty:Int),(f.jb:Int),BA f.da⟩
instance:Inhabited Fi:=⟨⟨0,0,⟨#[]⟩⟩⟩
abbrev FiIn:=S4r.InG cellsFi 3
abbrev FrIn:=S4r.InG cellsF 3
theorem fi_sg (f:Fi):(cellsFi f).all sg=true:=rfl
def okFi (u:Fi):Prop:=∃ f:Fr,okFr f/\u=fi f
theorem Zw0 {u:Fi}(h1:1<=u.ty/\u.ty<=7\/65<=u.ty/\u.ty<=70) (h2:0<=u.jb/\u.jb<=4294967295) (h3:u.da.size<=200):okFi u:=by
 obtain⟨t,j,d⟩:=u
 dsimp only at h1 h2 h3
 refine⟨⟨t.toNat,j.toNat,d.data.toList⟩,⟨?_,?_,?_⟩,?_⟩
 . show cli t.toNat\/srv t.toNat;unfold cli srv;omega
 . show j.toNat<=_;omega
 . show d.data.toList.length<=200;simpa using h3
 . unfold fi
   congr 1
   . show t=(t.toNat:Int);omega
   . show j=(j.toNat:Int);omega
theorem Zti:∀ {us:List Fi},(∀ u∈us,okFi u)->∃ fs:List Fr,us=fs.map fi/\∀ f∈fs,okFr f
 |[],_=>⟨[],rfl,λf hf=>by cases hf⟩
 |u::r,h=>by
   obtain⟨f,hf,rfl⟩:=h u (hJ_ ..);obtain⟨fs,rfl,hfs⟩:=Zti (us:=r) λx hx=>h x (hK_ _ hx)
   exact⟨f::fs,rfl,λx hx=>by
     rcases mem_cons.1 hx with rfl|hx
     . exact hf
     . exact hfs x hx⟩
theorem FrIn.of {b:Option Addr}{fs:List Fr}(h:FiIn L b (fs.map fi)):FrIn L b fs:=λw' H i x hx=>h w' H i (fi x) (by rw[hV_,hx];rfl)
theorem Zus:(zeroP prog tFr).cells.toList=cellsFi ⟨0,0,⟨#[]⟩⟩:=by kernel_rfl
theorem Znb {u:Fi}(H:Holds w L) (k:∀ (e:Int) w',(e=0->(1<=u.ty/\u.ty<=7\/65<=u.ty/\u.ty<=70)/\(0<=u.jb/\u.jb<=4294967295))->Same w w'->Holds w' L->K (iv e) w'):Cl prog 19 #[.agg (cellsFi u).toArray] w K:=by
 refine Tz19 ?_;unfold Vz19;refine r_new H λb w1 S1 H1=>?_;replace H1:Holds w1 (blk b tFr (cellsFi u)::L):=H1;refine r_fo0 (r_ld 0 H1 rfl rfl ?_);refine r_cl (K:=λv w'=>w1=w'/\∃ z:Bool,v=.bool z/\(z=true->1<=u.ty/\u.ty<=7\/65<=u.ty/\u.ty<=70)) ?_ ?_
 . refine Tz51 ?_;unfold Vz51;refine r_geq (r_ifD (λh1=>?_) λh1=>?_)
   . refine r_leq (r_ifD (λh2=>⟨rfl,_,rfl,λ_=>.inl ⟨h1,h2⟩⟩) λh2=>?_);refine r_geq (r_ifD (λh3=>?_) λh3=>⟨rfl,_,rfl,λe=>by cases e⟩);exact r_leq ⟨rfl,_,rfl,λe=>.inr ⟨h3,of_decide_eq_true e⟩⟩
   . refine r_geq (r_ifD (λh3=>?_) λh3=>⟨rfl,_,rfl,λe=>by cases e⟩);exact r_leq ⟨rfl,_,rfl,λe=>.inr ⟨h3,of_decide_eq_true e⟩⟩
 rintro _ _ ⟨rfl,z,rfl,hz⟩;refine r_not (r_vif (λe=>k 35 w1 (λe=>by cases e) S1 H1.drop) λe=>?_);have hty:=hz (by simpa using e);refine Za0 (λx w'=>w1=w'/\∃ z:Bool,x=.bool z/\(z=false->0<=u.jb/\u.jb<=4294967295)) ?_ ?_
 rotate_left
 . refine r_fo0 (r_ld 0 H1 rfl rfl (r_lss (r_ifD (λh=>r_ke ⟨rfl,true,rfl,λe=>by cases e⟩) λh=>?_)));refine r_fo0 (r_ld 0 H1 rfl rfl (r_gtr (r_ke ⟨rfl,_,rfl,λe=>?_⟩)));have:=of_decide_eq_false e;omega
 rintro _ _ _ ⟨rfl,z,rfl,hz⟩;refine r_vif (λe=>k 1 w1 (λe=>by cases e) S1 H1.drop) λe=>?_;have hjb:=hz e;refine r_fo0 (r_ld 0 H1 rfl rfl (r_lns (r_gtr (r_ifD (λh=>k 2 w1 (λe=>by cases e) S1 H1.drop) λh=>?_))));exact k 0 w1 (λ_=>⟨hty,hjb⟩) S1 H1.drop
theorem Zl9 {a b:Option Addr}{ts:List Tn}{us:List Fi}{c d:Nat}{n:Cn}(H:Holds w L) (hT:TsIn L a ts) (hF:FiIn L b us)
   (post:∀ z w',Same w w'->Holds w' L->(z=false->(∀ t∈ts,szT t)/\us.length<=40/\∀ u∈us,okFi u)->K (.bool z) w') :
   Cl prog 4 #[.agg (cellsC a ts.length c n).toArray,.slice b us.length d] w K:=by
 refine Tz4 ?_;unfold Vz4;refine r_new H λbs w1 S1 H1=>?_;replace H1:Holds w1 (blk bs tC (cellsC a ts.length c n)::L):=H1;refine Za0 (λx w'=>w1=w'/\∃ z:Bool,x=.bool z/\(z=false->ts.length<=20/\us.length<=40)) ?_ ?_
 rotate_left
 . refine r_fo0 (r_ld 0 H1 rfl rfl (r_lnl (r_gtr (r_ifD (λh=>r_ke ⟨rfl,true,rfl,λe=>by cases e⟩) λh=>?_))));refine r_lnl (r_gtr (r_ifD (λh2=>r_ke ⟨rfl,true,rfl,λe=>by cases e⟩) λh2=>?_));refine r_fo0 (r_ld 0 H1 rfl rfl (r_gtr (r_ifD (λh3=>?_) λh3=>r_ke ⟨rfl,false,rfl,λe=>by omega⟩)));exact r_fo0 (r_ld 0 H1 rfl rfl (r_leq (r_ke ⟨rfl,_,rfl,λe=>by omega⟩)))
 rintro _ _ _ ⟨rfl,z,rfl,hb⟩;refine r_vif (λh=>post _ _ S1 H1.drop (λe=>by cases e)) λh=>?_;obtain⟨h20,h40⟩:=hb h;refine r_fo0 (r_ld 0 H1 rfl rfl (r_lnl ?_))
 refine Zat (λx w'=>∃ i:Nat,i<=ts.length/\x=nv i/\(∀ q t,q < i->ts[q]?=some t->szT t)/\Same w w'/\Holds w' (blk bs tC (cellsC a ts.length c n)::L))
   (λx _=>ts.length - (intOf x).toNat) ⟨0,by omega,rfl,λq t hq=>by omega,S1,H1⟩ ?_
 clear H H1 S1;rintro _ _ w2 ⟨i,hi,rfl,g1,S,H⟩;refine r_lss (r_ifD (λh3=>?_) λh3=>?_)
 . have hlt:i < ts.length:=by omega
   obtain⟨t,ht⟩:∃ t,ts[i]?=some t:=⟨_,gA hlt⟩;refine r_ldT hT.up H ht hlt ?_;refine r_new H λbt w3 S3 H3=>?_;rw[Zi7] at H3;refine r_stA 0 H3 (vs:=cellsT t) rfl (Nat.le_refl 5) rfl (Zb7 t) λw4 S4 H4=>?_;replace H4:Holds w4 (blk bt tT (cellsT t)::blk bs tC (cellsC a ts.length c n)::L):=H4;refine Za0 (λx w'=>w4=w'/\∃ z:Bool,x=.bool z/\(z=false->szT t)) ?_ ?_
   . rintro _ _ _ ⟨rfl,b2,rfl,hb2⟩;refine r_vif (λe=>post _ _ (S.trans (S3.trans S4)) H4.drop.drop (λe=>by cases e)) λe=>?_;refine Za1 (by omega) (r_ke ⟨⟨i+1,by omega,rfl,λq v hq hv=>?_,S.trans (S3.trans S4),H4.drop⟩,?_⟩)
     . rcases hU_ q i with h5|h5
       . exact g1 q v h5 hv
       . obtain rfl:q=i:=by omega
         rw[ht] at hv;obtain rfl:=Option.some.inj hv;exact hb2 e
     . simp only[intOf,gC];omega
   . refine r_fo0 (r_ld 0 H4 (v:=.string t.nm) rfl rfl (r_lns (r_gtr (r_ifD (λh5=>r_ke ⟨rfl,true,rfl,λe=>by cases e⟩) λh5=>?_))));refine r_fo0 (r_ld 0 H4 (v:=.string t.tk) rfl rfl (r_lns (r_gtr (r_ke ⟨rfl,_,rfl,λe=>⟨by omega,by have:=of_decide_eq_false e;omega⟩⟩))))
 . obtain rfl:i=ts.length:=by omega
   have hall:∀ t∈ts,szT t:=λt ht=>by
     obtain⟨q,hq⟩:=getElem?_of_mem ht;exact g1 q t (gH.1 hq).1 hq
   refine r_lnl ?_
   refine Zat (λx w'=>∃ i:Nat,i<=us.length/\x=nv i/\(∀ q u,q < i->us[q]?=some u->okFi u)/\Same w w'/\Holds w' (blk bs tC (cellsC a ts.length c n)::L))
     (λx _=>us.length - (intOf x).toNat) ⟨0,by omega,rfl,λq t hq=>by omega,S,H⟩ ?_
   clear H S;rintro _ _ w3 ⟨i,hi,rfl,g1,S,H⟩;refine r_lss (r_ifD (λh3=>?_) λh3=>?_)
   . have hlt:i < us.length:=by omega
     obtain⟨u,hu⟩:∃ u,us[i]?=some u:=⟨_,gA hlt⟩;refine S4r.r_ldG hF.up H hu rfl hlt ?_;refine r_new H λbt w4 S4 H4=>?_;rw[Zus] at H4;refine r_stA 0 H4 (vs:=cellsFi u) rfl (Nat.le_refl 3) rfl (fi_sg u) λw5 S5 H5=>?_;replace H5:Holds w5 (blk bt tFr (cellsFi u)::blk bs tC (cellsC a ts.length c n)::L):=H5;have S5':=S.trans (S4.trans S5);refine Za0 (λx w'=>∃ z:Bool,x=.bool z/\(z=false->okFi u)/\Same w w'/\Holds w' (blk bt tFr (cellsFi u)::blk bs tC (cellsC a ts.length c n)::L)) ?_ ?_
     . rintro _ _ w6 ⟨z,rfl,hz,S6,H6⟩;refine r_vif (λe=>post _ _ S6 H6.drop.drop (λe=>by cases e)) λe=>?_;refine Za1 (by omega) (r_ke ⟨⟨i+1,by omega,rfl,λq v hq hv=>?_,S6,H6.drop⟩,?_⟩)
       . rcases hU_ q i with h5|h5
         . exact g1 q v h5 hv
         . obtain rfl:q=i:=by omega
           rw[hu] at hv;obtain rfl:=Option.some.inj hv;exact hz e
       . simp only[intOf,gC];omega
     . refine r_ldA 0 H5 (cellsFi u) rfl rfl rfl ?_;refine Znb H5 λe w6 he S6 H6=>?_;refine r_neq (r_ifN (λh5=>r_ke ⟨true,rfl,(λe=>by cases e),S5'.trans S6,H6⟩) λh5=>?_);obtain⟨k1,k2⟩:=he h5;refine r_fo0 (r_ld 0 H6 rfl rfl (r_lns (r_gtr (r_ke ⟨_,rfl,(λe=>Zw0 k1 k2 (by have:=of_decide_eq_false e;omega)),S5'.trans S6,H6⟩))))
   . obtain rfl:i=us.length:=by omega
     refine post _ _ S H.drop λ_=>⟨hall,h40,λu hu=>?_⟩;obtain⟨q,hq⟩:=getElem?_of_mem hu;exact g1 q u (gH.1 hq).1 hq
def allF (fs:List Fr):List UInt8:=fs.flatMap encF
theorem Zka {fs:List Fr}{i:Nat}{f:Fr}(h:fs[i]?=some f):allF (fs.take (i+1))=allF (fs.take i)++encF f:=by
 unfold allF;rw[gO,h,List.flatMap_append];simp
theorem Zn4 {fs:List Fr}(h:∀ f∈fs,okFr f):(allF fs).length<=209*fs.length:=by
 unfold allF
 induction fs with
 |nil=>exact Nat.le_refl _
 |cons f r ih=>
   have h1:=(h f (hJ_ ..)).2.2;have h2:=ih λx hx=>h x (hK_ _ hx);rw[hM_,gD,Zay,gY];omega
theorem Znm {b:Option Addr}{fs:List Fr}{d:Nat}(H:Holds w L) (hF:FrIn L b fs) (hok:∀ f∈fs,okFr f) (hl:fs.length<=40) (k:∀ w',Same w w'->Holds w' L->K (S_ (allF fs)) w'):Cl prog 18 #[.slice b fs.length d] w K:=by
 refine Tz18 ?_;unfold Vz18;refine r_lnl ?_;refine Zb1 (λo x w'=>∃ i:Nat,i<=fs.length/\x=nv i/\o=S_ (allF (fs.take i))/\Same w w'/\Holds w' L) (λ_ x _=>fs.length - (intOf x).toNat) ⟨0,by omega,rfl,rfl,.refl w,H⟩ ?_;clear H;rintro _ _ _ w2 ⟨i,hi,rfl,rfl,S,H⟩;refine r_lss (r_ifD (λh=>?_) λh=>?_)
 . have hlt:i < fs.length:=by omega
   obtain⟨f,hf⟩:∃ f,fs[i]?=some f:=⟨_,gA hlt⟩;have h1:=hok f (mem_of_getElem? hf);have h2:=h1.2.2;have h3:=Zn4 (fs:=fs.take i) λx hx=>hok x (List.mem_of_mem_take hx);rw[gN] at h3;refine S4r.r_ldG hF H hf rfl hlt ?_;refine r_new H λbt w3 S3 H3=>?_;rw[Zb6] at H3;refine r_stA 0 H3 (vs:=cellsF f) rfl (Nat.le_refl 3) rfl rfl λw4 S4 H4=>?_;refine r_ldA 0 H4 (cellsF f) rfl rfl rfl ?_;refine Zda H4 (by have:=Zky h1;omega) h1.2.1 (by omega) λw5 S5 H5=>?_;refine Zaw (by rw[Zay];omega) (Za1 (by omega) (r_ke ⟨⟨i+1,by omega,rfl,by rw[Zka hf],S.trans (S3.trans (S4.trans S5)),H5.drop⟩,?_⟩));simp only[intOf,gC];omega
 . obtain rfl:i=fs.length:=by omega
   rw[hF_];exact k w2 S H
end F33
namespace F33
open Go.M31 J30 J31 J32
variable {w:World}{L:List HProp}{K:KT}
def StM (b:Nat) (ts:List Tn) (n:Cf) (i:Nat) (q:Qt) (M:List HProp):Prop:=
 (i=0/\q=q0/\∃ s:Sx,s.b=b/\ts.length<=s.c/\M=NvL s ts n) \/
 ∃ (s:Sx) (t wt last m:Nat) (B:List UInt8) (as_:List G40.Ak) (ys:List Px) (a:G40.Ak),s.b=b/\Rp ts n i q t wt last m B as_ ys a/\M=SvL s ts n wt last q.acs q.out B (ys.map (rowP t)) as_ (livesF ys) ys m
section
variable {a:Option Addr}{ts:List Tn}{c b:Nat}{n:Cf}{i:Nat}{q:Qt}{M:List HProp}{f:Fr}
theorem StM.rp (hK:Kn ts n) (h:StM b ts n i q M):∃ (t wt last m:Nat) (B:List UInt8) (as_:List G40.Ak) (ys:List Px) (a:G40.Ak),Rp ts n i q t wt last m B as_ ys a:=by
 rcases h with⟨rfl,rfl,_⟩|⟨s,t,wt,last,m,B,as_,ys,a,_,h,_⟩
 . obtain⟨t0,ht0⟩:∃ t0,ts[0]?=some t0:=⟨_,gA hK.t0⟩;exact⟨0,0,0,0,[],ts.map ak0,[],ak0 t0,Zph hK ht0⟩
 . exact⟨t,wt,last,m,B,as_,ys,a,h⟩
theorem Zo8 (hK:Kn ts n) (hg:goodTs ts) (hs:∀ t∈ts,szT t) (hU:J30.TabIn L) (hc:i<=60) (hf:okFr f) (h:StM b ts n i q M) (H:Holds w (M++L))
   (k:∀ M' w',(∃ (s:Sx) (t wt last m:Nat) (B:List UInt8) (as_:List G40.Ak) (ys:List Px) (a:G40.Ak),s.b=b/\Rp ts n (i+1) (nextF ts n q f) t wt last m B as_ ys a/\
     M'=SvL s ts n wt last (nextF ts n q f).acs (nextF ts n q f).out B (ys.map (rowP t)) as_ (livesF ys) ys m)->Same w w'->Holds w' (M'++L)->K (nv (encF f).length) w'):Cl prog 10 #[pt b,iv 0,S_ (encF f)] w K:=by
 refine Zjq (q:=q) (c:=i) (L:=L) (z:=true) hK hs (λ_=>hU) (J33.Asc.yes _) hc hf (λ{K} kk=>?_) λs w' hsb S ⟨t,wt,last,m,B,as_,ys,a,hR,H'⟩=>?_
 . rcases h with⟨rfl,rfl,s,rfl,hsc,rfl⟩|⟨s,t,wt,last,m,B,as_,ys,a,rfl,hR,rfl⟩
   . exact Zt4 hK hg hU hs hsc H kk
   . exact Zo6 ⟨t,wt,last,m,B,as_,ys,a,hR,H⟩ kk
 . exact k _ w' ⟨s,t,wt,last,m,B,as_,ys,a,hsb,hR,rfl⟩ S H'
set_option maxHeartbeats 4000000 in
theorem Zff (tst:∀ {w:World}{L:List HProp}{K:KT},Holds w L->(∀ w',Same w w'->Holds w' L->K (.bool true) w')->Cl prog 6 #[] w K)
   (H:Holds w L) (a:Option Addr) (ts:List Tn) (c:Nat) (n:Cn) (b:Option Addr) (us:List Fi) (d:Nat) (h0:TsIn L a ts/\ts.length<=c) (h1:FiIn L b us/\us.length<=d) (hU:J30.TabIn L) (post:∀ w',Same w w'->Holds w' L->K (.bool true) w') :
   Cl prog 3 #[.agg (cellsC a ts.length c n).toArray,.slice b us.length d] w K:=by
 obtain⟨hT,hc⟩:=h0;obtain⟨hF,hd⟩:=h1;refine Tz3 ?_;unfold Vz3;refine r_new H λbs w1 S1 H1=>?_;replace H1:Holds w1 (blk bs tC (cellsC a ts.length c n)::L):=H1;refine Za0 (λx w'=>∃ z:Bool,x=.bool z/\(z=false->((∀ t∈ts,szT t)/\us.length<=40/\∀ u∈us,okFi u)/\ChkC ts n 0)/\Same w w'/\Holds w' (blk bs tC (cellsC a ts.length c n)::L)) ?_ ?_
 rotate_left
 . refine r_ldA 0 H1 (cellsC a ts.length c n) rfl rfl rfl ?_;refine Zl9 H1 hT.up hF.up λz w2 S2 H2 hz=>?_;refine r_vif (λe=>r_ke ⟨true,rfl,(λe=>by cases e),S1.trans S2,H2⟩) λe=>?_;refine r_ldA 0 H2 (cellsC a ts.length c n) rfl rfl rfl ?_;refine J32.Config_spec H2 hT.up (hz e).1 hc λe2 w3 S3 H3 k2=>?_;refine r_neq (r_ke ⟨_,rfl,λg=>⟨hz e,?_⟩,S1.trans (S2.trans S3),H3⟩)
   have:e2=0:=by simpa using g
   rw[<-this];exact k2
 clear H H1 S1;rintro _ _ w2 ⟨z,rfl,hz,S,H⟩;refine r_vif (λ_=>tst H λw3 S3 H3=>post w3 (S.trans S3) H3.drop) λe=>?_;obtain⟨⟨hs,hl40,hok⟩,hch⟩:=hz e;clear hz e z;obtain⟨hg,hoc⟩:=Zkj hch;obtain⟨n,rfl⟩:=Zue hoc;have hK:Kn ts n:=Kn_of ⟨hg,hoc⟩ hs;obtain⟨fs,rfl,hfs⟩:=Zti hok;rw[hS_] at hl40 hd ⊢;replace hF:=FrIn.of hF;clear hok;refine r_ldA 0 H (cellsC a ts.length c (cnF n)) rfl rfl rfl ?_;refine Zqn H hT.up hU.up hs hc hch λs w3 hsc S3 H3=>?_;refine Za4 (Za3 ?_);refine r_ldA 8 H3 (cellsC a ts.length c (cnF n)) rfl rfl rfl ?_;refine Zqs H3 λw4 S4 H4=>?_;refine r_new H4 λqb w5 S5 H5=>?_;rw[Zdg] at H5;refine r_stA 0 H5 (vs:=cellsZ a ts.length c n nl3 nl3 [] false) rfl (Nat.le_refl 12) rfl rfl λw6 S6 H6=>?_;replace H6:Holds w6 (blk qb tQt (cellsZ a ts.length c n nl3 nl3 [] false)::(NvL s ts n++(blk bs tC (cellsC a ts.length c (cnF n))::L))):=H6
 have H7:Holds w6 (Sat (NvL s ts n)::blk qb tQt (cellsZ a ts.length c n nl3 nl3 [] false)::RW cellsA 8 tDA nl3.v []::RW cellsV 5 tL4 nl3.v []::blk bs tC (cellsC a ts.length c (cnF n))::L):=by
   have h1:Holds w6 (NvL s ts n++(blk qb tQt (cellsZ a ts.length c n nl3 nl3 [] false)::blk bs tC (cellsC a ts.length c (cnF n))::L)):=(by have h_:=Holds.ord 9 [1,2,3,4,5,6,7,8,0] H6 rfl;exact h_);have h2:=Holds.nilRW (Holds.nilRW (Holds.pack h1) cellsA 8 tDA) cellsV 5 tL4;exact (by have h_:=Holds.ord 4 [2,3,1,0] h2 rfl;exact h_)
 replace S:=S.trans (S3.trans (S4.trans (S5.trans S6)));clear S3 S4 S5 S6 H H3 H4 H5 H6;refine r_lnl ?_
 refine Zb1 (λtk x w'=>∃ (i:Nat) (q:Qt) (M:List HProp) (va vx:Sl3),i<=fs.length/\x=nv i/\tk=nv (allF (fs.take i)).length/\StM s.b ts n i q M/\Same w w'/\
   Holds w' (Sat M::blk qb tQt (cellsZ a ts.length c n va vx q.out q.wt)::RW cellsA 8 tDA va.v q.acs::RW cellsV 5 tL4 vx.v q.xs::blk bs tC (cellsC a ts.length c (cnF n))::L)) (λ_ x _=>fs.length - (intOf x).toNat)
   ⟨0,q0,_,nl3,nl3,by omega,rfl,rfl,.inl ⟨rfl,rfl,s,rfl,hsc,rfl⟩,S,H7⟩ ?_
 clear H7 S;rintro _ _ _ w2 ⟨i,q,M,va,vx,hi,rfl,rfl,hM,S,H⟩;refine r_lss (r_ifD (λh=>?_) λh=>?_)
 . have hlt:i < fs.length:=by omega
   obtain⟨f,hf⟩:∃ f,fs[i]?=some f:=⟨_,gA hlt⟩;have hof:=hfs f (mem_of_getElem? hf);have hof2:=hof.2.2;have hal:=Zn4 (fs:=fs.take i) λx hx=>hfs x (List.mem_of_mem_take hx);rw[gN] at hal;have hmu:∀ P:Prop,P->P/\fs.length - (intOf (nv (i+1))).toNat < fs.length - (intOf (nv i)).toNat:=λP hP=>⟨hP,by simp only[intOf,gC];omega⟩;refine S4r.r_ldG hF.up.up.up.up.up H hf rfl hlt ?_;refine r_new H λfb w3 S3 H3=>?_;rw[Zb6] at H3;refine r_stA 0 H3 (vs:=cellsF f) rfl (Nat.le_refl 3) rfl rfl λw4 S4 H4=>?_;refine r_ldA 0 H4 (cellsF f) rfl rfl rfl ?_;refine Zda H4 (by have:=Zky hof;omega) hof.2.1 (by omega) λw5 S5 H5=>?_;replace H5:Holds w5 (blk fb tFr (cellsF f)::Sat M::blk qb tQt (cellsZ a ts.length c n va vx q.out q.wt)::RW cellsA 8 tDA va.v q.acs::RW cellsV 5 tL4 vx.v q.xs::blk bs tC (cellsC a ts.length c (cnF n))::L):=H5;obtain⟨t0,wt0,last0,m0,B0,as0,ys0,a0,hR0⟩:=hM.rp hK;refine Zo8 hK hg hs hU.up.up.up.up.up (by omega) hof hM (Holds.unpack H5.swap) λM' w6 hM' S6 H6=>?_;obtain⟨s2,t,wt,last,m,B,as_,ys,ak,hsb,hR,rfl⟩:=hM';have H7:=Holds.pack H6;replace S:=S.trans (S3.trans (S4.trans (S5.trans S6)));clear S3 S4 S5 S6 H H3 H4 H5 H6;have hel:=Zay f;refine Zaa (by omega) (q_len (r_neq (r_vfN rfl ?_)))
   refine Zd8 (λw'=>∃ va vx:Sl3,Same w w'/\Holds w' (SvL s2 ts n wt last (nextF ts n q f).acs (nextF ts n q f).out B (ys.map (rowP t)) as_ (livesF ys) ys m++(blk fb tFr (cellsF f)::blk qb tQt (cellsZ a ts.length c n va vx (nextF ts n q f).out (nextF ts n q f).wt) ::
     RW cellsA 8 tDA va.v (nextF ts n q f).acs::RW cellsV 5 tL4 vx.v (nextF ts n q f).xs::blk bs tC (cellsC a ts.length c (cnF n))::L))) ?_ ?_
   rotate_left
   . refine r_fo0 (r_ld 2 H7 rfl rfl (r_not (r_vif (λe=>?_) λe=>?_)))
     . have hqw:q.wt=false:=by simpa using e
       have hw0:wt0=0:=by
         have:=hR0.wq;rw[hqw] at this;simpa using this.symm
       subst hw0
       have hn:nextF ts n q f=quiF ts n q f:=by
         unfold nextF;rw[hqw];rfl
       rw[hn] at H7 ⊢;refine r_ldA 2 H7 (cellsZ a ts.length c n va vx q.out q.wt) rfl rfl rfl (r_ldA 1 H7 (cellsF f) rfl rfl rfl ?_);have H8:=(by have h_:=Holds.ord 5 [3,4,0,1,2] H7 rfl;exact h_);refine Znf (va:=va) (vx:=vx) hK hR0 (by omega) hof hT.up.up.up.up H8 λva' vx' w7 S7 H9=>?_;refine r_stA 4 H9 (vs:=cellsZ a ts.length c n va' vx' (quiF ts n q f).out (quiF ts n q f).wt) rfl (Nat.le_refl 12) rfl rfl λw8 S8 H10=>?_;refine r_ke ⟨va',vx',S.trans (S7.trans S8),?_⟩;exact Holds.unpack ((by have h_:=Holds.ord 5 [2,3,4,0,1] H10 rfl;exact h_))
     . have hqw:q.wt=true:=by simpa using e
       have hn:nextF ts n q f=q:=by
         unfold nextF;rw[hqw];rfl
       rw[hn] at H7 ⊢;exact r_ke ⟨va,vx,S,Holds.unpack H7⟩
   clear H7 S hR0 hM;generalize nextF ts n q f=q2 at hR;rintro _ w7 ⟨va,vx,S,H⟩
   have hsb':pt s.b=pt s2.b:=by rw[hsb]
   rw[hsb'];have hou:=hR.ou;have hul:=hR.ul;have hll:=hR.ll;have hus:=hR.us;have hln:=hR.ln;have hal2:=hR.al
   have hxl:q2.xs.length<=100:=by rw[hR.xs,hS_];omega
   refine Za0 (λx w'=>x=.bool false/\Same w w'/\Holds w' (SvL s2 ts n wt last q2.acs q2.out B (ys.map (rowP t)) as_ (livesF ys) ys m++(blk fb tFr (cellsF f)::blk qb tQt (cellsZ a ts.length c n va vx q2.out q2.wt) ::
     RW cellsA 8 tDA va.v q2.acs::RW cellsV 5 tL4 vx.v q2.xs::blk bs tC (cellsC a ts.length c (cnF n))::L))) ?_ ?_
   rotate_left
   . refine r_dr H λw8 S8 H8=>?_;refine Zq6 hR (by omega) H8 λw9 S9 H9=>?_;refine r_fo0 (r_ld 13 H9 rfl rfl (r_rk (r_ld 13 H8 rfl rfl rfl) (Zvu ?_)));rw[decide_eq_true rfl];refine r_vf (Zon hR H9 (r_fo0 (r_ld 13 H9 rfl rfl (r_rk (r_ld 13 H9 rfl rfl rfl) (r_bb (r_ke ⟨?_,S.trans (S8.trans S9),H9⟩))))));simp
   clear H S;rintro _ _ w8 ⟨rfl,S,H⟩;refine r_vf ?_;obtain⟨oa,la,ca⟩:=va;obtain⟨ox,lx,cx⟩:=vx;obtain⟨oa2,za,hva,hA⟩:=AsIn.of (i:=14) H rfl;obtain⟨ox2,zx,hvx,hX⟩:=LvIn.of (i:=15) H rfl
   obtain⟨rfl,rfl,rfl⟩:oa=oa2/\la=q2.acs.length/\ca=za:=by injection hva with h1 h2 h3;exact⟨h1,h2,h3⟩
   obtain⟨rfl,rfl,rfl⟩:ox=ox2/\lx=q2.xs.length/\cx=zx:=by injection hvx with h1 h2 h3;exact⟨h1,h2,h3⟩
   refine r_fo0 (r_ldA 13 H [.slice a ts.length c,.slice oa q2.acs.length ca] rfl rfl rfl ?_);refine Zbn H hA (by omega) λw9 S9 H9=>?_;replace S:=S.trans S9;clear S9 H
   refine Za0 (λx w'=>x=.bool false/\Same w w'/\Holds w' (SvL s2 ts n wt last q2.acs q2.out B (ys.map (rowP t)) as_ (livesF ys) ys m++(blk fb tFr (cellsF f)::blk qb tQt (cellsZ a ts.length c n ⟨oa,q2.acs.length,ca⟩ ⟨ox,q2.xs.length,cx⟩ q2.out q2.wt) ::
     RW cellsA 8 tDA (.slice oa q2.acs.length ca) q2.acs::RW cellsV 5 tL4 (.slice ox q2.xs.length cx) q2.xs::blk bs tC (cellsC a ts.length c (cnF n))::L))) ?_ ?_
   rotate_left
   . refine r_dr H9 λw10 S10 H10=>?_
     cases hwho:whoD q2.acs with
     |none=>exact r_geq (r_vfD (by decide) (r_ke ⟨rfl,S.trans S10,H10⟩))
     |some ti=>
       obtain rfl:=hR.who ti hwho;show Bp .geq (nv t) _ _;refine r_geq (r_vtD (by omega) ?_);refine Zot hR H10 λw11 S11 H11=>?_;refine r_ldA 13 H11 (cellsZ a ts.length c n ⟨oa,q2.acs.length,ca⟩ ⟨ox,q2.xs.length,cx⟩ q2.out q2.wt) rfl rfl rfl ?_;refine r_rk (r_ldA 13 H10 (cellsZ a ts.length c n ⟨oa,q2.acs.length,ca⟩ ⟨ox,q2.xs.length,cx⟩ q2.out q2.wt) rfl rfl rfl rfl) ?_;refine Zeq H11 hX (by omega) (by omega) λw12 S12 H12=>?_;refine r_neq (r_vfN rfl ?_);refine Zo5 hR (by omega) H12 λw13 S13 H13=>?_;refine r_fo0 (r_ld 13 H13 rfl rfl (r_rk (r_ld 13 H12 rfl rfl rfl) (r_lnl (r_rk (r_lnl rfl) (r_neq (r_ke ⟨?_,S.trans (S10.trans (S11.trans (S12.trans S13))),H13⟩))))));show Value.bool ((q2.xs.length:Int) != (q2.xs.length:Int))=_;simp
   clear H9 S;rintro _ _ w10 ⟨rfl,S,H⟩;refine r_vf (Za1 (by omega) (r_ke (hmu _ ⟨i+1,q2,_,⟨oa,q2.acs.length,ca⟩,⟨ox,q2.xs.length,cx⟩,by omega,rfl,?_,.inr ⟨s2,t,wt,last,m,B,as_,ys,ak,hsb,hR,rfl⟩,S,?_⟩)))
   . rw[Zka hf,gD]
   . exact Holds.dropAt (Holds.pack H) 1
 . obtain rfl:i=fs.length:=by omega
   rw[hF_];refine r_eql (r_vtE rfl ?_);refine Znm H hF.up.up.up.up.up hfs hl40 λw3 S3 H3=>?_;refine q_len (r_eql (r_vtE rfl ?_));exact tst H3 λw4 S4 H4=>post w4 (S.trans (S3.trans S4)) H4.drop.drop.drop.drop.drop
end
end F33
end Go.Proofs.YthkaggnihbkmeaaGreatDoor
set_option maxRecDepth 1000000
namespace Go.Proofs.YthkaggnihbkmeaaGreatDoor
open Go Go.Vc Go.Proofs.Tryz
attribute [local irreducible] Vc.Nc Vc.Ld Vc.LdA Vc.St Vc.StA Vc.Fo Vc.Iaa Vc.Ias Vc.Ixs Vc.Ixa Vc.Fd Vc.FdA Vc.Bp Vc.Bb Vc.Bn Vc.Up Vc.Ci Vc.Lns Vc.Lnl Vc.Ex Vc.Sst Vc.Ssl Vc.New Vc.Vif Vc.VJoin Vc.VLoop Vc.KE Vc.Dr Vc.Rk Vc.Cl Vc.Cx Vc.Inv Vc.Be Vc.Cv Vc.Cw Vc.Mf Vc.Sl Vc.Lk Vc.Bd Vc.Bs Vc.Ms Vc.Mm Vc.Mu Vc.Me Vc.Es Vc.Rg Vc.Nx Vc.Ta Vc.Ap Vc.Usd Vc.Ust Vc.Cp Vc.Ln Vc.Bc Vc.Bmin Vc.Bmax Vc.Bdel Vc.Bclr Vc.Pk
namespace F33
open Go.M31 J30 J31 J32
theorem Zno {H:Type}{enc:TypeId × Value->H}{W:World}{base:Nat}{spare:Nat->Bool}{held:Bool}{fuel:Nat}{cs:List Value}{x:DataW H × List MemPlace}(h:DataW.trod enc prog W base spare held fuel tFr cs=some x):∃ u:Fi,cs=cellsFi u:=by
 have hu:=underlying41;obtain⟨_,_,_,_,hlen,_,_⟩:=DataW.trod_struct hu h;obtain⟨c0,y0,n0,e0,h0⟩:=J34.Zbb hu h 0 _ rfl 0 rfl (by kernel_rfl) (of_decide_eq_true (by kernel_rfl));obtain⟨c1,y1,n1,e1,h1⟩:=J34.Zbb hu h 1 _ rfl 1 rfl (by kernel_rfl) (of_decide_eq_true (by kernel_rfl));obtain⟨c2,y2,n2,e2,h2⟩:=J34.Zbb hu h 2 _ rfl 2 rfl (by kernel_rfl) (of_decide_eq_true (by kernel_rfl));obtain⟨z0,g0,_⟩:=DataW.trod_int underlying3 h0;obtain⟨z1,g1,_⟩:=DataW.trod_int underlying3 h1;obtain⟨s2,g2,_⟩:=DataW.trod_string underlying9 h2;simp only[List.cons.injEq,and_true] at g0 g1 g2;subst g0 g1 g2;exact⟨⟨z0,z1,s2⟩,J34.list3 (hlen.trans (by kernel_rfl)) e0 e1 e2⟩
theorem frames_open {H:Type}{enc:TypeId × Value->H}{W:World}{base:Nat}{v:Value}{d:DataW H}{ps:List MemPlace}(hval:Value.okWide prog W .any base 25 v)
   (h:DataW.Trod enc prog W 0 (λ_=>true) true 25 v d ps):∃ (a:Option Addr) (us:List Fi) (c:Nat),v=.slice a us.length c/\FiIn [whole W] a us/\us.length<=c:=by
 obtain⟨a,l,c,rfl⟩:=WideShapes.okWide_slice underlying25 hval;obtain⟨fuel,hf⟩:=h;obtain⟨a',us,c',g0,hc,hin⟩:=J34.Zhm cellsFi 3 underlying25 (by kernel_rfl) (λ_=>rfl) (λh=>Zno h) hf;exact⟨a',us,c',g0,hin,hc⟩
theorem tab_laidA {W:World}(h:laidMetH prog Rows.serverAnswersRow.laid W):TabIn [whole W]:=Zrk h (by simp[Rows.serverAnswersRow]) (by simp[Rows.serverAnswersRow])
theorem Zpg {w:World}{L:List HProp}{K:KT}(H:Holds w L) (post:∀ w',Same w w'->Holds w' L->K (.bool true) w'):Cl prog 6 #[] w K:=Ev.Zsj T40.mixed T40.Zrw T40.Zqm H post
theorem ServerAnswers_spec {w:World}{L:List HProp}{K:KT}(H:Holds w L) (a:Option Addr) (ts:List Tn) (c:Nat) (n:Cn) (b:Option Addr) (us:List Fi) (d:Nat) (h0:TsIn L a ts/\ts.length<=c) (h1:FiIn L b us/\us.length<=d) (hU:TabIn L) (post:∀ w',Same w w'->Holds w' L->K (.bool true) w') :
   Cl prog 3 #[.agg (cellsC a ts.length c n).toArray,.slice b us.length d] w K:=
 Zff Zpg H a ts c n b us d h0 h1 hU post
end F33
end Go.Proofs.YthkaggnihbkmeaaGreatDoor
