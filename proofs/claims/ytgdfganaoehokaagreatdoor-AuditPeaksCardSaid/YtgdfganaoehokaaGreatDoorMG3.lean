/- Several texts in one: Lr, Gt, Gu, Gw, Jt, Gx, Qu, Dq, Gj, Gy, Hs, Hu, Hd, Ho, Hp, Hq. -/
import Derived.Test.YtgdfganaoehokaaGreatDoorMG2
import Derived.Test.YtgdfganaoehokaaGreatDoorMG0
import Derived.Test.YtgdfganaoehokaaGreatDoorMG1
import Derived.Shelf.Strings.OnBuilder
import Derived.Shelf.Small.Strs
set_option linter.unusedVariables false
set_option linter.unusedSimpArgs false
open Go.RowKit (intOf)
open List (drop_eq_getElem_cons drop_length drop_zero find?_cons_of_neg find?_cons_of_pos flatMap_cons map_append map_map map_set mem_cons mem_of_getElem? mem_singleton pairwise_cons pairwise_map set_set sum_cons)
namespace Go.Proofs.YtgdfganaoehokaaGreatDoor
open Go Go.Vc Go.Proofs.Tryz
theorem Zb0 {α:Type}:∀ {L:List α}{j:Nat}{Q:α},L[j]?=some Q->L.set j Q=L
 |[],j,Q,h=>by simp at h
 |x::r,0,Q,h=>by
  obtain rfl:x=Q:=by simpa using h
  rfl
 |x::r,j+1,Q,h=>by
  rw[gW,Zb0 (by simpa using h)]
attribute [local irreducible] Vc.Nc Vc.Ld Vc.LdA Vc.St Vc.StA Vc.Fo Vc.Iaa Vc.Ias Vc.Ixs Vc.Ixa Vc.Fd Vc.FdA Vc.Bp Vc.Bb Vc.Bn Vc.Up Vc.Ci Vc.Lns Vc.Lnl Vc.Ex Vc.Sst Vc.Ssl Vc.New Vc.Vif Vc.VJoin Vc.VLoop Vc.KE Vc.Dr Vc.Rk Vc.Cl Vc.Cx Vc.Inv Vc.Be Vc.Cv Vc.Cw Vc.Mf Vc.Sl Vc.Lk Vc.Bd Vc.Bs Vc.Ms Vc.Mm Vc.Mu Vc.Me Vc.Es Vc.Rg Vc.Nx Vc.Ta Vc.Ap Vc.Usd Vc.Ust Vc.Cp Vc.Ln Vc.Bc Vc.Bmin Vc.Bmax Vc.Bdel Vc.Bclr Vc.Pk
namespace G40
open J31 J32 J34
variable {w:World}{L:List HProp}{K:KT}{b:Nat}{u:Value}{as_:List Ak}{i:Nat}{a:Ak}
theorem Zm5 (H:Holds w (blk b tLd [u]::RW cellsK 3 tAc u as_::L)) (hi:as_[i]?=some a)
  (k:∀ ba m sp,u=.slice (some ⟨ba,0,none⟩) as_.length (as_.length+m)->sp.length=m*3->Holds w (blk b tLd [u]::blk ba tAc (flatL cellsK as_++sp)::L)->K (.pointer (some ⟨ba,i*3,none⟩)) w):Cl prog 92 #[ptr b,nv i] w K:=by
 have hlt:i < as_.length:=(gH.1 hi).1;have H0:=H;obtain⟨oa,m,sp,hu,H1⟩:=H0.openRW 1 rfl;obtain⟨ba,rfl,hsp,Hb⟩:=H1.rwb 1 rfl (.inl (by omega));refine Tz92 ?_;unfold Vz92;refine Za0 (λx w'=>w=w'/\x=.bool false) ?_ ?_
 rotate_left
 ·repeat (first|refine r_nc ?_|refine r_fo0 ?_|refine r_lss ?_|(with_reducible first|refine Za3 ?_|refine r_vf ?_)|refine r_ld 0 H rfl rfl ?_|((with_reducible refine r_vfD ?h ?_);(case h=>omega)))
  rw[hu]
  repeat (first|refine r_ke ?_|refine r_lnl ?_|refine r_geq ?_)
  exact⟨rfl,by rw[decide_eq_false (by omega)]⟩
 rintro _ _ _ ⟨rfl,rfl⟩
 repeat (first|refine r_nc ?_|refine r_fo0 ?_|(with_reducible refine r_vf ?_)|refine r_ld 0 H rfl rfl ?_)
 rw[hu];refine Zg9 (by omega) ?_;exact k ba m sp hu hsp Hb
theorem cellK {sp:List Value}{q:Nat}(hi:as_[i]?=some a) (hq:q < 3):(flatL cellsK as_++sp)[i*3+q]?=(cellsK a)[q]?:=by
 rw[<-flatK (sp:=sp) hi,List.getElem?_take,if_pos hq,hH_]
theorem lenK {sp:List Value}{q:Nat}(hi:as_[i]?=some a) (hq:q < 3):i*3+q < (flatL cellsK as_++sp).length:=by
 have hlt:i < as_.length:=(gH.1 hi).1;rw[gD,Zaz (F:=cellsK) (k:=3) λ_=>rfl];omega
theorem backK {ba m:Nat}{sp:List Value}{xs:List Ak}(hu:u=.slice (some ⟨ba,0,none⟩) as_.length (as_.length+m)) (hs:sp.length=m*3) (hl:xs.length=as_.length) (H:Holds w (blk b tLd [u]::blk ba tAc (flatL cellsK xs++sp)::L)) :
  Holds w (blk b tLd [u]::RW cellsK 3 tAc u xs::L):=H.at 1 rfl λg hg=>⟨some ⟨ba,0,none⟩,m,sp,by rw[hu,hl],rfl,rfl,hs,hg⟩
theorem Zk8 {n:Nat}(H:Holds w (blk b tLd [u]::RW cellsK 3 tAc u as_::L)) (hi:as_[i]?=some a) (hn:n<=a.li) (hu:a.us<=a.li) (hl:a.li<=1099511627776)
  (k1:a.li - a.us < n->∀ w',Same w w'->Holds w' (blk b tLd [u]::RW cellsK 3 tAc u as_::L)->K (iv 34) w')
  (k2:n<=a.li - a.us->∀ w',Same w w'->Holds w' (blk b tLd [u]::RW cellsK 3 tAc u (as_.set i ⟨a.li,a.us+n,max a.pk (a.us+n)⟩)::L)->K (iv 0) w'):Cl prog 182 #[ptr b,nv i,nv n] w K:=by
 have hlt:i < as_.length:=(gH.1 hi).1;refine Tz182 ?_;unfold Vz182;refine Zm5 H hi λba m sp hu0 hsp H1=>?_;refine Za3 (r_vf (Za3 (r_vf ?_)));refine may_spec (by omega) (r_not (r_vf ?_));refine r_nc (r_fo (r_ld 1 H1 rfl (cellK hi (by decide)) (r_gtr (r_vfD (by omega) ?_))));refine r_dr H1 λw2 S2 H2=>?_;refine r_nc (r_fo (r_ld 1 H2 rfl (cellK hi (by decide)) ?_));refine r_nc (r_fo (r_ld 1 H2 rfl (cellK hi (by decide)) ?_));refine r_sub (by omega) (by omega) (r_gtr (r_ifD (λh=>?_) λh=>?_))
 ·exact k1 (by omega) w2 S2 (backK hu0 hsp rfl H2)
 refine r_nc (r_fo (r_ld 1 H2 rfl (cellK hi (by decide)) ?_));refine Zb1 (a:=a.us) (b:=n) (by omega) ?_;refine r_nc (r_fo ?_);refine r_st 1 H2 rfl (lenK hi (by decide)) rfl λw3 S3 H3=>?_;have H4:=Zed (a':=⟨a.li,a.us+n,a.pk⟩) (q:=1) hi (by decide) rfl H3
 have hi2:(as_.set i ⟨a.li,a.us+n,a.pk⟩)[i]?=some ⟨a.li,a.us+n,a.pk⟩:=by rw[List.getElem?_set_self hlt]
 refine r_dr H4 λw5 S5 H5=>?_;refine r_nc (r_fo (r_ld 1 H5 rfl (cellK hi2 (by decide)) ?_));refine r_nc (r_fo (r_ld 1 H5 rfl (cellK hi2 (by decide)) ?_));refine r_max ?_;rw[show max (a.pk:Int) ((a.us+n:Nat):Int)=((max a.pk (a.us+n):Nat):Int) by omega];refine r_nc (r_fo ?_);refine r_st 1 H5 rfl (lenK hi2 (by decide)) rfl λw6 S6 H6=>?_;have H7:=Zed (a':=⟨a.li,a.us+n,max a.pk (a.us+n)⟩) (q:=2) hi2 (by decide) rfl H6;rw[set_set] at H7;exact k2 (by omega) w6 (S2.trans (S3.trans (S5.trans S6))) (backK hu0 hsp (by simp) H7)
theorem Zjc {n:Nat}(H:Holds w (blk b tLd [u]::RW cellsK 3 tAc u as_::L)) (hi:as_[i]?=some a) (hn:n<=a.us) (hl:a.us<=1099511627776)
  (k:∀ w',Same w w'->Holds w' (blk b tLd [u]::RW cellsK 3 tAc u (as_.set i ⟨a.li,a.us - n,a.pk⟩)::L)->K (iv 0) w'):Cl prog 122 #[ptr b,nv i,nv n] w K:=by
 have hlt:i < as_.length:=(gH.1 hi).1;refine Tz122 ?_;unfold Vz122;refine Zm5 H hi λba m sp hu0 hsp H1=>?_;refine Za3 (r_vf (Za3 (r_vf ?_)));refine Za0 (λx w'=>w=w'/\x=.bool false) ?_ ?_
 rotate_left
 ·refine r_lss (r_vfD (by omega) ?_);refine r_nc (r_fo (r_ld 1 H1 rfl (cellK hi (by decide)) (r_gtr (r_ke ⟨rfl,?_⟩))));rw[decide_eq_false (by omega)]
 rintro _ _ _ ⟨rfl,rfl⟩;refine r_vf (r_nc (r_fo (r_ld 1 H1 rfl (cellK hi (by decide)) ?_)));refine r_sub (by omega) (by omega) ?_;rw[show (a.us:Int) - (n:Int)=((a.us - n:Nat):Int) by omega];refine r_nc (r_fo ?_);refine r_st 1 H1 rfl (lenK hi (by decide)) rfl λw3 S3 H3=>?_;exact k w3 S3 (backK hu0 hsp (by simp) (Zed (a':=⟨a.li,a.us - n,a.pk⟩) (q:=1) hi (by decide) rfl H3))
def LedR (b:Nat) (as_:List Ak):HProp:=λh=>∃ u,Sat [blk b tLd [u],RW cellsK 3 tAc u as_] h
theorem Zdx (H:Holds w L){j:Nat}(hj:L[j]?=some (LedR b as_)):∃ u,Holds w (blk b tLd [u]::RW cellsK 3 tAc u as_::L.eraseIdx j):=by
 obtain⟨u,H1⟩:=Holds.ex (H.front j hj);exact⟨u,Holds.unpack (A:=[_,_]) H1⟩
theorem Zc9 {Q:HProp}{j:Nat}(hj:L[j]?=some Q) (H:Holds w (blk b tLd [u]::RW cellsK 3 tAc u as_::L.eraseIdx j)):Holds w (L.set j (LedR b as_)):=
 Sat.push j hj (Holds.imp (Holds.pack (A:=[_,_]) H) λh hh=>⟨u,hh⟩)
theorem Zlz {j:Nat}(H:Holds w L) (hj:L[j]?=some (LedR b as_)) (hi:as_[i]?=some a) (k:∀ w',Same w w'->Holds w' L->K (nv a.li) w'):Cl prog 130 #[ptr b,nv i] w K:=by
 obtain⟨u,H1⟩:=Zdx H hj;refine Zne H1 hi λw2 S2 H2=>?_;have H3:=Zc9 hj H2;rw[Zb0 hj] at H3;exact k w2 S2 H3
theorem Zok {j:Nat}(H:Holds w L) (hj:L[j]?=some (LedR b as_)) (hi:as_[i]?=some a) (k:∀ w',Same w w'->Holds w' L->K (nv a.us) w'):Cl prog 35 #[ptr b,nv i] w K:=by
 obtain⟨u,H1⟩:=Zdx H hj;refine Zql H1 hi λw2 S2 H2=>?_;have H3:=Zc9 hj H2;rw[Zb0 hj] at H3;exact k w2 S2 H3
theorem Zn7 {j n:Nat}(H:Holds w L) (hj:L[j]?=some (LedR b as_)) (hi:as_[i]?=some a) (hn:n<=a.li) (hu:a.us<=a.li) (hl:a.li<=1099511627776)
  (k1:a.li - a.us < n->∀ w',Same w w'->Holds w' L->K (iv 34) w')
  (k2:n<=a.li - a.us->∀ w',Same w w'->Holds w' (L.set j (LedR b (as_.set i ⟨a.li,a.us+n,max a.pk (a.us+n)⟩)))->K (iv 0) w'):Cl prog 182 #[ptr b,nv i,nv n] w K:=by
 obtain⟨u,H1⟩:=Zdx H hj;refine Zk8 H1 hi hn hu hl (λh w2 S2 H2=>?_) λh w2 S2 H2=>k2 h w2 S2 (Zc9 hj H2);have H3:=Zc9 hj H2;rw[Zb0 hj] at H3;exact k1 h w2 S2 H3
theorem Zo6 {j n:Nat}(H:Holds w L) (hj:L[j]?=some (LedR b as_)) (hi:as_[i]?=some a) (hn:n<=a.us) (hl:a.us<=1099511627776)
  (k:∀ w',Same w w'->Holds w' (L.set j (LedR b (as_.set i ⟨a.li,a.us - n,a.pk⟩)))->K (iv 0) w'):Cl prog 122 #[ptr b,nv i,nv n] w K:=by
 obtain⟨u,H1⟩:=Zdx H hj;exact Zjc H1 hi hn hl λw2 S2 H2=>k w2 S2 (Zc9 hj H2)
end G40
namespace F33
open Go.M31 J30 J31 J32
variable {w:World}{L:List HProp}{K:KT}
open Ev in
theorem Zwu {ty jb e:Nat}{t:List Nat}:eqT prog 20 tAn (.g [.i .i64 ty,.i .i64 jb,.s t,.i .i64 e]) (.g [.i .i64 ty,.i .i64 jb,.s t,.i .i64 e])=some true:=by
 have hs:(prog).stoodInHeld tAn=false:=by kernel_rfl
 rw[eqT,underlying164]
 dsimp only
 rw[hs]
 dsimp only
 refine Ze9 (a:=.i .i64 ty) (by kernel_rfl) (by kernel_rfl) (Zko (k':=.i64) (by kernel_rfl)) ?_;refine Ze9 (a:=.i .i64 jb) (by kernel_rfl) (by kernel_rfl) (Zko (k':=.i64) (by kernel_rfl)) ?_;refine Ze9 (a:=.s t) (by kernel_rfl) (by kernel_rfl) (Zv7 (by kernel_rfl)) ?_;refine Ze9 (a:=.i .i64 e) (by kernel_rfl) (by kernel_rfl) (Zko (k':=.i64) (by kernel_rfl)) ?_;rfl
theorem r_neN {ty jb e:Nat}{t:List UInt8}{A B:Operand}{K:Value->Prop}(k:K (.bool false)):Be prog .neq tAn A B (.agg (cellsN ty jb t e).toArray) (.agg (cellsN ty jb t e).toArray) w K:=by
 have hx:Ev.vl (λ_=>none) (.g [.i .i64 ty,.i .i64 jb,.s (t.map UInt8.toNat),.i .i64 e])=some (.agg (cellsN ty jb t e).toArray):=by
  have:Ev.str (t.map UInt8.toNat)=⟨t.toArray⟩:=by
   unfold Ev.str
   congr 2
   rw[map_map]
   have e:(UInt8.ofNat ∘ UInt8.toNat)=id:=by
    funext x
    exact UInt8.ofNat_toNat
   rw[e,List.map_id]
  show some (Value.agg [.int .i64 ty,.int .i64 jb,.string (Ev.str (t.map UInt8.toNat)),.int .i64 e].toArray)=_;rw[this];rfl
 refine Ev.Ztl (σ:=λ_=>none) (P:=prog) (t:=tAn) (op:=.neq) (A:=A) (B:=B) (x:=some (.g [.i .i64 ty,.i .i64 jb,.s (t.map UInt8.toNat),.i .i64 e])) (y:=some (.g [.i .i64 ty,.i .i64 jb,.s (t.map UInt8.toNat),.i .i64 e])) (z:=.b false) (f:=λ_=>.agg (cellsN ty jb t e).toArray)
  underlying164 (λk h=>by cases h) (λh=>by cases h) (λh=>by cases h) (λe h=>by cases h) ?_ (λa h=>?_) (λa h=>?_) λv hv=>?_
 ·have hg:Ev.gdE prog tAn A B (.g [.i .i64 ty,.i .i64 jb,.s (t.map UInt8.toNat),.i .i64 e]) (.g [.i .i64 ty,.i .i64 jb,.s (t.map UInt8.toNat),.i .i64 e])=true:=by
   have:(prog).eqGuardType (prog).depth tAn=false:=by kernel_rfl
   unfold Ev.gdE
   dsimp only
   rw[this]
  unfold Ev.beX
  dsimp only
  rw[hg,Zwu];rfl
 ·obtain rfl:=Option.some.inj h;exact hx
 ·obtain rfl:=Option.some.inj h;exact hx
 ·obtain rfl:Value.bool false=v:=Option.some.inj hv;exact k
theorem Zl4 {ty jb:Nat}{t:List UInt8}(H:Holds w L) (h1:jb<=4294967295) (h2:t.length<=65536) (hc:(ty=65\/ty=70)/\jb=0\/ty=66) (k:∀ w',Same w w'->Holds w' L->K (.tuple #[.agg (cellsF ⟨ty,jb,t⟩).toArray,iv 0]) w') :
  Cl prog 115 #[.agg (cellsN ty jb t 0).toArray] w K:=by
 refine Tz115 ?_;unfold Vz115;refine r_new H λab w1 S1 H1=>?_;replace H1:Holds w1 (blk ab tAn (cellsN ty jb t 0)::L):=H1;refine r_new H1 λxb w2 S2 H2=>?_;rw[Zaq] at H2;refine r_fo0 (r_ld 1 H2 rfl rfl (r_fo0 (r_ld 1 H2 rfl rfl (r_fo0 (r_ld 1 H2 rfl rfl ?_)))));refine r_bd (v:=.agg (cellsF ⟨ty,jb,t⟩).toArray) (by kernel_rfl) ?_;refine r_new H2 λfb w3 S3 H3=>?_;rw[Zaq] at H3;refine r_stA 0 H3 (vs:=cellsF ⟨ty,jb,t⟩) rfl (Nat.le_refl 3) rfl rfl λw4 S4 H4=>?_;replace H4:Holds w4 (blk fb tFr (cellsF ⟨ty,jb,t⟩)::blk xb tFr (cellsF fr0)::blk ab tAn (cellsN ty jb t 0)::L):=H4;have S:=S1.trans (S2.trans (S3.trans S4));clear S1 S2 S3 S4 H H1 H2 H3;refine Zcz (λw'=>w4=w') ?_ ?_
 rotate_left
 ·refine Za0 (λx w'=>w4=w'/\x=.bool false) ?_ ?_
  rotate_left
  ·exact r_fo0 (r_ld 2 H4 rfl rfl (r_geq (r_vfD (by show ¬ (1:Int)<=0;decide) (r_ke ⟨rfl,rfl⟩))))
  rintro _ _ _ ⟨rfl,rfl⟩;exact r_vf (r_ke rfl)
 rintro _ _ rfl;refine r_ldA 0 H4 (cellsF ⟨ty,jb,t⟩) rfl rfl rfl ?_;refine Znz H4 h1 h2 hc λw5 S5 H5=>?_;refine Za6 (Za5 ?_);refine r_new H5 λyb w6 S6 H6=>?_;rw[Zeo] at H6;refine r_stA 0 H6 (vs:=cellsN ty jb t 0) rfl (Nat.le_refl 4) rfl rfl λw7 S7 H7=>?_;replace H7:Holds w7 (blk yb tAn (cellsN ty jb t 0)::blk fb tFr (cellsF ⟨ty,jb,t⟩)::blk xb tFr (cellsF fr0)::blk ab tAn (cellsN ty jb t 0)::L):=H7;refine Za0 (λx w'=>w7=w'/\x=.bool false) ?_ ?_
 rotate_left
 ·refine r_neq (r_vfN rfl ?_);refine r_ldA 0 H7 (cellsN ty jb t 0) rfl rfl rfl (r_ldA 3 H7 (cellsN ty jb t 0) rfl rfl rfl ?_);exact r_neN (r_ke ⟨rfl,rfl⟩)
 rintro _ _ _ ⟨rfl,rfl⟩;refine r_vf (r_ldA 1 H7 (cellsF ⟨ty,jb,t⟩) rfl rfl rfl ?_);refine r_stA 2 H7 (vs:=cellsF ⟨ty,jb,t⟩) rfl (Nat.le_refl 3) rfl rfl λw8 S8 H8=>?_;refine r_ldA 2 H8 (cellsF ⟨ty,jb,t⟩) rfl rfl rfl ?_;exact k w8 (S.trans (S5.trans (S6.trans (S7.trans S8)))) H8.drop.drop.drop.drop
theorem Zkq {jb e:Nat}(H:Holds w L) (h1:jb<=4294967295) (he:1<=e) (h2:e<=255) (k:∀ w',Same w w'->Holds w' L->K (.tuple #[.agg (cellsF ⟨69,jb,[UInt8.ofNat e]⟩).toArray,iv 0]) w') :
  Cl prog 115 #[.agg (cellsN 69 jb [] e).toArray] w K:=by
 refine Tz115 ?_;unfold Vz115;refine r_new H λab w1 S1 H1=>?_;replace H1:Holds w1 (blk ab tAn (cellsN 69 jb [] e)::L):=H1;refine r_new H1 λxb w2 S2 H2=>?_;rw[Zaq] at H2;refine r_fo0 (r_ld 1 H2 rfl rfl (r_fo0 (r_ld 1 H2 rfl rfl (r_fo0 (r_ld 1 H2 rfl rfl ?_)))));refine r_bd (v:=.agg (cellsF ⟨69,jb,[]⟩).toArray) (by kernel_rfl) ?_;refine r_new H2 λfb w3 S3 H3=>?_;rw[Zaq] at H3;refine r_stA 0 H3 (vs:=cellsF ⟨69,jb,[]⟩) rfl (Nat.le_refl 3) rfl rfl λw4 S4 H4=>?_;replace H4:Holds w4 (blk fb tFr (cellsF ⟨69,jb,[]⟩)::blk xb tFr (cellsF fr0)::blk ab tAn (cellsN 69 jb [] e)::L):=H4;have S:=S1.trans (S2.trans (S3.trans S4));clear S1 S2 S3 S4 H H1 H2 H3;refine Zcz (λw'=>Same w w'/\Holds w' (blk fb tFr (cellsF ⟨69,jb,[UInt8.ofNat e]⟩)::blk xb tFr (cellsF fr0)::blk ab tAn (cellsN 69 jb [] e)::L)) ?_ ?_
 rotate_left
 ·refine Za0 (λx w'=>w4=w'/\x=.bool true) ?_ ?_
  rotate_left
  ·refine r_fo0 (r_ld 2 H4 rfl rfl (r_geq (r_vtD (by show (1:Int)<=(e:Int);omega) ?_)));refine r_fo0 (r_ld 2 H4 rfl rfl (r_leq (r_ke ⟨rfl,?_⟩)));rw[decide_eq_true (by show (e:Int)<=255;omega)]
  rintro _ _ _ ⟨rfl,rfl⟩;refine r_vt (r_fo0 (r_ld 0 H4 rfl rfl (r_fo0 (r_ld 2 H4 rfl rfl ?_))));refine Zk5 (by omega) (by omega) ?_;refine L42.r_one (n:=e) (by omega) H4 λw5 S5 H5=>?_;refine Zbr (by simp) ?_;refine r_fo0 (r_st 0 H5 rfl (by simp[cellsF]) rfl λw6 S6 H6=>?_);exact r_ke ⟨S.trans (S5.trans S6),H6⟩
 clear S H4;rintro _ w4 ⟨S,H4⟩;refine r_ldA 0 H4 (cellsF ⟨69,jb,[UInt8.ofNat e]⟩) rfl rfl rfl ?_;refine Zn5 H4 h1 he h2 λw5 S5 H5=>?_;refine Za6 (Za5 ?_);refine r_new H5 λyb w6 S6 H6=>?_;rw[Zeo] at H6;refine r_stA 0 H6 (vs:=cellsN 69 jb [] e) rfl (Nat.le_refl 4) rfl rfl λw7 S7 H7=>?_;replace H7:Holds w7 (blk yb tAn (cellsN 69 jb [] e)::blk fb tFr (cellsF ⟨69,jb,[UInt8.ofNat e]⟩)::blk xb tFr (cellsF fr0)::blk ab tAn (cellsN 69 jb [] e)::L):=H7;refine Za0 (λx w'=>w7=w'/\x=.bool false) ?_ ?_
 rotate_left
 ·refine r_neq (r_vfN rfl ?_);refine r_ldA 0 H7 (cellsN 69 jb [] e) rfl rfl rfl (r_ldA 3 H7 (cellsN 69 jb [] e) rfl rfl rfl ?_);exact r_neN (r_ke ⟨rfl,rfl⟩)
 rintro _ _ _ ⟨rfl,rfl⟩;refine r_vf (r_ldA 1 H7 (cellsF ⟨69,jb,[UInt8.ofNat e]⟩) rfl rfl rfl ?_);refine r_stA 2 H7 (vs:=cellsF ⟨69,jb,[UInt8.ofNat e]⟩) rfl (Nat.le_refl 3) rfl rfl λw8 S8 H8=>?_;refine r_ldA 2 H8 (cellsF ⟨69,jb,[UInt8.ofNat e]⟩) rfl rfl rfl ?_;exact k w8 (S.trans (S5.trans (S6.trans (S7.trans S8)))) H8.drop.drop.drop.drop
abbrev tLn:Nat:=88
abbrev tBd:Nat:=86
variable {ln pa cb wt:Nat}{out:List UInt8}
def cellsLn (pa cb wt:Nat) (p v:Value) (ov:Bool):List Value:=[nv 0,pt pa,pt cb,p,v,nv wt,.bool ov]
def okB (ln:Nat) (p:Value):Prop:=p=.pointer none\/p=.pointer (some ⟨ln,3,none⟩)
variable {ov:Bool}
def LnR (ln pa cb wt:Nat) (out:List UInt8) (ov:Bool):HProp:=λh=>∃ p v,okB ln p/\Sat [blk ln tLn (cellsLn pa cb wt p v ov),SF L42.tU8 v out] h
theorem Zaa (H:Holds w L){j:Nat}(hj:L[j]?=some (LnR ln pa cb wt out ov)):∃ p v,okB ln p/\Holds w (blk ln tLn (cellsLn pa cb wt p v ov)::SF L42.tU8 v out::L.eraseIdx j):=by
 obtain⟨p,H1⟩:=Holds.ex (H.front j hj);obtain⟨v,H1⟩:=Holds.ex H1;obtain⟨hp,H1⟩:=Holds.pure H1;exact⟨p,v,hp,Holds.unpack (A:=[_,_]) H1⟩
theorem Zcr {Q:HProp}{j:Nat}{p v:Value}(hj:L[j]?=some Q) (hp:okB ln p) (H:Holds w (blk ln tLn (cellsLn pa cb wt p v ov)::SF L42.tU8 v out::L.eraseIdx j)):Holds w (L.set j (LnR ln pa cb wt out ov)):=
 Sat.push j hj (Holds.imp (Holds.pack (A:=[_,_]) H) λh hh=>⟨p,v,hp,hh⟩)
theorem Zva {f:Nat}{v:Value}{fn:Func}(h:Ev.extK prog f=some (fn,.noEsc)) (k:K v w):Cx prog f #[v] w K:=
 r_cx (Ev.callExt (P:=prog) (w:=w) (w':=w) (args:=#[v]) (v:=v) h (Ev.Zh8 (Ev.Zcw h).2.2) rfl).2 k
theorem noesc:∃ fn,Ev.extK prog 200=some (fn,.noEsc):=⟨f200,by kernel_rfl⟩
theorem Zl7 {j:Nat}{s:List UInt8}(H:Holds w L) (hj:L[j]?=some (LnR ln pa cb wt out ov)) (hn:out.length+s.length<=1099511627776) (k:∀ v w',Same w w'->Holds w' (L.set j (LnR ln pa cb wt (out++s) ov))->K v w') :
  Cl prog 117 #[.pointer (some ⟨ln,3,none⟩),S_ s] w K:=by
 refine Tz117 ?_;unfold Vz117;obtain⟨p,v,hp,H1⟩:=Zaa H hj;obtain⟨fn,hfn⟩:=noesc;refine r_cl (K:=λ_ w'=>∃ p,okB ln p/\Same w w'/\Holds w' (blk ln tLn (cellsLn pa cb wt p v ov)::SF L42.tU8 v out::L.eraseIdx j)) ?_ ?_
 ·refine Tz168 ?_;unfold Vz168;refine r_nc (r_fo (r_ld 0 H1 (v:=p) rfl rfl ?_));rcases hp with rfl|rfl
  ·refine Ziq (r_vt ?_);refine Zu7 (t:=tBd) (i:=t86) (by kernel_rfl) (by kernel_rfl) (by kernel_rfl) (by decide) H1 0 rfl (by show 3 < 7;decide) ?_;refine Zva hfn ?_;refine Zuh (t:=tBd) (i:=t86) (by kernel_rfl) (by kernel_rfl) (by kernel_rfl) (by kernel_rfl) H1 0 rfl ?_;refine r_nc (r_fo ?_);refine r_st 0 H1 rfl (by show 3 < 7;decide) rfl λw2 S2 H2=>?_;exact⟨.pointer (some ⟨ln,3,none⟩),.inr rfl,S2,H2⟩
  ·refine Za3 (r_vf ?_);refine r_nc (r_fo (r_ld 0 H1 (v:=.pointer (some ⟨ln,3,none⟩)) rfl rfl ?_));refine Zvx (i:=t86) (by kernel_rfl) (r_vf ?_);exact⟨.pointer (some ⟨ln,3,none⟩),.inr rfl,.refl w,H1⟩
 rintro _ w2 ⟨p,hp,S2,H2⟩;refine r_nc (r_fo (r_ld 0 H2 (v:=v) rfl rfl ?_));refine r_apF (by kernel_rfl) H2 1 rfl hn λv' w3 hv S3 H3=>?_;refine r_nc (r_fo ?_);refine r_st 0 H3 rfl (by show 4 < 7;decide) hv λw4 S4 H4=>?_;refine r_lns ?_;exact k _ _ (S2.trans (S3.trans S4)) (Zcr hj hp H4)
theorem Zja {j:Nat}(H:Holds w L) (hj:L[j]?=some (LnR ln pa cb wt out ov)) (hn:out.length<=1099511627776) (k:∀ w',Same w w'->Holds w' L->K (S_ out) w'):Cl prog 109 #[.pointer (some ⟨ln,3,none⟩)] w K:=by
 refine Tz109 ?_;unfold Vz109;refine r_dr H λw1 S1 H0=>?_;obtain⟨p,v,hp,H2⟩:=Zaa H0 hj;refine r_nc (r_fo (r_ld 0 H2 (v:=v) rfl rfl ?_));obtain⟨oa,sp,hv,_⟩:=H2.openF 1 rfl;refine Zvq (e:=L42.tU8) (pty:=241) (ity:=3) (by kernel_rfl) (by kernel_rfl) (by kernel_rfl) H2 1 rfl hn λpv w3 S3 H3 hust=>?_;refine r_nc (r_fo (r_ld 0 H3 (v:=v) rfl rfl ?_));refine r_rk (r_ld 0 H2 rfl rfl rfl) ?_;rw[hv];refine r_lnl (r_rk (r_lnl rfl) ?_);refine hust _ (λw4 S4 H4=>?_) _;have H5:=Zcr hj hp H4;rw[Zb0 hj] at H5;exact k _ ((S1.trans S3).trans S4) H5
theorem Zds {j ty jb e:Nat}{t da:List UInt8}(H:Holds w L) (hj:L[j]?=some (LnR ln pa cb wt out ov)) (h1:jb<=4294967295) (h2:t.length<=65536)
  (hc:((ty=65\/ty=70)/\jb=0\/ty=66)/\e=0/\da=t\/ty=69/\1<=e/\e<=255/\t=[]/\da=[UInt8.ofNat e]) (hn:out.length<=1000000000)
  (k:∀ w',Same w w'->Holds w' (L.set j (LnR ln pa cb wt (out++encF ⟨ty,jb,da⟩) ov))->K (.tuple #[]) w'):Cl prog 81 #[pt ln,.agg (cellsN ty jb t e).toArray] w K:=by
 refine Tz81 ?_;unfold Vz81;refine r_new H λab w1 S1 H1=>?_;replace H1:Holds w1 (blk ab tAn (cellsN ty jb t e)::L):=H1;refine r_ldA 0 H1 (cellsN ty jb t e) rfl rfl rfl ?_
 have hty:cli ty\/srv ty:=by unfold cli srv;omega
 have hdl:da.length<=65536:=by
  rcases hc with⟨_,_,rfl⟩|⟨_,_,_,_,rfl⟩
  ·exact h2
  ·show 1<=65536;decide
 have go:∀ w2,Same w1 w2->Holds w2 (blk ab tAn (cellsN ty jb t e)::L)->Ex (.tuple #[.agg (cellsF ⟨ty,jb,da⟩).toArray,iv 0]) 0 λx_4=>Ex (.tuple #[.agg (cellsF ⟨ty,jb,da⟩).toArray,iv 0]) 1 λx_5=>New (zeroP prog tFr) tFr w2 λf_6 w3=>
   StA 3 f_6 x_4 w3 λw4=>LdA 3 f_6 w4 λx_7=>Cl prog 116 #[x_7] w4 λx_8 w5=>Ex x_8 0 λx_9=>Ex x_8 1 λx_10=>Nc (pt ln) <| Fo 3 (pt ln) λx_11=>Cl prog 117 #[x_11,x_9] w5 λx_12 w6=>K (.tuple #[]) w6:=by
  intro w2 S2 H2;refine Za6 (Za5 ?_);refine r_new H2 λfb w3 S3 H3=>?_;rw[Zaq] at H3;refine r_stA 0 H3 (vs:=cellsF ⟨ty,jb,da⟩) rfl (Nat.le_refl 3) rfl rfl λw4 S4 H4=>?_;refine r_ldA 0 H4 (cellsF ⟨ty,jb,da⟩) rfl rfl rfl ?_;refine Zlf (f:=⟨ty,jb,da⟩) H4 hty h1 hdl λw5 S5 H5=>?_;refine Za6 (Za5 (r_nc (r_fo0 ?_)))
  have hj2:(blk fb tFr (cellsF ⟨ty,jb,da⟩)::blk ab tAn (cellsN ty jb t e)::L)[j+2]?=some (LnR ln pa cb wt out ov):=by
   rw[gF,gF];exact hj
  refine Zl7 H5 hj2 (by rw[Zby];show out.length+(9+da.length)<=_;omega) λv w6 S6 H6=>?_;exact k w6 (S1.trans (S2.trans (S3.trans (S4.trans (S5.trans S6))))) H6.drop.drop
 rcases hc with⟨hc,rfl,rfl⟩|⟨rfl,he1,he2,rfl,rfl⟩
 ·exact Zl4 H1 h1 h2 hc go
 ·exact Zkq H1 h1 he1 he2 go
theorem Zgc {j jb e:Nat}(H:Holds w L) (hj:L[j]?=some (LnR ln pa cb wt out ov)) (h1:jb<=4294967295) (he1:1<=e) (he2:e<=255) (hn:out.length<=1000000000)
  (k:∀ w',Same w w'->Holds w' (L.set j (LnR ln pa cb wt (out++encF ⟨69,jb,[UInt8.ofNat e]⟩) ov))->K (.tuple #[]) w'):Cl prog 57 #[pt ln,nv jb,nv e] w K:=by
 refine Tz57 ?_;unfold Vz57;refine r_bd (v:=.agg (cellsN 69 jb [] e).toArray) (by kernel_rfl) ?_;exact Zds H hj h1 (by show 0<=65536;decide) (.inr ⟨rfl,he1,he2,rfl,rfl⟩) hn k
end F33
end Go.Proofs.YtgdfganaoehokaaGreatDoor
namespace Go.Vc
theorem Zws {P:Program}{w:World}{t e ty:TypeId}{inf:TypeInfo}{K:KT}(hu:P.underlying t=some (.slice e)) (hi:P.info? e=some inf) (h:K (.slice none 0 0) w):Ap P #[t,t] ty #[.slice none 0 0,.slice none 0 0] w K:=
 ⟨_,_,run_append_nothing w t t ty e inf hu hi none 0 0 (by omega) _ (Src.ofNil w hu 0),h⟩
end Go.Vc
namespace Go.Proofs.YtgdfganaoehokaaGreatDoor
open Go Go.Vc Go.Proofs.Tryz
attribute [local irreducible] Vc.Nc Vc.Ld Vc.LdA Vc.St Vc.StA Vc.Fo Vc.Iaa Vc.Ias Vc.Ixs Vc.Ixa Vc.Fd Vc.FdA Vc.Bp Vc.Bb Vc.Bn Vc.Up Vc.Ci Vc.Lns Vc.Lnl Vc.Ex Vc.Sst Vc.Ssl Vc.New Vc.Vif Vc.VJoin Vc.VLoop Vc.KE Vc.Dr Vc.Rk Vc.Cl Vc.Cx Vc.Inv Vc.Be Vc.Cv Vc.Cw Vc.Mf Vc.Sl Vc.Lk Vc.Bd Vc.Bs Vc.Ms Vc.Mm Vc.Mu Vc.Me Vc.Es Vc.Rg Vc.Nx Vc.Ta Vc.Ap Vc.Usd Vc.Ust Vc.Cp Vc.Ln Vc.Bc Vc.Bmin Vc.Bmax Vc.Bdel Vc.Bclr Vc.Pk
namespace F33
open Go.M01 Go.M02 W01 W02 U38
variable {w:World}{L:List HProp}{K:KT}{b:Nat}
abbrev ptr (b:Nat):Value:=.pointer (some ⟨b,0,none⟩)
abbrev tSb:Nat:=429
theorem Zq6:(zeroP prog tSb).cells.toList=[S_ [],.int .u32 0,iv 0]:=by kernel_rfl
theorem Zu3:(zeroP prog 340).cells.toList=[.int .u8 0,iv 0]:=by kernel_rfl
theorem Zkj (H:Holds w L) (k:∀ w',Same w w'->Holds w' L->K (.tuple #[S_ [],iv 1]) w'):Cl prog 377 #[.agg #[.int .u8 0,iv 0]] w K:=by
 refine Tz377 ?_;unfold Vz377;refine r_new H λpb w1 S1 H1=>?_;replace H1:Holds w1 (blk pb 340 [.int .u8 0,iv 0]::L):=H1;refine Za0 (λx w'=>w1=w'/\x=.bool true) ?_ ?_
 rotate_left
 ·exact r_fo0 (r_ld 0 H1 rfl rfl (r_lss (r_vtD (by decide) (r_ke ⟨rfl,rfl⟩))))
 rintro _ _ _ ⟨rfl,rfl⟩;exact r_vt (k w1 S1 H1.drop)
theorem Zku (H:Holds w (blk b tPack [.int .u8 0,nv 0]::L)) (k:∀ w',Same w w'->Holds w' (blk b tPack [.int .u8 0,nv 0]::L)->K (S_ []) w'):Cl prog 356 #[ptr b] w K:=by
 refine Tz356 ?_;unfold Vz356;refine Za3 (r_vf ?_);refine Tz369 ?_;unfold Vz369;refine r_nc (r_fo0 ?_);refine r_ldA 0 H [.int .u8 0,iv 0] rfl rfl rfl ?_;refine Zkj H λw1 S1 H1=>?_;refine Za6 (Za5 ?_);refine r_bd (v:=.agg #[.int .u8 0,iv 0]) (by kernel_rfl) ?_;refine r_nc (r_fo0 ?_);refine r_stA 0 H1 (vs:=[.int .u8 0,iv 0]) rfl (Nat.le_refl 2) rfl rfl λw2 S2 H2=>?_;exact k _ (S1.trans S2) H2
theorem Zkx {r:Nat}(H:Holds w (SplR0 b r::L)) (k:∀ w',Same w w'->Holds w' (SplR0 b r::L)->K (.slice none 0 0) w'):Cl prog 347 #[ptr b] w K:=by
 refine Tz347 ?_;unfold Vz347;obtain⟨b1,b2,H0⟩:=Zhh H;refine Za3 (r_vf (r_nc (r_fo0 (r_ld 0 H0 rfl rfl ?_))));have H1:Holds w (blk b2 tPack [.int .u8 0,nv 0]::blk b tSplit [.slice none 0 0,.pointer (some ⟨b1,0,none⟩),nv 0,nv r,.pointer (some ⟨b2,0,none⟩)]::blk b1 tSum (tabL.map uv++[uv 4294967295])::L):=(by have h_:=Holds.ord 3 [2,0,1] H0 rfl;exact h_);refine Zlq H1 rfl λw2 S2 H2=>?_;refine r_new H2 λrb w3 S3 H3=>?_;rw[Zu3] at H3;refine r_stA 0 H3 (vs:=[.int .u8 0,nv 0]) rfl (Nat.le_refl 2) rfl rfl λw4 S4 H4=>?_;replace H4:Holds w4 (blk rb 340 [.int .u8 0,iv 0]::blk b2 tPack [.int .u8 0,nv 0]::blk b tSplit [.slice none 0 0,.pointer (some ⟨b1,0,none⟩),nv 0,nv r,.pointer (some ⟨b2,0,none⟩)]::blk b1 tSum (tabL.map uv++[uv 4294967295])::L):=H4;refine Za0 (λx w'=>x=.slice none 0 0/\Same w w'/\Holds w' (blk b tSplit [.slice none 0 0,.pointer (some ⟨b1,0,none⟩),nv 0,nv r,.pointer (some ⟨b2,0,none⟩)]::blk b1 tSum (tabL.map uv++[uv 4294967295])::blk b2 tPack [.int .u8 0,nv 0]::L)) ?_ ?_
 rotate_left
 ·refine r_nc (r_fo0 (r_ld 2 H4 rfl rfl ?_));refine Zku H4.drop λw5 S5 H5=>?_;refine Zmi (r_vfD (λh=>h rfl) ?_);exact r_ke ⟨rfl,S2.trans (S3.trans (S4.trans S5)),(by have h_:=Holds.ord 3 [1,2,0] H5 rfl;exact h_)⟩
 rintro _ _ w5 ⟨rfl,S,H5⟩;refine r_nc (r_fo0 ?_);refine Tz358 ?_;unfold Vz358;refine r_new H5 λq w6 S6 H6=>?_;rw[Zq6] at H6;refine r_nc (r_fo0 (r_ld 1 H6 rfl rfl (r_lnl (r_eql (r_vtE rfl ?_)))));refine r_bd (v:=.agg #[S_ [],.int .u32 0,iv 0]) (by kernel_rfl) ?_;refine r_stA 0 H6 (vs:=[S_ [],.int .u32 0,iv 0]) rfl (Nat.le_refl 3) rfl rfl λw7 S7 H7=>?_;refine r_ldA 0 H7 [S_ [],.int .u32 0,iv 0] rfl rfl rfl ?_;refine Za6 (Za5 ?_);refine r_new H7 λnb w8 S8 H8=>?_;rw[Zq6] at H8;refine r_stA 0 H8 (vs:=[S_ [],.int .u32 0,iv 0]) rfl (Nat.le_refl 3) rfl rfl λw9 S9 H9=>?_;exact r_vf (k w9 (S.trans (S6.trans (S7.trans (S8.trans S9)))) (Zdd H9.drop.drop))
def cellsPr (win:Nat) (inp:List UInt8) (en:Bool) (bs:Nat) (fl:Bool) (bt:Nat) (head:List UInt8):List Value:=[nv win,S_ inp,.bool en,ptr bs,.bool fl,.slice none 0 0,.pointer none,nv 0,ptr bt,S_ head,.bool false,nv 0]
def PrQ (b win:Nat) (inp:List UInt8) (en:Bool) (head:List UInt8):HProp:=λh=>∃ bs fl bt room,Sat [blk b tPress (cellsPr win inp en bs fl bt head),SplR0 bs room] h
theorem Zbx {win:Nat}{inp head:List UInt8}{en:Bool}(H:Holds w (PrQ b win inp en head::L)):∃ bs fl bt room,Holds w (blk b tPress (cellsPr win inp en bs fl bt head)::SplR0 bs room::L):=by
 obtain⟨bs,H⟩:=Holds.ex H;obtain⟨fl,H⟩:=Holds.ex H;obtain⟨bt,H⟩:=Holds.ex H;obtain⟨room,H⟩:=Holds.ex H;exact⟨bs,fl,bt,room,Holds.unpack (A:=[_,_]) H⟩
theorem Zc2 {win bs bt room:Nat}{fl:Bool}{inp head:List UInt8}{en:Bool}(H:Holds w (blk b tPress (cellsPr win inp en bs fl bt head)::SplR0 bs room::L)):Holds w (PrQ b win inp en head::L):=
 Holds.imp (Holds.pack (A:=[_,_]) H) λh hh=>⟨bs,fl,bt,room,hh⟩
theorem Ztr:∀ lv,1<=lv->lv<=9->wholeB (headB lv)=headF 1 lv:=by
 have:∀ lv,lv < 10->1<=lv->wholeB (headB lv)=headF 1 lv:=by decide +kernel
 exact λlv h1 h2=>this lv (by omega) h1
theorem Zwq {win room lv:Nat}(h1:1<=lv) (h2:lv<=9) (H:Holds w (PrR0 b win room lv ⟨#[]⟩::L)):Holds w (PrQ b win [] false (headF 1 lv)::L):=by
 obtain⟨bs,bt,bw,H⟩:=Zon H;rw[Ztr lv h1 h2] at H;exact Zc2 (bs:=bs) (fl:=false) (bt:=bt) (room:=room) (Holds.dropAt (Holds.dropAt H 2) 2)
section
variable {win:Nat}{inp head s:List UInt8}{en:Bool}
theorem Znm (H:Holds w (PrQ b win inp en head::L)) (k:K (.bool false) w):Cl prog 332 #[ptr b] w K:=by
 refine Tz332 ?_;unfold Vz332;obtain⟨bs,fl,bt,room,H0⟩:=Zbx H
 repeat (first|refine r_nc ?_|refine r_fo0 ?_|(with_reducible first|refine Zfz ?_|refine r_vt ?_))
 refine r_ld 0 H0 rfl rfl ?_;exact k
theorem Zo7 (H:Holds w (PrQ b win inp false head::L)) (h6:win<=1048576) (hi:inp.length<=win) (hs:s.length<=1000000000) (k:∀ w',Same w w'->Holds w' (PrQ b win (inp++s.take (min s.length (win - inp.length))) false head::L)->K (nv (min s.length (win - inp.length))) w') :
  Cl prog 334 #[ptr b,S_ s] w K:=by
 refine Tz334 ?_;unfold Vz334;obtain⟨bs,fl,bt,room,H0⟩:=Zbx H;refine Za0 (λx w'=>w=w'/\x=.bool false) ?_ ?_
 rotate_left
 ·exact Za3 (r_vf (r_nc (r_fo0 (r_ld 0 H0 rfl rfl (r_ke ⟨rfl,rfl⟩)))))
 rintro _ _ _ ⟨rfl,rfl⟩;refine r_vf (r_dr H0 λw1 S1 H1=>?_);refine q_len (r_nc (r_fo0 (r_ld 0 H1 rfl rfl (r_nc (r_fo0 (r_ld 0 H1 rfl rfl (q_len ?_)))))));refine r_sub (by omega) (by omega) (r_min ?_);rw[show min (s.length:Int) ((win:Int) - (inp.length:Int))=((min s.length (win - inp.length):Nat):Int) by omega];refine r_dr H1 λw2 S2 H2=>?_;refine r_nc (r_fo0 (r_ld 0 H2 rfl rfl (q_T (by omega) ?_)));refine Zbr (by rw[gN];omega) ?_;refine r_nc (r_fo0 (r_st 0 H2 rfl (by simp[cellsPr]) rfl λw3 S3 H3=>?_));exact k w3 (S1.trans (S2.trans S3)) (Zc2 (fl:=fl) (bt:=bt) (room:=room) H3)
theorem Zlg (H:Holds w (PrQ b win inp true head::L)) (k:K (iv 0) w):Cl prog 334 #[ptr b,S_ s] w K:=by
 refine Tz334 ?_;unfold Vz334;obtain⟨bs,fl,bt,room,H0⟩:=Zbx H;refine Za0 (λx w'=>w=w'/\x=.bool true) ?_ ?_
 rotate_left
 ·exact Za3 (r_vf (r_nc (r_fo0 (r_ld 0 H0 rfl rfl (r_ke ⟨rfl,rfl⟩)))))
 rintro _ _ _ ⟨rfl,rfl⟩;exact r_vt k
theorem Zop (H:Holds w (PrQ b win inp en head::L)) (k:∀ v w',Same w w'->Holds w' (PrQ b win inp true head::L)->K v w'):Cl prog 333 #[ptr b] w K:=by
 refine Tz333 ?_;unfold Vz333;obtain⟨bs,fl,bt,room,H0⟩:=Zbx H;refine Za0 (λx w'=>w=w'/\x=.bool en) ?_ ?_
 rotate_left
 ·exact Za3 (r_vf (r_nc (r_fo0 (r_ld 0 H0 rfl rfl (r_ke ⟨rfl,rfl⟩)))))
 rintro _ _ _ ⟨rfl,rfl⟩
 cases en with
 |true=>exact r_vt (k _ w (.refl w) H)
 |false=>
  refine r_vf (r_nc (r_fo0 (r_st 0 H0 rfl (by simp[cellsPr]) rfl λw1 S1 H1=>?_)));replace H1:Holds w1 (blk b tPress (cellsPr win inp true bs fl bt head)::SplR0 bs room::L):=H1;refine Tz341 ?_;unfold Vz341;refine Za0 (λx w'=>w1=w'/\∃ z:Bool,x=.bool z) ?_ ?_
  rotate_left
  ·refine r_nc (r_fo0 (r_ld 0 H1 (v:=.bool true) rfl rfl (r_vt ?_)));refine r_nc (r_fo0 (r_ld 0 H1 rfl rfl (Zdm (r_ifD (λh=>?_) λh=>r_ke ⟨rfl,_,rfl⟩))));exact r_nc (r_fo0 (r_ld 0 H1 (v:=.bool fl) rfl rfl (r_not (r_ke ⟨rfl,_,rfl⟩))))
  rintro _ _ _ ⟨rfl,z,rfl⟩;refine r_vif (λ_=>?_) λ_=>k _ w1 S1 (Zc2 (fl:=fl) (bt:=bt) (room:=room) H1);refine r_dr H1 λw2 S2 H2=>?_;refine r_nc (r_fo0 (r_ld 0 H2 rfl rfl (r_nc (r_fo0 (r_ld 0 H2 rfl rfl ?_)))));refine Zkx H2.swap λw3 S3 H3=>?_;have H4:=H3.swap;refine r_rk (r_ld 0 H4 rfl rfl rfl) ?_;refine Zws (inf:=t429) (e:=429) (by kernel_rfl) (by kernel_rfl) ?_;refine r_nc (r_fo0 (r_st 0 H4 rfl (by simp[cellsPr]) rfl λw5 S5 H5=>?_));refine r_nc (r_fo0 (r_st 0 H5 rfl (by simp[cellsPr]) rfl λw6 S6 H6=>?_));exact k _ w6 (S1.trans (S2.trans (S3.trans (S5.trans S6)))) (Zc2 (fl:=true) (bt:=bt) (room:=room) H6)
theorem Zhw (H:Holds w (PrQ b win inp en head::L)) (k:∀ z w',Same w w'->Holds w' (PrQ b win inp en head::L)->K (.bool z) w'):Cl prog 338 #[ptr b] w K:=by
 refine Tz338 ?_;unfold Vz338;obtain⟨bs,fl,bt,room,H0⟩:=Zbx H;refine Za0 (λx w'=>w=w'/\x=.bool false) ?_ ?_
 rotate_left
 ·exact Za3 (r_vf (r_nc (r_fo0 (r_ld 0 H0 rfl rfl (r_ke ⟨rfl,rfl⟩)))))
 rintro _ _ _ ⟨rfl,rfl⟩;refine r_vf ?_
 have who:∀ {K:KT},K (.bool false) w->Cl prog 346 #[ptr b] w K:=by
  intro K k;refine Tz346 ?_;unfold Vz346;exact r_nc (r_fo0 (r_ld 0 H0 rfl rfl (r_lnl (r_gtr k))))
 refine Tz345 ?_;unfold Vz345;refine who (r_vf (r_nc (r_fo0 (r_ld 0 H0 (v:=.bool fl) rfl rfl ?_))))
 cases fl with
 |true=>exact r_vt (r_nc (r_fo0 (r_ld 0 H0 rfl rfl (Zmi (k _ w (.refl w) H)))))
 |false=>
  refine r_vf (who (r_not (r_vt ?_)));exact r_nc (r_fo0 (r_ld 0 H0 rfl rfl (Zdm (k _ w (.refl w) H))))
theorem Zim (H:Holds w (PrQ b win inp en head::L)) (k:K (nv head.length) w):Cl prog 340 #[ptr b] w K:=by
 refine Tz340 ?_;unfold Vz340;obtain⟨bs,fl,bt,room,H0⟩:=Zbx H;exact Za3 (r_vf (r_nc (r_fo0 (r_ld 0 H0 rfl rfl (q_len k)))))
theorem Zo8 {n:Nat}(H:Holds w (PrQ b win inp en head::L)) (h1:1<=n) (h2:n<=head.length) (k:∀ w',Same w w'->Holds w' (PrQ b win inp en (head.drop n)::L)->K (S_ (head.take n)) w'):Cl prog 339 #[ptr b,nv n] w K:=by
 refine Tz339 ?_;unfold Vz339;obtain⟨bs,fl,bt,room,H0⟩:=Zbx H;refine Za0 (λx w'=>w=w'/\x=.bool false) ?_ ?_
 rotate_left
 ·refine Za3 (r_vf (r_lss (r_ke ⟨rfl,?_⟩)));rw[decide_eq_false (by omega)]
 rintro _ _ _ ⟨rfl,rfl⟩;refine r_vf (r_nc (r_fo0 (r_ld 0 H0 rfl rfl (q_len (r_min ?_)))));rw[show min (n:Int) (head.length:Int)=(n:Int) by omega];refine r_nc (r_fo0 (r_ld 0 H0 rfl rfl (q_T h2 ?_)));refine r_nc (r_fo0 (r_ld 0 H0 rfl rfl (q_D h2 ?_)));refine r_nc (r_fo0 (r_st 0 H0 rfl (by simp[cellsPr]) rfl λw2 S2 H2=>?_));exact k w2 S2 (Zc2 (fl:=fl) (bt:=bt) (room:=room) H2)
end
abbrev tExp:Nat:=309
abbrev tRd:Nat:=330
abbrev tUr:Nat:=294
abbrev tTs:Nat:=313
theorem Zey {u:Nat}(H:Holds w L) (h3:24<=u) (h4:u<=100000) (post:∀ b w',Same w w'->Holds w' (blk b tUr [nv u,iv 0,iv 0,iv 0,.pointer none,.string ⟨#[]⟩,iv 0,.int .u32 0,.int .u32 0,.bool false,iv 0]::L)->K (.tuple #[ptr b,iv 0]) w') :
  Cl prog 208 #[nv u] w K:=by
 refine Tz208 ?_;unfold Vz208;refine Zdt (by omega) (by omega) (by omega) (by omega) λr g1 g2 g3=>?_
 repeat (first|refine r_neq ?_|(with_reducible first|refine Za6 ?_|refine Za5 ?_)|((with_reducible refine r_vfN ?h ?_);(case h=>omega)))
 refine r_bd (v:=.agg #[nv u,iv 0,iv 0,iv 0,.pointer none,.string ⟨#[]⟩,iv 0,.int .u32 0,.int .u32 0,.bool false,iv 0]) (by kernel_rfl) ?_;refine r_new H λb w2 S2 H2=>?_;exact post b _ S2 H2
theorem Zgr {s:ByteArray}(H:Holds w L) (post:∀ b w',Same w w'->Holds w' (blk b tRd [.string s,iv 0,iv 0]::L)->K (ptr b) w'):Cl prog 222 #[.string s] w K:=by
 refine Tz222 ?_;unfold Vz222;refine r_bd (v:=.agg #[.string s,iv 0,iv 0]) (by kernel_rfl) ?_;refine r_new H λb w2 S2 H2=>?_;exact post b _ S2 H2
theorem Zcy {s:ByteArray}{r:List Value}(i:Nat) (H:Holds w L) (hi:L[i]?=some (blk b tRd (.string s::r))) (post:K (nv s.size) w):Cl prog 465 #[ptr b] w K:=by
 refine Tz465 ?_;unfold Vz465
 repeat (first|refine r_nc ?_|refine r_fo0 ?_|(with_reducible first|refine Za3 ?_|refine r_vf ?_))
 refine r_ld i H hi rfl ?_
 repeat (refine r_lns ?_)
 exact post
theorem more_spec {xs ys:List UInt8}{r:List Value}(H:Holds w (blk b tRd (.string ⟨xs.toArray⟩::r)::L)) (hs:xs.length+ys.length<=1000000000000) (post:∀ w',Same w w'->Holds w' (blk b tRd (.string ⟨(xs++ys).toArray⟩::r)::L)->K (iv 0) w') :
  Cl prog 466 #[ptr b,.string ⟨ys.toArray⟩] w K:=by
 refine Tz466 ?_;unfold Vz466
 repeat (first|refine r_nc ?_|refine r_fo0 ?_|(with_reducible first|refine Za3 ?_|refine r_vf ?_)|refine r_ld 0 H rfl rfl ?_)
 refine Zbr (by omega) ?_
 repeat (first|refine r_nc ?_|refine r_fo0 ?_)
 refine r_st 0 H rfl (Nat.succ_pos _) rfl λw2 S2 H2=>?_;exact post _ S2 H2
def cellsEx (win:Nat) (en:Bool) (bi br:Nat) (sh:Bool):List Value:=[nv win,nv 4096,.bool en,ptr bi,ptr br,.pointer none,.bool sh,.slice none 0 0,.bool false,iv 0,iv 0]
def UrQ (br:Nat):HProp:=λh=>∃ u,blk br tUr [nv u,iv 0,iv 0,iv 0,.pointer none,.string ⟨#[]⟩,iv 0,.int .u32 0,.int .u32 0,.bool false,iv 0] h
def ExQ (b win:Nat) (inp:List UInt8) (en:Bool):HProp:=λh=>∃ bi br sh,Sat [blk b tExp (cellsEx win en bi br sh),blk bi tRd [S_ inp,iv 0,iv 0],UrQ br] h
section
variable {win:Nat}{inp s:List UInt8}{en:Bool}
theorem Zbw (H:Holds w (ExQ b win inp en::L)):∃ bi br sh,Holds w (blk b tExp (cellsEx win en bi br sh)::blk bi tRd [S_ inp,iv 0,iv 0]::UrQ br::L):=by
 obtain⟨bi,H⟩:=Holds.ex H;obtain⟨br,H⟩:=Holds.ex H;obtain⟨sh,H⟩:=Holds.ex H;exact⟨bi,br,sh,Holds.unpack (A:=[_,_,_]) H⟩
theorem Zcp {bi br:Nat}{sh:Bool}(H:Holds w (blk b tExp (cellsEx win en bi br sh)::blk bi tRd [S_ inp,iv 0,iv 0]::UrQ br::L)):Holds w (ExQ b win inp en::L):=
 Holds.imp (Holds.pack (A:=[_,_,_]) H) λh hh=>⟨bi,br,sh,hh⟩
theorem Ziy {unit:Nat}(H:Holds w L) (h3:24<=unit) (h4:unit<=100000) (h5:64<=win) (h6:win<=1048576)
  (post:∀ b w',Same w w'->Holds w' (ExQ b win [] false::L)->K (.tuple #[ptr b,iv 0]) w'):Cl prog 211 #[nv unit,nv win,iv 4096] w K:=by
 refine Tz211 ?_;unfold Vz211;refine Zey H h3 h4 λbr w1 S1 H1=>?_
 repeat (first|(with_reducible first|refine Za6 ?_|refine Za5 ?_))
 refine Za0 (λx w'=>w1=w'/\x=.bool false) ?_ ?_
 rotate_left
 ·repeat (first|refine r_neq ?_|((with_reducible refine r_vfN ?h ?_);(case h=>omega)))
  refine Tz209 ?_;unfold Vz209
  repeat (first|refine r_ke ?_|refine r_leq ?_|refine r_geq ?_|refine r_not ?_|((with_reducible refine r_vtD ?h ?_);(case h=>omega)))
  exact⟨rfl,rfl⟩
 rintro _ _ _ ⟨rfl,rfl⟩;refine r_vf ?_;refine Zgr H1 λbi w2 S2 H2=>?_;refine r_bd (v:=.agg (cellsEx win false bi br false).toArray) (by kernel_rfl) ?_;refine r_new H2 λb w3 S3 H3=>?_;exact post b _ ((S1.trans S2).trans S3) (Zcp (br:=br) (sh:=false) (Holds.at H3 2 rfl (Q:=UrQ br) λg hg=>⟨unit,hg⟩))
theorem Zh4 (H:Holds w (ExQ b win inp en::L)) (k:K (.bool false) w):Cl prog 454 #[ptr b] w K:=by
 refine Tz454 ?_;unfold Vz454;obtain⟨bi,br,sh,H0⟩:=Zbw H
 repeat (first|refine r_nc ?_|refine r_fo0 ?_|(with_reducible first|refine Zfz ?_|refine r_vt ?_))
 refine r_ld 0 H0 rfl rfl ?_;exact k
theorem Zju (H:Holds w (ExQ b win inp en::L)) (k:K (iv 0) w):Cl prog 456 #[ptr b] w K:=by
 refine Tz456 ?_;unfold Vz456;obtain⟨bi,br,sh,H0⟩:=Zbw H;exact Za3 (r_vf (r_nc (r_fo0 (r_ld 0 H0 rfl rfl k))))
theorem Zhz (H:Holds w (ExQ b win inp en::L)) (k:K (iv 0) w):Cl prog 463 #[ptr b] w K:=by
 refine Tz463 ?_;unfold Vz463;obtain⟨bi,br,sh,H0⟩:=Zbw H;exact Za3 (r_vf (r_nc (r_fo0 (r_ld 0 H0 rfl rfl (r_lnl k)))))
theorem Zdr (H:Holds w (ExQ b win inp en::L)) (k:∀ z,K (.bool z) w):Cl prog 461 #[ptr b] w K:=by
 refine Tz461 ?_;unfold Vz461;obtain⟨bi,br,sh,H0⟩:=Zbw H;refine Za0 (λx w'=>w=w'/\x=.bool false) ?_ ?_
 rotate_left
 ·exact Za3 (r_vf (r_nc (r_fo0 (r_ld 0 H0 rfl rfl (r_ke ⟨rfl,rfl⟩)))))
 rintro _ _ _ ⟨rfl,rfl⟩;refine r_vf (r_nc (r_fo0 (r_ld 0 H0 rfl rfl (Zti (r_vf ?_)))));exact r_nc (r_fo0 (r_ld 0 H0 rfl rfl (k sh)))
theorem Zgz (H:Holds w (ExQ b win inp false::L)) (h6:win<=1048576) (hi:inp.length<=win) (hs:s.length<=1000000000) (k:∀ w',Same w w'->Holds w' (ExQ b win (inp++s.take (min s.length (win - inp.length))) false::L)->K (nv (min s.length (win - inp.length))) w') :
  Cl prog 457 #[ptr b,S_ s] w K:=by
 refine Tz457 ?_;unfold Vz457;obtain⟨bi,br,sh,H0⟩:=Zbw H;refine Za0 (λx w'=>w=w'/\x=.bool false) ?_ ?_
 rotate_left
 ·exact Za3 (r_vf (r_nc (r_fo0 (r_ld 0 H0 (v:=.bool false) rfl rfl (r_vf (r_nc (r_fo0 (r_ld 0 H0 (v:=.bool false) rfl rfl (r_ke ⟨rfl,rfl⟩)))))))))
 rintro _ _ _ ⟨rfl,rfl⟩;refine r_vf (r_dr H0 λw1 S1 H1=>?_);refine q_len (r_nc (r_fo0 (r_ld 0 H1 rfl rfl (r_nc (r_fo0 (r_ld 0 H1 rfl rfl ?_))))));refine Zcy 1 H1 rfl ?_;refine r_rk (r_ld 0 H1 rfl rfl rfl) (r_rk (q_len rfl) ?_);rw[sz];refine r_sub (by omega) (by omega) (r_min ?_);rw[show min (s.length:Int) ((win:Int) - (inp.length:Int))=((min s.length (win - inp.length):Nat):Int) by omega];generalize hn:min s.length (win - inp.length)=n at k ⊢;refine r_dr H1 λw2 S2 H2=>?_;refine r_nc (r_fo0 (r_ld 0 H2 rfl rfl (q_T (by omega) ?_)));refine more_spec (H2.front 1 rfl) (by rw[gN];omega) λw3 S3 H3=>?_;have H4:Holds w3 (blk b tExp (cellsEx win false bi br sh)::blk bi tRd [S_ (inp++s.take n),iv 0,iv 0]::UrQ br::L):=H3.swap;refine r_gtr (r_ifD (λh=>?_) λh=>k _ (S1.trans (S2.trans S3)) (Zcp (br:=br) (sh:=sh) H4));refine r_nc (r_fo0 (r_st 0 H4 rfl (by simp[cellsEx]) rfl λw5 S5 H5=>?_));exact k _ (S1.trans (S2.trans (S3.trans S5))) (Zcp (br:=br) (sh:=false) H5)
theorem Zfy (H:Holds w (ExQ b win inp true::L)) (k:K (iv 0) w):Cl prog 457 #[ptr b,S_ s] w K:=by
 refine Tz457 ?_;unfold Vz457;obtain⟨bi,br,sh,H0⟩:=Zbw H;refine Za0 (λx w'=>w=w'/\x=.bool true) ?_ ?_
 rotate_left
 ·exact Za3 (r_vf (r_nc (r_fo0 (r_ld 0 H0 (v:=.bool true) rfl rfl (r_vt (r_ke ⟨rfl,rfl⟩))))))
 rintro _ _ _ ⟨rfl,rfl⟩;exact r_vt k
theorem Ziw (H:Holds w (ExQ b win inp en::L)) (k:∀ v w',Same w w'->Holds w' (ExQ b win inp true::L)->K v w'):Cl prog 455 #[ptr b] w K:=by
 refine Tz455 ?_;unfold Vz455;obtain⟨bi,br,sh,H0⟩:=Zbw H;refine Za0 (λx w'=>w=w'/\x=.bool en) ?_ ?_
 rotate_left
 ·exact Za3 (r_vf (r_nc (r_fo0 (r_ld 0 H0 rfl rfl (r_ke ⟨rfl,rfl⟩)))))
 rintro _ _ _ ⟨rfl,rfl⟩
 cases en with
 |true=>exact r_vt (k _ w (.refl w) H)
 |false=>
  refine r_vf (r_nc (r_fo0 (r_st 0 H0 rfl (by simp[cellsEx]) rfl λw1 S1 H1=>?_)));refine r_nc (r_fo0 (r_st 0 H1 rfl (by simp[cellsEx]) rfl λw2 S2 H2=>?_));exact k _ w2 (S1.trans S2) (Zcp (br:=br) (sh:=false) H2)
def TsQ (b win:Nat) (inp:List UInt8) (en:Bool):HProp:=λh=>∃ bx,Sat [blk b tTs [ptr bx,iv 0,S_ [],.bool false],ExQ bx win inp en] h
theorem Zbu (H:Holds w (TsQ b win inp en::L)):∃ bx,Holds w (blk b tTs [ptr bx,iv 0,S_ [],.bool false]::ExQ bx win inp en::L):=by
 obtain⟨bx,H⟩:=Holds.ex H;exact⟨bx,Holds.unpack (A:=[_,_]) H⟩
theorem Zdq {bx:Nat}(H:Holds w (blk b tTs [ptr bx,iv 0,S_ [],.bool false]::ExQ bx win inp en::L)):Holds w (TsQ b win inp en::L):=
 Holds.imp (Holds.pack (A:=[_,_]) H) λh hh=>⟨bx,hh⟩
theorem Zpm {unit:Nat}(H:Holds w L) (h3:24<=unit) (h4:unit<=100000) (h5:64<=win) (h6:win<=1048576)
  (post:∀ b w',Same w w'->Holds w' (TsQ b win [] false::L)->K (.tuple #[ptr b,iv 0]) w'):Cl prog 212 #[nv unit,nv win] w K:=by
 refine Tz212 ?_;unfold Vz212;refine Ziy H h3 h4 h5 h6 λbx w1 S1 H1=>?_;refine Za6 (Za5 (r_neq (r_vfN rfl ?_)));refine r_bd (v:=.agg #[ptr bx,iv 0]) (by kernel_rfl) ?_;refine r_bd (v:=.agg #[ptr bx,iv 0,S_ [],.bool false]) (by kernel_rfl) ?_;refine r_new H1 λb w3 S3 H3=>?_;exact post b _ (S1.trans S3) (Zdq H3)
theorem Zoc (H:Holds w (TsQ b win inp en::L)) (k:K (.bool false) w):Cl prog 487 #[ptr b] w K:=by
 refine Tz487 ?_;unfold Vz487;obtain⟨bx,H0⟩:=Zbu H
 repeat (first|refine r_nc ?_|refine r_fo0 ?_|(with_reducible first|refine Zfz ?_|refine r_vt ?_))
 refine r_ld 0 H0 rfl rfl ?_;exact Zh4 H0.swap k
theorem Zqh (H:Holds w (TsQ b win inp en::L)) (k:K (iv 0) w):Cl prog 489 #[ptr b] w K:=by
 refine Tz489 ?_;unfold Vz489;obtain⟨bx,H0⟩:=Zbu H;exact Za3 (r_vf (r_nc (r_fo0 (r_fo0 (r_ld 0 H0 rfl rfl (Zju H0.swap k))))))
theorem Zic (H:Holds w (TsQ b win inp en::L)) (k:K (iv 0) w):Cl prog 496 #[ptr b] w K:=by
 refine Tz496 ?_;unfold Vz496;obtain⟨bx,H0⟩:=Zbu H;exact Za3 (r_vf (r_nc (r_fo0 (r_ld 0 H0 rfl rfl (q_len k)))))
theorem Zif (H:Holds w (TsQ b win inp en::L)) (k:∀ z,K (.bool z) w):Cl prog 494 #[ptr b] w K:=by
 refine Tz494 ?_;unfold Vz494;obtain⟨bx,H0⟩:=Zbu H;exact Za3 (r_vf (r_nc (r_fo0 (r_fo0 (r_ld 0 H0 rfl rfl (Zdr H0.swap k))))))
theorem Zmz (H:Holds w (TsQ b win inp false::L)) (h6:win<=1048576) (hi:inp.length<=win) (hs:s.length<=1000000000) (k:∀ w',Same w w'->Holds w' (TsQ b win (inp++s.take (min s.length (win - inp.length))) false::L)->K (nv (min s.length (win - inp.length))) w') :
  Cl prog 490 #[ptr b,S_ s] w K:=by
 refine Tz490 ?_;unfold Vz490;obtain⟨bx,H0⟩:=Zbu H
 repeat (first|refine r_nc ?_|refine r_fo0 ?_|(with_reducible first|refine Za3 ?_|refine r_vf ?_))
 refine r_ld 0 H0 rfl rfl ?_;exact Zgz H0.swap h6 hi hs λw2 S2 H2=>k w2 S2 (Zdq H2.swap)
theorem Zkg (H:Holds w (TsQ b win inp true::L)) (k:K (iv 0) w):Cl prog 490 #[ptr b,S_ s] w K:=by
 refine Tz490 ?_;unfold Vz490;obtain⟨bx,H0⟩:=Zbu H
 repeat (first|refine r_nc ?_|refine r_fo0 ?_|(with_reducible first|refine Za3 ?_|refine r_vf ?_))
 refine r_ld 0 H0 rfl rfl ?_;exact Zfy H0.swap k
theorem Zqi (H:Holds w (TsQ b win inp en::L)) (k:∀ v w',Same w w'->Holds w' (TsQ b win inp true::L)->K v w'):Cl prog 488 #[ptr b] w K:=by
 refine Tz488 ?_;unfold Vz488;obtain⟨bx,H0⟩:=Zbu H;exact Za3 (r_vf (r_nc (r_fo0 (r_fo0 (r_ld 0 H0 rfl rfl (Ziw H0.swap λv w2 S2 H2=>k v w2 S2 (Zdq H2.swap)))))))
end
end F33
namespace F33
open Go.M01 Go.M02 W01 W02 U38
variable {w:World}{L:List HProp}{K:KT}{j:Nat}
abbrev tPp:Nat:=273
abbrev tXp:Nat:=276
abbrev tTp:Nat:=279
abbrev tJob:Nat:=236
abbrev tFlow:Nat:=255
abbrev tStr:Nat:=257
def MaQ (k b win:Nat) (inp:List UInt8) (en:Bool) (head:List UInt8):HProp:=if k=1 then PrQ b win inp en head else if k=2 then ExQ b win inp en else TsQ b win inp en
def tM (k:Nat):Nat:=if k=1 then tPp else if k=2 then tXp else tTp
def Kd (k:Nat) (head:List UInt8):Prop:=k=1\/(k=2\/k=3)/\head=[]
def JobQ (k j win:Nat) (inp:List UInt8) (en:Bool) (head:List UInt8):HProp:=λh=>∃ bm,Kd k head/\Sat [blk j tJob [nv k,.iface (tM k) (ptr bm)],MaQ k bm win inp en head] h
section
variable {k win:Nat}{inp head s:List UInt8}{en:Bool}
theorem Zax (H:Holds w (JobQ k j win inp en head::L)):∃ bm,Kd k head/\Holds w (blk j tJob [nv k,.iface (tM k) (ptr bm)]::MaQ k bm win inp en head::L):=by
 obtain⟨bm,H⟩:=Holds.ex H;obtain⟨hk,H⟩:=Holds.pure H;exact⟨bm,hk,Holds.unpack (A:=[_,_]) H⟩
theorem Zaf {bm:Nat}(hk:Kd k head) (H:Holds w (blk j tJob [nv k,.iface (tM k) (ptr bm)]::MaQ k bm win inp en head::L)):Holds w (JobQ k j win inp en head::L):=
 Holds.imp (Holds.pack (A:=[_,_]) H) λh hh=>⟨bm,hk,hh⟩
theorem Zq1 {lv unit:Nat}(H:Holds w L) (hk:k=1/\1<=lv/\lv<=9\/(k=2\/k=3)/\lv=0) (h3:24<=unit) (h4:unit<=100000) (h5:64<=win) (h6:win<=1048576)
  (post:∀ j w',Same w w'->Holds w' (JobQ k j win [] false (headF k lv)::L)->K (.tuple #[ptr j,iv 0]) w'):Cl prog 134 #[nv k,nv lv,nv unit,nv win] w K:=by
 refine Tz134 ?_;unfold Vz134
 have fin:∀ bm w',Kd k (headF k lv)->Same w w'->Holds w' (MaQ k bm win [] false (headF k lv)::L)->Bd prog tJob #[(0,nv k),(1,.iface (tM k) (ptr bm))] w' λx_5=>New x_5 tJob w' λx_6 w2=>K (.tuple #[x_6,iv 0]) w2:=by
  intro bm w' hk S' H';refine r_bd (v:=.agg #[nv k,.iface (tM k) (ptr bm)]) (by kernel_rfl) ?_;refine r_new H' λb w2 S2 H2=>?_;exact post b _ (S'.trans S2) (Zaf hk H2)
 refine Tz183 ?_;unfold Vz183;rcases hk with⟨rfl,h1,h2⟩|⟨rfl|rfl,rfl⟩
 ·refine r_eql (r_vtE rfl ?_);refine Zi4 H h1 h2 h3 h4 h5 h6 λbm w1 S1 H1=>?_;refine Za6 (Za5 (Za6 (Za5 (r_neq (r_vfN rfl ?_)))));exact fin bm w1 (.inl rfl) S1 (Zwq h1 h2 H1)
 ·refine r_eql (r_vfE (by decide) (r_eql (r_vtE rfl ?_)));refine Ziy H h3 h4 h5 h6 λbm w1 S1 H1=>?_;refine Za6 (Za5 (Za6 (Za5 (r_neq (r_vfN rfl ?_)))));exact fin bm w1 (.inr ⟨.inl rfl,rfl⟩) S1 H1
 ·refine r_eql (r_vfE (by decide) (r_eql (r_vfE (by decide) (r_eql (r_vtE rfl ?_)))));refine Zpm H h3 h4 h5 h6 λbm w1 S1 H1=>?_;refine Za6 (Za5 (Za6 (Za5 (r_neq (r_vfN rfl ?_)))));exact fin bm w1 (.inr ⟨.inr rfl,rfl⟩) S1 H1
theorem Zc4 (H:Holds w (JobQ k j win inp en head::L)) (post:K (.bool false) w):Cl prog 190 #[ptr j] w K:=by
 refine Tz190 ?_;unfold Vz190;obtain⟨bm,hk,H0⟩:=Zax H;refine Zfz (r_vt (r_nc (r_fo0 (r_ld 0 H0 rfl rfl ?_))));rcases hk with rfl|⟨rfl|rfl,rfl⟩
 ·refine r_inv (f:=332) (args:=#[ptr bm]) (by kernel_rfl) ?_;exact Znm H0.swap post
 ·refine r_inv (f:=454) (args:=#[ptr bm]) (by kernel_rfl) ?_;exact Zh4 H0.swap post
 ·refine r_inv (f:=487) (args:=#[ptr bm]) (by kernel_rfl) ?_;exact Zoc H0.swap post
theorem Zdb (H:Holds w (JobQ k j win inp en head::L)) (post:K (.bool false) w):Cl prog 156 #[ptr j] w K:=by
 refine Tz156 ?_;unfold Vz156;exact Zc4 H (r_vf post)
theorem Zpo (H:Holds w (JobQ k j win inp en head::L)) (post:K (iv 0) w):Cl prog 157 #[ptr j] w K:=by
 refine Tz157 ?_;unfold Vz157;obtain⟨bm,hk,H0⟩:=Zax H;refine Za3 (r_vf (r_nc (r_fo0 (r_ld 0 H0 rfl rfl ?_))));rcases hk with rfl|⟨rfl|rfl,rfl⟩
 ·refine Ztn (z:=.nilIface) (i:=t273) underlying262 (by kernel_rfl) (by decide +kernel) (λw=>by kernel_rfl) ?_;exact Za6 (Za5 (r_vf post))
 ·refine r_ta (.tuple #[.iface tXp (ptr bm),.bool true]) (by kernel_rfl) ?_;refine Za6 (Za5 (r_vt ?_));refine r_inv (f:=456) (args:=#[ptr bm]) (by kernel_rfl) ?_;exact Zju H0.swap post
 ·refine r_ta (.tuple #[.iface tTp (ptr bm),.bool true]) (by kernel_rfl) ?_;refine Za6 (Za5 (r_vt ?_));refine r_inv (f:=489) (args:=#[ptr bm]) (by kernel_rfl) ?_;exact Zqh H0.swap post
theorem Zcs (H:Holds w (JobQ k j win inp en head::L)) (post:K (.bool false) w):Cl prog 197 #[ptr j] w K:=by
 refine Tz197 ?_;unfold Vz197;exact Zpo H (r_neq post)
theorem Ze1 (H:Holds w (JobQ k j win inp en head::L)) (post:K (nv head.length) w):Cl prog 195 #[ptr j] w K:=by
 refine Tz195 ?_;unfold Vz195;refine Za0 (λx w'=>w=w'/\x=.bool false) ?_ ?_
 rotate_left
 ·exact Za3 (r_vf (Zcs H (r_ke ⟨rfl,rfl⟩)))
 rintro _ _ _ ⟨rfl,rfl⟩;obtain⟨bm,hk,H0⟩:=Zax H;refine r_vf (r_nc (r_fo0 (r_ld 0 H0 rfl rfl ?_)));rcases hk with rfl|⟨rfl|rfl,rfl⟩
 ·refine r_inv (f:=340) (args:=#[ptr bm]) (by kernel_rfl) ?_;exact Zim H0.swap post
 ·refine r_inv (f:=463) (args:=#[ptr bm]) (by kernel_rfl) ?_;exact Zhz H0.swap post
 ·refine r_inv (f:=496) (args:=#[ptr bm]) (by kernel_rfl) ?_;exact Zic H0.swap post
theorem Zny {n:Nat}(H:Holds w (JobQ k j win inp en head::L)) (h1:1<=n) (h2:n<=head.length) (post:∀ w',Same w w'->Holds w' (JobQ k j win inp en (head.drop n)::L)->K (S_ (head.take n)) w'):Cl prog 194 #[ptr j,nv n] w K:=by
 refine Tz194 ?_;unfold Vz194;refine Za0 (λx w'=>w=w'/\x=.bool false) ?_ ?_
 rotate_left
 ·exact Za3 (r_vf (Zcs H (r_ke ⟨rfl,rfl⟩)))
 rintro _ _ _ ⟨rfl,rfl⟩;obtain⟨bm,hk,H0⟩:=Zax H;refine r_vf (r_nc (r_fo0 (r_ld 0 H0 rfl rfl ?_)));rcases hk with rfl|⟨_,rfl⟩
 ·refine r_inv (f:=339) (args:=#[ptr bm,nv n]) (by kernel_rfl) ?_;exact Zo8 H0.swap h1 h2 λw2 S2 H2=>post w2 S2 (Zaf (.inl rfl) H2.swap)
 ·exact absurd h2 (by show ¬ n<=0;omega)
theorem Zij (H:Holds w (JobQ k j win inp en head::L)) (post:∀ z w',Same w w'->Holds w' (JobQ k j win inp en head::L)->K (.bool z) w'):Cl prog 100 #[ptr j] w K:=by
 refine Tz100 ?_;unfold Vz100;obtain⟨bm,hk,H0⟩:=Zax H;refine Za3 (r_vf (r_nc (r_fo0 (r_ld 0 H0 rfl rfl ?_))));rcases hk with rfl|⟨rfl|rfl,rfl⟩
 ·refine r_inv (f:=338) (args:=#[ptr bm]) (by kernel_rfl) ?_;exact Zhw H0.swap λz w2 S2 H2=>post z w2 S2 (Zaf (.inl rfl) H2.swap)
 ·refine r_inv (f:=461) (args:=#[ptr bm]) (by kernel_rfl) ?_;exact Zdr H0.swap λz=>post z w (.refl w) H
 ·refine r_inv (f:=494) (args:=#[ptr bm]) (by kernel_rfl) ?_;exact Zif H0.swap λz=>post z w (.refl w) H
theorem Zhf (H:Holds w (JobQ k j win inp false head::L)) (h6:win<=1048576) (hi:inp.length<=win) (hs:s.length<=1000000000) (post:∀ w',Same w w'->Holds w' (JobQ k j win (inp++s.take (min s.length (win - inp.length))) false head::L)->K (nv (min s.length (win - inp.length))) w') :
  Cl prog 191 #[ptr j,S_ s] w K:=by
 refine Tz191 ?_;unfold Vz191;refine Za0 (λx w'=>w=w'/\x=.bool false) ?_ ?_
 rotate_left
 ·exact Za3 (r_vf (Zc4 H (r_ke ⟨rfl,rfl⟩)))
 rintro _ _ _ ⟨rfl,rfl⟩;obtain⟨bm,hk,H0⟩:=Zax H;refine r_vf (r_nc (r_fo0 (r_ld 0 H0 rfl rfl ?_)));have hk0:=hk;rcases hk with rfl|⟨rfl|rfl,rfl⟩
 ·refine r_inv (f:=334) (args:=#[ptr bm,S_ s]) (by kernel_rfl) ?_;exact Zo7 H0.swap h6 hi hs λw2 S2 H2=>post w2 S2 (Zaf hk0 H2.swap)
 ·refine r_inv (f:=457) (args:=#[ptr bm,S_ s]) (by kernel_rfl) ?_;exact Zgz H0.swap h6 hi hs λw2 S2 H2=>post w2 S2 (Zaf hk0 H2.swap)
 ·refine r_inv (f:=490) (args:=#[ptr bm,S_ s]) (by kernel_rfl) ?_;exact Zmz H0.swap h6 hi hs λw2 S2 H2=>post w2 S2 (Zaf hk0 H2.swap)
theorem Zkb (H:Holds w (JobQ k j win inp true head::L)) (post:K (iv 0) w):Cl prog 191 #[ptr j,S_ s] w K:=by
 refine Tz191 ?_;unfold Vz191;refine Za0 (λx w'=>w=w'/\x=.bool false) ?_ ?_
 rotate_left
 ·exact Za3 (r_vf (Zc4 H (r_ke ⟨rfl,rfl⟩)))
 rintro _ _ _ ⟨rfl,rfl⟩;obtain⟨bm,hk,H0⟩:=Zax H;refine r_vf (r_nc (r_fo0 (r_ld 0 H0 rfl rfl ?_)));rcases hk with rfl|⟨rfl|rfl,rfl⟩
 ·refine r_inv (f:=334) (args:=#[ptr bm,S_ s]) (by kernel_rfl) ?_;exact Zlg H0.swap post
 ·refine r_inv (f:=457) (args:=#[ptr bm,S_ s]) (by kernel_rfl) ?_;exact Zfy H0.swap post
 ·refine r_inv (f:=490) (args:=#[ptr bm,S_ s]) (by kernel_rfl) ?_;exact Zkg H0.swap post
theorem Zjq (H:Holds w (JobQ k j win inp en head::L)) (post:∀ v w',Same w w'->Holds w' (JobQ k j win inp true head::L)->K v w'):Cl prog 192 #[ptr j] w K:=by
 refine Tz192 ?_;unfold Vz192;obtain⟨bm,hk,H0⟩:=Zax H;refine Za3 (r_vf (r_nc (r_fo0 (r_ld 0 H0 rfl rfl ?_))));have hk0:=hk;rcases hk with rfl|⟨rfl|rfl,rfl⟩
 ·refine r_inv (f:=333) (args:=#[ptr bm]) (by kernel_rfl) ?_;exact Zop H0.swap λv w2 S2 H2=>post v w2 S2 (Zaf hk0 H2.swap)
 ·refine r_inv (f:=455) (args:=#[ptr bm]) (by kernel_rfl) ?_;exact Ziw H0.swap λv w2 S2 H2=>post v w2 S2 (Zaf hk0 H2.swap)
 ·refine r_inv (f:=488) (args:=#[ptr bm]) (by kernel_rfl) ?_;exact Zqi H0.swap λv w2 S2 H2=>post v w2 S2 (Zaf hk0 H2.swap)
end
section
variable {f k win tk:Nat}{inp head rest s:List UInt8}{en:Bool}
def cellsW (j:Nat) (rest:List UInt8) (en:Bool) (tk:Nat):List Value:=[ptr j,S_ rest,.bool en,nv tk]
theorem Zqv (H:Holds w L) (post:∀ f w',Same w w'->Holds w' (blk f tFlow (cellsW j [] false 0)::L)->K (.tuple #[ptr f,iv 0]) w'):Cl prog 135 #[ptr j] w K:=by
 refine Tz135 ?_;unfold Vz135;refine Za3 (r_vf ?_);refine r_bd (v:=.agg (cellsW j [] false 0).toArray) (by kernel_rfl) ?_;exact r_new H λb w2 S2 H2=>post b w2 S2 H2
theorem Zo3 (H:Holds w (blk f tFlow (cellsW j rest en tk)::L)) (post:K (nv rest.length) w):Cl prog 154 #[ptr f] w K:=by
 refine Tz154 ?_;unfold Vz154;exact Za3 (r_vf (r_nc (r_fo0 (r_ld 0 H rfl rfl (q_len post)))))
theorem Zho (H:Holds w (blk f tFlow (cellsW j rest false tk)::JobQ k j win inp false head::L)) (h6:win<=1048576) (hi:inp.length<=win) (hs:rest.length<=1000000000) (ht:tk<=1000000000)
  (post:∀ w',Same w w'->Holds w' (blk f tFlow (cellsW j (rest.drop (min rest.length (win - inp.length))) false (tk+min rest.length (win - inp.length)))::JobQ k j win (inp++rest.take (min rest.length (win - inp.length))) false head::L)->K (nv (min rest.length (win - inp.length))) w') :
  Cl prog 153 #[ptr f] w K:=by
 refine Tz153 ?_;unfold Vz153;refine Za3 (r_vf (r_nc (r_fo0 (r_ld 0 H rfl rfl (q_len (r_nc (r_fo0 (r_ld 0 H rfl rfl ?_))))))));refine Zc4 H.swap (r_vf ?_);refine r_dr H λw1 S1 H1=>?_;refine r_nc (r_fo0 (r_ld 0 H1 rfl rfl (r_nc (r_fo0 (r_ld 0 H1 rfl rfl ?_)))));refine Zhf H1.swap h6 hi hs λw2 S2 H2=>?_;have H3:=H2.swap;generalize hn:min rest.length (win - inp.length)=n at post H3 ⊢;refine r_nc (r_fo0 (r_ld 0 H3 rfl rfl (q_D (by omega) ?_)));refine r_nc (r_fo0 (r_st 0 H3 rfl (by simp[cellsW]) rfl λw4 S4 H4=>?_));refine r_nc (r_fo0 (r_ld 0 H4 rfl rfl (Zb1 (a:=tk) (b:=n) (by omega) ?_)));refine r_nc (r_fo0 (r_st 0 H4 rfl (by simp[cellsW]) rfl λw5 S5 H5=>?_));replace H5:Holds w5 (blk f tFlow (cellsW j (rest.drop n) false (tk+n))::JobQ k j win (inp++rest.take n) false head::L):=H5;refine Za0 (λx w'=>w5=w'/\x=.bool false) ?_ ?_
 rotate_left
 ·exact r_nc (r_fo0 (r_ld 0 H5 (v:=.bool false) rfl rfl (r_vf (r_ke ⟨rfl,rfl⟩))))
 rintro _ _ _ ⟨rfl,rfl⟩;exact r_vf (post w5 (S1.trans (S2.trans (S4.trans S5))) H5)
theorem Zgi (H:Holds w (blk f tFlow (cellsW j [] true tk)::JobQ k j win inp en head::L)) (h6:win<=1048576) (hi:inp.length<=win) (ht:tk<=1000000000)
  (post:∀ w',Same w w'->Holds w' (blk f tFlow (cellsW j [] true tk)::JobQ k j win inp true head::L)->K (iv 0) w') :
  Cl prog 153 #[ptr f] w K:=by
 refine Tz153 ?_;unfold Vz153;refine Za3 (r_vf (r_nc (r_fo0 (r_ld 0 H rfl rfl (q_len (r_nc (r_fo0 (r_ld 0 H rfl rfl ?_))))))));refine Zc4 H.swap (r_vf ?_);refine r_dr H λw1 S1 H1=>?_;refine r_nc (r_fo0 (r_ld 0 H1 rfl rfl (r_nc (r_fo0 (r_ld 0 H1 rfl rfl ?_)))))
 cases en with
 |true=>
  refine Zkb H1.swap ?_;refine r_nc (r_fo0 (r_ld 0 H1 rfl rfl (q_D (t:=[]) (m:=0) (by simp) ?_)));refine r_nc (r_fo0 (r_st 0 H1 rfl (by simp[cellsW]) rfl λw4 S4 H4=>?_));refine r_nc (r_fo0 (r_ld 0 H4 rfl rfl (Zb1 (a:=tk) (b:=0) (by omega) ?_)));refine r_nc (r_fo0 (r_st 0 H4 rfl (by simp[cellsW]) rfl λw5 S5 H5=>?_));replace H5:Holds w5 (blk f tFlow (cellsW j [] true tk)::JobQ k j win inp true head::L):=H5;refine Za0 (λx w'=>w5=w'/\x=.bool true) ?_ ?_
  rotate_left
  ·exact r_nc (r_fo0 (r_ld 0 H5 (v:=.bool true) rfl rfl (r_vt (r_nc (r_fo0 (r_ld 0 H5 rfl rfl (Zdm (r_ke ⟨rfl,rfl⟩))))))))
  rintro _ _ _ ⟨rfl,rfl⟩;refine r_vt (r_nc (r_fo0 (r_ld 0 H5 rfl rfl ?_)));exact Zjq H5.swap λv w6 S6 H6=>post w6 (S1.trans (S4.trans (S5.trans S6))) H6.swap
 |false=>
  refine Zhf (s:=[]) H1.swap h6 hi (by simp) λw2 S2 H2=>?_;rw[show min ([]:List UInt8).length (win - inp.length)=0 by simp,List.take_nil,gU] at H2;rw[show min ([]:List UInt8).length (win - inp.length)=0 by simp];have H3:=H2.swap;refine r_nc (r_fo0 (r_ld 0 H3 rfl rfl (q_D (t:=[]) (m:=0) (by simp) ?_)));refine r_nc (r_fo0 (r_st 0 H3 rfl (by simp[cellsW]) rfl λw4 S4 H4=>?_));refine r_nc (r_fo0 (r_ld 0 H4 rfl rfl (Zb1 (a:=tk) (b:=0) (by omega) ?_)));refine r_nc (r_fo0 (r_st 0 H4 rfl (by simp[cellsW]) rfl λw5 S5 H5=>?_));replace H5:Holds w5 (blk f tFlow (cellsW j [] true tk)::JobQ k j win inp false head::L):=H5;refine Za0 (λx w'=>w5=w'/\x=.bool true) ?_ ?_
  rotate_left
  ·exact r_nc (r_fo0 (r_ld 0 H5 (v:=.bool true) rfl rfl (r_vt (r_nc (r_fo0 (r_ld 0 H5 rfl rfl (Zdm (r_ke ⟨rfl,rfl⟩))))))))
  rintro _ _ _ ⟨rfl,rfl⟩;refine r_vt (r_nc (r_fo0 (r_ld 0 H5 rfl rfl ?_)));exact Zjq H5.swap λv w6 S6 H6=>post w6 (S1.trans (S2.trans (S4.trans (S5.trans S6)))) H6.swap
theorem Zpf (H:Holds w (blk f tFlow (cellsW j [] false tk)::JobQ k j win inp false head::L)) (h6:win<=1048576) (hi:inp.length<=win) (hs:s.length<=65536) (ht:tk<=1000000000)
  (post:∀ w',Same w w'->Holds w' (blk f tFlow (cellsW j (s.drop (min s.length (win - inp.length))) false (tk+min s.length (win - inp.length)))::JobQ k j win (inp++s.take (min s.length (win - inp.length))) false head::L)->K (iv 0) w') :
  Cl prog 139 #[ptr f,S_ s] w K:=by
 refine Tz139 ?_;unfold Vz139;refine Za3 (r_vf (r_nc (r_fo0 (r_ld 0 H (v:=.bool false) rfl rfl (r_vf ?_)))));refine r_nc (r_fo0 (r_ld 0 H rfl rfl (Zmi (r_vfD (λh=>h rfl) ?_))));refine q_len (r_gtr (r_vfD (by omega) ?_));refine r_nc (r_fo0 (r_st 0 H rfl (by simp[cellsW]) rfl λw1 S1 H1=>?_));replace H1:Holds w1 (blk f tFlow (cellsW j s false tk)::JobQ k j win inp false head::L):=H1;exact Zho H1 h6 hi (by omega) ht λw2 S2 H2=>post w2 (S1.trans S2) H2
theorem Zod (H:Holds w (blk f tFlow (cellsW j [] false tk)::JobQ k j win inp false head::L)) (h6:win<=1048576) (hi:inp.length<=win) (ht:tk<=1000000000)
  (post:∀ w',Same w w'->Holds w' (blk f tFlow (cellsW j [] true tk)::JobQ k j win inp true head::L)->K (iv 0) w') :
  Cl prog 140 #[ptr f] w K:=by
 refine Tz140 ?_;unfold Vz140;refine Za3 (r_vf (r_nc (r_fo0 (r_ld 0 H (v:=.bool false) rfl rfl (r_vf ?_)))));refine r_nc (r_fo0 (r_st 0 H rfl (by simp[cellsW]) rfl λw1 S1 H1=>?_));replace H1:Holds w1 (blk f tFlow (cellsW j [] true tk)::JobQ k j win inp false head::L):=H1;exact Zgi H1 h6 hi ht λw2 S2 H2=>post w2 (S1.trans S2) H2
end
section
variable {st k win ch cr told n:Nat}{inp head:List UInt8}{en:Bool}
def cellsR (j ch cr told:Nat):List Value:=[ptr j,nv ch,nv cr,nv told]
theorem Zqp (H:Holds w L) (h1:1<=ch) (h2:ch<=4096) (post:∀ st w',Same w w'->Holds w' (blk st tStr (cellsR j ch 0 0)::L)->K (.tuple #[ptr st,iv 0]) w'):Cl prog 136 #[ptr j,nv ch] w K:=by
 refine Tz136 ?_;unfold Vz136;refine Za3 (r_vf ?_);refine Za0 (λx w'=>w=w'/\x=.bool false) ?_ ?_
 rotate_left
 ·refine r_lss (r_vfD (by omega) (r_gtr (r_ke ⟨rfl,?_⟩)));rw[decide_eq_false (by omega)]
 rintro _ _ _ ⟨rfl,rfl⟩;refine r_vf ?_;refine r_bd (v:=.agg (cellsR j ch 0 0).toArray) (by kernel_rfl) ?_;exact r_new H λb w2 S2 H2=>post b w2 S2 H2
abbrev tI1:Nat:=3
theorem Zeh {b x c i:Nat}{ys:List Nat}(H:Holds w L) (hi:L[i]?=some (blk b tI1 (ys.map nv))) (hl:ys.length<=10) (post:K (nv (ys.foldl min x)) w):Cl prog 185 #[nv x,.slice (some ⟨b,0,none⟩) ys.length c] w K:=by
 refine Tz185 ?_;unfold Vz185;refine r_lnl ?_;refine Zam (λm y w'=>∃ p q:Nat,q<=ys.length/\m=nv p/\y=nv q/\ys.foldl min x=(ys.drop q).foldl min p/\w=w') (λ_ y _=>ys.length - (intOf y).toNat) ⟨x,0,by omega,rfl,rfl,rfl,rfl⟩ ?_;rintro _ _ _ _ ⟨p,q,hq,rfl,rfl,he,rfl⟩;refine r_lss (r_ifD (λh=>?_) λh=>?_)
 ·have hlt:q < ys.length:=by omega
  have hy:ys[q]?=some ys[q]:=gA hlt;refine Zg9 (by omega) ?_;rw[Nat.mul_one];refine r_ld i H hi (v:=nv ys[q]) (by rw[hV_,hy];rfl) ?_;refine r_min ?_;rw[show min (p:Int) (ys[q]:Int)=((min p ys[q]:Nat):Int) by omega];refine Za7 (by omega) (r_ke ⟨⟨_,q+1,by omega,rfl,rfl,?_,rfl⟩,?_⟩)
  ·rw[he,drop_eq_getElem_cons hlt,List.foldl_cons]
  ·simp only[intOf,gC];omega
 ·obtain rfl:q=ys.length:=by omega
  rw[drop_length] at he;rw[he] at post;exact post
theorem Zkm (H:Holds w (blk st tStr (cellsR j ch cr told)::L)) (hn:cr+n<=1099511627776) (post:∀ w',Same w w'->Holds w' (blk st tStr (cellsR j ch (cr+n) told)::L)->K (iv 0) w'):Cl prog 141 #[ptr st,nv n] w K:=by
 refine Tz141 ?_;unfold Vz141;refine Za3 (r_vf ?_);refine Za0 (λx w'=>w=w'/\x=.bool false) ?_ ?_
 rotate_left
 ·refine r_lss (r_vfD (by omega) (r_gtr (r_ke ⟨rfl,?_⟩)));rw[decide_eq_false (by omega)]
 rintro _ _ _ ⟨rfl,rfl⟩;refine r_vf (r_nc (r_fo0 (r_ld 0 H rfl rfl (Zb1 (a:=cr) (b:=n) (by omega) ?_))));refine r_bsK (e:=tI1) [iv 1099511627776] H (by kernel_rfl) λb w2 S2 H2=>?_;refine Zeh (ys:=[1099511627776]) (i:=0) H2 rfl (by show 1<=10;decide) ?_
 have hm:[1099511627776].foldl min (cr+n)=cr+n:=by show min (cr+n) 1099511627776=_;omega
 rw[hm];refine r_nc (r_fo0 (r_st 1 H2 rfl (by simp[cellsR]) rfl λw3 S3 H3=>?_));exact post w3 (S2.trans S3) H3.drop
theorem Zo1 (H:Holds w (blk st tStr (cellsR j ch cr told)::JobQ k j win inp en head::L)) (post:∀ w',Same w w'->Holds w' (blk st tStr (cellsR j ch cr told)::JobQ k j win inp en head::L)->K (nv (min (min head.length cr) ch)) w'):Cl prog 193 #[ptr st] w K:=by
 refine Tz193 ?_;unfold Vz193;refine Za3 (r_vf (r_dr H λw1 S1 H1=>⟨?_,?_⟩))
 ·refine r_nc (r_fo0 (r_ld 0 H1 rfl rfl ?_));refine Ze1 H1.swap ?_;refine r_nc (r_fo0 (r_ld 0 H1 rfl rfl (r_rk (r_ld 0 H1 rfl rfl rfl) ?_)));refine r_nc (r_fo0 (r_ld 0 H1 rfl rfl (r_rk (r_ld 0 H1 rfl rfl rfl) ?_)));refine r_bsK (e:=tI1) [nv cr,nv ch] H1 (by kernel_rfl) λb w2 S2 H2=>?_;refine r_rk (r_ld 1 H2 rfl rfl rfl) ?_;refine Zeh (ys:=[cr,ch]) (i:=0) H2 rfl (by show 2<=10;decide) ?_;exact post w2 (S1.trans S2) H2.drop
 ·refine r_nc (r_fo0 (r_ld 0 H1 rfl rfl (r_nc (r_fo0 (r_ld 0 H1 rfl rfl (r_nc (r_fo0 (r_ld 0 H1 rfl rfl ?_))))))));refine r_bsK (e:=tI1) [nv cr,nv ch] H1 (by kernel_rfl) λb w2 S2 H2=>?_;refine r_rk (r_ld 1 H2 rfl rfl rfl) ?_;refine Ze1 (H2.front 2 rfl) ?_;refine r_rk (r_ld 1 H2 rfl rfl rfl) (r_rk (r_ld 1 H2 rfl rfl rfl) ?_);refine Zeh (ys:=[cr,ch]) (i:=0) H2 rfl (by show 2<=10;decide) ?_;exact post w2 (S1.trans S2) H2.drop
theorem Zkp (H:Holds w (blk st tStr (cellsR j ch cr told)::JobQ k j win inp en head::L)) (hc:cr<=1099511627776) (ht:told+head.length<=1000)
  (k0:min (min head.length cr) ch=0->∀ w',Same w w'->Holds w' (blk st tStr (cellsR j ch cr told)::JobQ k j win inp en head::L)->K (.tuple #[S_ [],.bool false]) w')
  (k1:∀ n w',n=min (min head.length cr) ch->n≠0->Same w w'->Holds w' (blk st tStr (cellsR j ch (cr - n) (told+n))::JobQ k j win inp en (head.drop n)::L)->K (.tuple #[S_ (head.take n),.bool true]) w'):Cl prog 155 #[ptr st] w K:=by
 refine Tz155 ?_;unfold Vz155;refine Zo1 H λw1 S1 H1=>?_;generalize hn:min (min head.length cr) ch=n at k0 k1 ⊢;refine r_eql (r_ifE (λh=>?_) λh=>?_)
 ·exact k0 (by omega) w1 S1 H1
 ·refine r_nc (r_fo0 (r_ld 0 H1 rfl rfl (r_sub (by omega) (by omega) ?_)));rw[show (cr:Int) - (n:Int)=((cr - n:Nat):Int) by omega];refine r_nc (r_fo0 (r_st 0 H1 rfl (by simp[cellsR]) rfl λw2 S2 H2=>?_));refine r_nc (r_fo0 (r_ld 0 H2 rfl rfl (Zb1 (a:=told) (b:=n) (by omega) ?_)));refine r_nc (r_fo0 (r_st 0 H2 rfl (by simp[cellsR]) rfl λw3 S3 H3=>?_));refine r_nc (r_fo0 (r_ld 0 H3 rfl rfl ?_));replace H3:Holds w3 (blk st tStr (cellsR j ch (cr - n) (told+n))::JobQ k j win inp en head::L):=H3;refine Zny H3.swap (by omega) (by omega) λw4 S4 H4=>?_;exact k1 n w4 rfl (by omega) (S1.trans (S2.trans (S3.trans S4))) H4.swap
end
end F33
end Go.Proofs.YtgdfganaoehokaaGreatDoor
namespace Go.Proofs.YtgdfganaoehokaaGreatDoor
open Go Go.Vc Go.Proofs.Tryz
theorem r_foA {off:Nat}{a:Addr}{K:Value->Prop}(h:K (.pointer (some (a.add off)))):Fo off (.pointer (some a)) K:=⟨_,rfl,h⟩
theorem Zvr {P:Program}{w:World}{L:List HProp}(i:Nat) (H:Holds w L){b o n c:Nat}{t be e ty:TypeId}{cs zs:List Value}{z:Value}{K:KT}(hi:L[i]?=some (blk b be cs)) (hu:P.underlying t=some (.slice e))
  (hz:(zeroValue e:Sem Value).run P w=.ok z w) (hzs:(Builtin.zeroCells z.cells n).toList=zs) (hn:n≠0) (ho:o+zs.length<=cs.length) (hs:zs.all sg=true)
  (k:∀ w',Same w w'->Holds w' (L.set i (blk b be (setL cs o zs)))->K (.tuple #[]) w'):Bclr P #[t] ty #[.slice (some ⟨b,o,none⟩) n c] w K:=by
 have h1:=Zan (P:=P) (a:=⟨b,o,none⟩) zs 0 w (λj hj=>by
  have e1:(⟨b,o,none⟩:Addr).add (0+j)=⟨b,o+j,none⟩:=by
   rw[Nat.zero_add];unfold Addr.add;split
   ·rename_i h;rw[h];rfl
   ·rfl
  rw[e1];refine⟨?_,H.frozen i hi (o+j)⟩;rw[H.cell i hi (o+j),gA (by omega)]
  rfl) hs
 refine⟨.tuple #[],setCells w ⟨b,o,none⟩ zs 0,?_,k _ (.setCells _ _ _ _) (Holds.setCells i zs 0 H hi)⟩;obtain⟨m,rfl⟩:∃ m,n=m+1:=⟨n - 1,by omega⟩;unfold Builtin.clear_;simp[run_underlying hu,hz,hzs,h1,Sem.run_bind,Result.andThen]
attribute [local irreducible] Vc.Nc Vc.Ld Vc.LdA Vc.St Vc.StA Vc.Fo Vc.Iaa Vc.Ias Vc.Ixs Vc.Ixa Vc.Fd Vc.FdA Vc.Bp Vc.Bb Vc.Bn Vc.Up Vc.Ci Vc.Lns Vc.Lnl Vc.Ex Vc.Sst Vc.Ssl Vc.New Vc.Vif Vc.VJoin Vc.VLoop Vc.KE Vc.Dr Vc.Rk Vc.Cl Vc.Cx Vc.Inv Vc.Be Vc.Cv Vc.Cw Vc.Mf Vc.Sl Vc.Lk Vc.Bd Vc.Bs Vc.Ms Vc.Mm Vc.Mu Vc.Me Vc.Es Vc.Rg Vc.Nx Vc.Ta Vc.Ap Vc.Usd Vc.Ust Vc.Cp Vc.Ln Vc.Bc Vc.Bmin Vc.Bmax Vc.Bdel Vc.Bclr Vc.Pk
namespace A40
open Go.M31 J31 J32 J34
variable {w:World}{L:List HProp}{K:KT}
abbrev tLv:Nat:=208
abbrev tTb:Nat:=105
abbrev tEy:Nat:=182
structure Lv where
 cn:Nat
 id:Nat
 tn:Nat
 nd:Nat
 hd:Nat
def cellsY (x:Lv):List Value:=[nv x.cn,nv x.id,nv x.tn,nv x.nd]
def cellsL (x:Lv):List Value:=[nv x.cn,nv x.id,nv x.tn,nv x.nd,nv x.hd]
def lv0:Lv:=⟨0,0,0,0,0⟩
theorem Zq5:(zeroP prog tLv).cells.toList=cellsL lv0:=by kernel_rfl
theorem Zfp:(zeroP prog tEy).cells.toList=cellsY lv0:=by kernel_rfl
instance rowLv:RowN prog 103 tLv 5:=⟨by kernel_rfl,⟨t208,.agg (cellsL lv0).toArray,by kernel_rfl,by kernel_rfl,by decide,by kernel_rfl,by kernel_rfl⟩⟩
instance rowInt:Row prog 34 3 (.int .i64 0):=⟨by kernel_rfl,⟨t3,by kernel_rfl,by kernel_rfl,by decide,by kernel_rfl⟩,rfl⟩
theorem lv_sg:∀ y:Lv,∀ u∈cellsL y,sg u=true:=by
 intro y u hu;simp only[cellsL,mem_cons,List.not_mem_nil,or_false] at hu
 rcases hu with rfl|rfl|rfl|rfl|rfl <;> rfl
abbrev LvIn:=S4r.InG cellsL 5
def placeL (p:Lv->Bool):List Lv->Nat->Option Nat
 |[],_=>none
 |x::r,i=>if p x then some i else placeL p r (i+1)
theorem Zkl {p:Lv->Bool}{xs:List Lv}{j:Nat}{x:Lv}(h:xs[j]?=some x):placeL p (xs.drop j) j=if p x then some j else placeL p (xs.drop (j+1)) (j+1):=by
 obtain⟨hj,e⟩:=gH.1 h;rw[drop_eq_getElem_cons hj,e];rfl
def optI:Option Nat->Int
 |some i=>(i:Int)
 |none=>-1
theorem Zbz {o:Option Addr}{c:Nat}{xs:List Lv}{p:Lv->Bool}{fv:Value}(H:Holds w L) (hA:LvIn L o xs) (hl:xs.length<=1000)
  (hf:∀ x∈xs,∀ {w:World} {K:KT},Holds w L->(∀ w',Same w w'->Holds w' L->K (.bool (p x)) w')->Inv prog (do let d <-Deferred.ofValue fv #[.agg (cellsL x).toArray];invoke d.target d.args) w K)
  (k:∀ w',Same w w'->Holds w' L->K (iv (optI (placeL p xs 0))) w'):Cl prog 188 #[.slice o xs.length c,fv] w K:=by
 refine Tz188 ?_;unfold Vz188;refine r_lnl ?_;refine Zac (λx w'=>∃ j:Nat,j<=xs.length/\x=nv j/\placeL p xs 0=placeL p (xs.drop j) j/\Same w w'/\Holds w' L) (λx _=>xs.length - (intOf x).toNat) ⟨0,by omega,rfl,rfl,.refl _,H⟩ ?_;clear H;rintro _ _ w1 ⟨j,hj,rfl,hp,S,H⟩;refine r_lss (r_ifD (λh=>?_) λh=>?_)
 ·have hlt:j < xs.length:=by omega
  obtain⟨x,hx⟩:∃ x,xs[j]?=some x:=⟨_,gA hlt⟩;refine S4r.r_ldG hA H hx rfl hlt ?_;refine hf x (mem_of_getElem? hx) H λw2 S2 H2=>?_;rw[Zkl hx] at hp
  cases hb:p x with
  |true=>
   rw[if_pos hb] at hp;rw[hp] at k;exact r_vt (k w2 (S.trans S2) H2)
  |false=>
   rw[if_neg (by rw[hb];decide)] at hp;refine r_vf (Za7 (by omega) (r_ke ⟨⟨j+1,by omega,rfl,hp,S.trans S2,H2⟩,?_⟩));simp[nv,intOf];omega
 ·obtain rfl:j=xs.length:=by omega
  rw[drop_length] at hp;rw[hp] at k;exact k w1 S H
theorem Zc7 {p:Lv->Bool}:∀ {ys:List Lv}{q i:Nat},placeL p ys q=some i->q<=i/\i < q+ys.length
 |[],q,i,h=>by cases h
 |y::r,q,i,h=>by
  rw[placeL] at h;split at h
  ·cases h;simp
  ·have:=Zc7 h;simp;omega
variable {b jo last:Nat}{o:Option Addr}{c:Nat}{xs:List Lv}
abbrev TbP (b jo last:Nat) (v:Value):HProp:=blk b tTb [nv jo,nv last,v]
abbrev ptr (b:Nat):Value:=.pointer (some ⟨b,0,none⟩)
theorem Zf0 {v:Value}(i:Nat) (H:Holds w L) (hi:L[i]?=some (TbP b jo last v)) (k:K v w):Cl prog 169 #[ptr b] w K:=by
 refine Tz169 ?_;unfold Vz169
 repeat (first|refine r_nc ?_|refine r_fo0 ?_|(with_reducible first|refine Za3 ?_|refine r_vf ?_))
 refine r_ld i H hi rfl ?_;exact k
theorem Find_spec {cn id:Nat}(H:Holds w (TbP b jo last (.slice o xs.length c)::L)) (hA:LvIn L o xs) (hl:xs.length<=1000)
  (k1:∀ i x w',placeL (λx=>x.cn==cn&&x.id==id) xs 0=some i->xs[i]?=some x->Same w w'->Holds w' (TbP b jo last (.slice o xs.length c)::L)->K (.tuple #[nv x.hd,iv 0]) w')
  (k2:∀ w',placeL (λx=>x.cn==cn&&x.id==id) xs 0=none->Same w w'->Holds w' (TbP b jo last (.slice o xs.length c)::L)->K (.tuple #[iv 0,iv 6]) w') :
  Cl prog 138 #[ptr b,nv cn,nv id] w K:=by
 refine Tz138 ?_;unfold Vz138;refine r_new H λbc w1 S1 H1=>r_new H1 λbi w2 S2 H2=>?_;replace H2:Holds w2 (blk bi 3 [nv id]::blk bc 3 [nv cn]::TbP b jo last (.slice o xs.length c)::L):=H2;have S:=S1.trans S2;clear H H1 S1 S2
 repeat (first|(with_reducible first|refine Za3 ?_|refine r_vf ?_))
 refine r_mf (.func (.func 184) #[] #[ptr bc,ptr bi]) (by kernel_rfl) ?_;refine Tz147 ?_;unfold Vz147;refine Zf0 2 H2 rfl ?_;refine Zbz (p:=λx=>x.cn==cn&&x.id==id) H2 hA.up.up.up hl (λx hx w3 K3 H3 k3=>?_) λw3 S3 H3=>?_
 ·refine r_inv (f:=184) (args:=#[.agg (cellsL x).toArray,ptr bc,ptr bi]) (by kernel_rfl) ?_;refine Tz184 ?_;unfold Vz184;refine r_new H3 λbx w4 S4 H4=>?_;replace H4:Holds w4 (blk bx tLv (cellsL x)::blk bi 3 [nv id]::blk bc 3 [nv cn]::TbP b jo last (.slice o xs.length c)::L):=H4;refine r_fo0 (r_fo0 (r_ld 0 H4 rfl rfl (r_ld 2 H4 rfl rfl (r_eql ?_))))
  by_cases h1:x.cn=cn
  ·refine r_vtE (by rw[h1]) ?_;refine r_fo0 (r_fo (r_ld 0 H4 rfl rfl (r_ld 1 H4 rfl rfl (r_eql ?_))));have:=k3 _ S4 H4.drop;rw[show (x.cn==cn&&x.id==id)=(((x.id:Nat):Int)==((id:Nat):Int)) by rw[Bool.eq_iff_iff];simp[h1];omega] at this;exact this
  ·refine r_vfE (by omega) ?_;have:=k3 _ S4 H4.drop;rw[show (x.cn==cn&&x.id==id)=false by simp[h1]] at this;exact this
 ·cases hp:placeL (λx=>x.cn==cn&&x.id==id) xs 0 with
  |none=>
   refine r_lss (r_vtd (by decide) ?_);exact k2 _ hp (S.trans S3) H3.drop.drop
  |some i=>
   have hi:=Zc7 hp;obtain⟨x,hx⟩:∃ x,xs[i]?=some x:=⟨_,gA (show i < xs.length by omega)⟩;refine r_lss (r_vfd (by show decide ((i:Int) < 0)=false;exact decide_eq_false (by omega)) ?_);refine r_nc (r_fo (r_ld 2 H3 rfl rfl ?_));obtain⟨p,rfl,hc⟩:=hA w3 H3.drop.drop.drop _ _ hx;refine Zcm (show i < xs.length by omega) ?_;refine r_foA ?_;refine r_ldP (hc 4 (nv x.hd) rfl) ?_;exact k1 i x _ hp hx (S.trans S3) H3.drop.drop
theorem Zlm {h:Nat}(H:Holds w (TbP b jo last (.slice o xs.length c)::L)) (hA:LvIn L o xs) (hl:xs.length<=1000){i:Nat}{x:Lv}
  (hp:placeL (λx=>x.hd==h) xs 0=some i) (hx:xs[i]?=some x)
  (k:∀ w',Same w w'->Holds w' (TbP b jo last (.slice o xs.length c)::L)->K (.tuple #[.agg (cellsY x).toArray,iv 0]) w') :
  Cl prog 96 #[ptr b,nv h] w K:=by
 refine Tz96 ?_;unfold Vz96;refine r_new H λbh w1 S1 H1=>r_new H1 λbz w2 S2 H2=>?_;rw[Zfp] at H2;replace H2:Holds w2 (blk bz tEy (cellsY lv0)::blk bh 3 [nv h]::TbP b jo last (.slice o xs.length c)::L):=H2;have S:=S1.trans S2;clear H H1 S1 S2
 repeat (first|(with_reducible first|refine Za3 ?_|refine r_vf ?_))
 refine r_mf (.func (.func 148) #[] #[ptr bh]) (by kernel_rfl) ?_;refine Tz147 ?_;unfold Vz147;refine Zf0 2 H2 rfl ?_;refine Zbz (p:=λx=>x.hd==h) H2 hA.up.up.up hl (λx hx w3 K3 H3 k3=>?_) λw3 S3 H3=>?_
 ·refine r_inv (f:=148) (args:=#[.agg (cellsL x).toArray,ptr bh]) (by kernel_rfl) ?_;refine Tz148 ?_;unfold Vz148;refine r_new H3 λbx w4 S4 H4=>?_;replace H4:Holds w4 (blk bx tLv (cellsL x)::blk bz tEy (cellsY lv0)::blk bh 3 [nv h]::TbP b jo last (.slice o xs.length c)::L):=H4;refine r_fo0 (r_ld 0 H4 rfl rfl (r_ld 2 H4 rfl rfl (r_eql ?_)));have:=k3 _ S4 H4.drop;rw[show (x.hd==h)=(((x.hd:Nat):Int)==((h:Nat):Int)) by rw[Bool.eq_iff_iff];simp;omega] at this;exact this
 ·have hi:=Zc7 hp;rw[hp];refine r_lss (r_vfd (by show decide ((i:Int) < 0)=false;exact decide_eq_false (by omega)) ?_);refine r_nc (r_fo (r_ld 2 H3 rfl rfl ?_));obtain⟨p,rfl,hc⟩:=hA w3 H3.drop.drop.drop _ _ hx;refine Zcm (show i < xs.length by omega) (r_foA ?_);refine Zmd (cs:=(cellsY x).toArray) rfl (λj v hv=>?_) ?_
  ·rw[show (p.add (i*5)).add 0=p.add (i*5) by unfold Addr.add;simp]
   have hv':(cellsY x)[j]?=some v:=by simpa using hv
   refine hc j v ?_;have hj:j < 4:=(gH.1 hv').1;show (cellsY x++[nv x.hd])[j]?=some v;rw[gM hj];exact hv'
  refine r_stA 0 H3 (vs:=cellsY x) rfl (Nat.le_refl 4) rfl rfl λw4 S4 H4=>?_;refine r_ldA 0 H4 (cellsY x) rfl rfl rfl ?_;exact k _ ((S.trans S3).trans S4) H4.drop.drop
theorem Len_spec (H:Holds w (TbP b jo last (.slice o xs.length c)::L)) (k:K (nv xs.length) w):Cl prog 181 #[ptr b] w K:=by
 refine Tz181 ?_;unfold Vz181;refine Zf0 0 H rfl (r_lnl k)
def handles (p:Lv->Bool) (xs:List Lv):List Nat:=(xs.filter p).map (·.hd)
theorem Zj0 {p:Lv->Bool}{xs:List Lv}{j:Nat}{x:Lv}(h:xs[j]?=some x):handles p (xs.take (j+1))=handles p (xs.take j)++if p x then [x.hd] else []:=by
 unfold handles;rw[gO,h]
 cases hb:p x <;> simp[hb]
theorem Zhs {p:Lv->Bool}{fv:Value}(H:Holds w (TbP b jo last (.slice o xs.length c)::L)) (hA:LvIn L o xs) (hl:xs.length<=1000)
  (hf:∀ x∈xs,∀ {w:World} {M:List HProp} {K:KT},Holds w (M++L)->(∀ w',Same w w'->Holds w' (M++L)->K (.bool (p x)) w')->Inv prog (do let d <-Deferred.ofValue fv #[.agg (cellsL x).toArray];invoke d.target d.args) w K)
  (k:∀ v w',Same w w'->Holds w' (SL nv 3 v (handles p xs)::TbP b jo last (.slice o xs.length c)::L)->K v w'):Cl prog 118 #[ptr b,fv] w K:=by
 refine Tz118 ?_;unfold Vz118;refine Zf0 0 H rfl (r_lnl ?_);refine Zam (λo' x w'=>∃ j:Nat,j<=xs.length/\x=nv j/\Same w w'/\Holds w' (SL nv 3 o' (handles p (xs.take j))::TbP b jo last (.slice o xs.length c)::L)) (λ_ x _=>xs.length - (intOf x).toNat) ⟨0,by omega,rfl,.refl _,H.nilSL nv 3⟩ ?_;clear H;rintro _ v _ w1 ⟨j,hj,rfl,S,H⟩;refine r_lss (r_ifD (λh=>?_) λh=>?_)
 ·have hlt:j < xs.length:=by omega
  obtain⟨x,hx⟩:∃ x,xs[j]?=some x:=⟨_,gA hlt⟩
  have hlen:(handles p (xs.take j)).length<=1000:=by
   unfold handles;rw[hS_];exact Nat.le_trans (List.length_filter_le _ _) (by rw[gN];omega)
  refine S4r.r_ldG hA.up.up H hx rfl hlt ?_;refine r_new H λbx w2 S2 H2=>?_;rw[Zq5] at H2;refine r_stA 0 H2 (vs:=cellsL x) rfl (Nat.le_refl 5) rfl rfl λw3 S3 H3=>?_;replace H3:Holds w3 (blk bx tLv (cellsL x)::SL nv 3 v (handles p (xs.take j))::TbP b jo last (.slice o xs.length c)::L):=H3;refine r_ldA 0 H3 (cellsL x) rfl rfl rfl ?_;refine hf x (mem_of_getElem? hx) (M:=[_,_,_]) H3 λw4 S4 H4=>?_;replace H4:Holds w4 (blk bx tLv (cellsL x)::SL nv 3 v (handles p (xs.take j))::TbP b jo last (.slice o xs.length c)::L):=H4;have hS:=((S.trans S2).trans S3).trans S4;have ht:=Zj0 (p:=p) hx
  cases hb:p x with
  |true=>
   rw[hb,if_pos rfl] at ht;refine r_vt (r_fo (r_ld 0 H4 (v:=nv x.hd) rfl rfl ?_));refine Zmg H4.drop 0 rfl x.hd (λ_=>rfl) (by omega) λv5 w5 S5 H5=>?_;rw[<-ht] at H5;refine Za7 (by omega) (r_ke ⟨⟨j+1,by omega,rfl,hS.trans S5,H5⟩,?_⟩);simp[nv,intOf];omega
  |false=>
   rw[hb,if_neg (by decide),gU] at ht;refine r_vf (Za7 (by omega) (r_ke ⟨⟨j+1,by omega,rfl,hS,?_⟩,?_⟩))
   ·rw[ht];exact H4.drop
   simp[nv,intOf];omega
 ·obtain rfl:j=xs.length:=by omega
  rw[List.take_length] at H;exact k v w1 S H
theorem Add_spec {cn id tn nd:Nat}{v:Value}(H:Holds w (TbP b jo last v::RW cellsL 5 tLv v xs::L)) (hl:xs.length<=999) (hne:xs.length≠jo) (hla:last<=1000000)
  (hf:placeL (λx=>x.cn==cn&&x.id==id) xs 0=none)
  (k:∀ v' w',Same w w'->Holds w' (TbP b jo (last+1) v'::RW cellsL 5 tLv v' (xs++[⟨cn,id,tn,nd,last+1⟩])::L)->K (.tuple #[nv (last+1),iv 0]) w') :
  Cl prog 137 #[ptr b,.agg #[nv cn,nv id,nv tn,nv nd]] w K:=by
 obtain⟨o,m,sp,rfl,_⟩:=H.openRW 1 rfl;generalize hc:xs.length+m=c at H;refine Tz137 ?_;unfold Vz137;refine r_new H λbe w1 S1 H1=>?_;have H2:Holds w1 (TbP b jo last (.slice o xs.length c)::blk be tEy [nv cn,nv id,nv tn,nv nd]::RW cellsL 5 tLv (.slice o xs.length c) xs::L):=H1.front 1 rfl
 repeat (first|refine r_fo0 ?_|(with_reducible first|refine Za3 ?_|refine r_vf ?_))
 refine r_ld 1 H2 (v:=nv cn) rfl rfl (r_fo (r_ld 1 H2 (v:=nv id) rfl rfl ?_));refine Find_spec H2 (S4r.InG.own 1 rfl λ_=>rfl) (by omega) (λi x w3 h=>by rw[hf] at h;cases h) λw3 _ S3 H3=>?_;refine Za6 (Za5 (r_eql (r_vfE (by decide) ?_)));refine r_dr H3 λw4 S4 H4=>?_;refine r_nc (r_fo (r_ld 0 H4 rfl rfl (r_lnl (r_nc (r_fo0 (r_ld 0 H4 (v:=nv jo) rfl rfl (r_eql (r_vfE (by omega) ?_))))))));refine r_nc (r_fo (r_ld 0 H4 (v:=nv last) rfl rfl (Za7 (by omega) (r_nc (r_fo ?_)))));refine r_st 0 H4 rfl (by simp) rfl λw5 S5 H5=>?_;replace H5:Holds w5 (TbP b jo (last+1) (.slice o xs.length c)::blk be tEy [nv cn,nv id,nv tn,nv nd]::RW cellsL 5 tLv (.slice o xs.length c) xs::L):=H5;refine r_dr H5 λw6 S6 H6=>?_;refine r_nc (r_fo (r_ld 0 H6 (v:=.slice o xs.length c) rfl rfl ?_));refine r_ldA 1 H6 [nv cn,nv id,nv tn,nv nd] rfl rfl rfl ?_;refine r_nc (r_fo (r_ld 0 H6 (v:=nv (last+1)) rfl rfl ?_));refine r_bd (v:=.agg (cellsL ⟨cn,id,tn,nd,last+1⟩).toArray) (by kernel_rfl) ?_;refine r_bsK (e:=tLv) (cellsL ⟨cn,id,tn,nd,last+1⟩) H6 (by kernel_rfl) λb7 w7 S7 H7=>?_;refine r_rk (r_ld 1 H7 rfl rfl rfl) ?_;refine r_apN (F:=cellsL) (ys:=[⟨cn,id,tn,nd,last+1⟩]) H7 3 0 rfl rfl (by decide) (by simp[flatL,cellsL]) rfl (λ_=>rfl) lv_sg (by simp;omega) (by simp) (by decide) λv' w8 S8 H8=>?_;obtain⟨o',m',sp',rfl,_⟩:=H8.openRW 3 rfl;refine r_nc (r_fo ?_);refine r_st 1 H8 rfl (by simp) rfl λw9 S9 H9=>?_;refine r_nc (r_fo (r_ld 1 H9 (v:=nv (last+1)) rfl rfl ?_));exact k _ w9 (((((((S1.trans S3).trans S4).trans S5).trans S6).trans S7).trans S8).trans S9) (Holds.dropAt H9.drop 1)
end A40
end Go.Proofs.YtgdfganaoehokaaGreatDoor
namespace Go.Proofs.YtgdfganaoehokaaGreatDoor
open Go Go.Vc Go.Proofs.Tryz
theorem Zo0 {α:Type}{F:α->List Value}{k:Nat}(hF:∀ x,(F x).length=k):∀ (xs:List α) (j:Nat) (x:α) (sp:List Value),j < xs.length->setL (flatL F xs++sp) (j*k) (F x)=flatL F (xs.set j x)++sp:=by
 intro xs j x sp hj;have hl:(flatL F xs).length=xs.length*k:=Zaz hF xs
 have hjk:j*k+k<=xs.length*k:=by rw[<-Nat.succ_mul];exact Nat.mul_le_mul_right _ hj
 rw[Zf7 _ _ _ (by rw[gD,hl,hF];omega),hF]
 have key:∀ (xs:List α) (j:Nat),j < xs.length->(flatL F xs++sp).take (j*k)++F x++(flatL F xs++sp).drop (j*k+k)=flatL F (xs.set j x)++sp:=by
  intro xs
  induction xs with
  |nil=>intro j hj;exact absurd hj (Nat.not_lt_zero _)
  |cons y r ih=>
   intro j hj
   cases j with
   |zero=>
    rw[Nat.zero_mul,List.take_zero,hO_,Nat.zero_add,gJ,flatL,flatL,gI (F y),List.drop_append_of_le_length (by rw[hF];exact Nat.le_refl _),List.drop_of_length_le (by rw[hF];exact Nat.le_refl _),hO_,gI (F x)]
   |succ j=>
    have:=ih j (by simpa using hj);rw[gW,flatL,flatL,gI (F y),gI (F y),<-this,show (j+1)*k=k+j*k by rw[Nat.add_mul];omega];rw[List.take_append,hF,gK (by rw[hF];omega),show k+j*k - k=j*k by omega,show k+j*k+k=k+(j*k+k) by omega,List.drop_append,hF,List.drop_of_length_le (by rw[hF];omega),hO_,show k+(j*k+k) - k=j*k+k by omega];simp only[gI]
 exact key xs j hj
theorem Zwa {size:Nat}{a:Option Addr}{n c l:Nat}{k:IntKind}{K:Value->Prop}(h1:l<=n) (h2:n<=c) (hK:K (.slice (if c=l then a else a.map (·.add (l*size))) (n - l) (c - l))) :
  Ssl size (.slice a n c) (some (.int k (l:Int))) none K:=⟨a,n,c,l,n,rfl,⟨k,rfl⟩,rfl,h1,h2,hK⟩
attribute [local irreducible] Vc.Nc Vc.Ld Vc.LdA Vc.St Vc.StA Vc.Fo Vc.Iaa Vc.Ias Vc.Ixs Vc.Ixa Vc.Fd Vc.FdA Vc.Bp Vc.Bb Vc.Bn Vc.Up Vc.Ci Vc.Lns Vc.Lnl Vc.Ex Vc.Sst Vc.Ssl Vc.New Vc.Vif Vc.VJoin Vc.VLoop Vc.KE Vc.Dr Vc.Rk Vc.Cl Vc.Cx Vc.Inv Vc.Be Vc.Cv Vc.Cw Vc.Mf Vc.Sl Vc.Lk Vc.Bd Vc.Bs Vc.Ms Vc.Mm Vc.Mu Vc.Me Vc.Es Vc.Rg Vc.Nx Vc.Ta Vc.Ap Vc.Usd Vc.Ust Vc.Cp Vc.Ln Vc.Bc Vc.Bmin Vc.Bmax Vc.Bdel Vc.Bclr Vc.Pk
namespace A40
open Go.M31 J31 J32 J34
variable {w:World}{L:List HProp}{K:KT}
theorem Zfs {p:Lv->Bool}:∀ {xs:List Lv}{q i:Nat},placeL p xs q=some i->∃ x,xs[i - q]?=some x/\p x=true
 |[],q,i,h=>by cases h
 |y::r,q,i,h=>by
  rw[placeL] at h;split at h
  ·rename_i hy;cases h;exact⟨y,by simp,hy⟩
  ·obtain⟨x,h1,h2⟩:=Zfs h;have:=(Zc7 h).1;refine⟨x,?_,h2⟩;rw[show i - q=(i - (q+1))+1 by omega,gF];exact h1
theorem Zrf {v fv:Value}{xs:List Lv}{p:Lv->Bool}{i:Nat}(H:Holds w (RW cellsL 5 tLv v xs::L)) (hl:xs.length<=1000) (hp:placeL p xs 0=some i) (hu:∀ (q:Nat) x,xs[q]?=some x->i < q->p x=false)
  (hf:∀ x∈xs,∀ {w:World} {M:List HProp} {K:KT},Holds w (M++L)->(∀ w',Same w w'->Holds w' (M++L)->K (.bool (p x)) w')->Inv prog (do let d <-Deferred.ofValue fv #[.agg (cellsL x).toArray];invoke d.target d.args) w K)
  (k:∀ v' w',Same w w'->Holds w' (RW cellsL 5 tLv v' (xs.eraseIdx i)::L)->K v' w'):Cl prog 170 #[v,fv] w K:=by
 have hlt:i < xs.length:=by have:=Zc7 hp;omega
 obtain⟨oa,m,sp,rfl,H0⟩:=H.openRW 0 rfl;obtain⟨b,rfl,hsp,Hb⟩:=H0.rwb 0 rfl (.inl (by omega));generalize hc:xs.length+m=c at H;refine Tz170 ?_;unfold Vz170;have hA:LvIn (RW cellsL 5 tLv (.slice (some ⟨b,0,none⟩) xs.length c) xs::L) (some ⟨b,0,none⟩) xs:=S4r.InG.own 0 rfl λ_=>rfl;refine Zbz (p:=p) H hA hl (λx hx w3 K3 H3 k3=>hf x hx (M:=[_]) H3 k3) λw1 S1 H1=>?_;rw[hp];refine r_eql (r_vfE (by show ¬ ((i:Nat):Int)=-1;omega) (Za7 (by omega) ?_));obtain⟨oa2,m2,sp2,hv2,H2⟩:=H1.openRW 0 rfl
 obtain rfl:m2=m:=by cases hv2;omega
 obtain rfl:oa2=some ⟨b,0,none⟩:=by cases hv2;rfl
 obtain⟨b2,hb2,hsp2,H3⟩:=H2.rwb 0 rfl (.inl (by omega))
 obtain rfl:b2=b:=by cases hb2;rfl
 have hlen:(xs.eraseIdx i).length=xs.length - 1:=by rw[List.length_eraseIdx,if_pos hlt]
 have hyl:∀ q,q < xs.length->((xs.eraseIdx i).take q++xs.drop q).length=xs.length:=by
  intro q hq;rw[gD,gN,gS,hlen];omega
 have h0:(xs.eraseIdx i).take i++xs.drop i=xs:=by
  have:(xs.eraseIdx i).take i=xs.take i:=by
   rw[List.eraseIdx_eq_take_drop_succ,List.take_append_of_le_length (by rw[gN];omega),List.take_take,Nat.min_self]
  rw[this,List.take_append_drop]
 refine Zam (λx y w'=>∃ q:Nat,i<=q/\q+1<=xs.length/\x=nv q/\y=nv (q+1)/\Same w w'/\Holds w' (blk b2 tLv (flatL cellsL ((xs.eraseIdx i).take q++xs.drop q)++sp2)::L)) (λ_ y _=>xs.length - (intOf y).toNat) ⟨i,Nat.le_refl _,hlt,rfl,rfl,S1,by rw[h0];exact H3⟩ ?_;clear H H0 Hb H1 H2 H3 S1;rintro _ _ _ w4 ⟨q,hiq,hq,rfl,rfl,S,H⟩;refine r_lnl (r_lss (r_ifD (λh=>?_) λh=>?_))
 ·have hlt2:q+1 < xs.length:=by omega
  obtain⟨x,hx⟩:∃ x,xs[q+1]?=some x:=⟨_,gA hlt2⟩
  have hy:((xs.eraseIdx i).take q++xs.drop q)[q+1]?=some x:=by
   rw[gT (by rw[gN];omega),gN,hlen,show min q (xs.length - 1)=q by omega,hH_,show q+(q+1 - q)=q+1 by omega];exact hx
  have hg:=Zco (F:=cellsL) (k:=5) (λ_=>rfl) _ _ _ hy;have hfl:=Zaz (F:=cellsL) (k:=5) (λ_=>rfl) ((xs.eraseIdx i).take q++xs.drop q);rw[hyl q (by omega)] at hfl;refine Zg9 hlt2 ?_;refine r_ldA 0 H (cellsL x) rfl ?_ rfl ?_
  ·rw[List.drop_append_of_le_length (by omega),List.take_append_of_le_length (by rw[gS];omega)];exact hg
  refine r_new H λvb w5 S5 H5=>?_;rw[Zq5] at H5;refine r_stA 0 H5 (vs:=cellsL x) rfl (Nat.le_refl 5) rfl rfl λw6 S6 H6=>?_;replace H6:Holds w6 (blk vb tLv (cellsL x)::blk b2 tLv (flatL cellsL ((xs.eraseIdx i).take q++xs.drop q)++sp2)::L):=H6;refine r_ldA 0 H6 (cellsL x) rfl rfl rfl ?_;refine hf x (mem_of_getElem? hx) (M:=[_,_]) H6 λw7 S7 H7=>?_;rw[hu (q+1) x hx (by omega)];refine r_not (r_vt ?_);replace H7:Holds w7 (blk vb tLv (cellsL x)::blk b2 tLv (flatL cellsL ((xs.eraseIdx i).take q++xs.drop q)++sp2)::L):=H7;refine r_ldA 0 H7 (cellsL x) rfl rfl rfl ?_;refine Zg9 (by omega) ?_;refine r_stA 1 H7 (vs:=cellsL x) rfl (by rw[gD,hfl];omega) rfl rfl λw8 S8 H8=>?_;rw[Zo0 (F:=cellsL) (k:=5) (λ_=>rfl) _ q x sp2 (by rw[hyl q (by omega)];omega)] at H8
  have he:((xs.eraseIdx i).take q++xs.drop q).set q x=(xs.eraseIdx i).take (q+1)++xs.drop (q+1):=by
   have e1:(xs.eraseIdx i)[q]?=some x:=by
    rw[List.getElem?_eraseIdx_of_ge hiq];exact hx
   rw[List.set_append_right _ _ (by rw[gN];omega),gN,hlen,show q - min q (xs.length - 1)=0 by omega,gO,e1];rw[drop_eq_getElem_cons (show q < xs.length by omega),gJ];simp
  rw[he] at H8;refine Za7 (by omega) (Za7 (by omega) (r_ke ⟨⟨q+1,by omega,by omega,rfl,rfl,S.trans (S5.trans (S6.trans (S7.trans S8))),H8.drop⟩,?_⟩));simp only[intOf,gC];omega
 ·obtain rfl:q=xs.length - 1:=by omega
  have hT:(xs.eraseIdx i).take (xs.length - 1)=xs.eraseIdx i:=gK (by omega)
  obtain⟨z,hz⟩:∃ z,xs.drop (xs.length - 1)=[z]:=by
   have:(xs.drop (xs.length - 1)).length=1:=by rw[gS];omega
   match hd:xs.drop (xs.length - 1),this with
   |[z],_=>exact⟨z,rfl⟩
  rw[hT,hz] at H;have hfl:=Zaz (F:=cellsL) (k:=5) (λ_=>rfl) (xs.eraseIdx i);rw[hlen] at hfl
  have hfz:flatL cellsL (xs.eraseIdx i++[z])=flatL cellsL (xs.eraseIdx i)++cellsL z:=by
   have:∀ (ys:List Lv),flatL cellsL (ys++[z])=flatL cellsL ys++cellsL z:=by
    intro ys
    induction ys with
    |nil=>simp[flatL]
    |cons y r ih=>rw[List.cons_append,flatL,flatL,ih,gI]
   exact this _
  have hcl:c=xs.length+m2:=hc.symm;refine Zwa (by omega) (by omega) ?_
  have hne:¬ c=xs.length - 1:=by omega
  rw[if_neg hne]
  have ea:(some (⟨b2,0,none⟩:Addr)).map (·.add ((xs.length - 1)*5))=some ⟨b2,(xs.length - 1)*5,none⟩:=by
   show some _=some _
   congr 1
   unfold Addr.add;split
   ·rename_i h;rw[h]
   ·simp
  rw[ea];refine Zvr (t:=103) (e:=tLv) (z:=.agg (cellsL lv0).toArray) (zs:=cellsL lv0) 0 H rfl (by kernel_rfl) (by kernel_rfl) (by rw[show xs.length - (xs.length - 1)=1 by omega];kernel_rfl) (by omega) (by rw[hfz,gD,gD,hfl];show (xs.length - 1)*5+5<=(xs.length - 1)*5+5+_;omega) rfl λw5 S5 H5=>?_;refine Zlx (by omega) ?_;refine k _ w5 (S.trans S5) ?_
  have e5:setL (flatL cellsL (xs.eraseIdx i++[z])++sp2) ((xs.length - 1)*5) (cellsL lv0)=flatL cellsL (xs.eraseIdx i)++(cellsL lv0++sp2):=by
   rw[hfz,Zf7 _ _ _ (by rw[gD,gD,hfl];show (xs.length - 1)*5+5<=(xs.length - 1)*5+5+_;omega)];rw[gI (flatL cellsL (xs.eraseIdx i)),List.take_append_of_le_length (by omega),gK (by omega),List.drop_append,List.drop_of_length_le (by omega),hfl,hO_];rw[show (xs.length - 1)*5+(cellsL lv0).length - (xs.length - 1)*5=5 by show (xs.length - 1)*5+5 - (xs.length - 1)*5=5;omega];rw[List.drop_append,List.drop_of_length_le (Nat.le_refl 5),hO_];show flatL cellsL (xs.eraseIdx i)++cellsL lv0++List.drop 0 sp2=_;rw[drop_zero,gI]
  rw[gJ,e5] at H5;refine Holds.imp H5 λg hg=>⟨some ⟨b2,0,none⟩,m2+1,cellsL lv0++sp2,?_,rfl,rfl,?_,hg⟩
  ·rw[hlen]
   congr 1
   omega
  ·rw[gD,hsp2];show 5+m2*5=(m2+1)*5;omega
def TabR (b jo last:Nat) (xs:List Lv):HProp:=λh=>∃ o c,Sat [TbP b jo last (.slice o xs.length c),RW cellsL 5 tLv (.slice o xs.length c) xs] h
variable {b jo last:Nat}{xs:List Lv}
theorem Zb7 (H:Holds w L){j:Nat}(hj:L[j]?=some (TabR b jo last xs)):∃ o c,Holds w (TbP b jo last (.slice o xs.length c)::RW cellsL 5 tLv (.slice o xs.length c) xs::L.eraseIdx j):=by
 obtain⟨o,H1⟩:=Holds.ex (H.front j hj);obtain⟨c,H1⟩:=Holds.ex H1;exact⟨o,c,Holds.unpack (A:=[_,_]) H1⟩
theorem Zb4 {Q:HProp}{j:Nat}{v:Value}(hj:L[j]?=some Q) (H:Holds w (TbP b jo last v::RW cellsL 5 tLv v xs::L.eraseIdx j)):Holds w (L.set j (TabR b jo last xs)):=by
 obtain⟨o,m,sp,rfl,_⟩:=H.openRW 1 rfl;exact Sat.push j hj (Holds.imp (Holds.pack (A:=[_,_]) H) λh hh=>⟨o,_,hh⟩)
theorem Zv2 {j cn id:Nat}(H:Holds w L) (hj:L[j]?=some (TabR b jo last xs)) (hl:xs.length<=1000)
  (k1:∀ i x w',placeL (λx=>x.cn==cn&&x.id==id) xs 0=some i->xs[i]?=some x->Same w w'->Holds w' L->K (.tuple #[nv x.hd,iv 0]) w')
  (k2:∀ w',placeL (λx=>x.cn==cn&&x.id==id) xs 0=none->Same w w'->Holds w' L->K (.tuple #[iv 0,iv 6]) w'):Cl prog 138 #[ptr b,nv cn,nv id] w K:=by
 obtain⟨o,c,H1⟩:=Zb7 H hj
 have back:∀ w',Holds w' (TbP b jo last (.slice o xs.length c)::RW cellsL 5 tLv (.slice o xs.length c) xs::L.eraseIdx j)->Holds w' L:=λw' h=>by
  have:=Zb4 hj h;rw[Zb0 hj] at this;exact this
 exact Find_spec H1 (S4r.InG.own 0 rfl λ_=>rfl) hl (λi x w' h1 h2 S2 H2=>k1 i x w' h1 h2 S2 (back w' H2)) λw' h1 S2 H2=>k2 w' h1 S2 (back w' H2)
theorem Zvw {j h i:Nat}{x:Lv}(H:Holds w L) (hj:L[j]?=some (TabR b jo last xs)) (hl:xs.length<=1000) (hp:placeL (λx=>x.hd==h) xs 0=some i) (hx:xs[i]?=some x)
  (k:∀ w',Same w w'->Holds w' L->K (.tuple #[.agg (cellsY x).toArray,iv 0]) w'):Cl prog 96 #[ptr b,nv h] w K:=by
 obtain⟨o,c,H1⟩:=Zb7 H hj;refine Zlm H1 (S4r.InG.own 0 rfl λ_=>rfl) hl hp hx λw' S2 H2=>?_;have:=Zb4 hj H2;rw[Zb0 hj] at this;exact k w' S2 this
theorem Zvs {j:Nat}(H:Holds w L) (hj:L[j]?=some (TabR b jo last xs)) (k:K (nv xs.length) w):Cl prog 181 #[ptr b] w K:=by
 obtain⟨o,c,H1⟩:=Zb7 H hj;exact Len_spec H1 k
theorem By_at {j t:Nat}(H:Holds w L) (hj:L[j]?=some (TabR b jo last xs)) (hl:xs.length<=1000) (k:∀ o c w',Same w w'->Holds w' L->K (.slice o (handles (λx=>x.tn==t) xs).length c) w'):Cl prog 107 #[ptr b,nv t] w K:=by
 obtain⟨o,c,H1⟩:=Zb7 H hj;refine Tz107 ?_;unfold Vz107;refine r_new H1 λbt w1 S1 H2=>?_;replace H2:Holds w1 (blk bt 3 [nv t]::TbP b jo last (.slice o xs.length c)::RW cellsL 5 tLv (.slice o xs.length c) xs::L.eraseIdx j):=H2;refine r_mf (.func (.func 161) #[] #[ptr bt]) (by kernel_rfl) ?_;have H3:Holds w1 (TbP b jo last (.slice o xs.length c)::RW cellsL 5 tLv (.slice o xs.length c) xs::blk bt 3 [nv t]::L.eraseIdx j):=(by have h_:=Holds.ord 3 [1,2,0] H2 rfl;exact h_);refine Zhs (p:=λx=>x.tn==t) H3 (S4r.InG.own 0 rfl λ_=>rfl) hl (λx hx w2 M K3 H4 k3=>?_) λv w2 S2 H4=>?_
 ·refine r_inv (f:=161) (args:=#[.agg (cellsL x).toArray,ptr bt]) (by kernel_rfl) ?_;refine Tz161 ?_;unfold Vz161;refine r_new H4 λbx w4 S4 H5=>?_;replace H5:Holds w4 (blk bx tLv (cellsL x)::(M++(RW cellsL 5 tLv (.slice o xs.length c) xs::blk bt 3 [nv t]::L.eraseIdx j))):=H5;refine r_fo0 (r_fo0 (r_ld 0 H5 rfl rfl ?_));refine r_ld (M.length+2) H5 (t:=3) (cs:=[nv t]) ?_ rfl ?_
  ·rw[gF,gT (by omega),show M.length+1 - M.length=1 by omega];rfl
  refine r_eql ?_;have:=k3 _ S4 H5.drop;rw[show (x.tn==t)=(((x.tn:Nat):Int)==((t:Nat):Int)) by rw[Bool.eq_iff_iff];simp;omega] at this;exact this
 ·obtain⟨o4,sp4,rfl,_⟩:=H4.open 0 rfl;have H5:=Zb4 hj ((by have h_:=Holds.ord 4 [1,2] H4 rfl;exact h_):Holds w2 (TbP b jo last (.slice o xs.length c)::RW cellsL 5 tLv (.slice o xs.length c) xs::L.eraseIdx j));rw[Zb0 hj] at H5;exact k o4 _ w2 (S1.trans S2) H5
theorem Zvp {j cn id tn nd:Nat}(H:Holds w L) (hj:L[j]?=some (TabR b jo last xs)) (hl:xs.length<=999) (hne:xs.length≠jo) (hla:last<=1000000)
  (hf:placeL (λx=>x.cn==cn&&x.id==id) xs 0=none)
  (k:∀ w',Same w w'->Holds w' (L.set j (TabR b jo (last+1) (xs++[⟨cn,id,tn,nd,last+1⟩])))->K (.tuple #[nv (last+1),iv 0]) w') :
  Cl prog 137 #[ptr b,.agg #[nv cn,nv id,nv tn,nv nd]] w K:=by
 obtain⟨o,c,H1⟩:=Zb7 H hj;exact Add_spec H1 hl hne hla hf λv' w' S2 H2=>k w' S2 (Zb4 hj H2)
theorem Zus {j h i:Nat}{x:Lv}(H:Holds w L) (hj:L[j]?=some (TabR b jo last xs)) (hl:xs.length<=1000) (hp:placeL (λx=>x.hd==h) xs 0=some i) (hx:xs[i]?=some x) (hu:∀ (q:Nat) y,xs[q]?=some y->i < q->y.hd≠h)
  (k:∀ w',Same w w'->Holds w' (L.set j (TabR b jo last (xs.eraseIdx i)))->K (.tuple #[.agg (cellsY x).toArray,iv 0]) w'):Cl prog 120 #[ptr b,nv h] w K:=by
 obtain⟨o,c,H1⟩:=Zb7 H hj
 have hlt:i < xs.length:=by have:=Zc7 hp;omega
 refine Tz120 ?_;unfold Vz120;refine r_new H1 λbh w1 S1 H2=>?_;replace H2:Holds w1 (blk bh 3 [nv h]::TbP b jo last (.slice o xs.length c)::RW cellsL 5 tLv (.slice o xs.length c) xs::L.eraseIdx j):=H2;refine r_new H2 λxb w2 S2 H3=>?_;rw[Zfp] at H3;refine r_ld 1 H3 rfl rfl ?_;have H4:Holds w2 (TbP b jo last (.slice o xs.length c)::RW cellsL 5 tLv (.slice o xs.length c) xs::blk xb tEy (cellsY lv0)::blk bh 3 [nv h]::L.eraseIdx j):=(by have h_:=Holds.ord 4 [2,3,0,1] H3 rfl;exact h_);refine Zlm H4 (S4r.InG.own 0 rfl λ_=>rfl) hl hp hx λw3 S3 H5=>?_;refine Za6 (Za5 ?_);refine r_new H5 λeb w4 S4 H6=>?_;rw[Zfp] at H6;refine r_stA 0 H6 (vs:=cellsY x) rfl (Nat.le_refl 4) rfl rfl λw5 S5 H7=>?_;replace H7:Holds w5 (blk eb tEy (cellsY x)::TbP b jo last (.slice o xs.length c)::RW cellsL 5 tLv (.slice o xs.length c) xs::blk xb tEy (cellsY lv0)::blk bh 3 [nv h]::L.eraseIdx j):=H7;refine r_eql (r_vtE rfl (r_nc (r_fo0 (r_ld 1 H7 rfl rfl ?_))));have S:=S1.trans (S2.trans (S3.trans (S4.trans S5)));clear S1 S2 S3 S4 S5 H1 H2 H3 H4 H5 H6
 refine r_cl (K:=λv w'=>Same w w'/\Holds w' (RW cellsL 5 tLv v xs::blk eb tEy (cellsY x)::TbP b jo last (.slice o xs.length c)::RW cellsL 5 tLv (.slice o xs.length c) xs::blk xb tEy (cellsY lv0)::blk bh 3 [nv h]::L.eraseIdx j)) ?_ ?_
 ·refine Tz171 ?_;unfold Vz171;have hA:LvIn (blk eb tEy (cellsY x)::TbP b jo last (.slice o xs.length c)::RW cellsL 5 tLv (.slice o xs.length c) xs::blk xb tEy (cellsY lv0)::blk bh 3 [nv h]::L.eraseIdx j) o xs:=S4r.InG.own 2 rfl λ_=>rfl;obtain⟨p,rfl,_⟩:=hA w5 H7 i x hx;refine r_be (v:=.bool false) (by kernel_rfl) (r_vf ?_);refine r_bsK (e:=tLv) [] H7 (by kernel_rfl) λbz w6 S6 H8=>?_;refine r_apG (F:=cellsL) (k:=5) (e:=tLv) H8 hA.up (λ_=>rfl) (by omega) hl λv w7 S7 H9=>?_;exact⟨S.trans (S6.trans S7),Holds.dropAt H9 1⟩
 rintro v w6 ⟨S,H8⟩;refine r_mf (.func (.func 172) #[] #[ptr bh]) (by kernel_rfl) ?_;refine Zrf (p:=λx=>x.hd==h) H8 hl hp (λq y hy hq=>by simpa using hu q y hy hq) (λy hy w7 M K3 H9 k3=>?_) λv' w7 S7 H9=>?_
 ·refine r_inv (f:=172) (args:=#[.agg (cellsL y).toArray,ptr bh]) (by kernel_rfl) ?_;refine Tz172 ?_;unfold Vz172;refine r_new H9 λbx w8 S8 H10=>?_;refine r_fo0 (r_ld 0 H10 (t:=tLv) (cs:=cellsL y) rfl rfl ?_);refine r_ld (M.length+1+4) H10 (t:=3) (cs:=[nv h]) ?_ rfl ?_
  ·rw[show M.length+1+4=(M.length+4)+1 by omega,gF,gT (by omega),show M.length+4 - M.length=4 by omega];rfl
  refine r_eql ?_;have:=k3 _ S8 H10.drop;rw[show (y.hd==h)=(((y.hd:Nat):Int)==((h:Nat):Int)) by rw[Bool.eq_iff_iff];simp;omega] at this;exact this
 ·refine r_nc (r_fo0 ?_)
  have hsg:sg v'=true:=by
   obtain⟨o4,m4,sp4,rfl,_⟩:=H9.openRW 0 rfl;rfl
  refine r_st 2 H9 rfl (by simp) hsg λw8 S8 H10=>?_;replace H10:Holds w8 (RW cellsL 5 tLv v' (xs.eraseIdx i)::blk eb tEy (cellsY x)::TbP b jo last v'::RW cellsL 5 tLv (.slice o xs.length c) xs::blk xb tEy (cellsY lv0)::blk bh 3 [nv h]::L.eraseIdx j):=H10;refine r_ldA 1 H10 (cellsY x) rfl rfl rfl ?_;refine r_stA 4 H10 (vs:=cellsY x) rfl (Nat.le_refl 4) rfl rfl λw9 S9 H11=>?_;refine r_ldA 4 H11 (cellsY x) rfl rfl rfl ?_;exact k w9 (S.trans (S7.trans (S8.trans S9))) (Zb4 hj ((by have h_:=Holds.ord 6 [2,0] H11 rfl;exact h_):Holds w9 (TbP b jo last v'::RW cellsL 5 tLv v' (xs.eraseIdx i)::L.eraseIdx j)))
end A40
end Go.Proofs.YtgdfganaoehokaaGreatDoor
namespace Go.Proofs.YtgdfganaoehokaaGreatDoor
open Go Go.Vc Go.Proofs.Tryz
theorem r_ms0 {α:Type}{P:Program}{w:World}{L:List HProp}{t e:TypeId}{z:Value} [hr:Row P t e z] (H:Holds w L){f:α->Value}{x:α}(hz:z=f x){k k':IntKind}{n:Nat}{K:KT}(h1:n<=1099511627776)
  (h:∀ b w',Same w w'->Holds w' (slb f e (some ⟨b,0,none⟩) [] (List.replicate n (f x))::L)->K (.slice (some ⟨b,0,none⟩) 0 n) w'):Ms P t (.int k 0) (.int k' (n:Int)) w K:=by
 obtain⟨i,hi,hsz,hby,hzz⟩:=hr.inf
 have hrun:=run_make (P:=P) w t e i z hr.und hi hzz k k' 0 (n:Int) (Int.le_refl _) (by omega) (by
  have:(i.bytes:Int)*n<=32*n:=Int.mul_le_mul_of_nonneg_right (by omega) (by omega)
  omega) (by omega)
 refine⟨_,_,hrun,h _ _ (.alloc _ _) ?_⟩
 have hc:madeCells z.cells ((n:Int).toNat*i.size)=(List.replicate n (f x)).toArray:=by
  rw[hsz,Nat.mul_one,hr.one];apply Array.ext
  ·simp[madeCells]
  ·intro j h1 h2;simp[madeCells,hz,Nat.mod_one]
 have:=H.alloc (.cells (madeCells z.cells ((n:Int).toNat*i.size)) e);rw[hc] at this ⊢;refine Holds.imp this λg hg=>⟨rfl,rfl,?_⟩;exact hg
theorem Zwr {size:Nat}{a:Option Addr}{n c l:Nat}{k:IntKind}{K:Value->Prop}(h1:l<=n) (h2:n<=c) (hK:K (.slice (if c=l then a else a.map (·.add (l*size))) (n - l) (c - l))) :
  Ssl size (.slice a n c) (some (.int k (l:Int))) none K:=⟨a,n,c,l,n,rfl,⟨k,rfl⟩,rfl,h1,h2,hK⟩
theorem r_apZ {P:Program}{w:World}{t e ty:TypeId}{z:Value} [hr:Row P t e z] {oa b:Option Addr}{l c c':Nat}{K:KT}(hlc:l<=c) (h:K (.slice oa l c) w):Ap P #[t,t] ty #[.slice oa l c,.slice b 0 c'] w K:=by
 obtain⟨inf,hinf,hsz,hby,hzz⟩:=hr.inf
 have hsrc:Src P inf.size t (.slice b 0 c') 0 [] w:=by
  cases b with
  |none=>exact Src.ofNil w hr.und c'
  |some p=>exact Src.ofSlice w hr.und p 0 c' [] (by simp) (λj u hu=>by simp at hu) (λ_ h=>by cases h)
 exact⟨_,_,run_append_nothing w t t ty e inf hr.und hinf oa _ _ hlc _ hsrc,h⟩
theorem r_apP {α:Type}{P:Program}{w:World}{L:List HProp}{t e ty:TypeId}{z:Value} [hr:Row P t e z] (H:Holds w L) (i j:Nat){f:α->Value}{oa:Option Addr}{xs ys:List α}{sp:List Value}{l c m c' b2 o2:Nat}{cs:List Value}{K:KT}
  (hi:L[i]?=some (slb f e oa xs sp)) (hj:L[j]?=some (blk b2 e cs)) (hcs:(cs.drop o2).take m=ys.map f) (hm:m=ys.length) (hl:l=xs.length) (hc:c=xs.length+sp.length) (hs:∀ y,sg (f y)=true)
  (hn:xs.length+ys.length<=1099511627776)
  (h:∀ oa' sp' w',Same w w'->Holds w' (L.set i (slb f e oa' (xs++ys) sp'))->K (.slice oa' (xs.length+ys.length) (xs.length+ys.length+sp'.length)) w') :
  Ap P #[t,t] ty #[.slice oa l c,.slice (some ⟨b2,o2,none⟩) m c'] w K:=by
 by_cases h0:ys=[]
 ·subst h0;subst hm hl hc;refine r_apZ (by omega) ?_
  have:=h oa sp w (.refl _) (by
   rw[gU,show L.set i (slb f e oa xs sp)=L from by
    have e1:L[i]'(gH.1 hi).1=_:=(gH.1 hi).2
    rw[<-e1,List.set_getElem_self]]
   exact H)
  exact this
 ·exact r_apO H i j hi hj hcs hm hl hc hs hn (List.length_pos_iff.2 h0) h
attribute [local irreducible] Vc.Nc Vc.Ld Vc.LdA Vc.St Vc.StA Vc.Fo Vc.Iaa Vc.Ias Vc.Ixs Vc.Ixa Vc.Fd Vc.FdA Vc.Bp Vc.Bb Vc.Bn Vc.Up Vc.Ci Vc.Lns Vc.Lnl Vc.Ex Vc.Sst Vc.Ssl Vc.New Vc.Vif Vc.VJoin Vc.VLoop Vc.KE Vc.Dr Vc.Rk Vc.Cl Vc.Cx Vc.Inv Vc.Be Vc.Cv Vc.Cw Vc.Mf Vc.Sl Vc.Lk Vc.Bd Vc.Bs Vc.Ms Vc.Mm Vc.Mu Vc.Me Vc.Es Vc.Rg Vc.Nx Vc.Ta Vc.Ap Vc.Usd Vc.Ust Vc.Cp Vc.Ln Vc.Bc Vc.Bmin Vc.Bmax Vc.Bdel Vc.Bclr Vc.Pk
namespace Q40
open J31 J32 J34
variable {w:World}{L:List HProp}{K:KT}
abbrev tQu:Nat:=195
abbrev tI:Nat:=3
abbrev ptr (b:Nat):Value:=.pointer (some ⟨b,0,none⟩)
instance rowI:Row prog 34 3 (.int .i64 0):=⟨by kernel_rfl,⟨t3,by kernel_rfl,by kernel_rfl,by decide,by kernel_rfl⟩,rfl⟩
abbrev cN (n:Nat):List Value:=[nv n]
abbrev NsIn:=S4r.InG cN 1
def placeN (n:Nat):List Nat->Nat->Option Nat
 |[],_=>none
 |x::r,i=>if n=x then some i else placeN n r (i+1)
theorem Zl6 {n:Nat}{xs:List Nat}{j x:Nat}(h:xs[j]?=some x):placeN n (xs.drop j) j=if n=x then some j else placeN n (xs.drop (j+1)) (j+1):=by
 obtain⟨hj,e⟩:=gH.1 h;rw[drop_eq_getElem_cons hj,e];rfl
theorem Zcd {n:Nat}:∀ {xs:List Nat}{i:Nat},n∉xs->placeN n xs i=none
 |[],_,_=>rfl
 |x::r,i,h=>by
  rw[placeN,if_neg (λe=>h (by simp[e]))];exact Zcd λg=>h (by simp[g])
theorem Zcb {n:Nat}:∀ {xs:List Nat}{i:Nat},n∈xs->∃ j,placeN n xs i=some (i+j)/\xs[j]?=some n/\∀ q,q < j->xs[q]?≠some n
 |x::r,i,h=>by
  rw[placeN]
  by_cases e:n=x
  ·subst e;exact⟨0,by rw[if_pos rfl];rfl,rfl,λq hq=>absurd hq (Nat.not_lt_zero _)⟩
  ·rw[if_neg e];obtain⟨j,h1,h2,h3⟩:=Zcb (i:=i+1) ((mem_cons.1 h).resolve_left e);refine⟨j+1,by rw[h1];congr 1;omega,h2,λq hq=>?_⟩
   cases q with
   |zero=>intro g;exact e (Option.some.inj g).symm
   |succ q=>exact h3 q (by omega)
theorem Zgb {n:Nat}:∀ {q:List Nat}{i j:Nat},placeN n q i=some (i+j)->q.eraseIdx j=q.erase n
 |[],_,_,h=>by cases h
 |x::r,i,j,h=>by
  rw[placeN] at h
  by_cases e:n=x
  ·subst e;rw[if_pos rfl] at h;have:=Option.some.inj h
   obtain rfl:j=0:=by omega
   simp
  ·rw[if_neg e] at h
   cases j with
   |zero=>
    exfalso
    by_cases hr:n∈r
    ·obtain⟨q,h1,_⟩:=Zcb (i:=i+1) hr;rw[h1] at h;have:=Option.some.inj h;omega
    ·rw[Zcd hr] at h;cases h
   |succ j=>
    have:=Zgb (q:=r) (i:=i+1) (j:=j) (by rw[h];congr 1;omega);rw[List.eraseIdx_cons_succ,this,List.erase_cons_tail];simp;omega
def optI:Option Nat->Int
 |some i=>(i:Int)
 |none=>-1
theorem Zh9 {o:Option Addr}{c n:Nat}{xs:List Nat}(H:Holds w L) (hA:NsIn L o xs) (hl:xs.length<=1000000) (k:K (iv (optI (placeN n xs 0))) w):Cl prog 215 #[.slice o xs.length c,nv n] w K:=by
 refine Tz215 ?_;unfold Vz215;refine r_lnl ?_;refine Zac (λx w'=>∃ j:Nat,j<=xs.length/\x=nv j/\placeN n xs 0=placeN n (xs.drop j) j/\w=w') (λx _=>xs.length - (intOf x).toNat) ⟨0,by omega,rfl,rfl,rfl⟩ ?_;rintro _ _ _ ⟨j,hj,rfl,hp,rfl⟩;refine r_lss (r_ifD (λh=>?_) λh=>?_)
 ·have hlt:j < xs.length:=by omega
  obtain⟨x,hx⟩:∃ x,xs[j]?=some x:=⟨_,gA hlt⟩;obtain⟨p,rfl,hc⟩:=hA w H _ _ hx;refine Zcm hlt (r_ldP (hc 0 (nv x) rfl) (r_eql ?_));rw[Zl6 hx] at hp
  by_cases e:n=x
  ·rw[if_pos e] at hp;rw[hp] at k;exact r_vtE (by rw[e]) k
  ·rw[if_neg e] at hp;refine r_vfE (by omega) (Za7 (by omega) (r_ke ⟨⟨j+1,by omega,rfl,hp,rfl⟩,?_⟩));simp[nv,intOf];omega
 ·obtain rfl:j=xs.length:=by omega
  rw[drop_length] at hp;rw[hp] at k;exact k
variable {b lim:Nat}{v:Value}{q:List Nat}
abbrev QuP (b lim:Nat) (v:Value):HProp:=blk b tQu [nv lim,v]
theorem Zmr {n:Nat}(H:Holds w (QuP b lim v::SL nv tI v q::L)) (hl:q.length<=1000000) (k:K (.bool (decide (n∈q))) w):Cl prog 203 #[ptr b,nv n] w K:=by
 obtain⟨o,sp,rfl,_⟩:=H.open 1 rfl;refine Tz203 ?_;unfold Vz203
 repeat (first|refine r_nc ?_|refine r_fo0 ?_|(with_reducible first|refine Zfz ?_|refine r_vt ?_)|refine r_ld 0 H rfl rfl ?_)
 refine Tz217 ?_;unfold Vz217;refine Zh9 H (S4r.SLIn (F:=cN) id 1 rfl (by simp) λ_=>rfl) hl ?_;refine r_geq ?_
 have:decide ((0:Int)<=optI (placeN n q 0))=decide (n∈q):=by
  by_cases h:n∈q
  ·obtain⟨j,h1,_⟩:=Zcb (i:=0) h;rw[h1,decide_eq_true h];exact decide_eq_true (show (0:Int)<=((0+j:Nat):Int) by omega)
  ·rw[Zcd h,decide_eq_false h];exact decide_eq_false (by decide)
 rw[this];exact k
theorem Len_spec (H:Holds w (QuP b lim v::SL nv tI v q::L)) (k:K (nv q.length) w):Cl prog 144 #[ptr b] w K:=by
 obtain⟨o,sp,rfl,_⟩:=H.open 1 rfl;refine Tz144 ?_;unfold Vz144
 repeat (first|refine r_nc ?_|refine r_fo0 ?_|refine r_lnl ?_|(with_reducible first|refine Za3 ?_|refine r_vf ?_)|refine r_ld 0 H rfl rfl ?_)
 exact k
theorem Zjo {n:Nat}(H:Holds w (QuP b lim v::SL nv tI v q::L)) (hl:q.length<=1000) (hlim:1000 < lim) (k:∀ v' w',Same w w'->Holds w' (QuP b lim v'::SL nv tI v' (q++[n])::L)->n∉q->K (iv 0) w')
  (k2:n∈q->K (iv 8) w):Cl prog 196 #[ptr b,nv n] w K:=by
 refine Tz196 ?_;unfold Vz196
 repeat (first|(with_reducible first|refine Za3 ?_|refine r_vf ?_))
 refine Zmr H (by omega) ?_
 by_cases h:n∈q
 ·rw[decide_eq_true h];exact r_vt (k2 h)
 rw[decide_eq_false h];refine r_vf (r_dr H λw1 S1 H1=>?_);obtain⟨o,sp,rfl,_⟩:=H1.open 1 rfl;refine r_nc (r_fo (r_ld 0 H1 rfl rfl (r_lnl (r_nc (r_fo0 (r_ld 0 H1 (v:=nv lim) rfl rfl (r_eql (r_vfE (by omega) ?_))))))));refine r_nc (r_fo (r_ld 0 H1 rfl rfl ?_));refine Zmg H1 1 rfl n (λ_=>rfl) (by omega) λv' w2 S2 H2=>?_;obtain⟨o',sp',rfl,_⟩:=H2.open 1 rfl;refine r_nc (r_fo ?_);refine r_st 0 H2 rfl (by simp) rfl λw3 S3 H3=>?_;exact k _ w3 ((S1.trans S2).trans S3) H3 h
theorem Zj8 {i:Nat}(H:Holds w (SL nv tI v q::L)) (ha:i < q.length) (hl:q.length<=1000000) (k:∀ v' w',Same w w'->Holds w' (SL nv tI v' (q.eraseIdx i)::L)->K v' w'):Cl prog 214 #[v,nv i] w K:=by
 obtain⟨oa,sp,rfl,H1⟩:=H.open 0 rfl
 cases oa with
 |none=>
  obtain⟨h,hh,_,_⟩:=H1.front 0 (Za2 (L:=SL nv tI (.slice none q.length (q.length+sp.length)) q::L) rfl);have:=hh.1;subst this;exact absurd ha (Nat.not_lt_zero _)
 |some a=>
  obtain⟨h,⟨h2,h3,_⟩,_⟩:=H1.front 0 (Za2 (L:=SL nv tI (.slice (some a) q.length (q.length+sp.length)) q::L) rfl);obtain⟨b,o,st⟩:=a;simp only at h2 h3;subst h2;subst h3;have Hb:=H1.slb 0 (Za2 (L:=SL nv tI (.slice (some ⟨b,0,none⟩) q.length (q.length+sp.length)) q::L) rfl);replace Hb:Holds w (blk b tI (q.map nv++sp)::L):=Hb;refine Tz214 ?_;unfold Vz214;refine r_lnl (Zpv (by omega) (by omega) ?_);refine r_ms0 (f:=nv) (x:=0) Hb rfl (by omega) λb2 w2 S2 H2=>?_;refine Zlx (by omega) ?_;refine r_apP H2 0 1 (ys:=q.take i) (o2:=0) rfl rfl (by rw[drop_zero,List.take_append_of_le_length (by simp;omega),List.map_take]) (by rw[gN];omega) rfl (by simp) (λ_=>rfl) (by simp;omega) λoa3 sp3 w3 S3 H3=>?_;replace H3:Holds w3 (slb nv tI oa3 (q.take i) sp3::blk b tI (q.map nv++sp)::L):=H3;refine Za7 (by omega) (Zwr (by omega) (by omega) ?_);have hd:q.take i++q.drop (i+1)=q.eraseIdx i:=(List.eraseIdx_eq_take_drop_succ q i).symm
  have hlen:(q.take i).length=i:=by rw[gN];omega
  by_cases hc:q.length+sp.length=i+1
  ·rw[if_pos hc,show q.length - (i+1)=0 by omega];refine r_apZ (by simp) ?_;have hq:q.drop (i+1)=[]:=List.drop_eq_nil_of_le (by omega);rw[hq,gU] at hd;have H4:=Holds.dropAt (Holds.close H3 0 rfl) 1;rw[<-hd] at k;simp only[List.length_nil,Nat.zero_add] at *;exact k _ _ (S2.trans S3) H4
  ·rw[if_neg hc]
   have e1:(some (⟨b,0,none⟩:Addr)).map (·.add ((i+1)*1))=some ⟨b,i+1,none⟩:=by
    simp[Addr.add]
   rw[e1];refine r_apP H3 0 1 (ys:=q.drop (i+1)) (o2:=i+1) rfl rfl ?_ (by rw[gS]) (by simp) (by simp) (λ_=>rfl) (by simp;omega) λoa4 sp4 w4 S4 H4=>?_
   ·rw[List.drop_append_of_le_length (by simp;omega),List.take_append_of_le_length (by simp),List.map_drop,gK (by simp)]
   rw[hd] at H4;have H5:=Holds.dropAt (Holds.close H4 0 rfl) 1;have:=k _ _ ((S2.trans S3).trans S4) H5;rw[<-hd,gD] at this;exact this
theorem Zg3 {n:Nat}(H:Holds w (QuP b lim v::SL nv tI v q::L)) (hl:q.length<=1000000)
  (k:∀ v' w',Same w w'->Holds w' (QuP b lim v'::SL nv tI v' (q.erase n)::L)->n∈q->K (iv 0) w') (k2:n∉q->K (iv 6) w):Cl prog 189 #[ptr b,nv n] w K:=by
 obtain⟨o,sp,rfl,_⟩:=H.open 1 rfl;refine Tz189 ?_;unfold Vz189
 repeat (first|refine r_nc ?_|refine r_fo0 ?_|(with_reducible first|refine Za3 ?_|refine r_vf ?_)|refine r_ld 0 H rfl rfl ?_)
 refine Zh9 H (S4r.SLIn (F:=cN) id 1 rfl (by simp) λ_=>rfl) hl ?_
 by_cases h:n∈q
 ·obtain⟨j,h1,h2,_⟩:=Zcb (i:=0) h;have hj:j < q.length:=(gH.1 h2).1;have he:=Zgb h1;rw[Nat.zero_add] at h1;rw[h1];refine r_lss (r_vfd (by show decide ((j:Int) < 0)=false;exact decide_eq_false (by omega)) ?_);refine r_nc (r_fo (r_ld 0 H rfl rfl ?_));refine Zj8 (i:=j) H.swap hj hl λv' w1 S1 H1=>?_;rw[he] at H1;obtain⟨o',sp',rfl,_⟩:=H1.open 0 rfl;refine r_nc (r_fo ?_);refine r_st 1 H1 rfl (by simp) rfl λw2 S2 H2=>?_;exact k _ w2 (S1.trans S2) (Holds.swap H2) h
 ·rw[Zcd h];exact r_lss (r_vtd (by decide) (k2 h))
end Q40
namespace Q40
open J31 J32 J34
variable {w:World}{L:List HProp}{K:KT}
abbrev tTe:Nat:=122
abbrev tSc:Nat:=119
abbrev tPt:Nat:=120
abbrev lim0:Nat:=1099511627776
structure Te where
 tb:Nat
 qb:Nat
 qu:Nat
 cr:Nat
 v:Value
 q:List Nat
def TeR (t:Te):HProp:=λh=>Sat [blk t.tb tTe [ptr t.qb,nv t.qu,nv t.cr],QuP t.qb lim0 t.v,SL nv tI t.v t.q] h
theorem Zie {t:Te}(H:Holds w (TeR t::L)):Holds w (blk t.tb tTe [ptr t.qb,nv t.qu,nv t.cr]::QuP t.qb lim0 t.v::SL nv tI t.v t.q::L):=Holds.unpack H
theorem Ze0 {t:Te}(H:Holds w (blk t.tb tTe [ptr t.qb,nv t.qu,nv t.cr]::QuP t.qb lim0 t.v::SL nv tI t.v t.q::L)):Holds w (TeR t::L):=Holds.pack (A:=[_,_,_]) H
def ScL (sb rb:Nat) (v rv:Value) (ring:List Nat) (ts:List Te):List HProp:=
 blk sb tSc [v,ptr rb]::SL ptr tPt v (ts.map (·.tb))::QuP rb lim0 rv::SL nv tI rv ring::ts.map TeR
variable {sb rb:Nat}{v rv:Value}{ring:List Nat}{ts:List Te}
def placeT (n:Nat):List Te->Nat->Option Nat
 |[],_=>none
 |t::r,i=>if n∈t.q then some i else placeT n r (i+1)
theorem Zlj {n:Nat}{ts:List Te}{j:Nat}{t:Te}(h:ts[j]?=some t):placeT n (ts.drop j) j=if n∈t.q then some j else placeT n (ts.drop (j+1)) (j+1):=by
 obtain⟨hj,e⟩:=gH.1 h;rw[drop_eq_getElem_cons hj,e];rfl
theorem Zhe {n:Nat}(H:Holds w (ScL sb rb v rv ring ts++L)) (hl:ts.length<=1000) (hq:∀ t∈ts,t.q.length<=1000000) (k:∀ w',Same w w'->Holds w' (ScL sb rb v rv ring ts++L)->K (iv (optI (placeT n ts 0))) w') :
  Cl prog 173 #[ptr sb,nv n] w K:=by
 obtain⟨o,sp,rfl,_⟩:=H.open 1 rfl;rw[hS_] at H k;generalize hc:ts.length+sp.length=c at H k;refine Tz173 ?_;unfold Vz173;refine r_new H λbj w1 S1 H1=>?_;replace H1:Holds w1 (blk bj 3 [nv n]::(ScL sb rb (.slice o ts.length c) rv ring ts++L)):=H1;refine r_nc (r_fo0 (r_ld 1 H1 (v:=.slice o ts.length c) rfl rfl ?_));refine r_mf (.func (.func 202) #[] #[ptr bj]) (by kernel_rfl) ?_;refine Tz201 ?_;unfold Vz201;refine r_lnl ?_;refine Zac (λx w'=>∃ j:Nat,j<=ts.length/\x=nv j/\placeT n ts 0=placeT n (ts.drop j) j/\Same w w'/\Holds w' (blk bj 3 [nv n]::(ScL sb rb (.slice o ts.length c) rv ring ts++L))) (λx _=>ts.length - (intOf x).toNat) ⟨0,by omega,rfl,rfl,S1,H1⟩ ?_;clear H H1 S1;rintro _ _ w2 ⟨j,hj,rfl,hp,S,H⟩;refine r_lss (r_ifD (λh=>?_) λh=>?_)
 ·have hlt:j < ts.length:=by omega
  obtain⟨t,ht⟩:∃ t,ts[j]?=some t:=⟨_,gA hlt⟩;have hA:S4r.InG (λb:Nat=>[ptr b]) 1 (blk bj 3 [nv n]::(ScL sb rb (.slice o ts.length c) rv ring ts++L)) o (ts.map (·.tb)):=S4r.SLIn (f:=ptr) id 2 (c:=c) (n:=ts.length) rfl (by simp) λ_=>rfl
  have hx:(ts.map (·.tb))[j]?=some t.tb:=by rw[hV_,ht];rfl
  obtain⟨p,rfl,hcl⟩:=hA w2 H _ _ hx;refine Zcm hlt (r_ldP (hcl 0 (ptr t.tb) rfl) ?_);refine r_inv (f:=202) (args:=#[ptr t.tb,ptr bj]) (by kernel_rfl) ?_;refine Tz202 ?_;unfold Vz202;refine r_dr H λw3 S3 H3=>?_
  have hi:(blk bj 3 [nv n]::(ScL sb rb (.slice (some p) ts.length c) rv ring ts++L))[5+j]?=some (TeR t):=by
   rw[show 5+j=j+1+1+1+1+1 by omega];show (ts.map TeR++L)[j]?=_;rw[gM (by simpa using hlt),hV_,ht];rfl
  have H4:=Zie (H3.front (5+j) hi);refine r_nc (r_fo0 (r_ld 0 H4 (v:=ptr t.qb) rfl rfl (r_ld 0 H3 (v:=nv n) rfl rfl ?_)));refine Zmr H4.drop (hq t (mem_of_getElem? ht)) ?_;rw[Zlj ht] at hp
  by_cases e:n∈t.q
  ·rw[if_pos e] at hp;rw[hp] at k;rw[decide_eq_true e];exact r_vt (k w3 (S.trans S3) H3.drop)
  ·rw[if_neg e] at hp;rw[decide_eq_false e];refine r_vf (Za7 (by omega) (r_ke ⟨⟨j+1,by omega,rfl,hp,S.trans S3,H3⟩,?_⟩));simp[nv,intOf];omega
 ·obtain rfl:j=ts.length:=by omega
  rw[drop_length] at hp;rw[hp] at k;exact k w2 S H.drop
theorem Sc_at {j:Nat}{t:Te}(ht:ts[j]?=some t):(ScL sb rb v rv ring ts++L)[4+j]?=some (TeR t):=by
 have hlt:j < ts.length:=(gH.1 ht).1;rw[show 4+j=j+1+1+1+1 by omega];show (ts.map TeR++L)[j]?=_;rw[gM (by simpa using hlt),hV_,ht];rfl
theorem Zsx {j:Nat}{t:Te}(ht:ts[j]?=some t) (H:Holds w (ScL sb rb v rv ring ts++L)):Holds w (TeR t::(ScL sb rb v rv ring ts++L).eraseIdx (4+j)):=H.front (4+j) (Sc_at ht)
theorem Zqf {j:Nat}{t t':Te}(ht:ts[j]?=some t) (hb:t'.tb=t.tb) (H:Holds w (TeR t'::(ScL sb rb v rv ring ts++L).eraseIdx (4+j))):Holds w (ScL sb rb v rv ring (ts.set j t')++L):=by
 have H2:Holds w ((ScL sb rb v rv ring ts++L).set (4+j) (TeR t')):=Sat.push (4+j) (Sc_at ht) H;have hlt:j < ts.length:=(gH.1 ht).1
 have e:(ScL sb rb v rv ring ts++L).set (4+j) (TeR t')=ScL sb rb v rv ring (ts.set j t')++L:=by
  rw[show 4+j=j+1+1+1+1 by omega]
  have e1:(ts.set j t').map (·.tb)=ts.map (·.tb):=by
   apply List.ext_getElem?;intro q;rw[hV_,hV_,List.getElem?_set];split
   ·rename_i h;subst h;rw[ht];simp[hb]
   ·rfl
  show _::_::_::_::(ts.map TeR++L).set j (TeR t')=_::SL ptr tPt v ((ts.set j t').map (·.tb))::_::_::((ts.set j t').map TeR++L);rw[e1,List.set_append_left _ _ (by simpa using hlt),map_set]
 rw[e] at H2;exact H2
theorem of_spec {j:Nat}{t:Te}(ht:ts[j]?=some t) (H:Holds w (ScL sb rb v rv ring ts++L)) (k:K (ptr t.tb) w):Cl prog 151 #[ptr sb,nv j] w K:=by
 have hlt:j < ts.length:=(gH.1 ht).1;obtain⟨o,sp,rfl,_⟩:=H.open 1 rfl;rw[hS_] at H;generalize hc:ts.length+sp.length=c at H;refine Tz151 ?_;unfold Vz151;refine Za0 (λx w'=>w=w'/\x=.bool false) ?_ ?_
 rotate_left
 ·repeat (first|refine r_nc ?_|refine r_fo0 ?_|refine r_ke ?_|refine r_lnl ?_|refine r_lss ?_|refine r_geq ?_|(with_reducible first|refine Za3 ?_|refine r_vf ?_)|refine r_ld 0 H rfl rfl ?_|((with_reducible refine r_vfD ?h ?_);(case h=>omega)))
  exact⟨rfl,by rw[decide_eq_false (by omega)]⟩
 rintro _ _ _ ⟨rfl,rfl⟩;refine r_vf (r_nc (r_fo0 (r_ld 0 H (v:=.slice o ts.length c) rfl rfl ?_)));have hA:S4r.InG (λb:Nat=>[ptr b]) 1 (ScL sb rb (.slice o ts.length c) rv ring ts++L) o (ts.map (·.tb)):=S4r.SLIn (f:=ptr) id 1 (c:=c) (n:=ts.length) rfl (by simp) λ_=>rfl
 have hx:(ts.map (·.tb))[j]?=some t.tb:=by rw[hV_,ht];rfl
 obtain⟨p,rfl,hcl⟩:=hA w H _ _ hx;exact Zcm hlt (r_ldP (hcl 0 (ptr t.tb) rfl) k)
theorem Zfu {n:Nat}:∀ {ts:List Te}{i:Nat},placeT n ts i=none->∀ t∈ts,n∉t.q
 |[],_,_,t,h=>by cases h
 |t::r,i,hp,u,h=>by
  rw[placeT] at hp;split at hp
  ·cases hp
  ·rename_i hn;rcases mem_cons.1 h with rfl|h
   ·exact hn
   ·exact Zfu hp u h
theorem Add_spec {j n:Nat}{t:Te}(ht:ts[j]?=some t) (H:Holds w (ScL sb rb v rv ring ts++L)) (hl:ts.length<=1000) (hq:∀ t∈ts,t.q.length<=1000) (hr:ring.length<=1000)
  (k1:∀ w',placeT n ts 0≠none->Same w w'->Holds w' (ScL sb rb v rv ring ts++L)->K (iv 8) w')
  (k2:∀ v' rv' w',placeT n ts 0=none->Same w w'->Holds w' (ScL sb rb v rv' (if j∈ring then ring else ring++[j]) (ts.set j { t with v:=v',q:=t.q++[n] })++L)->K (iv 0) w') :
  Cl prog 158 #[ptr sb,nv j,nv n] w K:=by
 refine Tz158 ?_;unfold Vz158;refine of_spec ht H ?_
 repeat (first|(with_reducible first|refine Za3 ?_|refine r_vf ?_))
 refine Zhe H hl (λt h=>Nat.le_trans (hq t h) (by omega)) λw1 S1 H1=>?_
 cases hp:placeT n ts 0 with
 |some i=>
  refine r_geq (r_vtd (by show decide ((0:Int)<=((i:Nat):Int))=true;exact decide_eq_true (by omega)) ?_);exact k1 w1 (by rw[hp];exact λh=>by cases h) S1 H1
 |none=>
  refine r_geq (r_vfd (by decide) ?_);have hm:=mem_of_getElem? ht;have H2:=Zie (Zsx ht H1);refine r_nc (r_fo0 (r_ld 0 H2 (v:=ptr t.qb) rfl rfl ?_));have H3:Holds w1 (QuP t.qb lim0 t.v::SL nv tI t.v t.q::blk t.tb tTe [ptr t.qb,nv t.qu,nv t.cr]::(ScL sb rb v rv ring ts++L).eraseIdx (4+j)):=(H2.front 2 rfl).front 2 rfl;refine Zjo H3 (hq t hm) (by decide) (λv' w2 S2 H4 _=>?_) λh=>absurd h (Zfu hp t hm);have H5:=Zqf (t':={ t with v:=v',q:=t.q++[n] }) ht rfl (Ze0 (t:={ t with v:=v',q:=t.q++[n] }) (H4.front 2 rfl));refine r_nc (r_fo (r_ld 0 H5 (v:=ptr rb) rfl rfl ?_));have H6:Holds w2 (QuP rb lim0 rv::SL nv tI rv ring::blk sb tSc [v,ptr rb]::SL ptr tPt v ((ts.set j { t with v:=v',q:=t.q++[n] }).map (·.tb))::((ts.set j { t with v:=v',q:=t.q++[n] }).map TeR++L)):=(H5.front 3 rfl).front 3 rfl;refine Zjo H6 hr (by decide) (λrv' w3 S3 H7 hn=>?_) λh=>?_
  ·refine k2 v' rv' w3 hp ((S1.trans S2).trans S3) ?_;rw[if_neg hn];exact (H7.front 3 rfl).front 3 rfl
  ·refine k2 v' rv w2 hp (S1.trans S2) ?_;rw[if_pos h];exact H5
theorem Zrm {j n:Nat}{t:Te}(ht:ts[j]?=some t) (hn:n∈t.q) (H:Holds w (ScL sb rb v rv ring ts++L)) (hl:ts.length<=1000) (hq:t.q.length<=1000) (hr:ring.length<=1000)
  (k1:∀ v' rv' w',t.q.erase n=[]->Same w w'->Holds w' (ScL sb rb v rv' (ring.erase j) (ts.set j { t with v:=v',q:=t.q.erase n,cr:=0 })++L)->K (.tuple #[]) w')
  (k2:∀ v' w',t.q.erase n≠[]->Same w w'->Holds w' (ScL sb rb v rv ring (ts.set j { t with v:=v',q:=t.q.erase n })++L)->K (.tuple #[]) w') :
  Cl prog 152 #[ptr sb,nv j,nv n] w K:=by
 have hlt:j < ts.length:=(gH.1 ht).1;have H0:=H;obtain⟨o,sp,hv,_⟩:=H.open 1 rfl;rw[hS_] at hv;generalize hc:ts.length+sp.length=c at hv;refine Tz152 ?_;unfold Vz152;refine r_nc (r_fo0 (r_ld 0 H (v:=v) rfl rfl ?_));have hA:S4r.InG (λb:Nat=>[ptr b]) 1 (ScL sb rb v rv ring ts++L) o (ts.map (·.tb)):=S4r.SLIn (f:=ptr) id 1 (c:=c) (n:=ts.length) (by rw[<-hv];rfl) (by simp) λ_=>rfl
 have hx:(ts.map (·.tb))[j]?=some t.tb:=by rw[hV_,ht];rfl
 obtain⟨p,rfl,hcl⟩:=hA w H _ _ hx;rw[hv];refine Zcm hlt (r_ldP (hcl 0 (ptr t.tb) rfl) ?_);have H2:=Zie (Zsx ht H);refine r_nc (r_fo0 (r_ld 0 H2 (v:=ptr t.qb) rfl rfl ?_));have H3:Holds w (QuP t.qb lim0 t.v::SL nv tI t.v t.q::blk t.tb tTe [ptr t.qb,nv t.qu,nv t.cr]::(ScL sb rb v rv ring ts++L).eraseIdx (4+j)):=(H2.front 2 rfl).front 2 rfl;refine Zg3 H3 (by omega) (λv' w1 S1 H4 _=>?_) λh=>absurd hn h;refine r_nc (r_fo0 (r_ld 2 H4 (v:=ptr t.qb) rfl rfl ?_));refine Len_spec H4 (r_eql ?_);have H5:Holds w1 (blk t.tb tTe [ptr t.qb,nv t.qu,nv t.cr]::QuP t.qb lim0 v'::SL nv tI v' (t.q.erase n)::(ScL sb rb v rv ring ts++L).eraseIdx (4+j)):=H4.front 2 rfl
 by_cases he:t.q.erase n=[]
 ·refine r_vtE (by rw[he];rfl) ?_;refine r_nc (r_fo0 ?_);refine r_st 0 H5 rfl (by simp) rfl λw2 S2 H6=>?_;have H7:=Zqf (t':={ t with v:=v',q:=t.q.erase n,cr:=0 }) ht rfl (Ze0 (t:={ t with v:=v',q:=t.q.erase n,cr:=0 }) H6);refine r_nc (r_fo (r_ld 0 H7 (v:=ptr rb) rfl rfl ?_));have H8:Holds w2 (QuP rb lim0 rv::SL nv tI rv ring::blk sb tSc [v,ptr rb]::SL ptr tPt v ((ts.set j { t with v:=v',q:=t.q.erase n,cr:=0 }).map (·.tb))::((ts.set j { t with v:=v',q:=t.q.erase n,cr:=0 }).map TeR++L)):=(H7.front 3 rfl).front 3 rfl;refine Zg3 H8 (by omega) (λrv' w3 S3 H9 _=>?_) λh=>?_
  ·exact k1 v' rv' w3 he ((S1.trans S2).trans S3) ((H9.front 3 rfl).front 3 rfl)
  ·refine k1 v' rv w2 he (S1.trans S2) ?_;rw[List.erase_of_not_mem h];exact H7
 ·refine r_vfE (λg=>he (List.eq_nil_of_length_eq_zero (by omega))) ?_;exact k2 v' w1 he S1 (Zqf (t':={ t with v:=v',q:=t.q.erase n }) ht rfl (Ze0 (t:={ t with v:=v',q:=t.q.erase n }) H5))
theorem Zg7 {n:Nat}:∀ {ts:List Te}{i m:Nat},placeT n ts i=some m->∃ j t,m=i+j/\ts[j]?=some t/\n∈t.q
 |[],_,_,h=>by cases h
 |t::r,i,m,h=>by
  rw[placeT] at h;split at h
  ·rename_i hn;cases h;exact⟨0,t,rfl,rfl,hn⟩
  ·obtain⟨j,u,h1,h2,h3⟩:=Zg7 h;exact⟨j+1,u,by omega,h2,h3⟩
theorem Zjs {n:Nat}(H:Holds w (ScL sb rb v rv ring ts++L)) (hl:ts.length<=1000) (hq:∀ t∈ts,t.q.length<=1000) (hr:ring.length<=1000)
  (k0:∀ w',placeT n ts 0=none->Same w w'->Holds w' (ScL sb rb v rv ring ts++L)->K (iv 6) w')
  (k1:∀ j t v' rv' w',placeT n ts 0=some j->ts[j]?=some t->t.q.erase n=[]->Same w w'->Holds w' (ScL sb rb v rv' (ring.erase j) (ts.set j { t with v:=v',q:=t.q.erase n,cr:=0 })++L)->K (iv 0) w')
  (k2:∀ j t v' w',placeT n ts 0=some j->ts[j]?=some t->t.q.erase n≠[]->Same w w'->Holds w' (ScL sb rb v rv ring (ts.set j { t with v:=v',q:=t.q.erase n })++L)->K (iv 0) w') :
  Cl prog 121 #[ptr sb,nv n] w K:=by
 refine Tz121 ?_;unfold Vz121
 repeat (first|(with_reducible first|refine Za3 ?_|refine r_vf ?_))
 refine Zhe H hl (λt h=>Nat.le_trans (hq t h) (by omega)) λw1 S1 H1=>?_
 cases hp:placeT n ts 0 with
 |none=>exact r_lss (r_vtd (by decide) (k0 w1 hp S1 H1))
 |some m=>
  obtain⟨j,t,hm,ht,hn⟩:=Zg7 hp
  obtain rfl:m=j:=by omega
  refine r_lss (r_vfd (by show decide (((m:Nat):Int) < 0)=false;exact decide_eq_false (by omega)) ?_);exact Zrm ht hn H1 hl (hq t (mem_of_getElem? ht)) hr (λv' rv' w2 he S2 H2=>k1 m t v' rv' w2 hp ht he (S1.trans S2) H2) λv' w2 he S2 H2=>k2 m t v' w2 hp ht he (S1.trans S2) H2
end Q40
end Go.Proofs.YtgdfganaoehokaaGreatDoor
namespace Go.Proofs.YtgdfganaoehokaaGreatDoor
open Go Go.Vc Go.Proofs.Tryz
namespace L42
open J30 Go.Tx
variable {w:World}{L:List HProp}{K:KT}{s t:List UInt8}{c:UInt8}
abbrev tSt:Nat:=9
instance rowSt:Row prog 25 9 (.string ⟨#[]⟩):=⟨by kernel_rfl,⟨t9,by kernel_rfl,by kernel_rfl,by decide,by kernel_rfl⟩,rfl⟩
theorem x156:Builder.Extra prog Tryz.lays156_ren:={
 sizeBuilder:=by kernel_rfl
 liesBuilder:=by kernel_rfl
 t5:=underlying5
 a5:=Tryz.isAgg5
 z5:=Tryz.sizeOf5
 v5:=Tryz.zeroValue5
 infoByte:=by kernel_rfl
 cellsByte:=by kernel_rfl
 sizeByte:=by kernel_rfl
 neB5:=by decide }
theorem Zei (c:UInt8):∀ l:List (List UInt8),Lib.join l [c]=joinC c l
 |[]=>rfl
 |[a]=>Lib.join_one a [c]
 |a::b::r=>by
  have ih:=Zei c (b::r);unfold Lib.join at ih ⊢;rw[joinC,<-ih];simp[List.intercalate]
theorem Zqc {l:List (List UInt8)}{v:Value}(i:Nat) (H:Holds w L) (hi:L[i]?=some (SL S_ tSt v l)) (hne:l≠[]) (hl:l.length<=1000000) (hj:(joinC c l).length<=100000000) (k:∀ w',Same w w'->Holds w' L->K (S_ (joinC c l)) w') :
  Cl prog 176 #[v,S_ [c]] w K:=by
 obtain⟨oa,sp,rfl,H1⟩:=H.open i hi;have hil:i < L.length:=(gH.1 hi).1
 cases oa with
 |none=>
  obtain⟨g,hg,_,_⟩:=H1.front i (Za2 hi);exact absurd hg.1 hne
 |some a=>
  obtain⟨g,hg,hs,_⟩:=H1.front i (Za2 hi);obtain⟨g1,g2,g3⟩:=hg;obtain⟨bk,o,spot⟩:=a;simp only at g1 g2;subst g1 g2;have hb:w.heap[bk]?=some (.cells (l.map S_++sp).toArray tSt):=hs _ _ g3;have hlt:bk < w.heap.size:=(Array.getElem?_eq_some_iff.1 hb).1
  let xs:List ByteArray:=l.map λx=>⟨x.toArray⟩
  have hxl:xs.length=l.length:=hS_ ..
  have hdat:xs.map (·.data.toList)=l:=by
   show (l.map _).map _=l;rw[map_map]
   conv=>rhs;rw[<-List.map_id l]
   exact List.map_congr_left λx _=>rfl
  have cc:=Go.Proofs.Any.strings_Join Tryz.lays156 x156 bk 0 (l.length+sp.length) xs ⟨#[c]⟩ w (λj x hx=>by
   rw[hV_] at hx
   cases hlj:l[j]? with
   |none=>rw[hlj] at hx;cases hx
   |some y=>
    rw[hlj] at hx;cases hx;have hjl:j < l.length:=(gH.1 hlj).1;unfold World.cell?;rw[hb];simp[List.getElem?_append,hjl]
    exact (gH.1 hlj).2) hlt (by omega) (by omega) (by rw[hdat];rw[Zei];omega)
  rw[hxl] at cc;refine⟨Tryz.call176 _ _,cc.mono λe w' ⟨he,hbel⟩=>⟨_,he,?_⟩⟩;rw[hdat,Zei];exact k w' ⟨hbel.os,hbel.tape,hbel.output,hbel.size⟩ (Zg4 hbel H)
end L42
attribute [local irreducible] Vc.Nc Vc.Ld Vc.LdA Vc.St Vc.StA Vc.Fo Vc.Iaa Vc.Ias Vc.Ixs Vc.Ixa Vc.Fd Vc.FdA Vc.Bp Vc.Bb Vc.Bn Vc.Up Vc.Ci Vc.Lns Vc.Lnl Vc.Ex Vc.Sst Vc.Ssl Vc.New Vc.Vif Vc.VJoin Vc.VLoop Vc.KE Vc.Dr Vc.Rk Vc.Cl Vc.Cx Vc.Inv Vc.Be Vc.Cv Vc.Cw Vc.Mf Vc.Sl Vc.Lk Vc.Bd Vc.Bs Vc.Ms Vc.Mm Vc.Mu Vc.Me Vc.Es Vc.Rg Vc.Nx Vc.Ta Vc.Ap Vc.Usd Vc.Ust Vc.Cp Vc.Ln Vc.Bc Vc.Bmin Vc.Bmax Vc.Bdel Vc.Bclr Vc.Pk
namespace F33
open Go.M31 J30 J31 J32 U38
variable {w:World}{L:List HProp}{K:KT}
theorem Zpx {b c i:Nat}{ys:List Nat}(H:Holds w L) (hi:L[i]?=some (blk b 3 (ys.map nv))) (h0:ys≠[]) (hl:ys.length<=10) (hy:∀ y∈ys,y<=1000000000000000000) (k:∀ w',Same w w'->Holds w' L->K (S_ (joinF ys)) w'):Cl prog 129 #[.slice (some ⟨b,0,none⟩) ys.length c] w K:=by
 refine Tz129 ?_;unfold Vz129;refine r_lnl ?_;refine Zam (λo y w'=>∃ q:Nat,q<=ys.length/\y=nv q/\Same w w'/\Holds w' (SL L42.S_ L42.tSt o ((ys.take q).map Go.Tx.dig)::L)) (λ_ y _=>ys.length - (intOf y).toNat) ⟨0,by omega,rfl,.refl w,H.nilSL _ _⟩ ?_;clear H;rintro _ o _ w2 ⟨q,hq,rfl,S,H⟩;refine r_lss (r_ifD (λh=>?_) λh=>?_)
 ·have hlt:q < ys.length:=by omega
  have hy':ys[q]?=some ys[q]:=gA hlt;refine Zg9 (by omega) ?_;rw[Nat.mul_one];refine r_ld (i+1) H (v:=nv ys[q]) (by rw[gF];exact hi) (by rw[hV_,hy'];rfl) ?_;refine L42.Zjd ys[q] (hy _ (List.getElem_mem hlt)) H λw3 S3 H3=>?_;refine Zmg (f:=L42.S_) H3 0 rfl (Go.Tx.dig ys[q]) (λ_=>rfl) (by simp;omega) λv2 w6 S6 H6=>?_;rw[gJ] at H6;refine Za7 (by omega) (r_ke ⟨⟨q+1,by omega,rfl,S.trans (S3.trans S6),?_⟩,?_⟩)
  ·rw[gO,hy',map_append];exact H6
  ·simp only[intOf,gC];omega
 ·obtain rfl:q=ys.length:=by omega
  rw[List.take_length] at H
  have hjl:∀ (l:List Nat),l.length<=10->(∀ y∈l,y<=1000000000000000000)->(Go.Tx.joinC 32 (l.map Go.Tx.dig)).length<=20*l.length:=by
   intro l
   induction l with
   |nil=>intro _ _;exact Nat.le_refl _
   |cons a r ih=>
    intro h1 h2;have ha:=Go.Tx.dig_len 18 a (by have:=h2 a (hJ_ ..);have:(10:Nat)^(18+1)=10000000000000000000:=(by decide);omega)
    cases r with
    |nil=>show (Go.Tx.dig a).length<=20;omega
    |cons b r=>
     have:=ih (by simp at h1 ⊢;omega) λy hy=>h2 y (hK_ _ hy);show (Go.Tx.dig a++32::Go.Tx.joinC 32 ((b::r).map Go.Tx.dig)).length<=_;rw[gD,gY,gY (a:=a)];omega
  have hb:=hjl ys hl hy;refine L42.Zqc (c:=32) 0 H rfl (by simpa using h0) (by rw[hS_];omega) (by omega) λw3 S3 H3=>?_;exact k w3 (S.trans S3) H3.drop
section
variable {u wi lv:Nat}
def needN (u wi kd lv:Nat):Nat:=if kd=1 then wi+8*(lv*u - 19)+12000+3*(lv*u - 19)+1024 else if kd=2 then wi+4096+36*u+40960 else wi+4096+36*u+40960+32
theorem Zoz (n:Cf) (kd lv:Nat):needF n kd lv=needN n.un n.wi kd lv:=rfl
theorem Zia (h1:1<=lv) (h2:lv<=9) (h3:24<=u) (h4:u<=100000):24<=lv*u/\lv*u<=900000:=by
 constructor
 ·have:=Nat.mul_le_mul h1 h3;omega
 ·have:=Nat.mul_le_mul h2 h4;omega
theorem Zs2 {kd:Nat}(hk:kd=1/\1<=lv/\lv<=9\/(kd=2\/kd=3)/\lv=0) (h3:24<=u) (h4:u<=100000) (h6:wi<=1048576):1<=needN u wi kd lv/\needN u wi kd lv<=100000000:=by
 unfold needN;rcases hk with⟨rfl,h1,h2⟩|⟨rfl|rfl,rfl⟩
 ·have:=Zia h1 h2 h3 h4;rw[if_pos rfl];omega
 ·rw[if_neg (by decide),if_pos rfl];omega
 ·rw[if_neg (by decide),if_neg (by decide)];omega
theorem Znl {kd:Nat}(H:Holds w L) (hk:kd=1/\1<=lv/\lv<=9\/(kd=2\/kd=3)/\lv=0) (h3:24<=u) (h4:u<=100000) (h5:64<=wi) (h6:wi<=1048576) (k:∀ w',Same w w'->Holds w' L->K (.tuple #[nv (needN u wi kd lv),iv 0]) w') :
  Cl prog 132 #[nv kd,nv lv,nv u,nv wi] w K:=by
 refine Tz132 ?_;unfold Vz132
 have unp:∀ {K:KT},(∀ w',Same w w'->Holds w' L->K (.tuple #[nv (wi+4096+36*u+40960),iv 0]) w')->Cl prog 179 #[nv u,nv wi,iv 4096] w K:=by
  intro K k;refine Tz179 ?_;unfold Vz179;refine r_cl (K:=λv w'=>(∃ x,v=.tuple #[x,iv 0])/\Same w w'/\Holds w' L) ?_ ?_
  ·refine Tz208 ?_;unfold Vz208;refine Zdt (by omega) (by omega) (by omega) (by omega) λr g1 g2 g3=>?_
   repeat (first|refine r_neq ?_|(with_reducible first|refine Za6 ?_|refine Za5 ?_)|((with_reducible refine r_vfN ?h ?_);(case h=>omega)))
   refine r_bd (v:=.agg #[nv u,iv 0,iv 0,iv 0,.pointer none,.string ⟨#[]⟩,iv 0,.int .u32 0,.int .u32 0,.bool false,iv 0]) (by kernel_rfl) ?_;refine r_new H λb w2 S2 H2=>?_;exact⟨⟨_,rfl⟩,S2,H2.drop⟩
  rintro _ w1 ⟨⟨x,rfl⟩,S1,H1⟩;refine Za6 (Za5 ?_);refine Za0 (λx w'=>w1=w'/\x=.bool false) ?_ ?_
  rotate_left
  ·refine r_neq (r_vfN rfl ?_);refine Tz209 ?_;unfold Vz209;refine r_geq (r_vtD (by omega) (r_leq (r_vtD (by omega) (r_geq (r_vtD (by decide) (r_leq (r_not (r_ke ⟨rfl,?_⟩))))))));rfl
  rintro _ _ _ ⟨rfl,rfl⟩;refine r_vf (r_add (by omega) (by omega) (Zep ((36*u:Nat):Int) (by omega) (by omega) (by omega) (r_add (by omega) (by omega) (r_add (by omega) (by omega) ?_))));have:=k w1 S1 H1;rw[show nv (wi+4096+36*u+40960)=iv ((wi:Int)+4096+((36*u:Nat):Int)+40960) by show iv _=iv _;congr 1 <;> omega] at this;exact this
 rcases hk with⟨rfl,h1,h2⟩|⟨rfl|rfl,rfl⟩
 ·have hp:=Zia h1 h2 h3 h4;refine r_eql (r_vtE rfl ?_);refine Tz178 ?_;unfold Vz178;refine Zdt (by omega) (by omega) (by omega) (by omega) λr g1 g2 g3=>?_
  have hr:r=lv*u - 19:=by
   have:((lv*u:Nat):Int)=(lv:Int)*(u:Int):=by simp
   omega
  refine Za6 (Za5 ?_);refine Za0 (λx w'=>w=w'/\x=.bool false) ?_ ?_
  rotate_left
  ·refine r_neq (r_vfN rfl ?_);refine Tz206 ?_;unfold Vz206;refine r_geq (r_vtD (by omega) (r_leq (r_not (r_ke ⟨rfl,?_⟩))));rw[decide_eq_true (by omega)];rfl
  rintro _ _ _ ⟨rfl,rfl⟩;refine r_vf (Zep ((8*r:Nat):Int) (by omega) (by omega) (by omega) (r_add (by omega) (by omega) ?_));refine Tz207 ?_;unfold Vz207;refine Za0 (λx w'=>w=w'/\x=.bool false) ?_ ?_
  rotate_left
  ·refine r_lss (r_vfD (by omega) (r_gtr (r_ke ⟨rfl,?_⟩)));rw[decide_eq_false (by omega)]
  rintro _ _ _ ⟨rfl,rfl⟩;refine r_vf (Zep ((3*r:Nat):Int) (by omega) (by omega) (by omega) (r_add (by omega) (by omega) ?_));refine r_add (by omega) (by omega) (r_add (by omega) (by omega) (Za6 (Za5 ?_)));have:=k w (.refl w) H;unfold needN at this;rw[if_pos rfl,<-hr] at this;rw[show nv (wi+8*r+12000+3*r+1024)=iv ((wi:Int)+((8*r:Nat):Int)+(12000+((3*r:Nat):Int))+1024) by show iv _=iv _;congr 1 <;> omega] at this;exact this
 ·refine r_eql (r_vfE (by decide) (r_eql (r_vtE rfl ?_)));exact unp λw' S' H'=>Za6 (Za5 (k w' S' H'))
 ·refine r_eql (r_vfE (by decide) (r_eql (r_vfE (by decide) (r_eql (r_vtE rfl ?_)))));refine Tz180 ?_;unfold Vz180;refine unp λw' S' H'=>Za6 (Za5 (r_neq (r_vfN rfl (r_add (by omega) (by omega) (Za6 (Za5 ?_))))));have:=k w' S' H';unfold needN at this;rw[if_neg (by decide),if_neg (by decide)] at this;exact this
theorem Zn6 {kd:Nat}(hk:kd=1/\1<=lv/\lv<=9\/(kd=2\/kd=3)/\lv=0) (h3:24<=u) (h4:u<=100000) (h5:64<=wi) (h6:wi<=1048576) (k:K (nv (needN u wi kd lv)) w) :
  Cl prog 10 #[nv kd,nv lv,nv u,nv wi] w K:=by
 refine Tz10 ?_;unfold Vz10
 have unp:∀ {K:KT},K (nv (wi+4096+36*u+40960)) w->Cl prog 33 #[nv u,nv wi,iv 4096] w K:=by
  intro K k;refine Tz33 ?_;unfold Vz33;refine r_add (by omega) (by omega) (Zep ((36*u:Nat):Int) (by omega) (by omega) (by omega) (r_add (by omega) (by omega) (r_add (by omega) (by omega) ?_)));rw[show nv (wi+4096+36*u+40960)=iv ((wi:Int)+4096+((36*u:Nat):Int)+40960) by show iv _=iv _;congr 1 <;> omega] at k;exact k
 unfold needN at k;rcases hk with⟨rfl,h1,h2⟩|⟨rfl|rfl,rfl⟩
 ·have hp:=Zia h1 h2 h3 h4;rw[if_pos rfl] at k;refine r_eql (r_vtE rfl ?_);refine Tz32 ?_;unfold Vz32;refine Zep ((lv*u:Nat):Int) (by simp) (by omega) (by omega) (r_sub (by omega) (by omega) ?_);rw[show ((lv*u:Nat):Int) - 19=((lv*u - 19:Nat):Int) by omega]
  have hr9:lv*u - 19<=900000:=by omega
  clear hp;generalize lv*u - 19=r at k hr9 ⊢;refine Zep ((8*r:Nat):Int) (by omega) (by omega) (by omega) (r_add (by omega) (by omega) (r_add (by omega) (by omega) ?_));refine Zep ((3*r:Nat):Int) (by omega) (by omega) (by omega) (r_add (by omega) (by omega) (r_add (by omega) (by omega) ?_));rw[show nv (wi+8*r+12000+3*r+1024)=iv ((wi:Int)+((8*r:Nat):Int)+12000+((3*r:Nat):Int)+1024) by show iv _=iv _;congr 1 <;> omega] at k;exact k
 ·rw[if_neg (by decide),if_pos rfl] at k;refine r_eql (r_vfE (by decide) (r_eql (r_vtE rfl ?_)));exact unp k
 ·rw[if_neg (by decide),if_neg (by decide)] at k;refine r_eql (r_vfE (by decide) (r_eql (r_vfE (by decide) ?_)));refine Tz34 ?_;unfold Vz34;refine unp (r_add (by omega) (by omega) ?_);exact k
end
end F33
end Go.Proofs.YtgdfganaoehokaaGreatDoor
namespace Go.Proofs.YtgdfganaoehokaaGreatDoor
open Go Go.Vc Go.Proofs.Tryz
open Classical in
theorem Zs8 {w:World}{body:(Nat->Value)->Cur 0->Cur 0}(I:Nat->World->Prop) (n0:Nat) (h0:I n0 w)
  (h:∀ jb n w (k:Cur 0),I n w->(∀ m w',m < n->I m w'->k w')->body jb k w):VLoop 0 [] w body:=by
 refine Zpn (λw'=>∃ n,I n w') (λw'=>if h:∃ n,I n w' then Classical.choose (Zc8 h) else 0) ⟨n0,h0⟩ ?_;intro jb w1 hx;have e1:=Classical.choose_spec (Zc8 hx);refine h jb _ w1 _ e1.1 λm w' hm hI=>⟨⟨m,hI⟩,?_⟩;have hx':∃ n,I n w':=⟨m,hI⟩;have e2:=Classical.choose_spec (Zc8 hx');show dite _ _ _ < dite _ _ _;rw[dif_pos hx,dif_pos hx'];exact Nat.lt_of_le_of_lt (e2.2 m hI) hm
section
variable {P:Program}{w:World}{L:List HProp}
def MDe (b:Nat) (f:Int->Option Value):HProp:=λh=>∃ n,MD b f n h
theorem r_lkE {t kt et:TypeId}{x:Ev.X}{z:Value}(ht:P.underlying t=some (.map kt et)) (hk:P.underlying kt=some (.int .i64)) (hx:Ev.zeroVX P et=some x) (hz:Ev.vl (λ_=>none) x=some z)
  (i:Nat) (H:Holds w L) {b:Nat} {f:Int->Option Value} (hi:L[i]?=some (MDe b f)) {k:Int} {K:Value->Prop} (h:K ((f k).getD z)):Lk P t (.map (some b)) (iv k) false w K:=by
 obtain⟨n,H1⟩:=H.atEx i hi (Q:=λn=>MD b f n) λg hg=>hg;exact r_lkD ht hk hx hz i H1 (Za2 hi) h
theorem r_muE {t kt et:TypeId}(ht:P.underlying t=some (.map kt et)) (hk:P.underlying kt=some (.int .i64))
  (i:Nat) (H:Holds w L) {b:Nat} {f:Int->Option Value} (hi:L[i]?=some (MDe b f)) {k:Int} {v:Value} {K:World->Prop} (h:∀ w',Same w w'->Holds w' (L.set i (MDe b (λj=>if j=k then some v else f j)))->K w'):Mu P t (.map (some b)) (iv k) v w K:=by
 obtain⟨n,H1⟩:=H.atEx i hi (Q:=λn=>MD b f n) λg hg=>hg;refine r_muD ht hk i H1 (Za2 hi) λw' S' H'=>h w' S' ?_;rw[set_set] at H';have H2:=H'.at i (Za2 hi) (Q:=MDe b (λj=>if j=k then some v else f j)) λg hg=>⟨n+1,hg⟩;rw[set_set] at H2;exact H2
theorem Zwg {t kt et t2 ty:TypeId}(ht:P.underlying t=some (.map kt et)) (hk:P.underlying kt=some (.int .i64))
  (i:Nat) (H:Holds w L) {b:Nat} {f:Int->Option Value} (hi:L[i]?=some (MDe b f)) {k:Int} {K:KT} (h:∀ w',Same w w'->Holds w' (L.set i (MDe b (λj=>if j=k then none else f j)))->K (.tuple #[]) w'):Bdel P #[t,t2] ty #[.map (some b),iv k] w K:=by
 obtain⟨n,H1⟩:=H.atEx i hi (Q:=λn=>MD b f n) λg hg=>hg;refine Zvl ht hk i H1 (Za2 hi) λw' S' H'=>h w' S' ?_;rw[set_set] at H';have H2:=H'.at i (Za2 hi) (Q:=MDe b (λj=>if j=k then none else f j)) λg hg=>⟨n,hg⟩;rw[set_set] at H2;exact H2
end
attribute [local irreducible] Vc.Nc Vc.Ld Vc.LdA Vc.St Vc.StA Vc.Fo Vc.Iaa Vc.Ias Vc.Ixs Vc.Ixa Vc.Fd Vc.FdA Vc.Bp Vc.Bb Vc.Bn Vc.Up Vc.Ci Vc.Lns Vc.Lnl Vc.Ex Vc.Sst Vc.Ssl Vc.New Vc.Vif Vc.VJoin Vc.VLoop Vc.KE Vc.Dr Vc.Rk Vc.Cl Vc.Cx Vc.Inv Vc.Be Vc.Cv Vc.Cw Vc.Mf Vc.Sl Vc.Lk Vc.Bd Vc.Bs Vc.Ms Vc.Mm Vc.Mu Vc.Me Vc.Es Vc.Rg Vc.Nx Vc.Ta Vc.Ap Vc.Usd Vc.Ust Vc.Cp Vc.Ln Vc.Bc Vc.Bmin Vc.Bmax Vc.Bdel Vc.Bclr Vc.Pk
namespace F33
open Go.M31 J30 J31 J32
variable {w:World}{L:List HProp}{K:KT}
def SchR (sb nt m:Nat):HProp:=λh=>∃ rb v rv ring ts,(ts.length=nt/\ring.length<=m/\∀ t∈ts,t.q.length<=m)/\Sat (Q40.ScL sb rb v rv ring ts) h
section
variable {sb nt m:Nat}
theorem Zgl (H:Holds w L){j:Nat}(hj:L[j]?=some (SchR sb nt m)):∃ rb v rv ring ts,(ts.length=nt/\ring.length<=m/\∀ t∈ts,t.q.length<=m)/\Holds w (Q40.ScL sb rb v rv ring ts++L.eraseIdx j):=by
 obtain⟨rb,H1⟩:=Holds.ex (H.front j hj);obtain⟨v,H1⟩:=Holds.ex H1;obtain⟨rv,H1⟩:=Holds.ex H1;obtain⟨ring,H1⟩:=Holds.ex H1;obtain⟨ts,H1⟩:=Holds.ex H1;obtain⟨hp,H1⟩:=Holds.pure H1;exact⟨rb,v,rv,ring,ts,hp,Holds.unpack H1⟩
theorem Zbk {Q:HProp}{j rb:Nat}{v rv:Value}{ring:List Nat}{ts:List Q40.Te}(hj:L[j]?=some Q) (hp:ts.length=nt/\ring.length<=m/\∀ t∈ts,t.q.length<=m) (H:Holds w (Q40.ScL sb rb v rv ring ts++L.eraseIdx j)):Holds w (L.set j (SchR sb nt m)):=
 Sat.push j hj (Holds.imp (Holds.pack H) λh hh=>⟨rb,v,rv,ring,ts,hp,hh⟩)
theorem Zvd {j t n:Nat}(H:Holds w L) (hj:L[j]?=some (SchR sb nt m)) (ht:t < nt) (hn:nt<=1000) (hm:m<=900) (k:∀ v w',Same w w'->Holds w' (L.set j (SchR sb nt (m+1)))->K v w'):Cl prog 158 #[ptr sb,nv t,nv n] w K:=by
 obtain⟨rb,v,rv,ring,ts,⟨h1,h2,h3⟩,H1⟩:=Zgl H hj;obtain⟨x,hx⟩:∃ x,ts[t]?=some x:=⟨_,gA (by omega)⟩;refine Q40.Add_spec hx H1 (by omega) (λy hy=>by have:=h3 y hy;omega) (by omega) (λw' _ S2 H2=>?_) λv' rv' w' _ S2 H2=>?_
 ·exact k _ w' S2 (Zbk hj ⟨h1,by omega,λy hy=>by have:=h3 y hy;omega⟩ H2)
 ·refine k _ w' S2 (Zbk hj ⟨by rw[hX_];exact h1,?_,λy hy=>?_⟩ H2)
  ·split
   ·omega
   ·rw[gD,gQ];omega
  ·rcases List.mem_or_eq_of_mem_set hy with hy|rfl
   ·have:=h3 y hy;omega
   ·have:=h3 x (mem_of_getElem? hx);show (x.q++[n]).length<=m+1;rw[gD,gQ];omega
theorem Zpk {j:Nat}(hj:L[j]?=some (SchR sb nt m)) (H:Holds w L):Holds w (L.set j (SchR sb nt (m+1))):=by
 obtain⟨rb,v,rv,ring,ts,⟨h1,h2,h3⟩,H1⟩:=Zgl H hj;exact Zbk hj ⟨h1,by omega,λt ht=>Nat.le_trans (h3 t ht) (Nat.le_succ m)⟩ H1
theorem Zna {j n:Nat}(H:Holds w L) (hj:L[j]?=some (SchR sb nt m)) (hn:nt<=1000) (hm:m<=900) (k:∀ v w',Same w w'->Holds w' (L.set j (SchR sb nt m))->K v w'):Cl prog 121 #[ptr sb,nv n] w K:=by
 obtain⟨rb,v,rv,ring,ts,⟨h1,h2,h3⟩,H1⟩:=Zgl H hj;have he:∀ (l:List Nat) (a:Nat),(l.erase a).length<=l.length:=λl a=>List.Sublist.length_le List.erase_sublist;refine Q40.Zjs H1 (by omega) (λy hy=>by have:=h3 y hy;omega) (by omega) (λw' _ S2 H2=>?_) (λi t v' rv' w' _ ht _ S2 H2=>?_) λi t v' w' _ ht _ S2 H2=>?_
 ·exact k _ w' S2 (Zbk hj ⟨h1,h2,h3⟩ H2)
 ·refine k _ w' S2 (Zbk hj ⟨by rw[hX_];exact h1,Nat.le_trans (he _ _) h2,λy hy=>?_⟩ H2);rcases List.mem_or_eq_of_mem_set hy with hy|rfl
  ·exact h3 y hy
  ·exact Nat.le_trans (he _ _) (h3 t (mem_of_getElem? ht))
 ·refine k _ w' S2 (Zbk hj ⟨by rw[hX_];exact h1,h2,λy hy=>?_⟩ H2);rcases List.mem_or_eq_of_mem_set hy with hy|rfl
  ·exact h3 y hy
  ·exact Nat.le_trans (he _ _) (h3 t (mem_of_getElem? ht))
end
abbrev tMt:Nat:=114
abbrev tIw:Nat:=3
def MetR (bm sp:Nat) (qs:List Nat):HProp:=λh=>∃ q c t,Sat [blk bm tMt [nv sp,iv 0,q,c,t],SL nv tIw q qs,SL nv tIw c (List.replicate qs.length 0),SL nv tIw t (List.replicate qs.length 0)] h
section
variable {bm sp:Nat}{qs:List Nat}
theorem Zea (H:Holds w L){j:Nat}(hj:L[j]?=some (MetR bm sp qs)):∃ q c t,Holds w (blk bm tMt [nv sp,iv 0,q,c,t]::SL nv tIw q qs::SL nv tIw c (List.replicate qs.length 0)::SL nv tIw t (List.replicate qs.length 0)::L.eraseIdx j):=by
 obtain⟨q,H1⟩:=Holds.ex (H.front j hj);obtain⟨c,H1⟩:=Holds.ex H1;obtain⟨t,H1⟩:=Holds.ex H1;exact⟨q,c,t,Holds.unpack (A:=[_,_,_,_]) H1⟩
theorem At_at {j:Nat}(H:Holds w L) (hj:L[j]?=some (MetR bm sp qs)) (k:K (iv 0) w):Cl prog 103 #[ptr bm] w K:=by
 refine Tz103 ?_;unfold Vz103;obtain⟨q,c,t,H1⟩:=Zea H hj;exact Za3 (r_vf (r_nc (r_fo0 (r_ld 0 H1 rfl rfl k))))
theorem Zpi {j t x:Nat}(H:Holds w L) (hj:L[j]?=some (MetR bm sp qs)) (ht:qs[t]?=some x) (hx:x<=1099511627776) (k:∀ w',Same w w'->Holds w' L->K (nv x) w'):Cl prog 131 #[ptr bm,nv t] w K:=by
 have hlt:t < qs.length:=(gH.1 ht).1;refine Tz131 ?_;unfold Vz131;obtain⟨q,c,u,H1⟩:=Zea H hj;refine Tz149 ?_;unfold Vz149;obtain⟨oq,sq,hq,_⟩:=H1.open 1 rfl;refine Zfz (r_vt (r_geq (r_vtD (by omega) (r_nc (r_fo0 (r_ld 0 H1 rfl rfl ?_))))));rw[hq];refine r_lnl (r_lss ?_);rw[decide_eq_true (by omega)];refine r_not (r_vf ?_);refine r_dr H λw2 S2 H2=>?_;obtain⟨q,c,u,H1⟩:=Zea H2 hj;obtain⟨oq,sq,hq,Hq⟩:=H1.open 1 rfl;obtain⟨oc,sc,hc,Hc⟩:=H1.open 2 rfl;refine r_nc (r_fo0 (r_ld 0 H1 rfl rfl ?_));rw[hq];refine Zbb 1 Hq rfl (by omega) (Nat.le_refl _) ?_;rintro b2 rfl;refine Zbn 1 Hq rfl (x:=x) ht ?_;refine r_nc (r_fo0 (r_ld 0 H1 rfl rfl ?_));rw[hc];refine Zbb 2 Hc rfl (by simpa using hlt) (Nat.le_refl _) ?_;rintro b3 rfl;refine Zbn 2 Hc rfl (x:=0) (by rw[List.getElem?_replicate_of_lt hlt]) ?_;refine r_sub (by omega) (by omega) ?_;have:=k _ S2 H2;rw[show nv x=.int .i64 ((x:Int) - ((0:Nat):Int)) by simp[nv]] at this;exact this
end
abbrev tLive:Nat:=190
abbrev tSv:Nat:=77
structure Px where
 hd:Nat
 id:Nat
 nd:Nat
 kd:Nat
 inp:List UInt8
 en:Bool
 rest:List UInt8
 head:List UInt8
 cr:Nat
 told:Nat
 lb:Nat
 jb:Nat
 fb:Nat
 sb:Nat
def LiveR (win ch:Nat) (y:Px):HProp:=λh=>Sat [blk y.lb tLive [ptr y.jb,ptr y.fb,ptr y.sb],JobQ y.kd y.jb win y.inp y.en y.head,blk y.fb tFlow (cellsW y.jb y.rest y.en y.inp.length),blk y.sb tStr (cellsR y.jb ch y.cr y.told)] h
section
variable {win ch:Nat}{y:Px}
theorem Zas (H:Holds w (LiveR win ch y::L)):Holds w (blk y.lb tLive [ptr y.jb,ptr y.fb,ptr y.sb]::JobQ y.kd y.jb win y.inp y.en y.head::blk y.fb tFlow (cellsW y.jb y.rest y.en y.inp.length)::blk y.sb tStr (cellsR y.jb ch y.cr y.told)::L):=Holds.unpack (A:=[_,_,_,_]) H
theorem Zb2 (H:Holds w (blk y.lb tLive [ptr y.jb,ptr y.fb,ptr y.sb]::JobQ y.kd y.jb win y.inp y.en y.head::blk y.fb tFlow (cellsW y.jb y.rest y.en y.inp.length)::blk y.sb tStr (cellsR y.jb ch y.cr y.told)::L)):Holds w (LiveR win ch y::L):=Holds.pack (A:=[_,_,_,_]) H
end
structure Sx where
 b:Nat
 lm:Nat
 lv:Nat
 bj:Nat
 bl:Nat
 bm:Nat
 bt:Nat
 ln:Nat
 pa:Nat
 cb:Nat
 a:Option Addr
 c:Nat
 ov:Nat
def stN (t:Tn):Nat:=t.st.toNat
def linesF (ln:Nat) (k:Int):Option Value:=if k=0 then some (pt ln) else none
def SvL (s:Sx) (ts:List Tn) (n:Cf) (wt last:Nat) (acs:List Ac) (out B:List UInt8) (rows:List A40.Lv) (as_:List G40.Ak) (fv:Int->Option Value) (ys:List Px) (m:Nat):List HProp:=
 [blk s.b tSv (cellsC s.a ts.length s.c (cnF n)++[.map (some s.lm),.map (some s.lv),pt s.bj,pt s.bl,pt s.bm,pt s.bt]),RW cellsT 5 tT (.slice s.a ts.length s.c) ts,MD s.lm (linesF s.ln) 1,LnR s.ln s.pa s.cb wt out (decide (s.ov≠0)),blk s.pa tPa (paC B s.ov),
  ConR s.cb ts acs,A40.TabR s.bj n.jo last rows,G40.LedR s.bl as_,MetR s.bm n.sp (ts.map stN),MDe s.lv fv,SchR s.bt ts.length m,PkL (LiveR n.wi n.ch) ys]
def rowP (t:Nat) (y:Px):A40.Lv:=⟨0,y.id,t,y.nd,y.hd⟩
def livesF (ys:List Px) (k:Int):Option Value:=(ys.find? λy=>decide ((y.hd:Int)=k)).map λy=>pt y.lb
def lvP (wi:Nat) (y:Px):Lv:=⟨y.id,y.nd,wi - y.inp.length,y.head,y.cr⟩
abbrev tM88:Nat:=74
abbrev tM89:Nat:=75
section
variable {s:Sx}{ts:List Tn}{n:Cf}{wt last m t i:Nat}{acs:List Ac}{out B:List UInt8}{rows:List A40.Lv}{as_:List G40.Ak}{fv:Int->Option Value}{ys:List Px}{y:Px}
theorem Zin {t:Nat}:∀ {ys:List Px}{i q:Nat}{y:Px},ys[i]?=some y->ys.Pairwise (λa b=>a.hd≠b.hd)->A40.placeL (λx=>x.hd==y.hd) (ys.map (rowP t)) q=some (q+i)
 |[],i,q,y,h,_=>by simp at h
 |x::r,0,q,y,h,_=>by
  obtain rfl:x=y:=by simpa using h
  rw[hR_,A40.placeL,if_pos (by show (x.hd==x.hd)=true;simp)];rfl
 |x::r,i+1,q,y,h,hd=>by
  rw[pairwise_cons] at hd
  have hy:r[i]?=some y:=by simpa using h
  have hne:=hd.1 y (mem_of_getElem? hy);rw[hR_,A40.placeL,if_neg (by show ¬ (x.hd==y.hd)=true;simpa using hne),Zin hy hd.2]
  congr 1
  omega
theorem Zf1:∀ {ys:List Px}{i:Nat}{y:Px},ys[i]?=some y->ys.Pairwise (λa b=>a.hd≠b.hd)->livesF ys (y.hd:Int)=some (pt y.lb)
 |[],i,y,h,_=>by simp at h
 |x::r,0,y,h,_=>by
  obtain rfl:x=y:=by simpa using h
  unfold livesF;rw[find?_cons_of_pos (by simp)];rfl
 |x::r,i+1,y,h,hd=>by
  rw[pairwise_cons] at hd
  have hy:r[i]?=some y:=by simpa using h
  have hne:=hd.1 y (mem_of_getElem? hy);have:=Zf1 hy hd.2;unfold livesF at this ⊢;rw[find?_cons_of_neg (by simpa using λe=>hne (by omega))];exact this
theorem Zsa {ys:List Px}{i q:Nat}{y z:Px}(h:ys[i]?=some y) (hz:ys[q]?=some z) (hq:i < q) (hd:ys.Pairwise (λa b=>a.hd≠b.hd)):z.hd≠y.hd:=by
 obtain⟨h1,e1⟩:=gH.1 h;obtain⟨h2,e2⟩:=gH.1 hz;have:=List.pairwise_iff_getElem.1 hd i q h1 h2 hq;rw[e1,e2] at this;exact λe=>this e.symm
theorem Zh0 (H:Holds w (SvL s ts n 0 last acs out B (ys.map (rowP t)) as_ (livesF ys) ys m++L)) (hy:ys[i]?=some y) (hd:ys.Pairwise (λa b=>a.hd≠b.hd)) (hl:ys.length<=900) (ht:t < ts.length) (hts:ts.length<=1000) (hm:m<=900)
  (h6:n.wi<=1048576) (hi:y.inp.length<=n.wi) (hfull:y.rest=[]\/y.inp.length=n.wi) (hen:y.en=true->y.rest=[]) (hr:y.rest.length<=65536) (hh:y.told+y.head.length<=4) (hc:y.cr<=1099511627776) (hid:y.id<=4294967295) (hch:n.ch<=4096) (ho:out.length<=100000000)
  (k:∀ head cr told out' w',chunksF n.ch 5 (lvP n.wi y) out=(lvP n.wi { y with head:=head,cr:=cr },out')->told+head.length<=4->cr<=y.cr->out'.length<=out.length+40->min (min head.length cr) n.ch=0->Same w w'->
   Holds w' (SvL s ts n (if y.rest=[] then 0 else y.hd) last acs out' B (ys.map (rowP t)) as_ (livesF ys) (ys.set i { y with head:=head,cr:=cr,told:=told }) (m+1)++L)->K (.tuple #[]) w') :
  Cl prog 101 #[pt s.b,nv y.hd] w K:=by
 have hlt:i < ys.length:=(gH.1 hy).1;have hpl:=Zin (t:=t) (q:=0) hy hd;rw[Nat.zero_add] at hpl
 have hrow:(ys.map (rowP t))[i]?=some (rowP t y):=by rw[hV_,hy];rfl
 refine Tz101 ?_;unfold Vz101;refine r_nc (r_fo0 (r_ld 0 H rfl rfl ?_));refine A40.Zvw (j:=6) H rfl (by simpa using (by omega:ys.length<=1000)) hpl hrow λw1 S1 H1=>?_;refine Za6 (Za5 ?_);refine r_new H1 λeb w2 S2 H2=>?_;rw[A40.Zfp] at H2;refine r_stA 0 H2 (vs:=A40.cellsY (rowP t y)) rfl (Nat.le_refl 4) rfl rfl λw3 S3 H3=>?_;replace H3:Holds w3 (blk eb A40.tEy (A40.cellsY (rowP t y))::(SvL s ts n 0 last acs out B (ys.map (rowP t)) as_ (livesF ys) ys m++L)):=H3;refine r_dr H3 λw4 S4 H4=>?_;have S:=S1.trans (S2.trans (S3.trans S4));clear S1 S2 S3 S4 H H1 H2 H3;refine r_nc (r_fo0 (r_ld 1 H4 rfl rfl ?_));refine r_lkE (t:=tM89) (kt:=tIw) (et:=185) (x:=.p none) (z:=.pointer none) (by kernel_rfl) (by kernel_rfl) (by kernel_rfl) rfl 10 H4 rfl ?_;rw[Zf1 hy hd];refine r_nc (r_fo0 (r_ld 1 H4 rfl rfl (r_fo0 (r_ld 0 H4 rfl rfl ?_))));refine r_lkD (t:=tM88) (kt:=tIw) (et:=79) (x:=.p none) (z:=.pointer none) (k:=0) (by kernel_rfl) (by kernel_rfl) (by kernel_rfl) rfl 3 H4 rfl ?_
 have H5:=Zas (Holds.atK H4 12 rfl hy);refine r_nc (r_fo0 (r_ld 0 H5 rfl rfl ?_))
 let M:List HProp:=blk y.lb tLive [ptr y.jb,ptr y.fb,ptr y.sb]::blk y.sb tStr (cellsR y.jb n.ch y.cr y.told)::Sat ((ys.map (LiveR n.wi n.ch)).eraseIdx i)::(blk eb A40.tEy (A40.cellsY (rowP t y))::(SvL s ts n 0 last acs out B (ys.map (rowP t)) as_ (livesF ys) ys m++L)).eraseIdx 12
 have H6:Holds w4 (blk y.fb tFlow (cellsW y.jb y.rest y.en y.inp.length)::JobQ y.kd y.jb n.wi y.inp y.en y.head::M):=(by have h_:=Holds.ord 4 [2,1,0,3] H5 rfl;exact h_);refine r_cl (K:=λv w'=>Same w w'/\Holds w' (blk y.fb tFlow (cellsW y.jb y.rest y.en y.inp.length)::JobQ y.kd y.jb n.wi y.inp y.en y.head::M)) ?_ ?_
 ·cases hen2:y.en with
  |true=>
   have hr0:=hen hen2;rw[hen2,hr0] at H6;refine Zgi H6 h6 hi (by omega) λw5 S5 H7=>⟨S.trans S5,?_⟩;rw[hr0];exact H7
  |false=>
   rw[hen2] at H6
   have hz:min y.rest.length (n.wi - y.inp.length)=0:=by
    rcases hfull with h|h
    ·rw[h];simp
    ·omega
   refine Zho H6 h6 hi (by omega) (by omega) λw5 S5 H7=>⟨S.trans S5,?_⟩;rw[hz,drop_zero,List.take_zero,gU] at H7;exact H7
 rintro v w5 ⟨S5,H7⟩;clear H4 H5 H6 S
 let N (wt:Nat) (out:List UInt8) (y:Px):List HProp:=blk y.fb tFlow (cellsW y.jb y.rest y.en y.inp.length)::JobQ y.kd y.jb n.wi y.inp y.en y.head::blk y.lb tLive [ptr y.jb,ptr y.fb,ptr y.sb]::blk y.sb tStr (cellsR y.jb n.ch y.cr y.told)::Sat ((ys.map (LiveR n.wi n.ch)).eraseIdx i)::(blk eb A40.tEy (A40.cellsY (rowP t y))::(SvL s ts n wt last acs out B (ys.map (rowP t)) as_ (livesF ys) ys m++L)).eraseIdx 12
 replace H7:Holds w5 (N 0 out y):=H7;refine Zcz (λw'=>Same w w'/\Holds w' (N (if y.rest=[] then 0 else y.hd) out y)) ?_ ?_
 rotate_left
 ·refine r_nc (r_fo0 (r_ld 2 H7 rfl rfl ?_));refine Zo3 H7 (r_gtr (r_ifD (λh=>?_) λh=>?_))
  ·have hne:y.rest≠[]:=λe=>by rw[e] at h;exact absurd h (by decide)
   obtain⟨p,v,hp,H8⟩:=Zaa (j:=9) H7 rfl;refine r_nc (r_fo0 (r_st 0 H8 rfl (by show 5 < 7;decide) rfl λw6 S6 H9=>?_));refine r_ke ⟨S5.trans S6,?_⟩;rw[if_neg hne];exact Zcr (L:=N 0 out y) (j:=9) (wt:=y.hd) rfl hp H9
  ·have he:y.rest=[]:=List.eq_nil_of_length_eq_zero (by omega);obtain⟨p,v,hp,H8⟩:=Zaa (j:=9) H7 rfl;refine r_nc (r_fo0 (r_ld 0 H8 rfl rfl (r_eql (r_ifE (λh=>?_) λh=>?_))))
   ·refine r_nc (r_fo0 (r_st 0 H8 rfl (by show 5 < 7;decide) rfl λw6 S6 H9=>?_));refine r_ke ⟨S5.trans S6,?_⟩;rw[if_pos he];exact Zcr (L:=N 0 out y) (j:=9) (wt:=0) rfl hp H9
   ·refine r_ke ⟨S5,?_⟩;rw[if_pos he];exact H7
 clear H7 S5;generalize (if y.rest=[] then 0 else y.hd)=wt at k;rintro _ w6 ⟨S,H⟩
 refine Zs8 (λf w'=>∃ (head:List UInt8) (cr told:Nat) (out':List UInt8),head.length+1<=f/\f<=5/\chunksF n.ch f (lvP n.wi { y with head:=head,cr:=cr }) out'=chunksF n.ch 5 (lvP n.wi y) out/\told+head.length<=4/\cr<=y.cr/\
   out'.length+10*head.length<=out.length+10*y.head.length/\Same w w'/\Holds w' (N wt out' { y with head:=head,cr:=cr,told:=told })) 5 ⟨y.head,y.cr,y.told,out,by omega,Nat.le_refl 5,rfl,hh,Nat.le_refl _,Nat.le_refl _,S,H⟩ ?_
 clear S H;rintro _ f w7 J ⟨head,cr,told,out1,hf1,hf5,hchk,htold,hcr,hlen,S,H⟩ hnext;obtain⟨f,rfl⟩:∃ g,f=g+1:=⟨f - 1,by omega⟩;have H':Holds w7 (blk y.sb tStr (cellsR y.jb n.ch cr told)::JobQ y.kd y.jb n.wi y.inp y.en head::blk y.fb tFlow (cellsW y.jb y.rest y.en y.inp.length)::blk y.lb tLive [ptr y.jb,ptr y.fb,ptr y.sb]::Sat ((ys.map (LiveR n.wi n.ch)).eraseIdx i)::(blk eb A40.tEy (A40.cellsY (rowP t y))::(SvL s ts n wt last acs out1 B (ys.map (rowP t)) as_ (livesF ys) ys m++L)).eraseIdx 12):=(by have h_:=Holds.ord 4 [3,1,0,2] H rfl;exact h_);refine r_nc (r_fo0 (r_ld 3 H' rfl rfl ?_));refine Zkp H' (by omega) (by omega) (λh0 w8 S8 H8=>?_) λq w8 hq hq0 S8 H8=>?_
 ·refine Za6 (Za5 (r_not (r_vt ?_)));replace S:=S.trans S8;clear S8 H H';have H9:Holds w8 (JobQ y.kd y.jb n.wi y.inp y.en head::blk y.sb tStr (cellsR y.jb n.ch cr told)::blk y.fb tFlow (cellsW y.jb y.rest y.en y.inp.length)::blk y.lb tLive [ptr y.jb,ptr y.fb,ptr y.sb]::Sat ((ys.map (LiveR n.wi n.ch)).eraseIdx i)::(blk eb A40.tEy (A40.cellsY (rowP t y))::(SvL s ts n wt last acs out1 B (ys.map (rowP t)) as_ (livesF ys) ys m++L)).eraseIdx 12):=H8.swap
  have hres:chunksF n.ch 5 (lvP n.wi y) out=(lvP n.wi { y with head:=head,cr:=cr },out1):=by
   rw[<-hchk,chunksF];show (if min (min head.length cr) n.ch=0 then _ else _)=_;rw[if_pos h0]
  have fin:∀ m' w',Same w w'->m'=m+1->Holds w' (JobQ y.kd y.jb n.wi y.inp y.en head::blk y.sb tStr (cellsR y.jb n.ch cr told)::blk y.fb tFlow (cellsW y.jb y.rest y.en y.inp.length)::blk y.lb tLive [ptr y.jb,ptr y.fb,ptr y.sb]::Sat ((ys.map (LiveR n.wi n.ch)).eraseIdx i)::(blk eb A40.tEy (A40.cellsY (rowP t y))::(SvL s ts n wt last acs out1 B (ys.map (rowP t)) as_ (livesF ys) ys m'++L)).eraseIdx 12)->K (.tuple #[]) w':=by
   rintro m' w' Sz rfl Hz;have Ha:Holds w' (blk y.lb tLive [ptr y.jb,ptr y.fb,ptr y.sb]::JobQ y.kd y.jb n.wi y.inp y.en head::blk y.fb tFlow (cellsW y.jb y.rest y.en y.inp.length)::blk y.sb tStr (cellsR y.jb n.ch cr told)::Sat ((ys.map (LiveR n.wi n.ch)).eraseIdx i)::(blk eb A40.tEy (A40.cellsY (rowP t y))::(SvL s ts n wt last acs out1 B (ys.map (rowP t)) as_ (livesF ys) ys (m+1)++L)).eraseIdx 12):=(by have h_:=Holds.ord 4 [3,0,2,1] Hz rfl;exact h_);have Hb:=Holds.putK (L:=blk eb A40.tEy (A40.cellsY (rowP t y))::(SvL s ts n wt last acs out1 B (ys.map (rowP t)) as_ (livesF ys) ys (m+1)++L)) 12 rfl hy (Zb2 (y:={ y with head:=head,cr:=cr,told:=told }) Ha);refine k head cr told out1 w' hres htold hcr (by omega) h0 Sz ?_;exact Hb.drop
  refine Za0 (λx w'=>w8=w'/\x=.bool false) ?_ ?_
  rotate_left
  ·exact r_nc (r_fo0 (r_ld 3 H9 rfl rfl (Zdb H9 (r_vf (r_ke ⟨rfl,rfl⟩)))))
  rintro _ _ _ ⟨rfl,rfl⟩;refine r_vf (r_nc (r_fo0 (r_ld 3 H9 rfl rfl (Zdb H9 (r_vf (r_nc (r_fo0 (r_ld 3 H9 rfl rfl ?_))))))));refine Zij H9 λz w9 S9 H10=>?_;refine r_not ?_
  cases z with
  |true=>
   refine r_vf ?_;have H11:=Zpk (j:=16) (by rfl) H10;exact fin (m+1) w9 (S.trans S9) rfl H11
  |false=>
   refine r_vt (r_dr H10 λw10 S10 H11=>?_);refine r_nc (r_fo0 (r_ld 6 H11 rfl rfl (r_fo0 (r_ld 5 H11 rfl rfl ?_))));refine Zvd (j:=16) H11 rfl ht hts hm λv w11 S11 H12=>?_;exact fin (m+1) w11 (S.trans (S9.trans (S10.trans S11))) rfl H12
 ·refine Za6 (Za5 (r_not (r_vf ?_)));have H9:Holds w8 (N wt out1 { y with head:=head.drop q,cr:=cr - q,told:=told+q }):=(by have h_:=Holds.ord 4 [2,1,3,0] H8 rfl;exact h_);refine r_fo0 (r_ld 5 H9 rfl rfl ?_);refine r_bd (v:=.agg (cellsN 66 y.id (head.take q) 0).toArray) (by kernel_rfl) ?_
  have hql:q<=head.length:=by omega
  have htl:(head.take q).length=q:=by rw[gN];omega
  refine Zds (j:=9) (out:=out1) (wt:=wt) (pa:=s.pa) (cb:=s.cb) (da:=head.take q) H9 rfl hid (by omega) (.inl ⟨.inr rfl,rfl,rfl⟩) (by omega) λw9 S9 H10=>?_;refine r_ke (hnext f w9 (Nat.lt_succ_self f) ⟨head.drop q,cr - q,told+q,out1++encF ⟨66,y.id,head.take q⟩,?_,by omega,?_,?_,by omega,?_,S.trans (S8.trans S9),H10⟩)
  ·rw[gS];omega
  ·rw[<-hchk]
   conv=>rhs;rw[chunksF]
   show _=(if min (min head.length cr) n.ch=0 then _ else _);rw[<-hq,if_neg hq0];show _=chunksF n.ch f { id:=y.id,need:=y.nd,room:=n.wi - y.inp.length,head:=head.drop (min (min head.length cr) n.ch),cr:=cr - min (min head.length cr) n.ch } (out1++encF ⟨66,y.id,head.take (min (min head.length cr) n.ch)⟩);rw[<-hq];rfl
  ·rw[gS];omega
  ·rw[gD,Zby,gS];show out1.length+(9+(head.take q).length)+_<=_;omega
end
end F33
namespace F33
open Go.M31 J30 J31 J32
variable {w:World}{L:List HProp}{K:KT}
section
variable {s:Sx}{ts:List Tn}{n:Cf}{wt last m t i:Nat}{acs:List Ac}{out B:List UInt8}{as_:List G40.Ak}{ys:List Px}{y:Px}{a:G40.Ak}
theorem Zjh:∀ {ys:List Px}{i:Nat}{y:Px},ys[i]?=some y->ys.Pairwise (λa b=>a.hd≠b.hd)->(λk:Int=>if k=(y.hd:Int) then none else livesF ys k)=livesF (ys.eraseIdx i)
 |[],i,y,h,_=>by simp at h
 |x::r,0,y,h,hd=>by
  obtain rfl:x=y:=by simpa using h
  rw[pairwise_cons] at hd
  funext k
  show _=livesF r k
  by_cases e:k=(x.hd:Int)
  ·rw[if_pos e];unfold livesF;rw[List.find?_eq_none.2]
   ·rfl
   ·intro z hz;have:=hd.1 z hz;simp;omega
  ·rw[if_neg e];unfold livesF;rw[find?_cons_of_neg (by simpa using λq=>e q.symm)]
 |x::r,i+1,y,h,hd=>by
  rw[pairwise_cons] at hd
  have hy:r[i]?=some y:=by simpa using h
  have hne:=hd.1 y (mem_of_getElem? hy);have ih:=Zjh hy hd.2
  funext k
  have ih':=congrFun ih k;rw[List.eraseIdx_cons_succ];unfold livesF at ih' ⊢
  by_cases e:(x.hd:Int)=k
  ·rw[find?_cons_of_pos (by simpa using e),find?_cons_of_pos (by simpa using e),if_neg (by omega)]
  ·rw[find?_cons_of_neg (by simpa using e),find?_cons_of_neg (by simpa using e)];exact ih'
theorem Zj3 (H:Holds w (SvL s ts n 0 last acs out B (ys.map (rowP t)) as_ (livesF ys) ys m++L)) (hy:ys[i]?=some y) (hd:ys.Pairwise (λa b=>a.hd≠b.hd)) (h1:1<=y.hd) (hl:ys.length<=900) (hts:ts.length<=1000) (hm:m<=900)
  (ha:as_[t]?=some a) (hu:y.nd<=a.us) (hus:a.us<=1099511627776)
  (k:∀ w',Same w w'->Holds w' (SvL s ts n 0 last acs out B ((ys.eraseIdx i).map (rowP t)) (as_.set t ⟨a.li,a.us - y.nd,a.pk⟩) (livesF (ys.eraseIdx i)) (ys.eraseIdx i) m++L)->K (.tuple #[]) w') :
  Cl prog 83 #[pt s.b,nv y.hd] w K:=by
 have hpl:=Zin (t:=t) (q:=0) hy hd;rw[Nat.zero_add] at hpl
 have hrow:(ys.map (rowP t))[i]?=some (rowP t y):=by rw[hV_,hy];rfl
 refine Tz83 ?_;unfold Vz83;refine r_nc (r_fo0 (r_ld 0 H rfl rfl ?_));refine A40.Zus (j:=6) H rfl (by simpa using (by omega:ys.length<=1000)) hpl hrow (λq z hz hq=>?_) λw1 S1 H1=>?_
 ·rw[hV_] at hz
  cases hq2:ys[q]? with
  |none=>rw[hq2] at hz;cases hz
  |some z'=>
   rw[hq2] at hz;obtain rfl:=Option.some.inj hz;exact Zsa hy hq2 hq hd
 have hmap:(ys.map (rowP t)).eraseIdx i=(ys.eraseIdx i).map (rowP t):=by
  have e:∀ (xs:List Px) (j:Nat),(xs.map (rowP t)).eraseIdx j=(xs.eraseIdx j).map (rowP t):=by
   intro xs
   induction xs with
   |nil=>intro j;rfl
   |cons x r ih=>intro j;cases j with
    |zero=>rfl
    |succ j=>simp[ih]
  exact e ys i
 rw[hmap] at H1;replace H1:Holds w1 (SvL s ts n 0 last acs out B ((ys.eraseIdx i).map (rowP t)) as_ (livesF ys) ys m++L):=H1;refine Za6 (Za5 ?_);refine r_new H1 λeb w2 S2 H2=>?_;rw[A40.Zfp] at H2;refine r_stA 0 H2 (vs:=A40.cellsY (rowP t y)) rfl (Nat.le_refl 4) rfl rfl λw3 S3 H3=>?_;replace H3:Holds w3 (blk eb A40.tEy (A40.cellsY (rowP t y))::(SvL s ts n 0 last acs out B ((ys.eraseIdx i).map (rowP t)) as_ (livesF ys) ys m++L)):=H3;refine r_nc (r_fo0 (r_ld 1 H3 rfl rfl ?_));refine Zna (j:=11) H3 rfl hts hm λv w4 S4 H4=>?_;replace H4:Holds w4 (blk eb A40.tEy (A40.cellsY (rowP t y))::(SvL s ts n 0 last acs out B ((ys.eraseIdx i).map (rowP t)) as_ (livesF ys) ys m++L)):=H4;refine r_dr H4 λw5 S5 H5=>?_;refine r_nc (r_fo0 (r_ld 1 H5 rfl rfl (r_fo0 (r_ld 0 H5 rfl rfl (r_fo0 (r_ld 0 H5 rfl rfl ?_))))));refine G40.Zo6 (j:=8) H5 rfl ha hu hus λw6 S6 H6=>?_;replace H6:Holds w6 (blk eb A40.tEy (A40.cellsY (rowP t y))::(SvL s ts n 0 last acs out B ((ys.eraseIdx i).map (rowP t)) (as_.set t ⟨a.li,a.us - y.nd,a.pk⟩) (livesF ys) ys m++L)):=H6;refine r_nc (r_fo0 (r_ld 1 H6 rfl rfl ?_));refine Zwg (kt:=tIw) (et:=185) (by kernel_rfl) (by kernel_rfl) 10 H6 rfl λw7 S7 H7=>?_;rw[Zjh hy hd] at H7;replace H7:Holds w7 (blk eb A40.tEy (A40.cellsY (rowP t y))::(SvL s ts n 0 last acs out B ((ys.eraseIdx i).map (rowP t)) (as_.set t ⟨a.li,a.us - y.nd,a.pk⟩) (livesF (ys.eraseIdx i)) ys m++L)):=H7;refine r_dr H7 λw8 S8 H8=>?_;refine r_nc (r_fo0 (r_ld 1 H8 rfl rfl (r_fo0 (r_ld 0 H8 rfl rfl ?_))));refine r_lkD (t:=tM88) (kt:=tIw) (et:=79) (x:=.p none) (z:=.pointer none) (k:=0) (by kernel_rfl) (by kernel_rfl) (by kernel_rfl) rfl 3 H8 rfl ?_;obtain⟨p,v,hp,H9⟩:=Zaa (j:=4) H8 rfl;refine r_nc (r_fo0 (r_ld 0 H9 rfl rfl (r_eql (r_vfE (by show ¬ (0:Int)=(y.hd:Int);omega) ?_))));have H10:=Holds.delK (L:=blk eb A40.tEy (A40.cellsY (rowP t y))::(SvL s ts n 0 last acs out B ((ys.eraseIdx i).map (rowP t)) (as_.set t ⟨a.li,a.us - y.nd,a.pk⟩) (livesF (ys.eraseIdx i)) ys m++L)) 12 rfl (Holds.atK H8 12 rfl hy);exact k w8 (S1.trans (S2.trans (S3.trans (S4.trans (S5.trans (S6.trans (S7.trans S8))))))) H10.drop
theorem Zih {rows:List A40.Lv}{fv:Int->Option Value}{need:Nat}(H:Holds w (SvL s ts n wt last acs out B rows as_ fv ys m++L)) (hr:rows.length<=900) (ha:as_[t]?=some a) (hu:a.us<=a.li) (hl:a.li<=1099511627776)
  (k1:a.li < need->∀ w',Same w w'->Holds w' (SvL s ts n wt last acs out B rows as_ fv ys m++L)->K (iv 33) w')
  (k2:¬ a.li < need->(rows.length=n.jo\/a.li - a.us < need)->∀ w',Same w w'->Holds w' (SvL s ts n wt last acs out B rows as_ fv ys m++L)->K (iv 34) w')
  (k3:¬ a.li < need->¬ (rows.length=n.jo\/a.li - a.us < need)->∀ w',Same w w'->Holds w' (SvL s ts n wt last acs out B rows (as_.set t ⟨a.li,a.us+need,max a.pk (a.us+need)⟩) fv ys m++L)->K (iv 0) w') :
  Cl prog 133 #[pt s.b,nv t,nv need] w K:=by
 refine Tz133 ?_;unfold Vz133;refine r_nc (r_fo0 (r_ld 0 H rfl rfl ?_));refine G40.Zlz (j:=7) H rfl ha λw1 S1 H1=>?_;refine r_gtr (r_ifD (λh=>k1 (by omega) w1 S1 H1) λh=>?_);refine r_dr H1 λw2 S2 H2=>?_;refine r_nc (r_fo0 (r_ld 0 H2 rfl rfl ?_));refine A40.Zvs (j:=6) H2 rfl ?_;refine r_nc (r_fo0 (r_fo0 (r_ld 0 H2 rfl rfl (r_rk (r_ld 0 H2 rfl rfl rfl) (r_eql (r_ifE (λh2=>?_) λh2=>?_))))))
 ·exact k2 (by omega) (.inl (by have:(rows.length:Int)=(n.jo:Int):=h2;omega)) w2 (S1.trans S2) H2
 have hne:¬ rows.length=n.jo:=λe=>h2 (by show (rows.length:Int)=(n.jo:Int);omega);refine r_nc (r_fo0 (r_ld 0 H2 rfl rfl ?_));refine G40.Zn7 (j:=7) H2 rfl ha (by omega) hu hl (λg w3 S3 H3=>?_) λg w3 S3 H3=>?_
 ·exact k2 (by omega) (.inr g) w3 (S1.trans (S2.trans S3)) H3
 ·exact k3 (by omega) (by omega) w3 (S1.trans (S2.trans S3)) H3
theorem Zfr {z:Px}(hz:∀ y∈ys,y.hd≠z.hd):(λk:Int=>if k=(z.hd:Int) then some (pt z.lb) else livesF ys k)=livesF (ys++[z]):=by
 funext k
 unfold livesF;rw[List.find?_append]
 by_cases e:k=(z.hd:Int)
 ·rw[if_pos e,List.find?_eq_none.2 (by intro y hy;have:=hz y hy;simp;omega)];simp[e]
 ·rw[if_neg e]
  have:[z].find? (λy=>decide ((y.hd:Int)=k))=none:=by
   rw[find?_cons_of_neg (by simpa using λq=>e q.symm)];rfl
  rw[this,Option.or_none]
theorem Zh1 {t id:Nat}:∀ {ys:List Px}{q:Nat},(∀ y∈ys,y.id≠id)->A40.placeL (λx=>x.cn==0&&x.id==id) (ys.map (rowP t)) q=none
 |[],q,_=>rfl
 |x::r,q,h=>by
  rw[hR_,A40.placeL,if_neg,Zh1 λy hy=>h y (hK_ _ hy)];have:=h x (hJ_ ..);show ¬ (true&&(x.id==id))=true;simpa using this
theorem Zl0 {jb kd lv nd lb j f st:Nat}{as2:List G40.Ak}
  (H:Holds w (blk lb tLive [ptr j,ptr f,ptr st]::JobQ kd j n.wi [] false (headF kd lv)::blk f tFlow (cellsW j [] false 0)::blk st tStr (cellsR j n.ch 0 0) ::
   (SvL s ts n 0 (last+1) acs out B (ys.map (rowP t)++[⟨0,jb,t,nd,last+1⟩]) as2 (λk:Int=>if k=((last+1:Nat):Int) then some (pt lb) else livesF ys k) ys m++L)))
  (hd:ys.Pairwise (λa b=>a.hd≠b.hd)) (hhd:∀ y∈ys,y.hd<=last) (hl:ys.length<=800) (htl:t < ts.length) (hts:ts.length<=1000) (hm:m<=900)
  (g4:n.wi<=1048576) (g6:n.ch<=4096) (hjb:jb<=4294967295) (ho:out.length<=100000000)
  (k3:∀ (z:Px) w',z.hd=last+1->z.id=jb->z.nd=nd->z.inp=[]->z.en=false->z.rest=[]->z.head=headF kd lv->z.cr=0->z.told+z.head.length<=4->Same w w'->
   Holds w' (SvL s ts n 0 (last+1) acs out B ((ys++[z]).map (rowP t)) as2 (livesF (ys++[z])) (ys++[z]) (m+1)++L)->K (.tuple #[]) w') :
  Cl prog 101 #[pt s.b,nv (last+1)] w K:=by
 let z:Px:=⟨last+1,jb,nd,kd,[],false,[],headF kd lv,0,0,lb,j,f,st⟩
 have hzn:∀ y∈ys,y.hd≠z.hd:=λy hy=>by have:=hhd y hy;show y.hd≠last+1;omega
 have hfv:(λk:Int=>if k=((last+1:Nat):Int) then some (pt lb) else livesF ys k)=livesF (ys++[z]):=Zfr hzn;rw[hfv] at H;have H15:=Holds.addK (L:=SvL s ts n 0 (last+1) acs out B (ys.map (rowP t)++[⟨0,jb,t,nd,last+1⟩]) as2 (livesF (ys++[z])) ys m++L) (y:=z) 11 rfl (Zb2 (y:=z) H)
 have hrows:ys.map (rowP t)++[⟨0,jb,t,nd,last+1⟩]=(ys++[z]).map (rowP t):=by rw[map_append];rfl
 rw[hrows] at H15;replace H15:Holds w (SvL s ts n 0 (last+1) acs out B ((ys++[z]).map (rowP t)) as2 (livesF (ys++[z])) (ys++[z]) m++L):=H15
 have hzi:(ys++[z])[ys.length]?=some z:=by rw[gT (Nat.le_refl _),Nat.sub_self];rfl
 have hzh:z.head.length<=4:=by
  show (headF kd lv).length<=4;unfold headF;split
  ·exact Nat.le_refl 4
  ·exact Nat.zero_le 4
 have hdz:(ys++[z]).Pairwise (λa b=>a.hd≠b.hd):=by
  rw[List.pairwise_append];refine⟨hd,List.pairwise_singleton _ _,λx hx y hy=>?_⟩;rw[mem_singleton] at hy;rw[hy];exact hzn x hx
 refine Zh0 (i:=ys.length) (y:=z) H15 hzi hdz (by rw[gD,gQ];omega) htl hts hm g4 (Nat.zero_le _) (.inl rfl) (λe=>by cases e) (by show 0<=_;omega) (by show 0+z.head.length<=4;omega) (by show 0<=_;omega) hjb g6 ho λhead cr told out' w14 hch htold hcr _ _ S14 H16=>?_
 have h0:chunksF n.ch 5 (lvP n.wi z) out=(lvP n.wi z,out):=by
  rw[chunksF];show (if min (min z.head.length 0) n.ch=0 then _ else _)=_;rw[if_pos (by omega)]
 rw[h0] at hch;have e1:z.head=head:=congrArg (λp:Lv × List UInt8=>p.1.head) hch;have e2:(0:Nat)=cr:=congrArg (λp:Lv × List UInt8=>p.1.cr) hch;have e3:out=out':=congrArg (λp:Lv × List UInt8=>p.2) hch;subst e2 e3
 have hset:(ys++[z]).set ys.length { z with head:=head,cr:=0,told:=told }=ys++[{ z with told:=told }]:=by
  rw[List.set_append_right _ _ (Nat.le_refl _),Nat.sub_self,gJ,<-e1]
 rw[hset] at H16
 have hr2:(ys++[z]).map (rowP t)=(ys++[{ z with told:=told }]).map (rowP t):=by rw[map_append,map_append];rfl
 have hf2:livesF (ys++[z])=livesF (ys++[{ z with told:=told }]):=by
  rw[<-Zfr hzn];exact Zfr (z:={ z with told:=told }) hzn
 rw[hr2,hf2] at H16;refine k3 { z with told:=told } w14 rfl rfl rfl rfl rfl rfl rfl rfl (by show told+z.head.length<=4;rw[e1];exact htold) S14 H16
theorem Zpp {jb kd lv:Nat}{tn:Tn}(H:Holds w (SvL s ts n 0 last acs out B (ys.map (rowP t)) as_ (livesF ys) ys m++L)) (hd:ys.Pairwise (λa b=>a.hd≠b.hd)) (hhd:∀ y∈ys,y.hd<=last) (hid:∀ y∈ys,y.id≠jb) (hl:ys.length<=800) (hts:ts.length<=1000) (hm:m<=900) (hla:last<=1000)
  (hwho:whoD acs=some (t:Int)) (htn:ts[t]?=some tn) (ha:as_[t]?=some a) (hu:a.us<=a.li) (hli:a.li<=1099511627776) (hk:kd=1/\1<=lv/\lv<=9\/(kd=2\/kd=3)/\lv=0)
  (g1:24<=n.un) (g2:n.un<=100000) (g3:64<=n.wi) (g4:n.wi<=1048576) (g5:1<=n.ch) (g6:n.ch<=4096) (hjb:jb<=4294967295) (ho:out.length<=100000000)
  (k1:a.li < needF n kd lv->∀ w',Same w w'->Holds w' (SvL s ts n 0 last acs (out++encF ⟨69,jb,[33]⟩) B (ys.map (rowP t)) as_ (livesF ys) ys m++L)->K (.tuple #[]) w')
  (k2:¬ a.li < needF n kd lv->(ys.length=n.jo\/a.li - a.us < needF n kd lv)->∀ w',Same w w'->Holds w' (SvL s ts n 0 last acs (out++encF ⟨69,jb,[34]⟩) B (ys.map (rowP t)) as_ (livesF ys) ys m++L)->K (.tuple #[]) w')
  (k3:¬ a.li < needF n kd lv->¬ (ys.length=n.jo\/a.li - a.us < needF n kd lv)->∀ (z:Px) w',z.hd=last+1->z.id=jb->z.nd=needF n kd lv->z.inp=[]->z.en=false->z.rest=[]->z.head=headF kd lv->z.cr=0->z.told+z.head.length<=4->Same w w'->
   Holds w' (SvL s ts n 0 (last+1) acs out B ((ys++[z]).map (rowP t)) (as_.set t ⟨a.li,a.us+needF n kd lv,max a.pk (a.us+needF n kd lv)⟩) (livesF (ys++[z])) (ys++[z]) (m+1)++L)->K (.tuple #[]) w') :
  Cl prog 90 #[pt s.b,pt s.ln,.agg (cellsA ⟨3,(jb:Int),0,(kd:Int),(lv:Int),0,BA [],0⟩).toArray] w K:=by
 have htl:t < ts.length:=(gH.1 htn).1;rw[Zoz] at k1 k2 k3;refine Tz90 ?_;unfold Vz90;refine r_new H λab w1 S1 H1=>?_;replace H1:Holds w1 (blk ab tAc (cellsA ⟨3,(jb:Int),0,(kd:Int),(lv:Int),0,BA [],0⟩)::(SvL s ts n 0 last acs out B (ys.map (rowP t)) as_ (livesF ys) ys m++L)):=H1;obtain⟨p,v,hp,H2⟩:=Zaa (j:=4) H1 rfl;refine r_nc (r_fo0 (r_ld 0 H2 rfl rfl ?_));refine Zk4 (j:=6) H1 rfl ?_;rw[hwho];show Dr _ _;refine r_dr H1 λw2 S2 H2=>?_;refine r_fo0 (r_ld 0 H2 rfl rfl (r_fo0 (r_ld 0 H2 rfl rfl (r_nc (r_fo0 (r_fo0 (r_ld 1 H2 rfl rfl (r_nc (r_fo0 (r_fo0 (r_ld 1 H2 rfl rfl ?_)))))))))));refine Znl (kd:=kd) (lv:=lv) (u:=n.un) (wi:=n.wi) H2 hk g1 g2 g3 g4 λw3 S3 H3=>?_;refine Za6 (Za5 ?_);have S:=S1.trans (S2.trans S3);have H3s:Holds w3 (SvL s ts n 0 last acs out B (ys.map (rowP t)) as_ (livesF ys) ys m++(blk ab tAc (cellsA ⟨3,(jb:Int),0,(kd:Int),(lv:Int),0,BA [],0⟩)::L)):=(by have h_:=Holds.ord 13 [1,2,3,4,5,6,7,8,9,10,11,12,0] H3 rfl;exact h_);clear S1 S2 S3 H H1 H2 H3
 have ref:∀ (e:Nat) w',1<=e->e<=255->(∀ w',Same w w'->Holds w' (SvL s ts n 0 last acs (out++encF ⟨69,jb,[UInt8.ofNat e]⟩) B (ys.map (rowP t)) as_ (livesF ys) ys m++L)->K (.tuple #[]) w')->Same w w'->
   Holds w' (SvL s ts n 0 last acs out B (ys.map (rowP t)) as_ (livesF ys) ys m++(blk ab tAc (cellsA ⟨3,(jb:Int),0,(kd:Int),(lv:Int),0,BA [],0⟩)::L))->
   Fo 1 (pt ab) λx_24=>Ld x_24 w' λx_25=>Cl prog 57 #[pt s.ln,x_25,nv e] w' λx_26 w6=>K (.tuple #[]) w6:=by
  intro e w' h1 h2 kk Sz Hz;refine r_fo0 (r_ld 12 Hz rfl rfl ?_);refine Zgc (j:=3) (jb:=jb) (wt:=0) (pa:=s.pa) (cb:=s.cb) (out:=out) Hz rfl hjb h1 h2 (by omega) λw4 S4 H4=>?_;exact kk w4 (Sz.trans S4) (Holds.dropAt H4 12)
 refine Zih (rows:=ys.map (rowP t)) (fv:=livesF ys) H3s (by rw[hS_];omega) ha hu hli (λh w4 S4 H4=>?_) (λh h2 w4 S4 H4=>?_) λh h2 w4 S4 H4=>?_
 ·exact r_neq (r_vtN (by decide) (ref 33 w4 (by decide) (by decide) (k1 h) (S.trans S4) H4))
 ·rw[hS_] at h2;exact r_neq (r_vtN (by decide) (ref 34 w4 (by decide) (by decide) (k2 h h2) (S.trans S4) H4))
 rw[hS_] at h2;clear k1 k2 ref H3s;refine r_neq (r_vfN rfl ?_);refine r_dr H4 λw5 S5 H5=>?_;refine r_fo0 (r_ld 12 H5 rfl rfl (r_fo0 (r_ld 12 H5 rfl rfl (r_nc (r_fo0 (r_fo0 (r_ld 0 H5 rfl rfl (r_nc (r_fo0 (r_fo0 (r_ld 0 H5 rfl rfl ?_)))))))))));refine Zq1 (k:=kd) (lv:=lv) (unit:=n.un) (win:=n.wi) H5 hk g1 g2 g3 g4 λj w6 S6 H6=>?_;refine Za6 (Za5 ?_);refine Zqv H6 λf w7 S7 H7=>?_;refine Za6 (Za5 (r_nc (r_fo0 (r_fo0 (r_ld 2 H7 rfl rfl ?_)))));refine Zqp (ch:=n.ch) H7 g5 g6 λst w8 S8 H8=>?_;refine Za6 (Za5 ?_);refine r_dr H8 λw9 S9 H9=>?_;replace S:=S.trans (S4.trans (S5.trans (S6.trans (S7.trans (S8.trans S9)))));clear S4 S5 S6 S7 S8 S9 H4 H5 H6 H7 H8;obtain⟨p,v,hp,H10⟩:=Zaa (j:=6) H9 rfl;refine r_nc (r_fo0 (r_ld 3 H9 rfl rfl (r_nc (r_fo0 (r_ld 0 H10 rfl rfl (r_fo0 (r_ld 15 H9 rfl rfl ?_)))))));refine r_bd (v:=.agg #[nv 0,nv jb,nv t,nv (needN n.un n.wi kd lv)]) (by kernel_rfl) ?_;refine A40.Zvp (j:=9) H9 rfl (by rw[hS_];omega) (by rw[hS_];omega) (by omega) (Zh1 hid) λw11 S11 H11=>?_;refine Za6 (Za5 (r_nc (r_fo0 (r_ld 3 H11 rfl rfl ?_))));refine r_bd (v:=.agg #[ptr j,ptr f,ptr st]) (by kernel_rfl) ?_;refine r_new H11 λlb w12 S12 H12=>?_;refine r_muE (t:=tM89) (kt:=tIw) (et:=185) (by kernel_rfl) (by kernel_rfl) 13 H12 rfl λw13 S13 H13=>?_;refine Zl0 (jb:=jb) (nd:=needN n.un n.wi kd lv) (as2:=as_.set t ⟨a.li,a.us+needN n.un n.wi kd lv,max a.pk (a.us+needN n.un n.wi kd lv)⟩) ((by have h_:=Holds.ord 4 [0,3,2,1] H13 rfl;exact h_)) hd hhd hl htl hts hm g4 g6 hjb ho λz w14 e1 e2 e3 e4 e5 e6 e7 e8 e9 S14 H14=>?_;exact k3 (by omega) (by omega) z w14 e1 e2 e3 e4 e5 e6 e7 e8 e9 (S.trans (S11.trans (S12.trans (S13.trans S14)))) (Holds.dropAt H14 12)
end
end F33
namespace F33
open Go.M31 J30 J31 J32
variable {w:World}{L:List HProp}{K:KT}
section
variable {win ch i j:Nat}{ys:List Px}{y:Px}{tx:List UInt8}
theorem Zwv (H:Holds w L) (hj:L[j]?=some (PkL (LiveR win ch) ys)) (hy:ys[i]?=some y) (hen:y.en=false) (hre:y.rest=[]) (h6:win<=1048576) (hi:y.inp.length<=win) (hs:tx.length<=65536)
  (k:∀ w',Same w w'->Holds w' (L.set j (PkL (LiveR win ch) (ys.set i { y with inp:=y.inp++tx.take (min tx.length (win - y.inp.length)),rest:=tx.drop (min tx.length (win - y.inp.length)) })))->K (iv 0) w') :
  Cl prog 139 #[pt y.fb,S_ tx] w K:=by
 have H1:=Zas (Holds.atK H j hj hy);have H2:Holds w (blk y.fb tFlow (cellsW y.jb y.rest y.en y.inp.length)::JobQ y.kd y.jb win y.inp y.en y.head::blk y.lb tLive [ptr y.jb,ptr y.fb,ptr y.sb]::blk y.sb tStr (cellsR y.jb ch y.cr y.told)::Sat ((ys.map (LiveR win ch)).eraseIdx i)::L.eraseIdx j):=(by have h_:=Holds.ord 4 [2,1,0,3] H1 rfl;exact h_);rw[hen,hre] at H2;refine Zpf H2 h6 hi hs (by omega) λw3 S3 H3=>?_
 have H4:Holds w3 (blk y.lb tLive [ptr y.jb,ptr y.fb,ptr y.sb]::JobQ y.kd y.jb win (y.inp++tx.take (min tx.length (win - y.inp.length))) false y.head::blk y.fb tFlow (cellsW y.jb (tx.drop (min tx.length (win - y.inp.length))) false (y.inp++tx.take (min tx.length (win - y.inp.length))).length)::blk y.sb tStr (cellsR y.jb ch y.cr y.told)::Sat ((ys.map (LiveR win ch)).eraseIdx i)::L.eraseIdx j):=by
  have e:(y.inp++tx.take (min tx.length (win - y.inp.length))).length=y.inp.length+min tx.length (win - y.inp.length):=by rw[gD,gN];omega
  rw[e];exact (by have h_:=Holds.ord 4 [2,1,0,3] H3 rfl;exact h_)
 refine k w3 S3 (Holds.putK j hj hy (Zb2 (y:={ y with inp:=y.inp++tx.take (min tx.length (win - y.inp.length)),rest:=tx.drop (min tx.length (win - y.inp.length)) }) ?_));rw[<-hen] at H4;exact H4
theorem Zwn (H:Holds w L) (hj:L[j]?=some (PkL (LiveR win ch) ys)) (hy:ys[i]?=some y) (hen:y.en=false) (hre:y.rest=[]) (h6:win<=1048576) (hi:y.inp.length<=win)
  (k:∀ w',Same w w'->Holds w' (L.set j (PkL (LiveR win ch) (ys.set i { y with en:=true })))->K (iv 0) w') :
  Cl prog 140 #[pt y.fb] w K:=by
 have H1:=Zas (Holds.atK H j hj hy);have H2:Holds w (blk y.fb tFlow (cellsW y.jb y.rest y.en y.inp.length)::JobQ y.kd y.jb win y.inp y.en y.head::blk y.lb tLive [ptr y.jb,ptr y.fb,ptr y.sb]::blk y.sb tStr (cellsR y.jb ch y.cr y.told)::Sat ((ys.map (LiveR win ch)).eraseIdx i)::L.eraseIdx j):=(by have h_:=Holds.ord 4 [2,1,0,3] H1 rfl;exact h_);rw[hen,hre] at H2;refine Zod H2 h6 hi (by omega) λw3 S3 H3=>?_;rw[<-hre] at H3;have H4:=(by have h_:=Holds.ord 4 [2,1,0,3] H3 rfl;exact h_);exact k w3 S3 (Holds.putK j hj hy (Zb2 (y:={ y with en:=true }) H4))
theorem Zr7 {q:Nat}(H:Holds w L) (hj:L[j]?=some (PkL (LiveR win ch) ys)) (hy:ys[i]?=some y) (hq:y.cr+q<=1099511627776)
  (k:∀ w',Same w w'->Holds w' (L.set j (PkL (LiveR win ch) (ys.set i { y with cr:=y.cr+q })))->K (iv 0) w') :
  Cl prog 141 #[pt y.sb,nv q] w K:=by
 have H1:=Zas (Holds.atK H j hj hy);have H2:Holds w (blk y.sb tStr (cellsR y.jb ch y.cr y.told)::blk y.lb tLive [ptr y.jb,ptr y.fb,ptr y.sb]::JobQ y.kd y.jb win y.inp y.en y.head::blk y.fb tFlow (cellsW y.jb y.rest y.en y.inp.length)::Sat ((ys.map (LiveR win ch)).eraseIdx i)::L.eraseIdx j):=(by have h_:=Holds.ord 4 [3,0,1,2] H1 rfl;exact h_);refine Zkm H2 hq λw3 S3 H3=>?_;have H4:=(by have h_:=Holds.ord 4 [1,2,3,0] H3 rfl;exact h_);exact k w3 S3 (Holds.putK j hj hy (Zb2 (y:={ y with cr:=y.cr+q }) H4))
end
theorem Zfm {ch:Nat}{z:Lv}{out:List UInt8}(hz:min (min z.head.length z.cr) ch=0):chunksF ch 5 z out=(z,out):=by
 rw[chunksF];show (if min (min z.head.length z.cr) ch=0 then _ else _)=_;rw[if_pos hz]
theorem Ze6 {t i:Nat}{ys:List Px}{y z:Px}(hy:ys[i]?=some y) (h:rowP t z=rowP t y):(ys.set i z).map (rowP t)=ys.map (rowP t):=by
 rw[map_set,h];exact Zb0 (by rw[hV_,hy];rfl)
theorem Zc1:∀ {ys:List Px}{i:Nat}{y z:Px},ys[i]?=some y->z.hd=y.hd->z.lb=y.lb->livesF (ys.set i z)=livesF ys
 |[],i,y,z,h,_,_=>by simp at h
 |x::r,0,y,z,h,h1,h2=>by
  obtain rfl:x=y:=by simpa using h
  funext k
  unfold livesF;rw[gJ]
  by_cases e:(x.hd:Int)=k
  ·rw[find?_cons_of_pos (by rw[h1];simpa using e),find?_cons_of_pos (by simpa using e)];simp[h2]
  ·rw[find?_cons_of_neg (by rw[h1];simpa using e),find?_cons_of_neg (by simpa using e)]
 |x::r,i+1,y,z,h,h1,h2=>by
  have ih:=Zc1 (ys:=r) (i:=i) (y:=y) (z:=z) (by simpa using h) h1 h2
  funext k
  have ih':=congrFun ih k;unfold livesF at ih' ⊢;rw[gW]
  by_cases e:(x.hd:Int)=k
  ·rw[find?_cons_of_pos (by simpa using e),find?_cons_of_pos (by simpa using e)]
  ·rw[find?_cons_of_neg (by simpa using e),find?_cons_of_neg (by simpa using e)];exact ih'
theorem Zq3 {ys:List Px}{i:Nat}{y z:Px}(hy:ys[i]?=some y) (h:z.hd=y.hd) (hd:ys.Pairwise (λa b=>a.hd≠b.hd)):(ys.set i z).Pairwise (λa b=>a.hd≠b.hd):=by
 have e:((ys.set i z).map (·.hd))=ys.map (·.hd):=by
  rw[map_set,h];exact Zb0 (by rw[hV_,hy];rfl)
 have h1:(ys.map (·.hd)).Pairwise (·≠·):=by rw[pairwise_map];exact hd
 rw[<-e,pairwise_map] at h1;exact h1
theorem Zm9 {t id:Nat}:∀ {ys:List Px}{q:Nat},A40.placeL (λx=>x.cn==0&&x.id==id) (ys.map (rowP t)) q=none->∀ y∈ys,y.id≠id
 |[],q,_,y,h=>by cases h
 |x::r,q,h,y,hy=>by
  rw[hR_,A40.placeL] at h;split at h
  ·cases h
  ·rename_i hn;rcases mem_cons.1 hy with rfl|hy
   ·intro e;apply hn;show (true&&(y.id==id))=true;simpa using e
   ·exact Zm9 h y hy
section
variable {s:Sx}{ts:List Tn}{n:Cf}{last m t:Nat}{acs:List Ac}{out B:List UInt8}{as_:List G40.Ak}{ys:List Px}{a:G40.Ak}
structure OkY (n:Cf) (last cm:Nat) (y:Px):Prop where
 h1:1<=y.hd
 h2:y.hd<=last
 inp:y.inp.length<=n.wi
 rest:y.rest=[]
 told:y.told+y.head.length<=4
 cr:y.cr<=cm
 id:y.id<=4294967295
 z:min (min y.head.length y.cr) n.ch=0
theorem Zrv {x:Ac}{jb cm:Nat}(H:Holds w (SvL s ts n 0 last acs out B (ys.map (rowP t)) as_ (livesF ys) ys m++L)) (hd:ys.Pairwise (λa b=>a.hd≠b.hd)) (hok:∀ y∈ys,OkY n last cm y) (hcm:cm<=500000000000) (hl:ys.length<=800) (ht:t < ts.length) (hts:ts.length<=1000) (hm:m<=900)
  (g4:n.wi<=1048576) (g6:n.ch<=4096) (ho:out.length<=100000000) (hx:x.jb=(jb:Int)) (hjb:jb<=4294967295) (ha:as_[t]?=some a) (hus:a.us<=1099511627776) (hnd:∀ y∈ys,y.nd<=a.us)
  (hwh:(∃ tx:List UInt8,x.wh=4/\x.tx=BA tx/\tx.length<=65536)\/x.wh=5\/x.wh=6\/∃ q:Nat,x.wh=7/\x.nn=(q:Int)/\q < 4294967296) (hen:x.wh=4\/x.wh=5->∀ y∈ys,y.id=jb->y.en=false)
  (k0:(∀ y∈ys,y.id≠jb)->∀ w',Same w w'->Holds w' (SvL s ts n 0 last acs out B (ys.map (rowP t)) as_ (livesF ys) ys m++L)->K (.tuple #[]) w')
  (k4:∀ i y (tx:List UInt8) told w',x.wh=4->x.tx=BA tx->ys[i]?=some y->y.id=jb->told+y.head.length<=4->Same w w'->
   Holds w' (SvL s ts n (if tx.drop (min tx.length (n.wi - y.inp.length))=[] then 0 else y.hd) last acs out B (ys.map (rowP t)) as_ (livesF ys) (ys.set i { y with inp:=y.inp++tx.take (min tx.length (n.wi - y.inp.length)),rest:=tx.drop (min tx.length (n.wi - y.inp.length)),told:=told }) (m+1)++L)->K (.tuple #[]) w')
  (k5:∀ i y told w',x.wh=5->ys[i]?=some y->y.id=jb->told+y.head.length<=4->Same w w'->Holds w' (SvL s ts n 0 last acs out B (ys.map (rowP t)) as_ (livesF ys) (ys.set i { y with en:=true,told:=told }) (m+1)++L)->K (.tuple #[]) w')
  (k6:∀ i y w',x.wh=6->ys[i]?=some y->y.id=jb->Same w w'->Holds w' (SvL s ts n 0 last acs out B ((ys.eraseIdx i).map (rowP t)) (as_.set t ⟨a.li,a.us - y.nd,a.pk⟩) (livesF (ys.eraseIdx i)) (ys.eraseIdx i) m++L)->K (.tuple #[]) w')
  (k7:∀ i y (q:Nat) head cr told out' w',x.wh=7->x.nn=(q:Int)->ys[i]?=some y->y.id=jb->chunksF n.ch 5 (lvP n.wi { y with cr:=y.cr+q }) out=(lvP n.wi { y with head:=head,cr:=cr },out')->told+head.length<=4->cr<=y.cr+q->out'.length<=out.length+40->min (min head.length cr) n.ch=0->Same w w'->
   Holds w' (SvL s ts n 0 last acs out' B (ys.map (rowP t)) as_ (livesF ys) (ys.set i { y with head:=head,cr:=cr,told:=told }) (m+1)++L)->K (.tuple #[]) w') :
  Cl prog 91 #[pt s.b,pt s.ln,.agg (cellsA x).toArray] w K:=by
 refine Tz91 ?_;unfold Vz91;refine r_new H λab w1 S1 H1=>?_;replace H1:Holds w1 (blk ab tAc (cellsA x)::(SvL s ts n 0 last acs out B (ys.map (rowP t)) as_ (livesF ys) ys m++L)):=H1;refine r_dr H1 λw2 S2 H2=>?_;have S:=S1.trans S2;have H3:Holds w2 (SvL s ts n 0 last acs out B (ys.map (rowP t)) as_ (livesF ys) ys m++(blk ab tAc (cellsA x)::L)):=(by have h_:=Holds.ord 13 [1,2,3,4,5,6,7,8,9,10,11,12,0] H2 rfl;exact h_);clear S1 S2 H H1 H2;obtain⟨p,v,hp,H4⟩:=Zaa (j:=3) H3 rfl;refine r_nc (r_fo0 (r_ld 0 H3 rfl rfl (r_nc (r_fo0 (r_ld 0 H4 rfl rfl (r_fo0 (r_ld 12 H3 rfl rfl ?_)))))));rw[hx];clear H4;refine A40.Zv2 (j:=6) (cn:=0) (id:=jb) H3 rfl (by rw[hS_];omega) (λi r w3 hpl hr S3 H4=>?_) λw3 hpl S3 H4=>?_
 rotate_left
 ·refine Za6 (Za5 (r_neq (r_vtN (by decide) ?_)));exact k0 (Zm9 hpl) w3 (S.trans S3) (Holds.dropAt H4 12)
 obtain⟨r2,hr2,hpr⟩:=A40.Zfs hpl;rw[Nat.sub_zero,hr] at hr2;obtain rfl:=Option.some.inj hr2;rw[hV_] at hr
 obtain⟨y,hy⟩:∃ y,ys[i]?=some y:=by
  cases hq:ys[i]? with
  |none=>rw[hq] at hr;cases hr
  |some y=>exact⟨y,rfl⟩
 rw[hy] at hr;obtain rfl:rowP t y=r:=Option.some.inj hr
 have hyid:y.id=jb:=by
  have:(true&&(y.id==jb))=true:=hpr;simpa using this
 have hym:=mem_of_getElem? hy;have ok:=hok y hym;replace S:=S.trans S3;clear S3 H3 hpl hr hpr k0;refine Za6 (Za5 (r_neq (r_vfN rfl (r_nc (r_fo0 (r_ld 0 H4 rfl rfl ?_))))));refine r_lkE (t:=tM89) (kt:=tIw) (et:=185) (x:=.p none) (z:=.pointer none) (k:=(y.hd:Int)) (by kernel_rfl) (by kernel_rfl) (by kernel_rfl) rfl 9 H4 rfl ?_;rw[Zf1 hy hd];refine r_fo0 (r_ld 12 H4 rfl rfl ?_)
 have hlen:∀ z:Px,(ys.set i z).length<=900:=λz=>by rw[hX_];omega
 have hz:∀ z:Px,(ys.set i z)[i]?=some z:=λz=>by rw[List.getElem?_set_self (gH.1 hy).1]
 have hcm2:=ok.cr
 have aft:∀ (z:Px) (w':World) (hrow:rowP t z=rowP t y) (hlb:z.lb=y.lb) (hhd:z.hd=y.hd) (hi:z.inp.length<=n.wi) (hfull:z.rest=[]\/z.inp.length=n.wi) (hen2:z.en=true->z.rest=[]) (hr:z.rest.length<=65536) (hh:z.told+z.head.length<=4) (hc:z.cr<=1099511627776)
   (kk:∀ head cr told out' w',chunksF n.ch 5 (lvP n.wi z) out=(lvP n.wi { z with head:=head,cr:=cr },out')->told+head.length<=4->cr<=z.cr->out'.length<=out.length+40->min (min head.length cr) n.ch=0->Same w w'->
    Holds w' (SvL s ts n (if z.rest=[] then 0 else z.hd) last acs out' B (ys.map (rowP t)) as_ (livesF ys) (ys.set i { z with head:=head,cr:=cr,told:=told }) (m+1)++L)->K (.tuple #[]) w'),
   Same w w'->Holds w' (SvL s ts n 0 last acs out B (ys.map (rowP t)) as_ (livesF ys) (ys.set i z) m++(blk ab tAc (cellsA x)::L))->Cl prog 101 #[pt s.b,nv y.hd] w' λ_ w6=>K (.tuple #[]) w6:=by
  intro z w' hrow hlb hhd hi hfull hen2 hr hh hc kk Sz Hz;have hid:z.id=y.id:=congrArg A40.Lv.id hrow;rw[<-Ze6 hy hrow,<-Zc1 hy hhd hlb] at Hz;rw[<-hhd];refine Zh0 Hz (hz z) (Zq3 hy hhd hd) (hlen z) ht hts hm g4 hi hfull hen2 hr hh hc (by rw[hid];exact ok.id) g6 ho λhead cr told out' w7 h1 h2 h3 h4 h5 S7 H7=>?_;rw[Ze6 hy hrow,Zc1 hy hhd hlb,set_set] at H7;exact kk head cr told out' w7 h1 h2 h3 h4 h5 (Sz.trans S7) (Holds.dropAt H7 12)
 rcases hwh with⟨tx,h4,htx,htl⟩|h5|h6|⟨q,h7,hq,hql⟩
 ·have hen0:=hen (.inl h4) y hym hyid;refine r_eql (r_vtE h4 ?_);refine r_dr H4 λw5 S5 H5=>?_;have H6:=Zas (Holds.atK H5 11 rfl hy);refine r_nc (r_fo0 (r_ld 0 H6 rfl rfl (r_fo0 (r_ld 12 H5 rfl rfl ?_))));rw[htx];refine Zwv (j:=11) H5 rfl hy hen0 ok.rest g4 ok.inp htl λw6 S6 H7=>?_;refine aft { y with inp:=y.inp++tx.take (min tx.length (n.wi - y.inp.length)),rest:=tx.drop (min tx.length (n.wi - y.inp.length)) } w6 rfl rfl rfl ?_ ?_ (λe=>?_) ?_ ok.told (by show y.cr<=_;omega) (λhead cr told out' w8 e1 e2 e3 e4 e5 S8 H8=>?_) (S.trans (S5.trans S6)) H7
  ·show (y.inp++tx.take _).length<=_;have:=ok.inp;rw[gD,gN];omega
  ·have:=ok.inp;rcases hU_ (n.wi - y.inp.length) tx.length with g|g
   ·right;show (y.inp++tx.take _).length=_;rw[gD,gN];omega
   ·left;show tx.drop _=[];rw[List.drop_eq_nil_iff];omega
  ·exact absurd e (by show ¬ y.en=true;rw[hen0];decide)
  ·show (tx.drop _).length<=_;rw[gS];omega
  ·rw[Zfm ok.z] at e1;have a1:y.head=head:=congrArg (λp:Lv × List UInt8=>p.1.head) e1;have a2:y.cr=cr:=congrArg (λp:Lv × List UInt8=>p.1.cr) e1;have a3:out=out':=congrArg (λp:Lv × List UInt8=>p.2) e1;subst a1 a2 a3;exact k4 i y tx told w8 h4 htx hy hyid e2 S8 H8
 ·have hen0:=hen (.inr h5) y hym hyid;refine r_eql (r_vfE (by rw[h5];decide) (r_eql (r_vtE h5 ?_)));have H6:=Zas (Holds.atK H4 11 rfl hy);refine r_nc (r_fo0 (r_ld 0 H6 rfl rfl ?_));refine Zwn (j:=11) H4 rfl hy hen0 ok.rest g4 ok.inp λw6 S6 H7=>?_;refine aft { y with en:=true } w6 rfl rfl rfl ok.inp (.inl ok.rest) (λ_=>ok.rest) (by show y.rest.length<=_;rw[ok.rest];exact Nat.zero_le _) ok.told (by show y.cr<=_;omega) (λhead cr told out' w8 e1 e2 e3 e4 e5 S8 H8=>?_) (S.trans S6) H7;rw[Zfm ok.z] at e1;have a1:y.head=head:=congrArg (λp:Lv × List UInt8=>p.1.head) e1;have a2:y.cr=cr:=congrArg (λp:Lv × List UInt8=>p.1.cr) e1;have a3:out=out':=congrArg (λp:Lv × List UInt8=>p.2) e1;subst a1 a2 a3;refine k5 i y told w8 h5 hy hyid e2 S8 ?_;have:(if y.rest=[] then 0 else y.hd)=0:=if_pos ok.rest;rw[this] at H8;exact H8
 ·refine r_eql (r_vfE (by rw[h6];decide) (r_eql (r_vfE (by rw[h6];decide) (r_eql (r_vfE (by rw[h6];decide) ?_)))));refine Zj3 H4 hy hd ok.h1 (by omega) hts hm ha (hnd y hym) hus λw5 S5 H5=>?_;exact k6 i y w5 h6 hy hyid (S.trans S5) (Holds.dropAt H5 12)
 ·refine r_eql (r_vfE (by rw[h7];decide) (r_eql (r_vfE (by rw[h7];decide) (r_eql (r_vtE h7 ?_)))));refine r_dr H4 λw5 S5 H5=>?_;have H6:=Zas (Holds.atK H5 11 rfl hy);refine r_nc (r_fo0 (r_ld 0 H6 rfl rfl (r_fo0 (r_ld 12 H5 rfl rfl ?_))));rw[hq];refine Zr7 (j:=11) (q:=q) H5 rfl hy (by omega) λw6 S6 H7=>?_;refine aft { y with cr:=y.cr+q } w6 rfl rfl rfl ok.inp (.inl ok.rest) (λ_=>ok.rest) (by show y.rest.length<=_;rw[ok.rest];exact Nat.zero_le _) ok.told (by show y.cr+q<=_;omega) (λhead cr told out' w8 e1 e2 e3 e4 e5 S8 H8=>?_) (S.trans (S5.trans S6)) H7;refine k7 i y q head cr told out' w8 h7 hq hy hyid e1 e2 e3 e4 e5 S8 ?_;have:(if y.rest=[] then 0 else y.hd)=0:=if_pos ok.rest;rw[this] at H8;exact H8
end
end F33
namespace F33
open Go.M31 J30 J31 J32
variable {w:World}{L:List HProp}{K:KT}
theorem Zrq:∀ (l:List Nat),(∀ y∈l,y<=1000000000000000000)->(joinF l).length<=20*l.length:=by
 intro l;unfold joinF
 induction l with
 |nil=>intro _;exact Nat.le_refl _
 |cons a r ih=>
  intro h2;have ha:=Go.Tx.dig_len 18 a (by have:=h2 a (hJ_ ..);have:(10:Nat)^(18+1)=10000000000000000000:=(by decide);omega)
  cases r with
  |nil=>show (Go.Tx.dig a).length<=20;omega
  |cons b r=>
   have:=ih λy hy=>h2 y (hK_ _ hy);show (Go.Tx.dig a++32::Go.Tx.joinC 32 ((b::r).map Go.Tx.dig)).length<=_;rw[gD,gY,gY (a:=a)];omega
theorem Zkv {t:Nat}{ys:List Px}:(A40.handles (λx=>x.tn==t) (ys.map (rowP t))).length=ys.length:=by
 unfold A40.handles;rw[hS_,List.filter_eq_self.2,hS_];intro x hx;obtain⟨y,_,rfl⟩:=List.mem_map.1 hx;show (t==t)=true;simp
section
variable {s:Sx}{ts:List Tn}{n:Cf}{wt last m t:Nat}{acs:List Ac}{out B:List UInt8}{as_:List G40.Ak}{ys:List Px}{a:G40.Ak}{fv:Int->Option Value}
theorem Zkc {tn:Tn}(H:Holds w (SvL s ts n wt last acs out B (ys.map (rowP t)) as_ fv ys m++L)) (hl:ys.length<=900) (ha:as_[t]?=some a) (htn:ts[t]?=some tn) (hst:stN tn<=1099511627776) (hus:a.us<=1099511627776) (hli:a.li<=1099511627776)
  (k:∀ w',Same w w'->Holds w' (SvL s ts n wt last acs out B (ys.map (rowP t)) as_ fv ys m++L)->K (S_ (joinF [0,ys.length,a.us,a.li,stN tn])) w') :
  Cl prog 88 #[pt s.b,nv t] w K:=by
 refine Tz88 ?_;unfold Vz88;refine r_dr H λw1 S1 H1=>?_;refine r_nc (r_fo0 (r_ld 0 H1 rfl rfl ?_));refine At_at (j:=8) H1 rfl ?_;refine r_nc (r_fo0 (r_ld 0 H1 rfl rfl (r_rk (r_ld 0 H1 rfl rfl rfl) ?_)));refine A40.By_at (j:=6) H1 rfl (by rw[hS_];omega) λo c w3 S3 H3=>?_;rw[Zkv];refine r_lnl (r_nc (r_fo0 (r_ld 0 H3 rfl rfl (r_rk (r_ld 0 H1 rfl rfl rfl) (r_rk (r_ld 0 H1 rfl rfl rfl) ?_)))));refine G40.Zok (j:=7) H3 rfl ha λw4 S4 H4=>?_;refine r_rk (r_lnl rfl) (r_nc (r_fo0 (r_ld 0 H4 rfl rfl (r_rk (r_ld 0 H3 rfl rfl rfl) (r_rk (r_ld 0 H1 rfl rfl rfl) (r_rk (r_ld 0 H1 rfl rfl rfl) ?_))))));refine G40.Zlz (j:=7) H4 rfl ha λw5 S5 H5=>?_;refine r_rk (r_lnl rfl) (r_nc (r_fo0 (r_ld 0 H5 rfl rfl (r_rk (r_ld 0 H4 rfl rfl rfl) (r_rk (r_ld 0 H3 rfl rfl rfl) (r_rk (r_ld 0 H1 rfl rfl rfl) (r_rk (r_ld 0 H1 rfl rfl rfl) ?_)))))));refine Zpi (j:=8) (x:=stN tn) H5 rfl (by rw[hV_,htn];rfl) hst λw6 S6 H6=>?_;refine r_rk (r_lnl rfl) ?_;refine r_bsK (e:=3) [iv 0,nv ys.length,nv a.us,nv a.li,nv (stN tn)] H6 (by kernel_rfl) λb w7 S7 H7=>?_;refine Zpx (ys:=[0,ys.length,a.us,a.li,stN tn]) (i:=0) H7 rfl (by simp) (by show 5<=10;decide) (λy hy=>?_) λw8 S8 H8=>?_
 ·simp only[mem_cons,List.not_mem_nil,or_false] at hy
  rcases hy with rfl|rfl|rfl|rfl|rfl <;> omega
 ·exact k w8 (S1.trans (S3.trans (S4.trans (S5.trans (S6.trans (S7.trans S8)))))) H8.drop
end
def ak0 (tn:Tn):G40.Ak:=⟨tn.me.toNat,0,0⟩
structure Rp (ts:List Tn) (n:Cf) (c:Nat) (q:Qt) (t wt last m:Nat) (B:List UInt8) (as_:List G40.Ak) (ys:List Px) (a:G40.Ak):Prop where
 al:q.acs.length<=c
 wf:WfA q.acs
 who:∀ i,whoD q.acs=some i->i=(t:Int)
 no:whoD q.acs=none->ys=[]/\as_=ts.map ak0
 tl:t < ts.length
 ta:as_[t]?=some a
 tm:∀ tn,ts[t]?=some tn->a.li=tn.me.toNat
 us:a.us=usedF q.xs
 ul:a.us<=a.li
 ll:a.li<=1099511627776
 xs:q.xs=ys.map (lvP n.wi)
 hd:ys.Pairwise (λa b=>a.hd≠b.hd)
 ids:ys.Pairwise (λa b=>a.id≠b.id)
 ok:wt=0->∀ y∈ys,OkY n last (c*4294967296) y
 en:∀ y∈ys,y.en=hadF 5 y.id q.acs
 op:∀ y∈ys,hadF 3 y.id q.acs=true
 la:last<=c
 mm:m<=c
 ou:q.out.length<=2000*c
 wq:q.wt=decide (wt≠0)
 asl:as_.length=ts.length
 ot:∀ i x,as_[i]?=some x->i≠t->x.us=0
 sz:∀ y∈ys,y.inp.length<=n.wi/\y.head.length<=4
 ln:ys.length<=c
structure Kn (ts:List Tn) (n:Cf):Prop where
 t1:∀ tn∈ts,0<=tn.me/\tn.me<=1099511627776/\0<=tn.st/\tn.st<=1099511627776/\tn.nm.size<=1000
 t0:0 < ts.length
 t2:ts.length<=16
 g1:24<=n.un
 g2:n.un<=100000
 g3:64<=n.wi
 g4:n.wi<=1048576
 g5:1<=n.ch
 g6:n.ch<=4096
def Rep (s:Sx) (ts:List Tn) (n:Cf) (c:Nat) (q:Qt) (L:List HProp) (w:World):Prop:=
 ∃ t wt last m B as_ ys a,Rp ts n c q t wt last m B as_ ys a/\((wt=0->B=[])/\B.length<=600*c)/\Holds w (SvL s ts n wt last q.acs q.out B (ys.map (rowP t)) as_ (livesF ys) ys m++L)
def RepB (s:Sx) (ts:List Tn) (n:Cf) (c:Nat) (q:Qt) (B:List UInt8) (L:List HProp) (w:World):Prop:=
 ∃ t wt last m as_ ys a,Rp ts n c q t wt last m B as_ ys a/\Holds w (SvL s ts n wt last q.acs q.out B (ys.map (rowP t)) as_ (livesF ys) ys m++L)
section
variable {s:Sx}{ts:List Tn}{n:Cf}{wt last m t c:Nat}{B:List UInt8}{as_:List G40.Ak}{ys:List Px}{a:G40.Ak}{q:Qt}
theorem Zft {cm cm' last':Nat}{y:Px}(h:OkY n last cm y) (h1:cm<=cm') (h2:last<=last'):OkY n last' cm' y:={ h with h2:=Nat.le_trans h.h2 h2,cr:=Nat.le_trans h.cr h1 }
theorem Rp.sent (h:Rp ts n c q t 0 last m B as_ ys a){x:Ac}(hx:x.wh≠3/\x.wh≠5/\x.wh≠6) (hw:whoD q.acs=none->x.wh≠2){o:List UInt8}(ho:o.length<=2000):Rp ts n (c+1) { q with acs:=q.acs++[x],out:=q.out++o } t 0 last m B as_ ys a:=by
 have hwho:whoD (q.acs++[x])=whoD q.acs:=by
  cases e:whoD q.acs with
  |none=>exact Zix e (hw e)
  |some i=>exact Zbo e
 exact {
   al:=by rw[gD,gQ];have:=h.al;omega
   wf:=(Zba (f:=λ_=>none) hx).1 h.wf
   who:=λi hi=>h.who i (by rw[<-hwho];exact hi)
   no:=λhi=>h.no (by rw[<-hwho];exact hi)
   tl:=h.tl,ta:=h.ta,tm:=h.tm,us:=h.us,ul:=h.ul,ll:=h.ll,xs:=h.xs,hd:=h.hd,ids:=h.ids
   ok:=λe y hy=>Zft (h.ok e y hy) (by omega) (Nat.le_refl _)
   en:=λy hy=>by rw[Zad λe=>hx.2.1 e.1];exact h.en y hy
   op:=λy hy=>by rw[Zad λe=>hx.1 e.1];exact h.op y hy
   la:=Nat.le_succ_of_le h.la,mm:=Nat.le_succ_of_le h.mm
   ou:=by rw[gD];have:=h.ou;omega
   wq:=h.wq,asl:=h.asl,ot:=h.ot,sz:=h.sz
   ln:=Nat.le_succ_of_le h.ln }
theorem Zc3 {wi:Nat}{ys:List Px}:usedF (ys.map (lvP wi))=(ys.map (·.nd)).sum:=by
 unfold usedF;rw[map_map];rfl
theorem nd_le {ys:List Px}{y:Px}(hy:y∈ys):y.nd<=(ys.map (·.nd)).sum:=by
 induction ys with
 |nil=>cases hy
 |cons x r ih=>
  rw[hR_,sum_cons];rcases mem_cons.1 hy with rfl|hy
  ·omega
  ·have:=ih hy;omega
theorem Zww {ys:List Px}{i:Nat}{y:Px}(hy:ys[i]?=some y):(ys.map (·.nd)).sum=y.nd+((ys.eraseIdx i).map (·.nd)).sum:=by
 induction ys generalizing i with
 |nil=>simp at hy
 |cons x r ih=>
  cases i with
  |zero=>
   obtain rfl:x=y:=by simpa using hy
   rfl
  |succ i=>
   rw[List.eraseIdx_cons_succ,hR_,hR_,sum_cons,sum_cons,ih (by simpa using hy)];omega
theorem Zw0 {ys:List Px}{i:Nat}{y z:Px}(hy:ys[i]?=some y) (h:z.nd=y.nd):((ys.set i z).map (·.nd))=ys.map (·.nd):=by
 rw[map_set,h];exact Zb0 (by rw[hV_,hy];rfl)
theorem Zv4 {wi:Nat}{ys:List Px}{i:Nat}{y:Px}(hy:ys[i]?=some y) (hd:ys.Pairwise (λa b=>a.id≠b.id)):(ys.map (lvP wi)).find? (λz=>decide ((z.id:Int)=(y.id:Int)))=some (lvP wi y):=by
 induction ys generalizing i with
 |nil=>simp at hy
 |cons x r ih=>
  rw[pairwise_cons] at hd
  cases i with
  |zero=>
   obtain rfl:x=y:=by simpa using hy
   rw[hR_,find?_cons_of_pos (by show decide ((x.id:Int)=x.id)=true;simp)]
  |succ i=>
   have hy':r[i]?=some y:=by simpa using hy
   have hne:=hd.1 y (mem_of_getElem? hy');rw[hR_,find?_cons_of_neg (by show ¬ decide ((x.id:Int)=y.id)=true;simpa using λe=>hne (by omega))];exact ih hy' hd.2
theorem Zu5 {wi jb:Nat}{ys:List Px}(h:∀ y∈ys,y.id≠jb):(ys.map (lvP wi)).find? (λz=>decide ((z.id:Int)=(jb:Int)))=none:=by
 rw[List.find?_eq_none];intro z hz;obtain⟨y,hy,rfl⟩:=List.mem_map.1 hz;have:=h y hy;show ¬ decide ((y.id:Int)=jb)=true;simpa using λe=>this (by omega)
theorem Zlv {wi:Nat}{ys:List Px}{i:Nat}{y z:Px}{v:Lv}(hy:ys[i]?=some y) (hd:ys.Pairwise (λa b=>a.id≠b.id)) (hv:v.id=y.id) (hz:lvP wi z=v):withF v false (ys.map (lvP wi))=(ys.set i z).map (lvP wi):=by
 unfold withF
 induction ys generalizing i with
 |nil=>simp at hy
 |cons x r ih=>
  rw[pairwise_cons] at hd
  cases i with
  |zero=>
   obtain rfl:x=y:=by simpa using hy
   rw[hR_,flatMap_cons,gJ,hR_,hz,if_neg (by show ¬ x.id≠v.id;omega),if_neg (by decide)]
   have:(r.map (lvP wi)).flatMap (λy=>if y.id≠v.id then [y] else if false=true then [] else [v])=r.map (lvP wi):=by
    have hr:∀ y∈r,y.id≠v.id:=λy hy2=>by have:=hd.1 y hy2;omega
    clear ih hy hd
    induction r with
    |nil=>rfl
    |cons b r ih=>
     rw[hR_,flatMap_cons,ih λy hy=>hr y (hK_ _ hy),if_pos (by show b.id≠v.id;exact hr b (hJ_ ..))];rfl
   exact congrArg (v::·) this
  |succ i=>
   have hy':r[i]?=some y:=by simpa using hy
   have hne:=hd.1 y (mem_of_getElem? hy');rw[hR_,flatMap_cons,gW,hR_,ih hy' hd.2,if_pos (by show x.id≠v.id;omega)];rfl
theorem Zr5 {wi:Nat}{ys:List Px}{i:Nat}{y:Px}{v:Lv}(hy:ys[i]?=some y) (hd:ys.Pairwise (λa b=>a.id≠b.id)) (hv:v.id=y.id):withF v true (ys.map (lvP wi))=(ys.eraseIdx i).map (lvP wi):=by
 unfold withF
 induction ys generalizing i with
 |nil=>simp at hy
 |cons x r ih=>
  rw[pairwise_cons] at hd
  cases i with
  |zero=>
   obtain rfl:x=y:=by simpa using hy
   rw[hR_,flatMap_cons,List.eraseIdx_cons_zero,if_neg (by show ¬ x.id≠v.id;omega),if_pos rfl]
   have hr:∀ y∈r,y.id≠v.id:=λy hy2=>by have:=hd.1 y hy2;omega
   clear ih hy hd;rw[hO_]
   induction r with
   |nil=>rfl
   |cons b r ih=>
    rw[hR_,flatMap_cons,ih λy hy=>hr y (hK_ _ hy),if_pos (by show b.id≠v.id;exact hr b (hJ_ ..))];rfl
  |succ i=>
   have hy':r[i]?=some y:=by simpa using hy
   have hne:=hd.1 y (mem_of_getElem? hy');rw[hR_,flatMap_cons,List.eraseIdx_cons_succ,hR_,ih hy' hd.2,if_pos (by show x.id≠v.id;omega)];rfl
theorem Zvf {ys:List Px}{i:Nat}{y z:Px}(hy:ys[i]?=some y) (h:z.id=y.id) (hd:ys.Pairwise (λa b=>a.id≠b.id)):(ys.set i z).Pairwise (λa b=>a.id≠b.id):=by
 have e:((ys.set i z).map (·.id))=ys.map (·.id):=by
  rw[map_set,h];exact Zb0 (by rw[hV_,hy];rfl)
 have h1:(ys.map (·.id)).Pairwise (·≠·):=by rw[pairwise_map];exact hd
 rw[<-e,pairwise_map] at h1;exact h1
theorem Zmh {R:Px->Px->Prop}{ys:List Px}{i:Nat}(h:ys.Pairwise R):(ys.eraseIdx i).Pairwise R:=h.sublist (List.eraseIdx_sublist ys i)
end
end F33
namespace F33
open Go.M31 J30 J31 J32
variable {w:World}{L:List HProp}{K:KT}
section
variable {s:Sx}{ts:List Tn}{n:Cf}{wt last m t c:Nat}{B:List UInt8}{as_:List G40.Ak}{ys:List Px}{a:G40.Ak}{q:Qt}{f:Fr}
theorem Zsc {e:Nat}(h:Rp ts n c q t 0 last m B as_ ys a) (hc:c<=60) (hx:stepF ts q.acs f=refF f e) (he1:1<=e) (he2:e<=255) (hjb:f.jb<=4294967295)
  (H:Holds w (SvL s ts n 0 last (q.acs++[stepF ts q.acs f]) q.out B (ys.map (rowP t)) as_ (livesF ys) ys m++L))
  (post:∀ w',Same w w'->RepB s ts n (c+1) (quiF ts n q f) B L w'->K (.tuple #[]) w'):Cl prog 60 #[pt s.b,pt s.ln,.agg (cellsA (stepF ts q.acs f)).toArray] w K:=by
 have hou:=h.ou
 have hq:quiF ts n q f={ q with acs:=q.acs++[refF f e],out:=q.out++encF ⟨69,f.jb,[UInt8.ofNat e]⟩ }:=by unfold quiF;rw[hx];rfl
 rw[hq] at post;rw[hx] at H ⊢;refine Tz60 ?_;unfold Vz60;refine r_new H λab w1 S1 H1=>?_;replace H1:Holds w1 (blk ab tAc (cellsA (refF f e))::(SvL s ts n 0 last (q.acs++[refF f e]) q.out B (ys.map (rowP t)) as_ (livesF ys) ys m++L)):=H1;refine r_fo0 (r_ld 0 H1 rfl rfl (r_eql (r_vtE rfl (r_fo0 (r_ld 0 H1 rfl rfl (r_fo0 (r_ld 0 H1 rfl rfl ?_)))))));refine Zgc (j:=4) (jb:=f.jb) (e:=e) (wt:=0) (pa:=s.pa) (cb:=s.cb) (out:=q.out) H1 rfl hjb he1 he2 (by omega) λw2 S2 H2=>?_;refine post w2 (S1.trans S2) ⟨t,0,last,m,as_,ys,a,h.sent (by show (1:Int)≠3/\(1:Int)≠5/\(1:Int)≠6;decide) (λ_=>by show (1:Int)≠2;decide) (by rw[Zby];show 9+1<=_;decide),H2.drop⟩
theorem Zrx {i:Nat}(hK:Kn ts n) (h:Rp ts n c q t 0 last m B as_ ys a) (hc:c<=60) (hwho:whoD q.acs=none) (hi:i < ts.length) (hx:stepF ts q.acs f=⟨2,0,(i:Int),0,0,0,BA [],0⟩)
  (H:Holds w (SvL s ts n 0 last (q.acs++[stepF ts q.acs f]) q.out B (ys.map (rowP t)) as_ (livesF ys) ys m++L))
  (post:∀ w',Same w w'->RepB s ts n (c+1) (quiF ts n q f) B L w'->K (.tuple #[]) w'):Cl prog 60 #[pt s.b,pt s.ln,.agg (cellsA (stepF ts q.acs f)).toArray] w K:=by
 have hou:=h.ou;obtain⟨tn,htn⟩:∃ tn,ts[i]?=some tn:=⟨_,gA hi⟩;have hk1:=hK.t1 tn (mem_of_getElem? htn)
 have hnl:tn.nm.data.toList.length<=1000:=by have:=hk1.2.2.2.2;simpa using this
 have hq:quiF ts n q f={ q with acs:=q.acs++[⟨2,0,(i:Int),0,0,0,BA [],0⟩],out:=q.out++encF ⟨65,0,tn.nm.data.toList⟩ }:=by
  unfold quiF;rw[hx];show sendF _ 65 0 ((ts[i]?.map λt=>t.nm.data.toList).getD [])=_;rw[htn];rfl
 rw[hq] at post;rw[hx] at H ⊢;refine Tz60 ?_;unfold Vz60;refine r_new H λab w1 S1 H1=>?_;replace H1:Holds w1 (blk ab tAc (cellsA ⟨2,0,(i:Int),0,0,0,BA [],0⟩)::(SvL s ts n 0 last (q.acs++[⟨2,0,(i:Int),0,0,0,BA [],0⟩]) q.out B (ys.map (rowP t)) as_ (livesF ys) ys m++L)):=H1;refine r_fo0 (r_ld 0 H1 rfl rfl (r_eql (r_vfE (by show ¬ (2:Int)=1;decide) (r_eql (r_vtE rfl ?_)))));refine r_dr H1 λw2 S2 H2=>?_;refine r_nc (r_fo0 (r_fo0 (r_ld 1 H2 rfl rfl (r_fo0 (r_ld 0 H2 rfl rfl ?_)))));have hA:S4r.InG cellsT 5 (blk ab tAc (cellsA ⟨2,0,(i:Int),0,0,0,BA [],0⟩)::(SvL s ts n 0 last (q.acs++[⟨2,0,(i:Int),0,0,0,BA [],0⟩]) q.out B (ys.map (rowP t)) as_ (livesF ys) ys m++L)) s.a ts:=S4r.InG.own (e:=tT) (n:=ts.length) (c:=s.c) 2 rfl λ_=>rfl;obtain⟨p,hpa,hcl⟩:=hA w2 H2 i tn htn;rw[hpa];refine Zcm hi (r_foA (r_ldP (hcl 0 (.string tn.nm) rfl) ?_));rw[S_of tn.nm];refine r_bd (v:=.agg (cellsN 65 0 tn.nm.data.toList 0).toArray) (by kernel_rfl) ?_;refine Zds (j:=4) (wt:=0) (pa:=s.pa) (cb:=s.cb) (out:=q.out) (da:=tn.nm.data.toList) H2 rfl (by decide) (by omega) (.inl ⟨.inl ⟨.inl rfl,rfl⟩,rfl,rfl⟩) (by omega) λw3 S3 H3=>?_;obtain⟨hys,has⟩:=h.no hwho;subst hys;have hwd:whoD (q.acs++[⟨2,0,(i:Int),0,0,0,BA [],0⟩])=some (i:Int):=Zj5 hwho rfl
 have hta:as_[i]?=some (ak0 tn):=by rw[has,hV_,htn];rfl
 have hxs:q.xs=[]:=by rw[h.xs];rfl
 have hme:=hk1.2.1;refine post w3 (S1.trans (S2.trans S3)) ⟨i,0,last,m,as_,[],ak0 tn,?_,H3.drop⟩
 exact {
   al:=by rw[gD,gQ];have:=h.al;omega
   wf:=(Zba (f:=λ_=>none) (by show (2:Int)≠3/\(2:Int)≠5/\(2:Int)≠6;decide)).1 h.wf
   who:=λj hj=>by rw[hwd] at hj;exact (Option.some.inj hj).symm
   no:=λe=>by rw[hwd] at e;cases e
   tl:=hi,ta:=hta
   tm:=λtn' e=>by rw[htn] at e;obtain rfl:=Option.some.inj e;rfl
   us:=by show 0=usedF q.xs;rw[hxs];rfl
   ul:=Nat.zero_le _
   ll:=by show tn.me.toNat<=_;omega
   xs:=hxs,hd:=List.Pairwise.nil,ids:=List.Pairwise.nil
   ok:=λ_ y hy=>by cases hy
   en:=λy hy=>by cases hy
   op:=λy hy=>by cases hy
   la:=Nat.le_succ_of_le h.la,mm:=Nat.le_succ_of_le h.mm
   ou:=by rw[gD,Zby];show q.out.length+(9+tn.nm.data.toList.length)<=_;omega
   wq:=h.wq,asl:=h.asl
   ot:=λj x hj _=>by
    rw[has,hV_] at hj
    cases e:ts[j]? with
    |none=>rw[e] at hj;cases hj
    |some tn'=>rw[e] at hj;obtain rfl:=Option.some.inj hj;rfl
   sz:=λy hy=>by cases hy
   ln:=Nat.zero_le _ }
theorem Zsn (hK:Kn ts n) (h:Rp ts n c q t 0 last m B as_ ys a) (hc:c<=60) (hwho:whoD q.acs≠none) (hx:stepF ts q.acs f=⟨8,0,0,0,0,0,BA [],0⟩)
  (H:Holds w (SvL s ts n 0 last (q.acs++[stepF ts q.acs f]) q.out B (ys.map (rowP t)) as_ (livesF ys) ys m++L))
  (post:∀ w',Same w w'->RepB s ts n (c+1) (quiF ts n q f) B L w'->K (.tuple #[]) w'):Cl prog 60 #[pt s.b,pt s.ln,.agg (cellsA (stepF ts q.acs f)).toArray] w K:=by
 have hou:=h.ou;have hln:=h.ln;have hul:=h.ul;have hll:=h.ll;obtain⟨tn,htn⟩:∃ tn,ts[t]?=some tn:=⟨_,gA h.tl⟩;have hk1:=hK.t1 tn (mem_of_getElem? htn);have hli:=h.tm tn htn
 have hw0:whoD q.acs=some (t:Int):=by
  cases e:whoD q.acs with
  |none=>exact absurd e hwho
  |some i=>rw[h.who i e]
 have hst:stN tn<=1099511627776:=by unfold stN;omega
 have hus:a.us<=1099511627776:=by omega
 have hjl:(joinF [0,ys.length,a.us,a.li,stN tn]).length<=100:=Zrq _ λy hy=>by
  simp only[mem_cons,List.not_mem_nil,or_false] at hy
  rcases hy with rfl|rfl|rfl|rfl|rfl <;> omega
 have hq:quiF ts n q f={ q with acs:=q.acs++[⟨8,0,0,0,0,0,BA [],0⟩],out:=q.out++encF ⟨70,0,joinF [0,ys.length,a.us,a.li,stN tn]⟩ }:=by
  unfold quiF;rw[hx];show (match whoD (q.acs++[⟨8,0,0,0,0,0,BA [],0⟩]) with|none=>_|some i=>_)=_;rw[Zbo hw0];show (match ts[t]? with|none=>_|some t=>_)=_;rw[htn];show sendF _ 70 0 (joinF [0,q.xs.length,usedF q.xs,tn.me.toNat,tn.st.toNat])=_;rw[<-h.us,<-hli,h.xs,hS_];rfl
 rw[hq] at post;rw[hx] at H ⊢;refine Tz60 ?_;unfold Vz60;refine r_new H λab w1 S1 H1=>?_;have H2:Holds w1 (SvL s ts n 0 last (q.acs++[⟨8,0,0,0,0,0,BA [],0⟩]) q.out B (ys.map (rowP t)) as_ (livesF ys) ys m++(blk ab tAc (cellsA ⟨8,0,0,0,0,0,BA [],0⟩)::L)):=(by have h_:=Holds.ord 13 [1,2,3,4,5,6,7,8,9,10,11,12,0] (show Holds w1 (blk ab tAc (cellsA ⟨8,0,0,0,0,0,BA [],0⟩)::(SvL s ts n 0 last (q.acs++[⟨8,0,0,0,0,0,BA [],0⟩]) q.out B (ys.map (rowP t)) as_ (livesF ys) ys m++L)) from H1) rfl;exact h_);refine r_fo0 (r_ld 12 H2 rfl rfl (r_eql (r_vfE (by decide) (r_eql (r_vfE (by decide) (r_eql (r_vtE rfl ?_)))))));obtain⟨p,v,hp,H3⟩:=Zaa (j:=3) H2 rfl;refine r_nc (r_fo0 (r_ld 0 H3 rfl rfl ?_));refine Zk4 (j:=5) H2 rfl ?_;rw[Zbo hw0];refine Zkc (t:=t) H2 (by omega) h.ta htn hst hus hll λw2 S2 H4=>?_;refine r_bd (v:=.agg (cellsN 70 0 (joinF [0,ys.length,a.us,a.li,stN tn]) 0).toArray) (by kernel_rfl) ?_;refine Zds (j:=3) (wt:=0) (pa:=s.pa) (cb:=s.cb) (out:=q.out) (da:=joinF [0,ys.length,a.us,a.li,stN tn]) H4 rfl (by decide) (by omega) (.inl ⟨.inl ⟨.inr rfl,rfl⟩,rfl,rfl⟩) (by omega) λw3 S3 H5=>?_;refine post w3 (S1.trans (S2.trans S3)) ⟨t,0,last,m,as_,ys,a,h.sent (by show (8:Int)≠3/\(8:Int)≠5/\(8:Int)≠6;decide) (λ_=>by show (8:Int)≠2;decide) (by rw[Zby];show 9+(joinF _).length<=_;omega),Holds.dropAt H5 12⟩
theorem Zrj (hK:Kn ts n) (h:Rp ts n c q t 0 last m B as_ ys a) (hc:c<=60) (hwho:whoD q.acs≠none) (h3:hadF 3 f.jb q.acs=false) (hkd:(kindF f.da).1≠0) (hjb:f.jb<=4294967295)
  (hx:stepF ts q.acs f=⟨3,(f.jb:Int),0,((kindF f.da).1:Int),((kindF f.da).2:Int),0,BA [],0⟩)
  (H:Holds w (SvL s ts n 0 last (q.acs++[stepF ts q.acs f]) q.out B (ys.map (rowP t)) as_ (livesF ys) ys m++L))
  (post:∀ w',Same w w'->RepB s ts n (c+1) (quiF ts n q f) B L w'->K (.tuple #[]) w'):Cl prog 60 #[pt s.b,pt s.ln,.agg (cellsA (stepF ts q.acs f)).toArray] w K:=by
 have hou:=h.ou;have hln:=h.ln;have hul:=h.ul;have hll:=h.ll;have hla:=h.la;have hmm:=h.mm;have hk:=Ziu f.da;generalize hkk:(kindF f.da).1=kd at hx hk hkd;generalize hvv:(kindF f.da).2=lv at hx hk
 have hk2:kd=1/\1<=lv/\lv<=9\/(kd=2\/kd=3)/\lv=0:=by omega
 obtain⟨tn,htn⟩:∃ tn,ts[t]?=some tn:=⟨_,gA h.tl⟩;have hli:=h.tm tn htn
 have hw0:whoD q.acs=some (t:Int):=by
  cases e:whoD q.acs with
  |none=>exact absurd e hwho
  |some i=>rw[h.who i e]
 generalize hxe:(⟨3,(f.jb:Int),0,(kd:Int),(lv:Int),0,BA [],0⟩:Ac)=x at hx
 have hxw:x.wh=3:=by rw[<-hxe]
 have hxj:x.jb=(f.jb:Int):=by rw[<-hxe]
 have hw1:whoD (q.acs++[x])=some (t:Int):=Zbo hw0
 have hq:quiF ts n q f=openF tn n { q with acs:=q.acs++[x] } f.jb kd lv:=by
  unfold quiF;rw[hx];unfold doF;rw[if_neg (by rw[hxw];decide),if_neg (by rw[hxw];decide),if_pos hxw];show (match whoD (q.acs++[x]) with|none=>_|some i=>_)=_;rw[hw1];show (match ts[t]? with|none=>_|some t=>_)=_;rw[htn,<-hxe];rfl
 rw[hq] at post;rw[hx] at H ⊢
 have hids:∀ y∈ys,y.id≠f.jb:=λy hy e=>by have:=h.op y hy;rw[e,h3] at this;cases this
 have hok:=h.ok rfl;have mk:=Zpd (f:=λ_=>none) hxw hxj h.wf h3
 have e5:∀ k:Nat,hadF 5 k (q.acs++[x])=hadF 5 k q.acs:=λk=>Zad λe=>by have:=e.1;omega
 have ref:∀ o:List UInt8,o.length<=2000->Rp ts n (c+1) { q with acs:=q.acs++[x],out:=q.out++o } t 0 last m B as_ ys a:=λo ho=>
  {
    al:=by rw[gD,gQ];have:=h.al;omega
    wf:=mk.1
    who:=λi hi=>by rw[hw1] at hi;exact (Option.some.inj hi).symm
    no:=λe=>by rw[hw1] at e;cases e
    tl:=h.tl,ta:=h.ta,tm:=h.tm,us:=h.us,ul:=h.ul,ll:=h.ll,xs:=h.xs,hd:=h.hd,ids:=h.ids
    ok:=λe y hy=>Zft (h.ok e y hy) (by omega) (Nat.le_refl _)
    en:=λy hy=>by rw[e5];exact h.en y hy
    op:=λy hy=>by rw[Zbs,h.op y hy];rfl
    la:=Nat.le_succ_of_le h.la,mm:=Nat.le_succ_of_le h.mm
    ou:=by rw[gD];omega
    wq:=h.wq,asl:=h.asl,ot:=h.ot,sz:=h.sz
    ln:=Nat.le_succ_of_le h.ln }
 have hneed:=Zs2 (u:=n.un) (wi:=n.wi) hk2 hK.g1 hK.g2 hK.g4;refine Tz60 ?_;unfold Vz60;refine r_new H λab w1 S1 H1=>?_;have H2:Holds w1 (SvL s ts n 0 last (q.acs++[x]) q.out B (ys.map (rowP t)) as_ (livesF ys) ys m++(blk ab tAc (cellsA x)::L)):=(by have h_:=Holds.ord 13 [1,2,3,4,5,6,7,8,9,10,11,12,0] (show Holds w1 (blk ab tAc (cellsA x)::(SvL s ts n 0 last (q.acs++[x]) q.out B (ys.map (rowP t)) as_ (livesF ys) ys m++L)) from H1) rfl;exact h_);refine r_fo0 (r_ld 12 H2 (v:=iv x.wh) rfl rfl ?_);rw[hxw];refine r_eql (r_vfE (by decide) (r_eql (r_vfE (by decide) (r_eql (r_vfE (by decide) (r_eql (r_vtE rfl ?_)))))));refine r_ldA 12 H2 (cellsA x) rfl rfl rfl ?_;rw[<-hxe];rw[<-hxe] at H2;have hts2:=hK.t2;refine Zpp (t:=t) (tn:=tn) (a:=a) H2 h.hd (λy hy=>(hok y hy).h2) hids (by omega) (by omega) (by omega) (by omega) (by rw[hxe];exact hw1) htn h.ta hul hll hk2 hK.g1 hK.g2 hK.g3 hK.g4 hK.g5 hK.g6 hjb (by omega) (λg w2 S2 H3=>?_) (λg g2 w2 S2 H3=>?_) λg g2 z w2 z1 z2 z3 z4 z5 z6 z7 z8 z9 S2 H3=>?_
 ·have he:openF tn n { q with acs:=q.acs++[x] } f.jb kd lv={ q with acs:=q.acs++[x],out:=q.out++encF ⟨69,f.jb,[33]⟩ }:=by
   unfold openF;rw[if_pos (by rw[<-hli];exact g)];rfl
  rw[he] at post;rw[hxe] at H3;exact post w2 (S1.trans S2) ⟨t,0,last,m,as_,ys,a,ref _ (by rw[Zby];show 9+1<=_;decide),Holds.dropAt H3 12⟩
 ·have he:openF tn n { q with acs:=q.acs++[x] } f.jb kd lv={ q with acs:=q.acs++[x],out:=q.out++encF ⟨69,f.jb,[34]⟩ }:=by
   unfold openF;rw[if_neg (by rw[<-hli];exact g),if_pos (by rw[<-hli];show q.xs.length=_\/a.li - usedF q.xs < _;rw[<-h.us,h.xs,hS_];exact g2)];rfl
  rw[he] at post;rw[hxe] at H3;exact post w2 (S1.trans S2) ⟨t,0,last,m,as_,ys,a,ref _ (by rw[Zby];show 9+1<=_;decide),Holds.dropAt H3 12⟩
 ·have he:openF tn n { q with acs:=q.acs++[x] } f.jb kd lv={ q with acs:=q.acs++[x],xs:=q.xs++[⟨f.jb,needF n kd lv,n.wi,headF kd lv,0⟩] }:=by
   unfold openF;rw[if_neg (by rw[<-hli];exact g),if_neg (by rw[<-hli];show ¬ (q.xs.length=_\/a.li - usedF q.xs < _);rw[<-h.us,h.xs,hS_];exact g2)]
  rw[he] at post;rw[hxe] at H3
  have hzl:lvP n.wi z=⟨f.jb,needF n kd lv,n.wi,headF kd lv,0⟩:=by
   unfold lvP;rw[z2,z3,z4,z7,z8];rfl
  have hzn:∀ y∈ys,y.hd≠z.hd:=λy hy=>by have:=(hok y hy).h2;omega
  have hzi:∀ y∈ys,y.id≠z.id:=λy hy=>by rw[z2];exact hids y hy
  have hlt:t < as_.length:=(gH.1 h.ta).1;have h5j:hadF 5 f.jb q.acs=false:=(h.wf f.jb h3).1;refine post w2 (S1.trans S2) ⟨t,0,last+1,m+1,_,ys++[z],⟨a.li,a.us+needF n kd lv,max a.pk (a.us+needF n kd lv)⟩,?_,Holds.dropAt H3 12⟩
  exact {
    al:=by rw[gD,gQ];have:=h.al;omega
    wf:=mk.1
    who:=λi hi=>by rw[hw1] at hi;exact (Option.some.inj hi).symm
    no:=λe=>by rw[hw1] at e;cases e
    tl:=h.tl
    ta:=by rw[List.getElem?_set_self hlt]
    tm:=h.tm
    us:=by
     show a.us+needF n kd lv=usedF (q.xs++[_]);unfold usedF;rw[map_append,List.sum_append,h.us];rfl
    ul:=by show a.us+needF n kd lv<=a.li;omega
    ll:=hll
    xs:=by
     show q.xs++[_]=(ys++[z]).map (lvP n.wi);rw[map_append,<-h.xs,hR_,hzl];rfl
    hd:=by
     rw[List.pairwise_append];exact⟨h.hd,List.pairwise_singleton _ _,λy hy y' hy'=>by rw[mem_singleton.1 hy'];exact hzn y hy⟩
    ids:=by
     rw[List.pairwise_append];exact⟨h.ids,List.pairwise_singleton _ _,λy hy y' hy'=>by rw[mem_singleton.1 hy'];exact hzi y hy⟩
    ok:=λe y hy=>by
     rcases hT_.1 hy with hy|hy
     ·exact Zft (hok y hy) (by omega) (Nat.le_succ _)
     ·rw[mem_singleton.1 hy];exact { h1:=by omega,h2:=by omega,inp:=by rw[z4];exact Nat.zero_le _,rest:=z6,told:=z9,cr:=by rw[z8];exact Nat.zero_le _,id:=by rw[z2];exact hjb,z:=by rw[z8];omega }
    en:=λy hy=>by
     rw[e5];rcases hT_.1 hy with hy|hy
     ·exact h.en y hy
     ·rw[mem_singleton.1 hy,z5,z2,h5j]
    op:=λy hy=>by
     rcases hT_.1 hy with hy|hy
     ·rw[Zbs,h.op y hy];rfl
     ·rw[mem_singleton.1 hy,z2];exact Zdv ⟨hxw,hxj⟩
    la:=by omega,mm:=by omega
    ou:=by show q.out.length<=_;omega
    wq:=h.wq
    asl:=by rw[hX_];exact h.asl
    ot:=λj x hj hne=>by rw[hY_ (Ne.symm hne)] at hj;exact h.ot j x hj hne
    sz:=λy hy=>by
     rcases hT_.1 hy with hy|hy
     ·exact h.sz y hy
     ·rw[mem_singleton.1 hy];exact⟨by rw[z4];exact Nat.zero_le _,by omega⟩
    ln:=by rw[gD,gQ];omega }
end
end F33
namespace F33
open Go.M31 J30 J31 J32
variable {w:World}{L:List HProp}{K:KT}
section
variable {s:Sx}{ts:List Tn}{n:Cf}{wt last m t c:Nat}{B:List UInt8}{as_:List G40.Ak}{ys:List Px}{a:G40.Ak}{q:Qt}{f:Fr}
theorem Rp.one (h:Rp ts n c q t 0 last m B as_ ys a){x:Ac}{i:Nat}{y z:Px}{xs:List Lv}{wt':Nat}{o:List UInt8}(hy:ys[i]?=some y) (hw0:whoD q.acs=some (t:Int)) (hwf:WfA (q.acs++[x])) (hx3:x.wh≠3)
  (z1:z.hd=y.hd) (z2:z.id=y.id) (z3:z.nd=y.nd) (hen:z.en=hadF 5 y.id (q.acs++[x])) (hen2:∀ v∈ys,v.id≠y.id->hadF 5 v.id (q.acs++[x])=hadF 5 v.id q.acs)
  (hxs:xs=(ys.set i z).map (lvP n.wi)) (ho:o.length<=q.out.length+2000) (hz:wt'=0->∃ C,C<=(c+1)*4294967296/\OkY n last C z) (hsz:z.inp.length<=n.wi/\z.head.length<=4) :
  Rp ts n (c+1) { acs:=q.acs++[x],xs:=xs,out:=o,wt:=decide (wt'≠0) } t wt' last (m+1) B as_ (ys.set i z) a:=by
 have hw1:whoD (q.acs++[x])=some (t:Int):=Zbo hw0;have hlt:i < ys.length:=(gH.1 hy).1
 have mem:∀ v∈ys.set i z,(v∈ys/\v.id≠y.id)\/v=z:=by
  intro v hv;obtain⟨j,hj⟩:=List.getElem?_of_mem hv;rw[List.getElem?_set] at hj;split at hj
  ·rename_i e;subst e;exact .inr (Option.some.inj hj).symm
  ·rename_i e;refine .inl ⟨mem_of_getElem? hj,?_⟩;obtain⟨hjl,hje⟩:=gH.1 hj;obtain⟨hil,hie⟩:=gH.1 hy;rcases Nat.lt_or_gt_of_ne e with g|g
   ·have:=List.pairwise_iff_getElem.1 h.ids i j hil hjl g;rw[hie,hje] at this;exact λe2=>this e2.symm
   ·have:=List.pairwise_iff_getElem.1 h.ids j i hjl hil g;rw[hie,hje] at this;exact this
 have hsum:usedF xs=usedF q.xs:=by rw[hxs,h.xs,Zc3,Zc3,Zw0 hy z3]
 have hou:=h.ou;have hop:=h.op y (mem_of_getElem? hy)
 exact {
   al:=by show (q.acs++[x]).length<=_;rw[gD,gQ];have:=h.al;omega
   wf:=hwf
   who:=λj hj=>by rw[hw1] at hj;exact (Option.some.inj hj).symm
   no:=λe=>by rw[hw1] at e;cases e
   tl:=h.tl,ta:=h.ta,tm:=h.tm
   us:=by show a.us=usedF xs;rw[hsum];exact h.us
   ul:=h.ul,ll:=h.ll
   xs:=hxs
   hd:=Zq3 hy z1 h.hd
   ids:=Zvf hy z2 h.ids
   ok:=λe v hv=>by
    rcases mem v hv with⟨hv,_⟩|rfl
    ·exact Zft (h.ok rfl v hv) (by omega) (Nat.le_refl _)
    ·obtain⟨C,h1,h2⟩:=hz e;exact Zft h2 h1 (Nat.le_refl _)
   en:=λv hv=>by
    show v.en=hadF 5 v.id (q.acs++[x]);rcases mem v hv with⟨hv,hne⟩|rfl
    ·rw[hen2 v hv hne];exact h.en v hv
    ·rw[hen,z2]
   op:=λv hv=>by
    show hadF 3 v.id (q.acs++[x])=true;rcases mem v hv with⟨hv,_⟩|rfl
    ·rw[Zbs,h.op v hv];rfl
    ·rw[z2,Zbs,hop];rfl
   la:=Nat.le_succ_of_le h.la
   mm:=by have:=h.mm;omega
   ou:=by show o.length<=_;omega
   wq:=rfl
   asl:=h.asl,ot:=h.ot
   sz:=λv hv=>by
    rcases mem v hv with⟨hv,_⟩|rfl
    ·exact h.sz v hv
    ·exact hsz
   ln:=by rw[hX_];exact Nat.le_succ_of_le h.ln }
theorem Zrn (hK:Kn ts n) (h:Rp ts n c q t 0 last m B as_ ys a) (hc:c<=60) (hwho:whoD q.acs≠none) (h3:hadF 3 f.jb q.acs=true) (h6:hadF 6 f.jb q.acs=false) (hjb:f.jb<=4294967295) (hda:f.da.length<=500){x:Ac}(hx:stepF ts q.acs f=x)
  (hxe:(hadF 5 f.jb q.acs=false/\x=⟨4,(f.jb:Int),0,0,0,0,BA f.da,0⟩)\/(hadF 5 f.jb q.acs=false/\x=⟨5,(f.jb:Int),0,0,0,0,BA [],0⟩)\/x=⟨6,(f.jb:Int),0,0,0,0,BA [],0⟩\/(∃ p:Nat,p < 4294967296/\x=⟨7,(f.jb:Int),0,0,0,(p:Int),BA [],0⟩))
  (H:Holds w (SvL s ts n 0 last (q.acs++[stepF ts q.acs f]) q.out B (ys.map (rowP t)) as_ (livesF ys) ys m++L))
  (post:∀ w',Same w w'->RepB s ts n (c+1) (quiF ts n q f) B L w'->K (.tuple #[]) w'):Cl prog 60 #[pt s.b,pt s.ln,.agg (cellsA (stepF ts q.acs f)).toArray] w K:=by
 have hou:=h.ou;have hln:=h.ln;have hul:=h.ul;have hll:=h.ll;have hla:=h.la;have hmm:=h.mm;have hts2:=hK.t2;have hok:=h.ok rfl
 have hw0:whoD q.acs=some (t:Int):=by
  cases e:whoD q.acs with
  |none=>exact absurd e hwho
  |some i=>rw[h.who i e]
 have hw1:whoD (q.acs++[x])=some (t:Int):=Zbo hw0
 have hxj:x.jb=(f.jb:Int):=by rcases hxe with⟨_,rfl⟩|⟨_,rfl⟩|rfl|⟨p,_,rfl⟩ <;> rfl
 have hxw:x.wh=4\/x.wh=5\/x.wh=6\/x.wh=7:=by
  rcases hxe with⟨_,rfl⟩|⟨_,rfl⟩|rfl|⟨p,_,rfl⟩
  ·exact .inl rfl
  ·exact .inr (.inl rfl)
  ·exact .inr (.inr (.inl rfl))
  ·exact .inr (.inr (.inr rfl))
 have hq:quiF ts n q f=useF n { q with acs:=q.acs++[x] } x:=by
  unfold quiF;rw[hx];unfold doF;rw[if_neg (by omega),if_neg (by omega),if_neg (by omega),if_neg (by omega)]
 rw[hq] at post;rw[hx] at H ⊢
 have h5:x.wh=4\/x.wh=5->hadF 5 f.jb q.acs=false:=by
  intro e;rcases hxe with⟨g,_⟩|⟨g,_⟩|rfl|⟨p,_,rfl⟩
  ·exact g
  ·exact g
  ·exfalso;rcases e with e|e
   ·exact absurd e (by show ¬ (6:Int)=4;decide)
   ·exact absurd e (by show ¬ (6:Int)=5;decide)
  ·exfalso;rcases e with e|e
   ·exact absurd e (by show ¬ (7:Int)=4;decide)
   ·exact absurd e (by show ¬ (7:Int)=5;decide)
 have hwf:WfA (q.acs++[x]):=by
  rcases hxw with e|e|e|e
  ·exact (Zba (f:=λ_=>none) (by omega)).1 h.wf
  ·exact (Zqe (f:=λ_=>none) (n:=markN f.jb q.acs+2) (.inl ⟨e,rfl,h5 (.inr e)⟩) hxj h.wf h3).1
  ·exact (Zqe (f:=λ_=>none) (n:=markN f.jb q.acs+4) (.inr ⟨e,rfl,h6⟩) hxj h.wf h3).1
  ·exact (Zba (f:=λ_=>none) (by omega)).1 h.wf
 have e5:x.wh≠5->∀ k:Nat,hadF 5 k (q.acs++[x])=hadF 5 k q.acs:=λg k=>Zad λe=>g e.1;have e5':∀ k:Nat,k≠f.jb->hadF 5 k (q.acs++[x])=hadF 5 k q.acs:=λk g=>Zad λe=>g (by have:=e.2;omega)
 have hnd:∀ y∈ys,y.nd<=a.us:=λy hy=>by rw[h.us,h.xs,Zc3];exact nd_le hy
 have hfind:∀ {i:Nat} {y:Px},ys[i]?=some y->y.id=f.jb->(({ q with acs:=q.acs++[x] }:Qt).xs.find? λz=>decide ((z.id:Int)=x.jb))=some (lvP n.wi y):=by
  intro i y hy hid;show (q.xs.find? _)=_;rw[h.xs,hxj,<-hid];exact Zv4 hy h.ids
 refine Tz60 ?_;unfold Vz60;refine r_new H λab w1 S1 H1=>?_;have H2:Holds w1 (SvL s ts n 0 last (q.acs++[x]) q.out B (ys.map (rowP t)) as_ (livesF ys) ys m++(blk ab tAc (cellsA x)::L)):=(by have h_:=Holds.ord 13 [1,2,3,4,5,6,7,8,9,10,11,12,0] (show Holds w1 (blk ab tAc (cellsA x)::(SvL s ts n 0 last (q.acs++[x]) q.out B (ys.map (rowP t)) as_ (livesF ys) ys m++L)) from H1) rfl;exact h_);refine r_fo0 (r_ld 12 H2 (v:=iv x.wh) rfl rfl ?_);refine r_eql (r_vfE (by omega) (r_eql (r_vfE (by omega) (r_eql (r_vfE (by omega) (r_eql (r_vfE (by omega) ?_)))))));refine r_ldA 12 H2 (cellsA x) rfl rfl rfl ?_;clear H H1;refine Zrv (t:=t) (a:=a) (jb:=f.jb) (cm:=c*4294967296) H2 h.hd hok (by omega) (by omega) h.tl (by omega) (by omega) hK.g4 hK.g6 (by omega) hxj hjb h.ta (by omega) hnd ?_ (λe y hy hid=>?_) (λhno w2 S2 H3=>?_) (λi y tx told w2 hwh htx hy hid ht4 S2 H3=>?_) (λi y told w2 hwh hy hid ht4 S2 H3=>?_) (λi y w2 hwh hy hid S2 H3=>?_) (λi y p head cr told out' w2 hwh hp hy hid hch ht4 hcr hol hmin S2 H3=>?_)
 ·rcases hxe with⟨_,rfl⟩|⟨_,rfl⟩|rfl|⟨p,hp,rfl⟩
  ·exact .inl ⟨f.da,rfl,rfl,by omega⟩
  ·exact .inr (.inl rfl)
  ·exact .inr (.inr (.inl rfl))
  ·exact .inr (.inr (.inr ⟨p,rfl,rfl,hp⟩))
 ·rw[h.en y hy,hid];exact h5 e
 ·have he:useF n { q with acs:=q.acs++[x] } x={ q with acs:=q.acs++[x] }:=by
   unfold useF
   have:(({ q with acs:=q.acs++[x] }:Qt).xs.find? λz=>decide ((z.id:Int)=x.jb))=none:=by
    show (q.xs.find? _)=_;rw[h.xs,hxj];exact Zu5 hno
   rw[this]
  rw[he] at post;refine post w2 (S1.trans S2) ⟨t,0,last,m,as_,ys,a,?_,Holds.dropAt H3 12⟩
  exact {
    al:=by show (q.acs++[x]).length<=_;rw[gD,gQ];have:=h.al;omega
    wf:=hwf
    who:=λi hi=>by rw[hw1] at hi;exact (Option.some.inj hi).symm
    no:=λe=>by rw[hw1] at e;cases e
    tl:=h.tl,ta:=h.ta,tm:=h.tm,us:=h.us,ul:=h.ul,ll:=h.ll,xs:=h.xs,hd:=h.hd,ids:=h.ids
    ok:=λe y hy=>Zft (h.ok e y hy) (by omega) (Nat.le_refl _)
    en:=λy hy=>by
     show y.en=hadF 5 y.id (q.acs++[x]);rw[e5' y.id (hno y hy)];exact h.en y hy
    op:=λy hy=>by show hadF 3 y.id (q.acs++[x])=true;rw[Zbs,h.op y hy];rfl
    la:=Nat.le_succ_of_le h.la,mm:=Nat.le_succ_of_le h.mm
    ou:=by show q.out.length<=_;omega
    wq:=h.wq,asl:=h.asl,ot:=h.ot,sz:=h.sz
    ln:=Nat.le_succ_of_le h.ln }
 ·have hym:=mem_of_getElem? hy;have ok:=hok y hym;have hil:=ok.inp;have hcy:=ok.cr
  have htd:tx=f.da:=by
   rcases hxe with⟨_,rfl⟩|⟨_,rfl⟩|rfl|⟨p,hp,rfl⟩
   ·have:=congrArg (λb:ByteArray=>b.data.toList) htx;simpa using this.symm
   ·exact absurd hwh (by show ¬ (5:Int)=4;decide)
   ·exact absurd hwh (by show ¬ (6:Int)=4;decide)
   ·exact absurd hwh (by show ¬ (7:Int)=4;decide)
  have hxt:x.tx.data.toList=tx:=by rw[htx]
  generalize hk:min tx.length (n.wi - y.inp.length)=k at H3;generalize hzz:({ y with inp:=y.inp++tx.take k,rest:=tx.drop k,told:=told }:Px)=z at H3
  have hr:(tx.drop k=[]↔¬ n.wi - y.inp.length < tx.length):=by
   rw[List.drop_eq_nil_iff];omega
  have hzl:lvP n.wi z={ lvP n.wi y with room:=(lvP n.wi y).room - tx.length }:=by
   rw[<-hzz];unfold lvP
   have:n.wi - (y.inp++tx.take k).length=n.wi - y.inp.length - tx.length:=by
    rw[gD,gN];omega
   dsimp only
   rw[this]
  have he:useF n { q with acs:=q.acs++[x] } x={ acs:=q.acs++[x],xs:=(ys.set i z).map (lvP n.wi),out:=q.out,wt:=decide ((if tx.drop k=[] then 0 else y.hd)≠0) }:=by
   unfold useF;rw[hfind hy hid];show (if x.wh=4 then _ else _)=_;rw[if_pos hwh,hxt];show ({ acs:=q.acs++[x],xs:=withF _ false q.xs,out:=q.out,wt:=decide ((lvP n.wi y).room < tx.length) }:Qt)=_;rw[h.xs,Zlv (v:={ lvP n.wi y with room:=(lvP n.wi y).room - tx.length }) hy h.ids rfl hzl]
   congr 1
   rw[Bool.eq_iff_iff,decide_eq_true_iff,decide_eq_true_iff];show n.wi - y.inp.length < tx.length↔_;have h1:=ok.h1
   by_cases g:tx.drop k=[]
   ·rw[if_pos g];exact⟨λe=>absurd e (hr.1 g),λe=>absurd rfl e⟩
   ·rw[if_neg g];exact⟨λ_=>by omega,λ_=>Nat.lt_of_not_le λe=>g (hr.2 (by omega))⟩
  rw[he] at post;refine post w2 (S1.trans S2) ⟨t,(if tx.drop k=[] then 0 else y.hd),last,m+1,as_,ys.set i z,a,?_,?_⟩
  ·refine h.one hy hw0 hwf (by omega) (by rw[<-hzz]) (by rw[<-hzz]) (by rw[<-hzz]) ?_ (λv hv hne=>e5 (by omega) _) rfl (by omega) (λe=>?_) (by rw[<-hzz];exact⟨by show (y.inp++tx.take k).length<=_;rw[gD,gN];omega,by show y.head.length<=4;have:=ok.told;omega⟩)
   ·rw[<-hzz,e5 (by omega)];exact h.en y hym
   ·have g:tx.drop k=[]:=by
     by_cases g:tx.drop k=[]
     ·exact g
     ·rw[if_neg g] at e;have:=ok.h1;omega
    rw[<-hzz];exact⟨y.cr,Nat.le_trans hcy (Nat.mul_le_mul_right _ (Nat.le_succ c)),{ h1:=ok.h1,h2:=ok.h2,inp:=by show (y.inp++tx.take k).length<=_;rw[gD,gN];omega,rest:=g,told:=ht4,cr:=Nat.le_refl _,id:=ok.id,z:=ok.z }⟩
  ·rw[Ze6 hy (by rw[<-hzz];rfl),Zc1 hy (by rw[<-hzz]) (by rw[<-hzz])];exact Holds.dropAt H3 12
 ·have hym:=mem_of_getElem? hy;have ok:=hok y hym;have hcy:=ok.cr;generalize hzz:({ y with en:=true,told:=told }:Px)=z at H3
  have hzl:lvP n.wi z=lvP n.wi y:=by rw[<-hzz];rfl
  have hmap:(ys.set i z).map (lvP n.wi)=ys.map (lvP n.wi):=by
   rw[map_set,hzl];exact Zb0 (by rw[hV_,hy];rfl)
  have he:useF n { q with acs:=q.acs++[x] } x={ acs:=q.acs++[x],xs:=(ys.set i z).map (lvP n.wi),out:=q.out,wt:=decide ((0:Nat)≠0) }:=by
   unfold useF;rw[hfind hy hid];show (if x.wh=4 then _ else _)=_;rw[if_neg (by omega),if_neg (by omega),if_neg (by omega),hmap,<-h.xs];have:=h.wq;show ({ acs:=q.acs++[x],xs:=q.xs,out:=q.out,wt:=q.wt }:Qt)=_;rw[this]
  rw[he] at post;refine post w2 (S1.trans S2) ⟨t,0,last,m+1,as_,ys.set i z,a,?_,?_⟩
  ·refine h.one hy hw0 hwf (by omega) (by rw[<-hzz]) (by rw[<-hzz]) (by rw[<-hzz]) ?_ (λv hv hne=>e5' v.id (by rw[<-hid];exact hne)) rfl (by omega) (λe=>?_) (by rw[<-hzz];exact⟨ok.inp,by show y.head.length<=4;have:=ok.told;omega⟩)
   ·rw[<-hzz,hid];exact (Zdv ⟨hwh,hxj⟩).symm
   ·rw[<-hzz];exact⟨y.cr,Nat.le_trans hcy (Nat.mul_le_mul_right _ (Nat.le_succ c)),{ h1:=ok.h1,h2:=ok.h2,inp:=ok.inp,rest:=ok.rest,told:=ht4,cr:=Nat.le_refl _,id:=ok.id,z:=ok.z }⟩
  ·rw[Ze6 hy (by rw[<-hzz];rfl),Zc1 hy (by rw[<-hzz]) (by rw[<-hzz])];exact Holds.dropAt H3 12
 ·have hym:=mem_of_getElem? hy;have hnd1:=Zww hy;have hlt:t < as_.length:=(gH.1 h.ta).1;have hus:=h.us;rw[h.xs,Zc3] at hus
  have he:useF n { q with acs:=q.acs++[x] } x={ q with acs:=q.acs++[x],xs:=(ys.eraseIdx i).map (lvP n.wi) }:=by
   unfold useF;rw[hfind hy hid];show (if x.wh=4 then _ else _)=_;rw[if_neg (by omega),if_pos hwh];show ({ acs:=q.acs++[x],xs:=withF (lvP n.wi y) true q.xs,out:=q.out,wt:=q.wt }:Qt)=_;rw[h.xs,Zr5 (v:=lvP n.wi y) hy h.ids rfl]
  rw[he] at post;have hmem:∀ v∈ys.eraseIdx i,v∈ys:=λv hv=>List.mem_of_mem_eraseIdx hv;refine post w2 (S1.trans S2) ⟨t,0,last,m,_,ys.eraseIdx i,⟨a.li,a.us - y.nd,a.pk⟩,?_,Holds.dropAt H3 12⟩
  exact {
    al:=by show (q.acs++[x]).length<=_;rw[gD,gQ];have:=h.al;omega
    wf:=hwf
    who:=λi hi=>by rw[hw1] at hi;exact (Option.some.inj hi).symm
    no:=λe=>by rw[hw1] at e;cases e
    tl:=h.tl
    ta:=by rw[List.getElem?_set_self hlt]
    tm:=h.tm
    us:=by show a.us - y.nd=usedF ((ys.eraseIdx i).map (lvP n.wi));rw[Zc3];omega
    ul:=by show a.us - y.nd<=a.li;omega
    ll:=h.ll,xs:=rfl
    hd:=Zmh h.hd,ids:=Zmh h.ids
    ok:=λe v hv=>Zft (h.ok e v (hmem v hv)) (by omega) (Nat.le_refl _)
    en:=λv hv=>by
     show v.en=hadF 5 v.id (q.acs++[x]);rw[e5 (by omega)];exact h.en v (hmem v hv)
    op:=λv hv=>by show hadF 3 v.id (q.acs++[x])=true;rw[Zbs,h.op v (hmem v hv)];rfl
    la:=Nat.le_succ_of_le h.la,mm:=Nat.le_succ_of_le h.mm
    ou:=by show q.out.length<=_;omega
    wq:=h.wq
    asl:=by rw[hX_];exact h.asl
    ot:=λj x hj hne=>by rw[hY_ (Ne.symm hne)] at hj;exact h.ot j x hj hne
    sz:=λv hv=>h.sz v (hmem v hv)
    ln:=by
     have:=(List.eraseIdx_sublist ys i).length_le
     omega }
 ·have hym:=mem_of_getElem? hy;have ok:=hok y hym;have hcy:=ok.cr
  have hpl:p < 4294967296:=by
   rcases hxe with⟨_,rfl⟩|⟨_,rfl⟩|rfl|⟨p',hp',rfl⟩
   ·exact absurd hwh (by show ¬ (4:Int)=7;decide)
   ·exact absurd hwh (by show ¬ (5:Int)=7;decide)
   ·exact absurd hwh (by show ¬ (6:Int)=7;decide)
   ·have:(p':Int)=(p:Int):=hp;omega
  generalize hzz:({ y with head:=head,cr:=cr,told:=told }:Px)=z at H3
  have hzl:lvP n.wi z=lvP n.wi { y with head:=head,cr:=cr }:=by rw[<-hzz];rfl
  have he:useF n { q with acs:=q.acs++[x] } x={ acs:=q.acs++[x],xs:=(ys.set i z).map (lvP n.wi),out:=out',wt:=decide ((0:Nat)≠0) }:=by
   unfold useF;rw[hfind hy hid];show (if x.wh=4 then _ else _)=_;rw[if_neg (by omega),if_neg (by omega),if_pos hwh]
   have hnn:x.nn.toNat=p:=by rw[hp];rfl
   rw[hnn];show ({ acs:=q.acs++[x],xs:=withF (chunksF n.ch 5 (lvP n.wi { y with cr:=y.cr+p }) q.out).1 false q.xs,out:=(chunksF n.ch 5 (lvP n.wi { y with cr:=y.cr+p }) q.out).2,wt:=q.wt }:Qt)=_;rw[hch];show ({ acs:=q.acs++[x],xs:=withF (lvP n.wi { y with head:=head,cr:=cr }) false q.xs,out:=out',wt:=q.wt }:Qt)=_;rw[h.xs,Zlv (v:=lvP n.wi { y with head:=head,cr:=cr }) hy h.ids rfl hzl,h.wq]
  rw[he] at post;refine post w2 (S1.trans S2) ⟨t,0,last,m+1,as_,ys.set i z,a,?_,?_⟩
  ·refine h.one hy hw0 hwf (by omega) (by rw[<-hzz]) (by rw[<-hzz]) (by rw[<-hzz]) ?_ (λv hv hne=>e5 (by omega) _) rfl (by omega) (λe=>?_) (by rw[<-hzz];exact⟨ok.inp,by show head.length<=4;omega⟩)
   ·rw[<-hzz,e5 (by omega)];exact h.en y hym
   ·rw[<-hzz];exact⟨cr,by omega,{ h1:=ok.h1,h2:=ok.h2,inp:=ok.inp,rest:=ok.rest,told:=ht4,cr:=Nat.le_refl _,id:=ok.id,z:=hmin }⟩
  ·rw[Ze6 hy (by rw[<-hzz];rfl),Zc1 hy (by rw[<-hzz]) (by rw[<-hzz])];exact Holds.dropAt H3 12
theorem Ztw (hK:Kn ts n) (h:Rp ts n c q t 0 last m B as_ ys a) (hc:c<=60) (hjb:f.jb<=4294967295) (hda:f.da.length<=500)
  (H:Holds w (SvL s ts n 0 last (q.acs++[stepF ts q.acs f]) q.out B (ys.map (rowP t)) as_ (livesF ys) ys m++L))
  (post:∀ w',Same w w'->RepB s ts n (c+1) (quiF ts n q f) B L w'->K (.tuple #[]) w'):Cl prog 60 #[pt s.b,pt s.ln,.agg (cellsA (stepF ts q.acs f)).toArray] w K:=by
 rcases Zfx ts q.acs f with⟨e,hx,he1,he2⟩|⟨hno,i,hi,hx⟩|⟨hwho,⟨h3,hkd,hx⟩|hx|⟨h3,h6,hr⟩⟩
 ·exact Zsc h hc hx he1 he2 hjb H post
 ·exact Zrx hK h hc hno hi hx H post
 ·exact Zrj hK h hc hwho h3 hkd hjb hx H post
 ·exact Zsn hK h hc hwho hx H post
 ·exact Zrn hK h hc hwho h3 h6 hjb hda rfl hr H post
end
end F33
namespace F33
open Go.M31 J30 J31 J32
variable {w:World}{L:List HProp}{K:KT}
def okFr (f:Fr):Prop:=(cli f.ty\/srv f.ty)/\f.jb<=4294967295/\f.da.length<=500
section
variable {s:Sx}{ts:List Tn}{n:Cf}{wt last m t c:Nat}{B:List UInt8}{as_:List G40.Ak}{ys:List Px}{a:G40.Ak}{q:Qt}{f:Fr}
theorem Rp.who0 (h:Rp ts n c q t wt last m B as_ ys a):∀ i,whoD q.acs=some i->0<=i:=λi hi=>by rw[h.who i hi];omega
theorem ov_of {pa cb wt ov:Nat}{p v:Value}(h:ov=0):(cellsLn pa cb wt p v (decide (ov≠0)))[6]?=some (.bool false):=by rw[h];rfl
theorem Zfg {rows:List A40.Lv}{fv:Int->Option Value}{acs:List Ac}{out:List UInt8}(hov:s.ov=0) (H:Holds w (SvL s ts n wt last acs out B rows as_ fv ys m++L)):Holds w (blk s.pa tPa (paC B 0)::(SvL s ts n wt last acs out B rows as_ fv ys m++L).eraseIdx 4):=by
 have h_:Holds w (blk s.pa tPa (paC B s.ov)::(SvL s ts n wt last acs out B rows as_ fv ys m++L).eraseIdx 4):=H.front 4 rfl;rw[hov] at h_;exact h_
theorem Zge {rows:List A40.Lv}{fv:Int->Option Value}{acs:List Ac}{out B':List UInt8}(hov:s.ov=0) (H:Holds w (blk s.pa tPa (paC B' 0)::(SvL s ts n wt last acs out B rows as_ fv ys m++L).eraseIdx 4)):Holds w (SvL s ts n wt last acs out B' rows as_ fv ys m++L):=by
 have e:paC B' 0=paC B' s.ov:=by rw[hov]
 rw[e] at H;exact Sat.push (L:=SvL s ts n wt last acs out B rows as_ fv ys m++L) 4 rfl H
theorem Zs3 (H:Holds w (SvL s ts n wt last q.acs q.out B (ys.map (rowP t)) as_ (livesF ys) ys m++L)) (hw:wt≠0) (k:K (.bool false) w):Cl prog 31 #[pt s.b,pt s.ln] w K:=by
 refine Tz31 ?_;unfold Vz31;refine Zac (λx w'=>w=w'/\x=.bool false) (λ_ _=>0) ⟨rfl,rfl⟩ ?_;rintro _ _ _ ⟨rfl,rfl⟩;obtain⟨p,v,hp,H3⟩:=Zaa (j:=3) H rfl;refine Za0 (λx w'=>w=w'/\x=.bool false) ?_ ?_
 rotate_left
 ·exact r_nc (r_fo0 (r_ld 0 H3 rfl rfl (r_eql (r_vfE (by show ¬ (wt:Int)=0;omega) (r_ke ⟨rfl,rfl⟩)))))
 rintro _ _ _ ⟨rfl,rfl⟩;exact r_vf k
set_option maxHeartbeats 4000000 in
end
end F33
end Go.Proofs.YtgdfganaoehokaaGreatDoor
