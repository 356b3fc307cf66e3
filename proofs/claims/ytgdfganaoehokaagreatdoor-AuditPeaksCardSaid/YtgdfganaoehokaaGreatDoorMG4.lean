/- Several texts in one: J36, Hr, Hy, Iv, Iw, Ix, S42, Sc, Iy, Iq, Ip, Ir, Is. -/
import Derived.Test.YtgdfganaoehokaaGreatDoorMG0
import Derived.Test.YtgdfganaoehokaaGreatDoorRows
import Derived.Lib.LaidU8T
import Derived.LaidMore
import Derived.Test.YtgdfganaoehokaaGreatDoorMG3
import Derived.Test.YtgdfganaoehokaaGreatDoorMG2
set_option linter.unusedVariables false
set_option linter.unusedSimpArgs false
open Go.RowKit (intOf)
open List (drop_length getElem?_of_mem mem_map mem_of_getElem? mem_singleton)
namespace Go.Proofs.YtgdfganaoehokaaGreatDoor
open Go Go.Vc Go.Proofs.Tryz
namespace J30
variable {w:World}{L:List HProp}{K:KT}
set_option maxRecDepth 1000000
def ren:Go.Shelf.Ren:=⟨λx=>x,λx=>if x=5 then 5 else if x=119 then 331 else if x=138 then 333 else 334,λx=>if x=3 then 0 else 1⟩
theorem Zps {W w':World}(h:Lib.Utf8Tabs 0 1 W) (H':Holds w' [whole W]):Lib.Utf8Tabs 0 1 w':=by
 obtain⟨g,hg,hgs,_⟩:=H'
 have key:∀ (a:Addr) (v:Value),W.cell? a=some v->w'.cell? a=some v:=by
  intro a v h7;unfold World.cell? at h7 ⊢
  cases hb:W.heap[a.block]? with
  |none=>rw[hb] at h7;cases h7
  |some o=>
   rw[hb] at h7;rw[show w'.heap[a.block]?=some o from hgs _ _ (hg _ _ hb)];exact h7
 obtain⟨g1,g2⟩:=h;exact⟨λb hb=>key _ _ (g1 b hb),λi hi=>⟨key _ _ (g2 i hi).1,key _ _ (g2 i hi).2⟩⟩
theorem Zp6 {W : World} {l : List (String × DataW Unit)} (hl : laidMet prog l W) (m1 : ("unicode/utf8.first", Rows.laid_unicode_utf8_first) ∈ l) (m2 : ("unicode/utf8.acceptRanges", Rows.laid_unicode_utf8_acceptRanges) ∈ l) : TabIn [whole W] := by
 have h3 := Lib.laidMet.reads hl (n := "unicode/utf8.first") (d := Rows.laid_unicode_utf8_first) m1; have h4 := Lib.laidMet.reads hl (n := "unicode/utf8.acceptRanges") (d := Rows.laid_unicode_utf8_acceptRanges) m2
 have e3:Rows.laid_unicode_utf8_first=Lib.firstData:=by kernel_rfl
 have e4:(Rows.laid_unicode_utf8_acceptRanges:DataW Unit)=Lib.acceptData:=by kernel_rfl
 rw[e3] at h3;rw[e4] at h4;have g:=Go.Proofs.utf8Tabs_of_readsT (P:=prog) (ρ:=ren) ⟨by kernel_rfl,by kernel_rfl,by kernel_rfl,by kernel_rfl⟩ ⟨by kernel_rfl,by kernel_rfl,by kernel_rfl,by kernel_rfl,by kernel_rfl,by kernel_rfl,by kernel_rfl⟩ h3 h4;exact λw' H'=>Zps g H'
end J30
end Go.Proofs.YtgdfganaoehokaaGreatDoor
namespace Go.Proofs.YtgdfganaoehokaaGreatDoor
open Go Go.Vc Go.Proofs.Tryz
attribute [local irreducible] Vc.Nc Vc.Ld Vc.LdA Vc.St Vc.StA Vc.Fo Vc.Iaa Vc.Ias Vc.Ixs Vc.Ixa Vc.Fd Vc.FdA Vc.Bp Vc.Bb Vc.Bn Vc.Up Vc.Ci Vc.Lns Vc.Lnl Vc.Ex Vc.Sst Vc.Ssl Vc.New Vc.Vif Vc.VJoin Vc.VLoop Vc.KE Vc.Dr Vc.Rk Vc.Cl Vc.Cx Vc.Inv Vc.Be Vc.Cv Vc.Cw Vc.Mf Vc.Sl Vc.Lk Vc.Bd Vc.Bs Vc.Ms Vc.Mm Vc.Mu Vc.Me Vc.Es Vc.Rg Vc.Nx Vc.Ta Vc.Ap Vc.Usd Vc.Ust Vc.Cp Vc.Ln Vc.Bc Vc.Bmin Vc.Bmax Vc.Bdel Vc.Bclr Vc.Pk
namespace F33
open Go.M31 J30 J31 J32
variable {w:World}{L:List HProp}{K:KT}
section
variable {s:Sx}{ts:List Tn}{n:Cf}{wt last m t c:Nat}{B:List UInt8}{as_:List G40.Ak}{ys:List Px}{a:G40.Ak}{q:Qt}{f:Fr}
theorem Rp.up (h:Rp ts n c q t wt last m B as_ ys a) (hw:wt≠0){B':List UInt8}:Rp ts n (c+1) q t wt last m B' as_ ys a:=
 {
   al:=Nat.le_succ_of_le h.al,wf:=h.wf,who:=h.who,no:=h.no,tl:=h.tl,ta:=h.ta,tm:=h.tm,us:=h.us,ul:=h.ul,ll:=h.ll,xs:=h.xs,hd:=h.hd,ids:=h.ids
   ok:=λe=>absurd e hw
   en:=h.en,op:=h.op,la:=Nat.le_succ_of_le h.la,mm:=Nat.le_succ_of_le h.mm
   ou:=by have:=h.ou;omega
   wq:=h.wq
   asl:=h.asl,ot:=h.ot,sz:=h.sz
   ln:=Nat.le_succ_of_le h.ln }
theorem q_D2 {t:List UInt8}{m:Nat}{K:Value->Prop}(h1:m<=t.length) (h:K (S_ (t.drop m))):Sst (S_ t) (some (nv m)) none K:=q_D h1 h
set_option maxHeartbeats 4000000 in
end
end F33
end Go.Proofs.YtgdfganaoehokaaGreatDoor
namespace Go.Proofs.YtgdfganaoehokaaGreatDoor
open Go Go.Vc Go.Proofs.Tryz
theorem Zsr {α β:Type}{F:α->List Value}{k:Nat}{e:TypeId}{v:Value}{g:β->α}{xs:List β}:RW F k e v (xs.map g)=RW (λx=>F (g x)) k e v xs:=by
 have h:∀ xs:List β,flatL F (xs.map g)=flatL (λx=>F (g x)) xs:=by
  intro xs
  induction xs with
  |nil=>rfl
  |cons x r ih=>rw[hR_,flatL,flatL,ih]
 funext hp
 unfold RW;simp only[hS_];unfold rwb;rw[h xs];simp only[List.map_eq_nil_iff]
attribute [local irreducible] Vc.Nc Vc.Ld Vc.LdA Vc.St Vc.StA Vc.Fo Vc.Iaa Vc.Ias Vc.Ixs Vc.Ixa Vc.Fd Vc.FdA Vc.Bp Vc.Bb Vc.Bn Vc.Up Vc.Ci Vc.Lns Vc.Lnl Vc.Ex Vc.Sst Vc.Ssl Vc.New Vc.Vif Vc.VJoin Vc.VLoop Vc.KE Vc.Dr Vc.Rk Vc.Cl Vc.Cx Vc.Inv Vc.Be Vc.Cv Vc.Cw Vc.Mf Vc.Sl Vc.Lk Vc.Bd Vc.Bs Vc.Ms Vc.Mm Vc.Mu Vc.Me Vc.Es Vc.Rg Vc.Nx Vc.Ta Vc.Ap Vc.Usd Vc.Ust Vc.Cp Vc.Ln Vc.Bc Vc.Bmin Vc.Bmax Vc.Bdel Vc.Bclr Vc.Pk
namespace F33
open Go.M31 J30 J31 J32
variable {w:World}{L:List HProp}{K:KT}
theorem Zjr {xs:List Nat}{v:Value}(H:Holds w (SL nv Q40.tI v xs::L)) (h1:0 < xs.length) (h2:xs.length<=16) (hx:∀ x∈xs,1<=x/\x<=1099511627776)
  (post:∀ b w',Same w w'->Holds w' (SchR b xs.length 0::L)->K (.tuple #[pt b,iv 0]) w'):Cl prog 26 #[v] w K:=by
 refine Tz26 ?_;unfold Vz26;refine S40.Zfq 0 H rfl (by omega) (λx w K hm k=>S41.Zow (hx x hm).1 (hx x hm).2 k) (λx w=>by kernel_rfl) ?_;refine Za0 (λx w'=>w=w'/\x=.bool false) ?_ ?_
 rotate_left
 ·refine r_lnS 0 H rfl (r_eql (r_vfE (by omega) (r_lnS 0 H rfl (r_gtr (r_vfD (by omega) (r_ke ⟨rfl,rfl⟩))))))
 rintro _ _ _ ⟨rfl,rfl⟩;refine r_vf ?_;refine S41.Ze5 H λbq w1 S1 H1=>?_;refine r_bd (v:=.agg #[.slice none 0 0,pt bq]) (by kernel_rfl) ?_;refine r_new H1 λb w2 S2 H2=>?_;replace H2:Holds w2 (blk b Q40.tSc [.slice none 0 0,pt bq]::blk bq Q40.tQu [iv 1099511627776,.slice none 0 0]::SL nv Q40.tI v xs::L):=H2;refine r_lnS 2 H2 rfl ?_
 have H3:Holds w2 (SL Q40.ptr Q40.tPt (.slice none 0 0) ([]:List Nat)::blk b Q40.tSc [.slice none 0 0,pt bq]::blk bq Q40.tQu [iv 1099511627776,.slice none 0 0]::SL nv Q40.tI v xs::PkL Q40.TeR []::L):=by
  have Ha:=Holds.nilSL (Holds.nilK Q40.TeR H2) Q40.ptr Q40.tPt;exact (by have h_:=Holds.ord 5 [0,2,3,4,1] Ha rfl;exact h_)
 refine Zac (λx w'=>∃ (i:Nat) (u:Value) (ps:List Q40.Te),i<=xs.length/\x=nv i/\ps.length=i/\(∀ t∈ps,t.q=[])/\Same w w'/\Holds w' (SL Q40.ptr Q40.tPt u (ps.map (·.tb))::blk b Q40.tSc [u,pt bq]::blk bq Q40.tQu [iv 1099511627776,.slice none 0 0]::SL nv Q40.tI v xs::PkL Q40.TeR ps::L)) (λx _=>xs.length - (intOf x).toNat)
  ⟨0,.slice none 0 0,[],by omega,rfl,rfl,(λt ht=>by cases ht),S1.trans S2,H3⟩ ?_
 clear H H1 H2 H3 S1 S2;rintro _ _ w3 ⟨i,u,ps,hi,rfl,hps,hpq,S,H⟩;refine r_lss (r_ifD (λh=>?_) λh=>?_)
 ·have hlt:i < xs.length:=by omega
  obtain⟨x,hxi⟩:∃ x,xs[i]?=some x:=⟨_,gA hlt⟩;have H0:=H;obtain⟨oa,sp,rfl,H1⟩:=H0.open 3 rfl;refine Zbb 3 H1 rfl hlt (Nat.le_refl _) ?_;rintro b2 rfl;refine Zbn 3 H1 rfl hxi ?_;clear H0 H1;refine r_dr H λw4 S4 H4=>?_;refine r_nc (r_fo0 (r_ld 1 H4 rfl rfl ?_));refine S41.Ze5 H4 λbx w5 S5 H5=>?_;refine r_rk (r_ld 2 H5 rfl rfl rfl) ?_;refine r_bd (v:=.agg #[pt bx,nv x,iv 0]) (by kernel_rfl) ?_;refine r_new H5 λby_ w6 S6 H6=>?_;refine r_rk (r_ld 3 H6 rfl rfl rfl) ?_;refine Zu8 (f:=Q40.ptr) H6 2 rfl by_ (λ_=>rfl) (by rw[hS_];omega) (λw' H'=>r_ld 3 H' rfl rfl rfl) λv' w7 S7 H7=>?_;refine r_nc (r_fo0 ?_);refine r_st 3 H7 rfl (by simp) ?_ λw8 S8 H8=>?_
  ·obtain⟨oa,sp,rfl,_⟩:=H7.open 2 rfl;rfl
  have hnew:∀ {M:List HProp},Holds w8 (blk by_ Q40.tTe [pt bx,nv x,iv 0]::blk bx Q40.tQu [iv 1099511627776,.slice none 0 0]::M)->Holds w8 (Q40.TeR ⟨by_,bx,x,0,.slice none 0 0,[]⟩::M):=by
   intro M HM;refine Q40.Ze0 (t:=⟨by_,bx,x,0,.slice none 0 0,[]⟩) ?_;have H9:=HM.nilSL nv Q40.tI;exact (by have h_:=Holds.ord 3 [1,2,0] H9 rfl;exact h_)
  have H9:=Holds.addK 4 rfl (hnew H8);refine Za7 (by omega) (r_ke ⟨⟨i+1,v',ps++[⟨by_,bx,x,0,.slice none 0 0,[]⟩],by omega,rfl,by simp[hps],λt ht=>?_,S.trans (S4.trans (S5.trans (S6.trans (S7.trans S8)))),?_⟩,?_⟩)
  ·rcases hT_.1 ht with ht|ht
   ·exact hpq t ht
   ·obtain rfl:=mem_singleton.1 ht;rfl
  ·rw[List.map_append];exact H9
  ·simp only[intOf,gC];omega
 ·obtain rfl:i=xs.length:=by omega
  refine post b _ S ?_
  have H1:Holds w3 (blk b Q40.tSc [u,pt bq]::SL Q40.ptr Q40.tPt u (ps.map (·.tb))::blk bq Q40.tQu [iv 1099511627776,.slice none 0 0]::SL nv Q40.tI (.slice none 0 0) []::PkL Q40.TeR ps::L):=by
   have H2:=H.nilSL nv Q40.tI;exact (by have h_:=Holds.ord 6 [2,1,3,0,5] H2 rfl;exact h_)
  refine Holds.imp (Holds.pack (A:=[_,_,_,_,_]) H1) λh hh=>⟨bq,u,.slice none 0 0,[],ps,⟨hps,by decide,λt ht=>by rw[hpq t ht];decide⟩,?_⟩;refine Zbd (λ_=>Zbd λ_=>Zbd λ_=>Zbd λg hg=>?_) hh;have:=Sat.unpack (A:=ps.map Q40.TeR) (L:=[]) hg;rw[gU] at this;exact this
theorem Zv0 {n:Cn}(h:okC n):∃ n':Cf,n=cnF n':=by
 obtain⟨a1,a2,a3,a4,a5,a6⟩:=n;unfold okC at h;refine⟨⟨a1.toNat,a2.toNat,a3.toNat,a4.toNat,a5.toNat,a6.toNat⟩,?_⟩;unfold cnF
 dsimp only at h ⊢
 congr 1 <;> omega
theorem Kn_of {ts:List Tn}{n:Cf}(h:goodTs ts/\okC (cnF n)) (hs:∀ t∈ts,szT t):Kn ts n:=by
 obtain⟨⟨g1,g2,g3,g4⟩,hn⟩:=h;unfold okC cnF at hn
 dsimp only at hn
 refine⟨λt ht=>?_,g3,g4,by omega,by omega,by omega,by omega,by omega,by omega⟩;obtain⟨q,hq⟩:=getElem?_of_mem ht;have:=g1 q t hq;unfold okT at this;exact⟨by omega,by omega,by omega,by omega,(hs t ht).1⟩
def NvL (s:Sx) (ts:List Tn) (n:Cf):List HProp:=
 [blk s.b tSv (cellsC s.a ts.length s.c (cnF n)++[.map (some s.lm),.map (some s.lv),pt s.bj,pt s.bl,pt s.bm,pt s.bt]),RW cellsT 5 tT (.slice s.a ts.length s.c) ts,MD s.lm (λ_=>none) 0,
  A40.TabR s.bj n.jo 0 [],G40.LedR s.bl (ts.map ak0),MetR s.bm n.sp (ts.map stN),MDe s.lv (λ_=>none),SchR s.bt ts.length 0]
section
variable {a:Option Addr}{ts:List Tn}{c:Nat}{n:Cf}
theorem Zj2 (H:Holds w L) (hT:TsIn L a ts) (hU:J30.TabIn L) (hs:∀ t∈ts,szT t) (hc:ts.length<=c) (h0:ChkC ts (cnF n) 0)
  (pg:∀ s w',ts.length<=s.c->Same w w'->Holds w' (NvL s ts n++L)->K (.tuple #[pt s.b,iv 0]) w'):Cl prog 8 #[.agg (cellsC a ts.length c (cnF n)).toArray] w K:=by
 refine Tz8 ?_;unfold Vz8;refine r_new H λbc w1 S1 H1=>?_;replace H1:Holds w1 (blk bc tC (cellsC a ts.length c (cnF n))::L):=H1;refine r_ldA 0 H1 (cellsC a ts.length c (cnF n)) rfl rfl rfl ?_;refine J33.Config_spec H1 hT.up hU.up hs hc λe w2 S2 H2 hk=>?_;obtain rfl:=Zf8 h0 hk;have S:=S1.trans S2;clear H H1 S1 S2;obtain⟨⟨g1,g2,g3,g4⟩,hn⟩:=Zg0 h0
 have hok:∀ t∈ts,okT t:=λt ht=>by
  obtain⟨q,hq⟩:=getElem?_of_mem ht;exact g1 q t hq
 have hm:∀ {g:Tn->Nat} {x:Nat},x∈ts.map g->∃ t∈ts,g t=x:=λh=>mem_map.1 h;unfold okC cnF at hn
 dsimp only at hn
 refine r_neq (r_vfN rfl ?_);refine r_fo0 (r_ld 0 H2 rfl rfl ?_);refine S41.Zjv (n:=(n.jo:Int)) H2 (by omega) (by omega) λbj w3 S3 H3=>?_;refine Za6 (Za5 (r_fo0 (r_ld 1 H3 rfl rfl ?_)));refine S40.Zfw (f:=23) (g:=S41.me) H3 hT.up.up (by omega) (λt w L K ht H post=>?_) (λt w=>by kernel_rfl) λv1 w4 S4 H4=>?_
 ·refine Tz23 ?_;unfold Vz23;refine r_new H λbt w1 S1 H1=>?_;replace H1:Holds w1 (blk bt tT (cellsT t)::L):=H1;refine r_fo0 (r_ld 0 H1 rfl rfl ?_);have h9:=(hok t ht).2.2.1;have:=post _ S1 H1.drop;rw[show nv (S41.me t)=iv t.me by unfold nv iv S41.me;congr 1;omega] at this;exact this
 refine S41.Zgp H4 (by simpa using g3) (by simpa using g4) (λx hx=>by obtain⟨t,ht,rfl⟩:=hm hx;have:=hok t ht;unfold okT at this;unfold S41.me;omega) λbl u w5 S5 H5=>?_;replace S:=S.trans (S3.trans (S4.trans S5));clear S3 S4 S5 H2 H3 H4;refine Za6 (Za5 ?_)
 have H6:Holds w5 (G40.LedR bl (ts.map ak0)::blk bj S41.tTb [iv (n.jo:Int),iv 0,.slice none 0 0]::blk bc tC (cellsC a ts.length c (cnF n))::L):=by
  rw[show RW S41.accF 3 S41.tAc u (ts.map S41.me)=RW G40.cellsK 3 G40.tAc u (ts.map ak0) by rw[Zsr,Zsr];rfl] at H5;exact Holds.imp (Holds.pack (A:=[_,_]) H5) λh hh=>⟨u,hh⟩
 clear H5;refine r_dr H6 λw6 S6 H7=>?_;refine r_fo0 (r_ld 2 H7 rfl rfl (r_fo0 (r_ld 2 H7 rfl rfl ?_)));refine S40.Zfw (f:=25) (g:=stN) H7 hT.up.up.up (by omega) (λt w L K ht H post=>?_) (λt w=>by kernel_rfl) λv2 w7 S7 H8=>?_
 ·refine Tz25 ?_;unfold Vz25;refine r_new H λbt w1 S1 H1=>?_;replace H1:Holds w1 (blk bt tT (cellsT t)::L):=H1;refine r_fo0 (r_ld 0 H1 rfl rfl ?_);have h9:=(hok t ht).2.2.2.2.1;have:=post _ S1 H1.drop;rw[show nv (stN t)=iv t.st by unfold nv iv stN;congr 1;omega] at this;exact this
 refine r_rk (r_ld 3 H8 rfl rfl rfl) ?_;refine S41.Zgv (sp:=(n.sp:Int)) H8 (by omega) (by omega) (by simpa using g3) (by simpa using g4) (λx hx=>by obtain⟨t,ht,rfl⟩:=hm hx;have:=hok t ht;unfold okT at this;unfold stN;omega) λbm q ch t w8 S8 H9=>?_;replace S:=S.trans (S6.trans (S7.trans S8));clear S6 S7 S8 H6 H7 H8;refine Za6 (Za5 ?_)
 have H10:Holds w8 (MetR bm n.sp (ts.map stN)::G40.LedR bl (ts.map ak0)::blk bj S41.tTb [iv (n.jo:Int),iv 0,.slice none 0 0]::blk bc tC (cellsC a ts.length c (cnF n))::L):=
  Holds.imp (Holds.pack (A:=[_,_,_,_]) H9) λh hh=>⟨q,ch,t,hh⟩
 clear H9;refine r_fo0 (r_ld 3 H10 rfl rfl ?_);refine S40.Zfw (f:=27) (g:=S41.qu) H10 hT.up.up.up.up (by omega) (λt w L K ht H post=>?_) (λt w=>by kernel_rfl) λv3 w9 S9 H11=>?_
 ·refine Tz27 ?_;unfold Vz27;refine r_new H λbt w1 S1 H1=>?_;replace H1:Holds w1 (blk bt tT (cellsT t)::L):=H1;refine r_fo0 (r_ld 0 H1 rfl rfl ?_);have h9:=(hok t ht).2.2.2.2.2.2.1;have:=post _ S1 H1.drop;rw[show nv (S41.qu t)=iv t.qu by unfold nv iv S41.qu;congr 1;omega] at this;exact this
 refine Zjr H11 (by simpa using g3) (by simpa using g4) (λx hx=>by obtain⟨t,ht,rfl⟩:=hm hx;have:=hok t ht;unfold okT at this;unfold S41.qu;omega) λbt w10 S10 H12=>?_;rw[hS_] at H12;replace S:=S.trans (S9.trans S10);clear S9 S10 H10 H11;refine Za6 (Za5 ?_);refine r_bsK (e:=tT) [] H12 (by kernel_rfl) λbz w11 S11 H13=>?_;refine r_fo0 (r_ld 5 H13 rfl rfl ?_);have hT1:S4r.InG cellsT 5 (blk bz tT []::SchR bt ts.length 0::MetR bm n.sp (ts.map stN)::G40.LedR bl (ts.map ak0)::blk bj S41.tTb [iv (n.jo:Int),iv 0,.slice none 0 0]::blk bc tC (cellsC a ts.length c (cnF n))::L) a ts:=hT.up.up.up.up.up.up;refine r_apG (F:=cellsT) (k:=5) (e:=tT) H13 hT1 (λ_=>rfl) g3 (by omega) λv5 w12 S12 H14=>?_;obtain⟨o5,m5,sp5,rfl,_⟩:=H14.openRW 0 rfl;generalize hcap:ts.length+m5=cap at H14;refine r_fo0 (r_st 6 H14 rfl (by simp[cellsC]) rfl λw13 S13 H15=>?_);replace H15:Holds w13 (RW cellsT 5 tT (.slice o5 ts.length cap) ts::blk bz tT []::SchR bt ts.length 0::MetR bm n.sp (ts.map stN)::G40.LedR bl (ts.map ak0)::blk bj S41.tTb [iv (n.jo:Int),iv 0,.slice none 0 0]::blk bc tC (cellsC o5 ts.length cap (cnF n))::L):=H15;refine r_ldA 6 H15 (cellsC o5 ts.length cap (cnF n)) rfl rfl rfl ?_;refine r_mmD H15 λlm w14 S14 H16=>?_;refine r_mmD H16 λlv w15 S15 H17=>?_;refine r_bd (v:=.agg (cellsC o5 ts.length cap (cnF n)++[.map (some lm),.map (some lv),pt bj,pt bl,pt bm,pt bt]).toArray) (by kernel_rfl) ?_;refine r_new H17 λb w16 S16 H18=>?_;replace H18:Holds w16 (blk b tSv (cellsC o5 ts.length cap (cnF n)++[.map (some lm),.map (some lv),pt bj,pt bl,pt bm,pt bt])::MD lv (λ_=>none) 0::MD lm (λ_=>none) 0::RW cellsT 5 tT (.slice o5 ts.length cap) ts::blk bz tT []::SchR bt ts.length 0::MetR bm n.sp (ts.map stN)::G40.LedR bl (ts.map ak0)::blk bj S41.tTb [iv (n.jo:Int),iv 0,.slice none 0 0]::blk bc tC (cellsC o5 ts.length cap (cnF n))::L):=H18
 have H19:Holds w16 (A40.TabR bj n.jo 0 []::blk b tSv (cellsC o5 ts.length cap (cnF n)++[.map (some lm),.map (some lv),pt bj,pt bl,pt bm,pt bt])::MD lv (λ_=>none) 0::MD lm (λ_=>none) 0::RW cellsT 5 tT (.slice o5 ts.length cap) ts::SchR bt ts.length 0::MetR bm n.sp (ts.map stN)::G40.LedR bl (ts.map ak0)::L):=by
  have h1:Holds w16 (blk bj S41.tTb [iv (n.jo:Int),iv 0,.slice none 0 0]::RW A40.cellsL 5 A40.tLv (.slice none 0 0) []::blk b tSv (cellsC o5 ts.length cap (cnF n)++[.map (some lm),.map (some lv),pt bj,pt bl,pt bm,pt bt])::MD lv (λ_=>none) 0::MD lm (λ_=>none) 0::RW cellsT 5 tT (.slice o5 ts.length cap) ts::SchR bt ts.length 0::MetR bm n.sp (ts.map stN)::G40.LedR bl (ts.map ak0)::L):=by
   have h2:=H18.nilRW A40.cellsL 5 A40.tLv;exact (by have h_:=Holds.ord 11 [9,0,1,2,3,4,6,7,8] h2 rfl;exact h_)
  exact Holds.imp (Holds.pack (A:=[_,_]) h1) λh hh=>⟨none,0,hh⟩
 have H20:Holds w16 (MDe lv (λ_=>none)::A40.TabR bj n.jo 0 []::blk b tSv (cellsC o5 ts.length cap (cnF n)++[.map (some lm),.map (some lv),pt bj,pt bl,pt bm,pt bt])::MD lm (λ_=>none) 0::RW cellsT 5 tT (.slice o5 ts.length cap) ts::SchR bt ts.length 0::MetR bm n.sp (ts.map stN)::G40.LedR bl (ts.map ak0)::L):=
  Holds.imp ((by have h_:=Holds.ord 8 [2,0,1,3,4,5,6,7] H19 rfl;exact h_)) λh hh=>⟨0,hh⟩
 exact pg ⟨b,lm,lv,bj,bl,bm,bt,0,0,0,o5,cap,0⟩ w16 (by show ts.length<=cap;omega) (S.trans (S11.trans (S12.trans (S13.trans (S14.trans (S15.trans S16)))))) (by have h_:=Holds.ord 8 [2,4,3,1,7,6,0,5] H20 rfl;exact h_)
def q0:Qt:=⟨[],[],[],false⟩
theorem Zuu {t0:Tn}(hK:Kn ts n) (ht:ts[0]?=some t0):Rp ts n 0 q0 0 0 0 0 [] (ts.map ak0) [] (ak0 t0):=by
 have h1:=hK.t1 t0 (mem_of_getElem? ht)
 exact {
   al:=Nat.le_refl 0,wf:=Zum,who:=(λi hi=>by cases hi),no:=λ_=>⟨rfl,rfl⟩,tl:=hK.t0
   ta:=by rw[hV_,ht];rfl
   tm:=λtn h=>by rw[ht] at h;cases h;rfl
   us:=rfl,ul:=Nat.zero_le _
   ll:=by show t0.me.toNat<=_;omega
   xs:=rfl,hd:=List.Pairwise.nil,ids:=List.Pairwise.nil
   ok:=(λ_ y hy=>by cases hy),en:=(λy hy=>by cases hy),op:=(λy hy=>by cases hy)
   la:=Nat.le_refl 0,mm:=Nat.le_refl 0,ou:=Nat.le_refl 0,wq:=rfl
   asl:=hS_ ..
   ot:=λj x hj _=>by
    rw[hV_] at hj
    cases e:ts[j]? with
    |none=>rw[e] at hj;cases hj
    |some tn'=>rw[e] at hj;obtain rfl:=Option.some.inj hj;rfl
   sz:=(λy hy=>by cases hy)
   ln:=Nat.le_refl 0 }
set_option maxHeartbeats 4000000 in
theorem Zsg {s:Sx}(hK:Kn ts n) (hg:goodTs ts) (hU:J30.TabIn L) (hs:∀ t∈ts,szT t) (hsc:ts.length<=s.c) (H:Holds w (NvL s ts n++L))
  (k:∀ s' w',s'.b=s.b->s'.ov=0->Same w w'->Rep s' ts n 0 q0 L w'->K (pt s'.ln) w'):Cl prog 29 #[pt s.b,iv 0] w K:=by
 refine Tz29 ?_;unfold Vz29;refine r_nc (r_fo0 (r_ld 0 H rfl rfl ?_));refine r_lkD (t:=tM88) (kt:=tIw) (et:=79) (x:=.p none) (z:=.pointer none) (k:=0) (by kernel_rfl) (by kernel_rfl) (by kernel_rfl) rfl 2 H rfl ?_;refine Ziq (r_vt ?_);refine Zom H λpa w1 S1 H1=>?_;refine Za6 (Za5 (r_nc (r_fo0 (r_fo0 (r_ld 1 H1 rfl rfl ?_)))));have hT:TsIn (blk pa tPa (paC [] 0)::(NvL s ts n++L)) s.a ts:=S4r.InG.own (F:=cellsT) (k:=5) 2 rfl λ_=>rfl;refine Zpg (z:=true) H1 hT (λ_=>hU.up.up.up.up.up.up.up.up.up) (λt _=>⟨J33.Asc.yes _,J33.Asc.yes _⟩) hs hsc hg λcb v m w2 S2 H2=>?_;refine Za6 (Za5 ?_);refine r_bd (v:=.agg (cellsLn pa cb 0 (.pointer none) (.slice none 0 0) false).toArray) (by kernel_rfl) ?_;refine r_new H2 λln w3 S3 H3=>?_;replace H3:Holds w3 (blk ln tLn (cellsLn pa cb 0 (.pointer none) (.slice none 0 0) false)::blk cb tCo [v,iv (-1),.map (some m)]::RW cellsT 5 tT v ts::MD m (λ_=>none) 0::blk pa tPa (paC [] 0)::(NvL s ts n++L)):=H3;refine r_nc (r_fo0 (r_ld 5 H3 rfl rfl ?_));refine r_muD (t:=tM88) (kt:=tIw) (et:=79) (by kernel_rfl) (by kernel_rfl) 7 H3 rfl λw4 S4 H4=>?_;have hS:=S1.trans (S2.trans (S3.trans S4));obtain⟨t0,ht0⟩:∃ t0,ts[0]?=some t0:=⟨_,gA hK.t0⟩
 replace H4:Holds w4 (blk ln tLn (cellsLn pa cb 0 (.pointer none) (.slice none 0 0) false)::blk cb tCo [v,iv (-1),.map (some m)]::RW cellsT 5 tT v ts::MD m (λ_=>none) 0::blk pa tPa (paC [] 0) ::
  blk s.b tSv (cellsC s.a ts.length s.c (cnF n)++[.map (some s.lm),.map (some s.lv),pt s.bj,pt s.bl,pt s.bm,pt s.bt])::RW cellsT 5 tT (.slice s.a ts.length s.c) ts::MD s.lm (linesF ln) 1 ::
  A40.TabR s.bj n.jo 0 []::G40.LedR s.bl (ts.map ak0)::MetR s.bm n.sp (ts.map stN)::MDe s.lv (λ_=>none)::SchR s.bt ts.length 0::L):=H4
 have H5:Holds w4 (ConR cb ts []::blk ln tLn (cellsLn pa cb 0 (.pointer none) (.slice none 0 0) false)::blk pa tPa (paC [] 0) ::
  blk s.b tSv (cellsC s.a ts.length s.c (cnF n)++[.map (some s.lm),.map (some s.lv),pt s.bj,pt s.bl,pt s.bm,pt s.bt])::RW cellsT 5 tT (.slice s.a ts.length s.c) ts::MD s.lm (linesF ln) 1 ::
  A40.TabR s.bj n.jo 0 []::G40.LedR s.bl (ts.map ak0)::MetR s.bm n.sp (ts.map stN)::MDe s.lv (λ_=>none)::SchR s.bt ts.length 0::L):=by
  have h1:=(by have h_:=Holds.ord 13 [1,2,3,0,4,5,6,7,8,9,10,11,12] H4 rfl;exact h_);exact Holds.imp (Holds.pack (A:=[_,_,_]) h1) λh hh=>⟨v,m,λ_=>none,Zv9,hh⟩
 have H6:Holds w4 (LnR ln pa cb 0 [] false::ConR cb ts []::blk pa tPa (paC [] 0) ::
  blk s.b tSv (cellsC s.a ts.length s.c (cnF n)++[.map (some s.lm),.map (some s.lv),pt s.bj,pt s.bl,pt s.bm,pt s.bt])::RW cellsT 5 tT (.slice s.a ts.length s.c) ts::MD s.lm (linesF ln) 1 ::
  A40.TabR s.bj n.jo 0 []::G40.LedR s.bl (ts.map ak0)::MetR s.bm n.sp (ts.map stN)::MDe s.lv (λ_=>none)::SchR s.bt ts.length 0::L):=by
  have h1:=Holds.imp (P:=SL bv L42.tU8 (.slice none 0 0) []) (Q:=SF L42.tU8 (.slice none 0 0) []) (H5.nilSL bv L42.tU8) λh hh=>SF_of hh;have h2:=(by have h_:=Holds.ord 12 [2,0,1,3,4,5,6,7,8,9,10,11] h1 rfl;exact h_);exact Holds.imp (Holds.pack (A:=[_,_]) h2) λh hh=>⟨.pointer none,.slice none 0 0,.inl rfl,hh⟩
 have H7:=Holds.nilK (LiveR n.wi n.ch) H6;have H8:=(by have h_:=Holds.ord 12 [4,5,6,1,3,2,7,8,9,10,11,0] H7 rfl;exact h_);have e1:livesF []=λ_=>none:=rfl;have H9:Holds w4 (SvL ⟨s.b,s.lm,s.lv,s.bj,s.bl,s.bm,s.bt,ln,pa,cb,s.a,s.c,0⟩ ts n 0 0 [] [] [] [] (ts.map ak0) (λ_=>none) [] 0++L):=H8;rw[<-e1] at H9;refine k ⟨s.b,s.lm,s.lv,s.bj,s.bl,s.bm,s.bt,ln,pa,cb,s.a,s.c,0⟩ w4 rfl rfl hS ⟨0,0,0,0,[],ts.map ak0,[],ak0 t0,Zuu hK ht0,⟨λ_=>rfl,Nat.zero_le _⟩,?_⟩;exact H9
end
end F33
namespace F33
open Go.M01 Go.M02 W01 W02 U38
variable {w:World}{L:List HProp}{K:KT}{b j:Nat}
section
variable {win kd:Nat}{inp head:List UInt8}{en:Bool}
theorem Zo5 (H:Holds w (PrQ b win inp en head::L)) (hi:inp.length<=1048576) (hh:head.length<=1000) (k:∀ p w',p<=2000000->Same w w'->Holds w' (PrQ b win inp en head::L)->K (nv p) w'):Cl prog 335 #[ptr b] w K:=by
 refine Tz335 ?_;unfold Vz335;obtain⟨bs,fl,bt,room,H0⟩:=Zbx H;refine Za3 (r_vf (r_dr H0 λw1 S1 H1=>?_));refine r_nc (r_fo0 (r_ld 0 H1 rfl rfl (q_len (r_nc (r_fo0 (r_ld 0 H1 rfl rfl ?_))))));refine Zgu (H1.front 1 rfl) λw2 S2 H2=>?_;have H3:Holds w2 (blk b tPress (cellsPr win inp en bs fl bt head)::SplR0 bs room::L):=H2.swap;refine r_rk (q_len rfl) (r_rk (r_ld 0 H3 rfl rfl rfl) (Zjj (inp.length:Int) (by omega) (by omega) (by omega) ?_));refine r_nc (r_fo0 (r_ld 0 H3 rfl rfl (r_rk (r_ld 0 H1 rfl rfl rfl) ?_)));refine Tz343 ?_;unfold Vz343;refine Ziq (r_vt ?_);refine r_rk (q_len rfl) (r_rk (r_ld 0 H3 rfl rfl rfl) (Zjj (inp.length:Int) (by omega) (by omega) (by omega) ?_));refine r_nc (r_fo0 (r_ld 0 H3 rfl rfl (r_rk (r_ld 0 H3 rfl rfl rfl) (r_rk (r_ld 0 H1 rfl rfl rfl) (q_len (r_rk (q_len rfl) (r_rk (q_len rfl) (Zb1 (a:=inp.length) (b:=head.length) (by omega) ?_))))))));refine r_nc (r_fo0 (r_ld 0 H3 rfl rfl (r_lnl ?_)));refine Zam (λo x w'=>o=nv (inp.length+head.length)/\x=nv 0/\w2=w') (λ_ _ _=>0) ⟨rfl,rfl,rfl⟩ ?_;rintro _ _ _ _ ⟨rfl,rfl,rfl⟩;refine r_lss (r_vfD (by decide) ?_);exact k _ w2 (by omega) (S1.trans S2) (Zc2 (bs:=bs) (fl:=fl) (bt:=bt) (room:=room) H3)
theorem Zhg (H:Holds w (ExQ b win inp en::L)) (hi:inp.length<=1048576) (k:∀ p w',p<=2000000->Same w w'->Holds w' (ExQ b win inp en::L)->K (nv p) w'):Cl prog 458 #[ptr b] w K:=by
 refine Tz458 ?_;unfold Vz458;obtain⟨bi,br,sh,H0⟩:=Zbw H;refine Za3 (r_vf (r_dr H0 λw1 S1 H1=>?_));refine r_nc (r_fo0 (r_ld 0 H1 rfl rfl ?_));refine Zcy 1 H1 rfl ?_;rw[sz];refine r_nc (r_fo0 (r_ld 0 H1 rfl rfl (r_rk (r_ld 0 H1 rfl rfl rfl) ?_)));obtain⟨u,H2⟩:=Holds.ex (H1.front 2 rfl);refine Tz257 ?_;unfold Vz257;refine Za3 (r_vf (r_nc (r_fo0 (r_ld 0 H2 rfl rfl ?_))));refine Tz259 ?_;unfold Vz259;refine Ziq (r_vt ?_);refine Zjj (inp.length:Int) (by omega) (by omega) (by omega) ?_;refine r_nc (r_fo0 (r_ld 0 H1 rfl rfl (r_rk (r_ld 0 H1 rfl rfl rfl) (r_rk (r_ld 0 H1 rfl rfl rfl) (r_lnl (r_rk (r_lnl rfl) (r_rk (r_lnl rfl) (Zjj (inp.length:Int) (by omega) (by omega) (by omega) ?_))))))));refine r_nc (r_fo0 (r_ld 0 H1 rfl rfl (Zti (r_vf ?_))));exact k inp.length w1 (by omega) S1 (Zcp (br:=br) (sh:=sh) H1)
theorem Zn2 (H:Holds w (TsQ b win inp en::L)) (hi:inp.length<=1048576) (k:∀ p w',p<=2000000->Same w w'->Holds w' (TsQ b win inp en::L)->K (nv p) w'):Cl prog 491 #[ptr b] w K:=by
 refine Tz491 ?_;unfold Vz491;obtain⟨bx,H0⟩:=Zbu H;refine Za3 (r_vf (r_dr H0 λw1 S1 H1=>?_));refine r_nc (r_fo0 (r_fo0 (r_ld 0 H1 rfl rfl ?_)));refine Zhg H1.swap hi λp w2 hp S2 H2=>?_;have H3:=H2.swap;refine r_nc (r_fo0 (r_ld 0 H3 rfl rfl (r_rk (r_ld 0 H1 rfl rfl rfl) (q_len (r_rk (q_len rfl) (Zjj (p:Int) (by show (p:Int)+((0:Nat):Int)=p;omega) (by omega) (by omega) ?_))))));exact k p w2 hp (S1.trans S2) (Zdq H3)
theorem Zmy (H:Holds w (JobQ kd j win inp en head::L)) (hi:inp.length<=1048576) (hh:head.length<=1000) (k:∀ p w',p<=2000000->Same w w'->Holds w' (JobQ kd j win inp en head::L)->K (nv p) w'):Cl prog 160 #[ptr j] w K:=by
 refine Tz160 ?_;unfold Vz160;refine Za0 (λx w'=>w=w'/\x=.bool false) ?_ ?_
 rotate_left
 ·exact Za3 (r_vf (Zcs H (r_ke ⟨rfl,rfl⟩)))
 rintro _ _ _ ⟨rfl,rfl⟩;obtain⟨bm,hk,H0⟩:=Zax H;refine r_vf (r_nc (r_fo0 (r_ld 0 H0 rfl rfl ?_)));rcases hk with rfl|⟨rfl|rfl,rfl⟩
 ·refine r_inv (f:=335) (args:=#[ptr bm]) (by kernel_rfl) ?_;exact Zo5 H0.swap hi hh λp w2 hp S2 H2=>k p w2 hp S2 (Zaf (.inl rfl) H2.swap)
 ·refine r_inv (f:=458) (args:=#[ptr bm]) (by kernel_rfl) ?_;exact Zhg H0.swap hi λp w2 hp S2 H2=>k p w2 hp S2 (Zaf (.inr ⟨.inl rfl,rfl⟩) H2.swap)
 ·refine r_inv (f:=491) (args:=#[ptr bm]) (by kernel_rfl) ?_;exact Zn2 H0.swap hi λp w2 hp S2 H2=>k p w2 hp S2 (Zaf (.inr ⟨.inr rfl,rfl⟩) H2.swap)
end
end F33
namespace A40
open J31 J32 J34
variable {w:World}{L:List HProp}{K:KT}{b jo last:Nat}{xs:List Lv}
theorem Zwk {j t:Nat}(H:Holds w L) (hj:L[j]?=some (TabR b jo last xs)) (hl:xs.length<=1000) (k:∀ v w',Same w w'->Holds w' (SL nv 3 v (handles (λx=>x.tn==t) xs)::L)->K v w'):Cl prog 107 #[ptr b,nv t] w K:=by
 obtain⟨o,c,H1⟩:=Zb7 H hj;refine Tz107 ?_;unfold Vz107;refine r_new H1 λbt w1 S1 H2=>?_;replace H2:Holds w1 (blk bt 3 [nv t]::TbP b jo last (.slice o xs.length c)::RW cellsL 5 tLv (.slice o xs.length c) xs::L.eraseIdx j):=H2;refine r_mf (.func (.func 161) #[] #[ptr bt]) (by kernel_rfl) ?_;have H3:Holds w1 (TbP b jo last (.slice o xs.length c)::RW cellsL 5 tLv (.slice o xs.length c) xs::blk bt 3 [nv t]::L.eraseIdx j):=(by have h_:=Holds.ord 3 [1,2,0] H2 rfl;exact h_);refine Zhs (p:=λx=>x.tn==t) H3 (S4r.InG.own 0 rfl λ_=>rfl) hl (λx hx w2 M K3 H4 k3=>?_) λv w2 S2 H4=>?_
 ·refine r_inv (f:=161) (args:=#[.agg (cellsL x).toArray,ptr bt]) (by kernel_rfl) ?_;refine Tz161 ?_;unfold Vz161;refine r_new H4 λbx w4 S4 H5=>?_;replace H5:Holds w4 (blk bx tLv (cellsL x)::(M++(RW cellsL 5 tLv (.slice o xs.length c) xs::blk bt 3 [nv t]::L.eraseIdx j))):=H5;refine r_fo0 (r_fo0 (r_ld 0 H5 rfl rfl ?_));refine r_ld (M.length+2) H5 (t:=3) (cs:=[nv t]) ?_ rfl ?_
  ·rw[gF,gT (by omega),show M.length+1 - M.length=1 by omega];rfl
  refine r_eql ?_;have:=k3 _ S4 H5.drop;rw[show (x.tn==t)=(((x.tn:Nat):Int)==((t:Nat):Int)) by rw[Bool.eq_iff_iff];simp;omega] at this;exact this
 ·have H5:Holds w2 (TbP b jo last (.slice o xs.length c)::RW cellsL 5 tLv (.slice o xs.length c) xs::(SL nv 3 v (handles (λx=>x.tn==t) xs)::L).eraseIdx (j+1)):=(by have h_:=Holds.ord 4 [1,2,0] H4 rfl;exact h_);have H6:=Zb4 (L:=SL nv 3 v (handles (λx=>x.tn==t) xs)::L) (j:=j+1) (by rw[gF];exact hj) H5;rw[Zb0 (by rw[gF];exact hj)] at H6;exact k v w2 (S1.trans S2) H6
theorem Of_at {j t:Nat}(H:Holds w L) (hj:L[j]?=some (TabR b jo last xs)) (hl:xs.length<=1000) (k:∀ v w',Same w w'->Holds w' (SL nv 3 v (handles (λx=>x.cn==t) xs)::L)->K v w'):Cl prog 82 #[ptr b,nv t] w K:=by
 obtain⟨o,c,H1⟩:=Zb7 H hj;refine Tz82 ?_;unfold Vz82;refine r_new H1 λbt w1 S1 H2=>?_;replace H2:Holds w1 (blk bt 3 [nv t]::TbP b jo last (.slice o xs.length c)::RW cellsL 5 tLv (.slice o xs.length c) xs::L.eraseIdx j):=H2;refine r_mf (.func (.func 119) #[] #[ptr bt]) (by kernel_rfl) ?_;have H3:Holds w1 (TbP b jo last (.slice o xs.length c)::RW cellsL 5 tLv (.slice o xs.length c) xs::blk bt 3 [nv t]::L.eraseIdx j):=(by have h_:=Holds.ord 3 [1,2,0] H2 rfl;exact h_);refine Zhs (p:=λx=>x.cn==t) H3 (S4r.InG.own 0 rfl λ_=>rfl) hl (λx hx w2 M K3 H4 k3=>?_) λv w2 S2 H4=>?_
 ·refine r_inv (f:=119) (args:=#[.agg (cellsL x).toArray,ptr bt]) (by kernel_rfl) ?_;refine Tz119 ?_;unfold Vz119;refine r_new H4 λbx w4 S4 H5=>?_;replace H5:Holds w4 (blk bx tLv (cellsL x)::(M++(RW cellsL 5 tLv (.slice o xs.length c) xs::blk bt 3 [nv t]::L.eraseIdx j))):=H5;refine r_fo0 (r_fo0 (r_ld 0 H5 rfl rfl ?_));refine r_ld (M.length+2) H5 (t:=3) (cs:=[nv t]) ?_ rfl ?_
  ·rw[gF,gT (by omega),show M.length+1 - M.length=1 by omega];rfl
  refine r_eql ?_;have:=k3 _ S4 H5.drop;rw[show (x.cn==t)=(((x.cn:Nat):Int)==((t:Nat):Int)) by rw[Bool.eq_iff_iff];simp;omega] at this;exact this
 ·have H5:Holds w2 (TbP b jo last (.slice o xs.length c)::RW cellsL 5 tLv (.slice o xs.length c) xs::(SL nv 3 v (handles (λx=>x.cn==t) xs)::L).eraseIdx (j+1)):=(by have h_:=Holds.ord 4 [1,2,0] H4 rfl;exact h_);have H6:=Zb4 (L:=SL nv 3 v (handles (λx=>x.cn==t) xs)::L) (j:=j+1) (by rw[gF];exact hj) H5;rw[Zb0 (by rw[gF];exact hj)] at H6;exact k v w2 (S1.trans S2) H6
end A40
namespace F33
open Go.M31 J30 J31 J32
variable {w:World}{L:List HProp}{K:KT}
section
variable {s:Sx}{ts:List Tn}{n:Cf}{last m t:Nat}{acs:List Ac}{out B:List UInt8}{as_:List G40.Ak}{ys:List Px}{a:G40.Ak}
theorem Znk {t:Nat}{ys:List Px}:A40.handles (λx=>x.cn==0) (ys.map (rowP t))=ys.map (·.hd):=by
 unfold A40.handles;rw[List.filter_eq_self.2,List.map_map]
 ·rfl
 ·intro x hx;obtain⟨y,_,rfl⟩:=mem_map.1 hx;rfl
set_option maxHeartbeats 4000000 in
theorem Zs4 {e:Nat}(he:e≠0) (H:Holds w ((SvL s ts n 0 last acs out B (ys.map (rowP t)) as_ (livesF ys) ys m++L).set 4 (blk s.pa tPa (paC [] e)))) (hd:ys.Pairwise (λa b=>a.hd≠b.hd)) (h1:∀ y∈ys,1<=y.hd) (hl:ys.length<=100) (hts:ts.length<=16) (hm:m<=500)
  (ha:as_[t]?=some a) (hus:a.us=(ys.map (·.nd)).sum) (hu:a.us<=1099511627776)
  (k:∀ as' w',as'.length=as_.length->(∀ i x,as'[i]?=some x->i=t/\x.us=0\/i≠t/\as_[i]?=some x)->Same w w'->Holds w' (SvL { s with ov:=e } ts n 0 last acs out [] [] as' (livesF []) [] m++L)->K (.tuple #[]) w') :
  Cl prog 58 #[pt s.b,pt s.ln] w K:=by
 refine Tz58 ?_;unfold Vz58;obtain⟨p,v,hp,H2⟩:=Zaa (j:=3) H rfl;refine r_nc (r_fo0 (r_st 0 H2 rfl (by show 6 < 7;decide) rfl λw1 S1 H3=>?_))
 have H4:Holds w1 (SvL { s with ov:=e } ts n 0 last acs out [] (ys.map (rowP t)) as_ (livesF ys) ys m++L):=by
  have e1:cellsLn s.pa s.cb 0 p v true=cellsLn s.pa s.cb 0 p v (decide (e≠0)):=by rw[decide_eq_true he]
  replace H3:Holds w1 (blk s.ln tLn (cellsLn s.pa s.cb 0 p v true)::SF L42.tU8 v out::(((SvL s ts n 0 last acs out B (ys.map (rowP t)) as_ (livesF ys) ys m++L).set 4 (blk s.pa tPa (paC [] e))).eraseIdx 3)):=H3;rw[e1] at H3;exact Zcr (j:=3) (L:=(SvL s ts n 0 last acs out B (ys.map (rowP t)) as_ (livesF ys) ys m++L).set 4 (blk s.pa tPa (paC [] e))) rfl hp H3
 clear H2 H3 H;refine r_dr H4 λw2 S2 H5=>?_;refine r_nc (r_fo0 (r_ld 0 H5 rfl rfl ?_));obtain⟨p,v,hp,H6⟩:=Zaa (j:=3) H5 rfl;refine r_nc (r_fo0 (r_ld 0 H6 rfl rfl ?_));refine A40.Of_at (j:=6) (t:=0) H5 rfl (by rw[hS_];omega) λhv w3 S3 H7=>?_;rw[Znk] at H7;refine r_lnS 0 H7 rfl ?_;rw[hS_];have H8:Holds w3 (SvL { s with ov:=e } ts n 0 last acs out [] (ys.map (rowP t)) as_ (livesF ys) ys m++(SL nv 3 hv (ys.map (·.hd))::L)):=(by have h_:=Holds.ord 13 [1,2,3,4,5,6,7,8,9,10,11,12,0] (show Holds w3 (SL nv 3 hv (ys.map (·.hd))::(SvL { s with ov:=e } ts n 0 last acs out [] (ys.map (rowP t)) as_ (livesF ys) ys m++L)) from H7) rfl;exact h_)
 refine Zac (λx w'=>∃ (j:Nat) (as':List G40.Ak) (a':G40.Ak),j<=ys.length/\x=nv j/\as'[t]?=some a'/\a'.us=((ys.drop j).map (·.nd)).sum/\a'.us<=1099511627776/\as'.length=as_.length/\(∀ i,i≠t->as'[i]?=as_[i]?)/\Same w w'/\
  Holds w' (SvL { s with ov:=e } ts n 0 last acs out [] ((ys.drop j).map (rowP t)) as' (livesF (ys.drop j)) (ys.drop j) m++(SL nv 3 hv (ys.map (·.hd))::L))) (λx _=>ys.length - (intOf x).toNat)
  ⟨0,as_,a,by omega,rfl,ha,hus,hu,rfl,λ_ _=>rfl,S1.trans (S2.trans S3),H8⟩ ?_
 clear H4 H5 H6 H7 H8 S1 S2 S3;rintro _ _ w4 ⟨j,as',a',hj,rfl,ha',hus',hu',hal,hot,S,H⟩;refine r_lss (r_ifD (λh=>?_) λh=>?_)
 ·have hlt:j < ys.length:=by omega
  obtain⟨y,hy⟩:∃ y,ys[j]?=some y:=⟨_,gA hlt⟩
  have hdr:ys.drop j=y::ys.drop (j+1):=by
   obtain⟨h1,h2⟩:=gH.1 hy;rw[List.drop_eq_getElem_cons h1,h2]
  obtain⟨oa,sp,hv',H1⟩:=H.open 12 rfl;subst hv';refine Zbb 12 H1 rfl (by rw[hS_];exact hlt) (Nat.le_refl _) ?_;rintro b2 rfl;refine Zbn 12 H1 rfl (x:=y.hd) (by rw[hV_,hy];rfl) ?_;clear H1;rw[hdr] at hus' H;rw[hR_,List.sum_cons] at hus';have hym:=mem_of_getElem? hy
  have hpw:(y::ys.drop (j+1)).Pairwise (λa b=>a.hd≠b.hd):=by rw[<-hdr];exact hd.sublist (List.drop_sublist j ys)
  have hln:(y::ys.drop (j+1)).length<=900:=by rw[<-hdr,gS];omega
  have htl:t < as'.length:=(gH.1 ha').1;refine Zj3 (s:={ s with ov:=e }) (i:=0) (y:=y) (t:=t) (a:=a') H rfl hpw (h1 y hym) hln (by omega) (by omega) ha' (by omega) hu' λw5 S5 H5=>?_;refine Za7 (by omega) (r_ke ⟨⟨j+1,_,⟨a'.li,a'.us - y.nd,a'.pk⟩,by omega,rfl,List.getElem?_set_self htl,by show a'.us - y.nd=_;omega,by show a'.us - y.nd<=_;omega,by rw[hX_];exact hal,λi hi=>by rw[hY_ (Ne.symm hi)];exact hot i hi,S.trans S5,H5⟩,?_⟩);simp only[intOf,gC];omega
 ·obtain rfl:j=ys.length:=by omega
  rw[drop_length] at H hus';refine k as' w4 hal (λi x hi=>?_) S (Holds.dropAt H 12)
  by_cases e2:i=t
  ·subst e2;rw[ha'] at hi;obtain rfl:=Option.some.inj hi;exact .inl ⟨rfl,hus'⟩
  ·exact .inr ⟨e2,by rw[<-hot i e2];exact hi⟩
end
end F33
end Go.Proofs.YtgdfganaoehokaaGreatDoor
namespace Go.Proofs.YtgdfganaoehokaaGreatDoor
open Go Go.Vc Go.Proofs.Tryz
open Classical in
theorem Zs0 {w:World}{a:Value}{body:(Nat->Value)->Cur 1->Cur 1}(I:Nat->Value->World->Prop) (n0:Nat) (h0:I n0 a w)
  (h:∀ jb n x w (k:Cur 1),I n x w->(∀ m x' w',m < n->I m x' w'->k x' w')->body jb k x w):VLoop 1 [a] w body:=by
 refine Zac (λx w'=>∃ n,I n x w') (λx w'=>if h:∃ n,I n x w' then Classical.choose (Zc8 h) else 0) ⟨n0,h0⟩ ?_;intro jb x w1 hx;have e1:=Classical.choose_spec (Zc8 hx);refine h jb _ x w1 _ e1.1 λm x' w' hm hI=>⟨⟨m,hI⟩,?_⟩;have hx':∃ n,I n x' w':=⟨m,hI⟩;have e2:=Classical.choose_spec (Zc8 hx');show dite _ _ _ < dite _ _ _;rw[dif_pos hx,dif_pos hx'];exact Nat.lt_of_le_of_lt (e2.2 m hI) hm
attribute [local irreducible] Vc.Nc Vc.Ld Vc.LdA Vc.St Vc.StA Vc.Fo Vc.Iaa Vc.Ias Vc.Ixs Vc.Ixa Vc.Fd Vc.FdA Vc.Bp Vc.Bb Vc.Bn Vc.Up Vc.Ci Vc.Lns Vc.Lnl Vc.Ex Vc.Sst Vc.Ssl Vc.New Vc.Vif Vc.VJoin Vc.VLoop Vc.KE Vc.Dr Vc.Rk Vc.Cl Vc.Cx Vc.Inv Vc.Be Vc.Cv Vc.Cw Vc.Mf Vc.Sl Vc.Lk Vc.Bd Vc.Bs Vc.Ms Vc.Mm Vc.Mu Vc.Me Vc.Es Vc.Rg Vc.Nx Vc.Ta Vc.Ap Vc.Usd Vc.Ust Vc.Cp Vc.Ln Vc.Bc Vc.Bmin Vc.Bmax Vc.Bdel Vc.Bclr Vc.Pk
namespace F33
open Go.M31 J30 J31 J32
variable {w:World}{L:List HProp}{K:KT}
noncomputable def runF (ts:List Tn) (n:Cf):Nat->Qt->List UInt8->Qt × List UInt8 × Bool
 |0,q,B=>(q,B,false)
 |k+1,q,B=>if q.wt then (q,B,false) else match dec B with
  |.no e=>if e=3 then (q,B,false) else (q,[],true)
  |.ok f m=>runF ts n k (quiF ts n q f) (B.drop m)
theorem Zph {B:List UInt8}{f:Fr}{m:Nat}(h:dec B=.ok f m) (hB:B.length<=500):okFr f/\9<=m/\m<=B.length:=by
 unfold dec at h;split at h
 ·cases h
 split at h
 ·cases h
 rename_i h0 h1;split at h
 ·cases h
 split at h
 ·cases h
 split at h
 ·cases h
 rename_i h2 h3 h4;injection h with e1 e2;subst e1 e2;have:=Zgk (B.drop 1) 4;refine⟨⟨?_,?_,?_⟩,by omega,by omega⟩
 ·show cli (B.getD 0 0).toNat\/srv (B.getD 0 0).toNat
  by_cases g:cli (B.getD 0 0).toNat\/srv (B.getD 0 0).toNat
  ·exact g
  ·exact absurd g h1
 ·show numK (B.drop 1) 4<=4294967295;omega
 ·show ((B.take (9+numK (B.drop 5) 4)).drop 9).length<=500;rw[gS,gN];omega
def stuck (q:Qt) (B:List UInt8):Prop:=q.wt=true\/dec B=.no 3
theorem Zhp {ts:List Tn}{n:Cf}:∀ (k:Nat) (q:Qt) (B:List UInt8),B.length < k->B.length<=500->(runF ts n k q B).2.2=false->stuck (runF ts n k q B).1 (runF ts n k q B).2.1
 |0,q,B,h,_,_=>by omega
 |k+1,q,B,h,hB,ho=>by
  unfold runF at ho ⊢
  by_cases hw:q.wt=true
  ·rw[if_pos hw];exact .inl hw
  ·rw[if_neg hw] at ho ⊢
   cases hd:dec B with
   |no e=>
    rw[hd] at ho
    dsimp only at ho ⊢
    by_cases e3:e=3
    ·rw[if_pos e3];subst e3;exact .inr hd
    ·rw[if_neg e3] at ho;cases ho
   |ok f m=>
    rw[hd] at ho
    dsimp only at ho ⊢
    obtain⟨_,h1,h2⟩:=Zph hd hB;exact Zhp k _ _ (by rw[gS];omega) (by rw[gS];omega) ho
theorem Zm1 {ts:List Tn}{n:Cf}:∀ (k:Nat) (q:Qt) (B:List UInt8),(runF ts n k q B).2.1.length<=B.length
 |0,q,B=>Nat.le_refl _
 |k+1,q,B=>by
  unfold runF;split
  ·exact Nat.le_refl _
  ·split
   ·split
    ·exact Nat.le_refl _
    ·exact Nat.zero_le _
   ·refine Nat.le_trans (Zm1 k _ _) ?_;rw[gS];omega
noncomputable def usedR (r:Qt × List UInt8 × Bool) (i:Nat):Nat:=if r.2.2=true then 0 else if whoD r.1.acs=some (i:Int) then usedF r.1.xs else 0
section
variable {s:Sx}{ts:List Tn}{n:Cf}{wt last m t c:Nat}{B B':List UInt8}{as_:List G40.Ak}{ys:List Px}{a:G40.Ak}{q:Qt}
theorem Rp.cB (h:Rp ts n c q t wt last m B as_ ys a):Rp ts n c q t wt last m B' as_ ys a:=
 { al:=h.al,wf:=h.wf,who:=h.who,no:=h.no,tl:=h.tl,ta:=h.ta,tm:=h.tm,us:=h.us,ul:=h.ul,ll:=h.ll,xs:=h.xs,hd:=h.hd,ids:=h.ids,ok:=h.ok,en:=h.en,op:=h.op,la:=h.la,mm:=h.mm,ou:=h.ou,wq:=h.wq,asl:=h.asl,ot:=h.ot,sz:=h.sz,ln:=h.ln }
def OvR (s:Sx) (ts:List Tn) (n:Cf) (L:List HProp) (w:World):Prop:=
 ∃ (e last m:Nat) (acs:List Ac) (out:List UInt8) (as_:List G40.Ak),e≠0/\out.length<=200000/\as_.length=ts.length/\(∀ (i:Nat) x,as_[i]?=some x->x.us=0)/\
  Holds w (SvL { s with ov:=e } ts n 0 last acs out [] [] as_ (livesF []) [] m++L)
theorem Zk6 (hov:s.ov=0) (hst:stuck q B) (hB:B.length<=500) (hR:RepB s ts n c q B L w) (k:∀ w',Same w w'->RepB s ts n c q B L w'->K (.bool false) w'):Cl prog 31 #[pt s.b,pt s.ln] w K:=by
 obtain⟨t,wt,last,m,as_,ys,a,h,H⟩:=hR
 by_cases hw:wt=0
 rotate_left
 ·exact Zs3 H hw (k w (.refl w) ⟨t,wt,last,m,as_,ys,a,h,H⟩)
 subst hw
 have hd:dec B=.no 3:=by
  rcases hst with g|g
  ·have:=h.wq;rw[g] at this;cases this
  ·exact g
 refine Tz31 ?_;unfold Vz31;refine Zac (λx w'=>w=w'/\x=.bool false) (λ_ _=>0) ⟨rfl,rfl⟩ ?_;rintro _ _ _ ⟨rfl,rfl⟩;obtain⟨p,v,hp,H3⟩:=Zaa (j:=3) H rfl;refine Za0 (λx w'=>w=w'/\x=.bool true) ?_ ?_
 rotate_left
 ·exact r_nc (r_fo0 (r_ld 0 H3 rfl rfl (r_eql (r_vtE rfl (r_nc (r_fo0 (r_ld 0 H3 rfl (ov_of hov) (r_not (r_ke ⟨rfl,rfl⟩)))))))))
 rintro _ _ _ ⟨rfl,rfl⟩;refine r_vt (r_nc (r_fo0 (r_ld 0 H3 rfl rfl ?_)));have H4:=Zfg hov H;refine Zj4 H4 (by omega) λw2 S2 H5=>?_;rw[hd] at H5 ⊢;have H6:Holds w2 (SvL s ts n 0 last q.acs q.out B (ys.map (rowP t)) as_ (livesF ys) ys m++L):=Zge hov H5;refine Zdn (Zeq (Zet ?_));refine r_new H6 λfb w3 S3 H7=>?_;rw[Zaq] at H7;refine r_stA 0 H7 (vs:=cellsF fr0) rfl (Nat.le_refl 3) rfl rfl λw4 S4 H8=>?_;refine r_neq (r_vfN rfl (r_not (r_vt ?_)));exact k w4 (S2.trans (S3.trans S4)) ⟨t,0,last,m,as_,ys,a,h,H8.drop⟩
set_option maxHeartbeats 8000000 in
theorem Zty (hov:s.ov=0) (hK:Kn ts n) (hs:∀ t∈ts,szT t) (hU:J30.TabIn L) (hc:9*c+B.length<=540) (hB:B.length<=500) (hR:RepB s ts n c q B L w)
  (k:∀ z w',Same w w'->((runF ts n 600 q B).2.2=false/\∃ c',c'<=60/\RepB s ts n c' (runF ts n 600 q B).1 (runF ts n 600 q B).2.1 L w')\/((runF ts n 600 q B).2.2=true/\OvR s ts n L w')->K (.bool z) w') :
  Cl prog 31 #[pt s.b,pt s.ln] w K:=by
 generalize hr:runF ts n 600 q B=r at k;have hts2:=hK.t2;refine Tz31 ?_;unfold Vz31
 refine Zs0 (λnB x w'=>∃ (z:Bool) (q:Qt) (B:List UInt8) (c fu:Nat),x=.bool z/\nB=B.length/\9*c+B.length<=540/\B.length<=500/\B.length < fu/\runF ts n fu q B=r/\Same w w'/\RepB s ts n c q B L w') B.length
  ⟨false,q,B,c,600,rfl,rfl,hc,hB,by omega,hr,.refl w,hR⟩ ?_
 clear hR hr hc hB;rintro _ nB x w1 J ⟨z,q,B,c,fu,rfl,rfl,hc,hB,hfu,hr,S,t,wt,last,m,as_,ys,a,h,H⟩ hnext;obtain⟨g,rfl⟩:∃ g,fu=g+1:=⟨fu - 1,by omega⟩;have hal:=h.al;have hou:=h.ou;have hln:=h.ln;have hmm:=h.mm;have hul:=h.ul;have hll:=h.ll;rw[runF] at hr;obtain⟨p,v,hp,H3⟩:=Zaa (j:=3) H rfl
 by_cases hw:wt=0
 rotate_left
 ·have hqw:q.wt=true:=by rw[h.wq];simpa using hw
  rw[if_pos hqw] at hr;refine Za0 (λx w'=>w1=w'/\x=.bool false) ?_ ?_
  rotate_left
  ·exact r_nc (r_fo0 (r_ld 0 H3 rfl rfl (r_eql (r_vfE (by show ¬ (wt:Int)=0;omega) (r_ke ⟨rfl,rfl⟩)))))
  rintro _ _ _ ⟨rfl,rfl⟩;refine r_vf (k z w1 S (.inl ?_));rw[<-hr];exact⟨rfl,c,by omega,t,wt,last,m,as_,ys,a,h,H⟩
 subst hw
 have hqw:q.wt=false:=by rw[h.wq];rfl
 rw[if_neg (by rw[hqw];decide)] at hr;refine Za0 (λx w'=>w1=w'/\x=.bool true) ?_ ?_
 rotate_left
 ·exact r_nc (r_fo0 (r_ld 0 H3 rfl rfl (r_eql (r_vtE rfl (r_nc (r_fo0 (r_ld 0 H3 rfl (ov_of hov) (r_not (r_ke ⟨rfl,rfl⟩)))))))))
 rintro _ _ _ ⟨rfl,rfl⟩;refine r_vt (r_nc (r_fo0 (r_ld 0 H3 rfl rfl ?_)));refine Zj4 (Zfg hov H) (by omega) λw2 S2 H5=>?_;replace S:=S.trans S2;clear S2 H3 H
 cases hd:dec B with
 |no e=>
  rw[hd] at H5 hr
  dsimp only at hr
  by_cases e3:e=3
  ·subst e3;rw[if_pos rfl] at hr;have H6:Holds w2 (SvL s ts n 0 last q.acs q.out B (ys.map (rowP t)) as_ (livesF ys) ys m++L):=Zge hov H5;refine Zdn (Zeq (Zet ?_));refine r_new H6 λfb w3 S3 H7=>?_;rw[Zaq] at H7;refine r_stA 0 H7 (vs:=cellsF fr0) rfl (Nat.le_refl 3) rfl rfl λw4 S4 H8=>?_;refine r_neq (r_vfN rfl (r_not (r_vt (k z w4 (S.trans (S3.trans S4)) (.inl ?_)))));rw[<-hr];exact⟨rfl,c,by omega,t,0,last,m,as_,ys,a,h,H8.drop⟩
  ·rw[if_neg e3] at hr;have he:=Ztd hd
   have eV:nextV (.no e)=.tuple #[.agg (cellsF fr0).toArray,.bool false,nv e]:=by show (if e=3 then _ else _)=_;rw[if_neg e3]
   have eB:nextB B (.no e)=[]:=by show (if e=3 then _ else _)=_;rw[if_neg e3]
   have eE:nextE (.no e)=e:=by show (if e=3 then _ else _)=_;rw[if_neg e3]
   rw[eB,eE] at H5;rw[eV];have H6:Holds w2 ((SvL s ts n 0 last q.acs q.out B (ys.map (rowP t)) as_ (livesF ys) ys m++L).set 4 (blk s.pa tPa (paC [] e))):=Sat.push (L:=SvL s ts n 0 last q.acs q.out B (ys.map (rowP t)) as_ (livesF ys) ys m++L) 4 rfl H5;refine Zdn (Zeq (Zet ?_));refine r_new H6 λfb w3 S3 H7=>?_;rw[Zaq] at H7;refine r_stA 0 H7 (vs:=cellsF fr0) rfl (Nat.le_refl 3) rfl rfl λw4 S4 H8=>?_;refine r_neq (r_vtN (by omega) ?_);have H9:Holds w4 ((SvL s ts n 0 last q.acs q.out B (ys.map (rowP t)) as_ (livesF ys) ys m++L).set 4 (blk s.pa tPa (paC [] e))):=H8.drop;refine Zgc (j:=3) (jb:=0) (e:=e) (wt:=0) (pa:=s.pa) (cb:=s.cb) (out:=q.out) H9 rfl (by decide) (by omega) (by omega) (by omega) λw5 S5 H10=>?_
   refine Zs4 (t:=t) (a:=a) (e:=e) (by omega) (show Holds w5 ((SvL s ts n 0 last q.acs (q.out++encF ⟨69,0,[UInt8.ofNat e]⟩) B (ys.map (rowP t)) as_ (livesF ys) ys m++L).set 4 (blk s.pa tPa (paC [] e))) from H10) h.hd (λy hy=>(h.ok rfl y hy).h1) (by omega) hts2 (by omega) h.ta
    (by rw[h.us,h.xs,Zc3]) (by omega) λas' w6 hal' hus' S6 H11=>?_
   refine k true w6 (S.trans (S3.trans (S4.trans (S5.trans S6)))) (.inr ?_);rw[<-hr];refine⟨rfl,e,last,m,q.acs,_,as',by omega,?_,by rw[hal',h.asl],λi x hi=>?_,H11⟩
   ·rw[gD,Zby];show q.out.length+(9+1)<=_;omega
   ·rcases hus' i x hi with⟨_,g⟩|⟨g1,g2⟩
    ·exact g
    ·exact h.ot i x g2 g1
 |ok f mm=>
  rw[hd] at H5 hr
  dsimp only at hr
  obtain⟨hf,hm9,hml⟩:=Zph hd hB;have hf2:=hf.2.1;have hf3:=hf.2.2;have H6:Holds w2 (SvL s ts n 0 last q.acs q.out (B.drop mm) (ys.map (rowP t)) as_ (livesF ys) ys m++L):=Zge hov H5;refine Zdn (Zeq (Zet ?_));refine r_new H6 λfb w3 S3 H7=>?_;rw[Zaq] at H7;refine r_stA 0 H7 (vs:=cellsF f) rfl (Nat.le_refl 3) rfl rfl λw4 S4 H8=>?_;replace H8:Holds w4 (blk fb tFr (cellsF f)::(SvL s ts n 0 last q.acs q.out (B.drop mm) (ys.map (rowP t)) as_ (livesF ys) ys m++L)):=H8;refine r_neq (r_vfN rfl (r_not (r_vf ?_)));replace S:=S.trans (S3.trans S4);clear S3 S4 H5 H6 H7
  refine Za0 (λx w'=>∃ ab,x=pt ab/\Same w w'/\Holds w' (SvL s ts n 0 last (q.acs++[stepF ts q.acs f]) q.out (B.drop mm) (ys.map (rowP t)) as_ (livesF ys) ys m++(blk ab tAc (cellsA (stepF ts q.acs f))::blk fb tFr (cellsF f)::L))) ?_ ?_
  rotate_left
  ·refine r_dr H8 λw5 S5 H9=>?_;have hT:∀ {Q1 Q2 Q3 Q4 Q5 Q6 Q7 Q8 Q9 Q10 Q11 Q12:HProp},J33.TabZ true (Q1::Q2::Q3::Q4::Q5::Q6::Q7::Q8::Q9::Q10::Q11::Q12::L):=λ_=>hU.up.up.up.up.up.up.up.up.up.up.up.up;refine⟨?_,?_⟩
   ·obtain⟨p,v,hp,H10⟩:=Zaa (j:=4) H9 rfl;refine r_nc (r_fo0 (r_ld 0 H10 rfl rfl (r_ldA 0 H9 (cellsF f) rfl rfl rfl ?_)));refine Zma (j:=6) H9 rfl hT (J33.Asc.yes _) hf2 (by omega) (by omega) hs (by omega) h.wf h.who0 λw6 S6 H11=>?_;replace H11:Holds w6 (blk fb tFr (cellsF f)::(SvL s ts n 0 last (q.acs++[stepF ts q.acs f]) q.out (B.drop mm) (ys.map (rowP t)) as_ (livesF ys) ys m++L)):=H11;refine Za6 (Za5 ?_);refine r_new H11 λab w7 S7 H12=>?_;rw[Zcn] at H12;refine r_rk (r_ldA 1 H12 (cellsF f) rfl rfl rfl rfl) ?_;obtain⟨p,v,hp,H13⟩:=Zaa (j:=5) H12 rfl;refine r_rk (r_ld 0 H13 rfl rfl rfl) ?_;refine r_stA 0 H12 (vs:=cellsA (stepF ts q.acs f)) rfl (Nat.le_refl 8) rfl rfl λw8 S8 H14=>?_;refine r_ke ⟨ab,rfl,S.trans (S5.trans (S6.trans (S7.trans S8))),?_⟩;exact (by have h_:=Holds.ord 14 [2,3,4,5,6,7,8,9,10,11,12,13,0,1] (show Holds w8 (blk ab tAc (cellsA (stepF ts q.acs f))::blk fb tFr (cellsF f)::(SvL s ts n 0 last (q.acs++[stepF ts q.acs f]) q.out (B.drop mm) (ys.map (rowP t)) as_ (livesF ys) ys m++L)) from H14) rfl;exact h_)
   ·obtain⟨p,v,hp,H10⟩:=Zaa (j:=4) H9 rfl;refine r_nc (r_fo0 (r_ld 0 H10 rfl rfl (r_ldA 0 H9 (cellsF f) rfl rfl rfl ?_)));refine r_new H9 λab w6 S6 H11=>?_;rw[Zcn] at H11;refine r_rk (r_ldA 1 H11 (cellsF f) rfl rfl rfl rfl) ?_;obtain⟨p,v,hp,H12⟩:=Zaa (j:=5) H11 rfl;refine r_rk (r_ld 0 H12 rfl rfl rfl) ?_;refine Zma (j:=7) H11 rfl (J33.TabZ.up hT) (J33.Asc.yes _) hf2 (by omega) (by omega) hs (by omega) h.wf h.who0 λw7 S7 H13=>?_;refine Za6 (Za5 ?_);refine r_stA 0 H13 (vs:=cellsA (stepF ts q.acs f)) rfl (Nat.le_refl 8) rfl rfl λw8 S8 H14=>?_;refine r_ke ⟨ab,rfl,S.trans (S5.trans (S6.trans (S7.trans S8))),?_⟩;exact (by have h_:=Holds.ord 14 [2,3,4,5,6,7,8,9,10,11,12,13,0,1] (show Holds w8 (blk ab tAc (cellsA (stepF ts q.acs f))::blk fb tFr (cellsF f)::(SvL s ts n 0 last (q.acs++[stepF ts q.acs f]) q.out (B.drop mm) (ys.map (rowP t)) as_ (livesF ys) ys m++L)) from H14) rfl;exact h_)
  clear H8 S;rintro _ _ w5 ⟨ab,rfl,S,H9⟩;refine r_ldA 12 H9 (cellsA (stepF ts q.acs f)) rfl rfl rfl ?_;refine Ztw (B:=B.drop mm) hK h.cB (by omega) hf2 hf3 H9 λw6 S6 hR=>?_;obtain⟨t2,wt2,last2,m2,as2,ys2,a2,h2,H2⟩:=hR;have hdl:(B.drop mm).length=B.length - mm:=gS;refine r_ke (hnext (B.drop mm).length _ w6 (by omega) ⟨true,quiF ts n q f,B.drop mm,c+1,g,rfl,rfl,by omega,by omega,by omega,hr,S.trans S6,t2,wt2,last2,m2,as2,ys2,a2,h2,Holds.dropAt (Holds.dropAt H2 12) 12⟩)
end
end F33
end Go.Proofs.YtgdfganaoehokaaGreatDoor
namespace Go.Proofs.YtgdfganaoehokaaGreatDoor
open Go Go.Vc Go.Proofs.Tryz
theorem Holds.behind {w:World}{L:List HProp}{Q:HProp}(M:List HProp) (H:Holds w (Q::(M++L))):Holds w (M++Q::L):=
 Holds.unpack (Holds.swap (show Holds w (Q::Sat M::L) from Zbd (λg hg=>Sat.pack hg) H))
attribute [local irreducible] Vc.Nc Vc.Ld Vc.LdA Vc.St Vc.StA Vc.Fo Vc.Iaa Vc.Ias Vc.Ixs Vc.Ixa Vc.Fd Vc.FdA Vc.Bp Vc.Bb Vc.Bn Vc.Up Vc.Ci Vc.Lns Vc.Lnl Vc.Ex Vc.Sst Vc.Ssl Vc.New Vc.Vif Vc.VJoin Vc.VLoop Vc.KE Vc.Dr Vc.Rk Vc.Cl Vc.Cx Vc.Inv Vc.Be Vc.Cv Vc.Cw Vc.Mf Vc.Sl Vc.Lk Vc.Bd Vc.Bs Vc.Ms Vc.Mm Vc.Mu Vc.Me Vc.Es Vc.Rg Vc.Nx Vc.Ta Vc.Ap Vc.Usd Vc.Ust Vc.Cp Vc.Ln Vc.Bc Vc.Bmin Vc.Bmax Vc.Bdel Vc.Bclr Vc.Pk
namespace F33
open Go.M31 J30 J31 J32
variable {w:World}{L:List HProp}{K:KT}
structure ObsP (ts:List Tn) (n:Cf) (U:Nat->Nat) (as_:List G40.Ak) (ys:List Px) (out:List UInt8):Prop where
 al:as_.length=ts.length
 us:∀ (i:Nat) x,as_[i]?=some x->x.us=U i
 hd:ys.Pairwise (λa b=>a.hd≠b.hd)
 ln:ys.length<=64
 sz:∀ y∈ys,y.inp.length<=n.wi/\y.head.length<=4
 ou:out.length<=200000
def ObsR (b:Nat) (ts:List Tn) (n:Cf) (U:Nat->Nat) (L:List HProp) (w:World):Prop:=
 ∃ (s:Sx) (t wt last m:Nat) (B:List UInt8) (acs:List Ac) (out:List UInt8) (as_:List G40.Ak) (ys:List Px),s.b=b/\ObsP ts n U as_ ys out/\Holds w (SvL s ts n wt last acs out B (ys.map (rowP t)) as_ (livesF ys) ys m++L)
section
variable {s:Sx}{ts:List Tn}{n:Cf}{wt last m t c:Nat}{B:List UInt8}{as_:List G40.Ak}{ys:List Px}{a:G40.Ak}{q:Qt}{acs:List Ac}{out:List UInt8}{rows:List A40.Lv}{fv:Int->Option Value}
theorem RepB.obs {r:Qt × List UInt8 × Bool}(hr:r.2.2=false) (hc:c<=60) (hR:RepB s ts n c r.1 r.2.1 L w):ObsR s.b ts n (usedR r) L w:=by
 obtain⟨t,wt,last,m,as_,ys,a,h,H⟩:=hR;have hou:=h.ou;have hln:=h.ln;refine⟨s,t,wt,last,m,r.2.1,r.1.acs,r.1.out,as_,ys,rfl,⟨h.asl,λi x hi=>?_,h.hd,by omega,h.sz,by omega⟩,H⟩;unfold usedR;rw[if_neg (by rw[hr];decide)]
 by_cases e:whoD r.1.acs=some (i:Int)
 ·rw[if_pos e];have:=h.who _ e
  obtain rfl:i=t:=by omega
  rw[h.ta] at hi;obtain rfl:=Option.some.inj hi;exact h.us
 ·rw[if_neg e]
  cases hw:whoD r.1.acs with
  |none=>
   rw[(h.no hw).2,hV_] at hi
   cases e2:ts[i]? with
   |none=>rw[e2] at hi;cases hi
   |some tn=>rw[e2] at hi;obtain rfl:=Option.some.inj hi;rfl
  |some j=>
   have:=h.who _ hw;subst this;exact h.ot i x hi λg=>e (by rw[hw,g])
theorem OvR.obs {r:Qt × List UInt8 × Bool}(hr:r.2.2=true) (hR:OvR s ts n L w):ObsR s.b ts n (usedR r) L w:=by
 obtain⟨e,last,m,acs,out,as_,he,ho,hal,hus,H⟩:=hR;refine⟨{ s with ov:=e },0,0,last,m,[],acs,out,as_,[],rfl,⟨hal,λi x hi=>?_,List.Pairwise.nil,by decide,(λy hy=>by cases hy),ho⟩,H⟩;unfold usedR;rw[if_pos hr];exact hus i x hi
set_option maxHeartbeats 4000000 in
theorem Zgd (hK:Kn ts n) (hg:goodTs ts) (hs:∀ t∈ts,szT t) (hU:J30.TabIn L) (hsc:ts.length<=s.c){x:List UInt8}(hl:x.length<=500) (H:Holds w (NvL s ts n++L))
  (k:∀ p w',p<=500->Same w w'->ObsR s.b ts n (usedR (runF ts n 600 q0 x)) L w'->K (nv p) w'):Cl prog 9 #[pt s.b,iv 0,S_ x] w K:=by
 have hlen:=Zm1 (ts:=ts) (n:=n) 600 q0 x;have hstk:=Zhp (ts:=ts) (n:=n) 600 q0 x (by omega) hl;refine Tz9 ?_;unfold Vz9;refine Za0 (λx w'=>w=w'/\x=.bool false) ?_ ?_
 rotate_left
 ·refine Za3 (r_vf ?_);refine Tz28 ?_;unfold Vz28;exact r_geq (r_vtD (by decide) (r_lss (r_not (r_ke ⟨rfl,rfl⟩))))
 rintro _ _ _ ⟨rfl,rfl⟩;refine r_vf ?_;refine Zsg hK hg hU hs hsc H λs' w2 hsb hov S2 hR2=>?_
 have hR3:RepB s' ts n 0 q0 [] L w2:=by
  obtain⟨t,wt,last,m,B,as_,ys,a,h,hb,H⟩:=hR2
  have hw:wt=0:=by
   by_cases g:wt=0
   ·exact g
   ·have:q0.wt=true:=by rw[h.wq];simpa using g
    exact absurd this (by show ¬ (false=true);decide)
  obtain rfl:=hb.1 hw;exact⟨t,wt,last,m,as_,ys,a,h,H⟩
 clear H hR2;rw[<-hsb] at k ⊢;clear hsb hsc
 refine Zac (λy w'=>(w2=w'/\y=iv 0)\/(y=nv x.length/\x≠[]/\Same w w'/\(((runF ts n 600 q0 x).2.2=false/\∃ c',c'<=60/\RepB s' ts n c' (runF ts n 600 q0 x).1 (runF ts n 600 q0 x).2.1 L w')\/((runF ts n 600 q0 x).2.2=true/\OvR s' ts n L w'))))
  (λy _=>x.length - (intOf y).toNat) (.inl ⟨rfl,rfl⟩) ?_
 rintro _ y w3 (⟨rfl,rfl⟩|⟨rfl,hx0,S,hres⟩)
 ·obtain⟨t,wt,last,m,as_,ys,a,h,H⟩:=hR3;obtain⟨p,v,hp,H3⟩:=Zaa (j:=3) H rfl;refine r_nc (r_fo0 (r_ld 0 H3 rfl (ov_of hov) (r_not (r_vt ?_))));refine r_dr H λw4 S4 H4=>?_;obtain⟨p,v,hp,H5⟩:=Zaa (j:=3) H4 rfl;refine r_nc (r_fo0 (r_ld 0 H5 rfl rfl (q_D2 (m:=0) (Nat.zero_le _) ?_)));rw[List.drop_zero];refine Zjx (Zfg hov H4) (by show 0+x.length<=_;omega) λw5 S5 H6=>?_;replace H6:=Zge hov H6;rw[hO_] at H6;have hR5:RepB s' ts n 0 q0 x L w5:=⟨t,wt,last,m,as_,ys,a,h.cB,H6⟩;refine Zb1 (a:=0) (b:=x.length) (by omega) ?_;rw[Nat.zero_add];have S25:=S2.trans (S4.trans S5)
  by_cases hx0:x=[]
  ·subst hx0;refine Zk6 hov (.inr rfl) (by decide) hR5 λw6 S6 hR6=>?_
   have hr:runF ts n 600 q0 []=(q0,[],false):=by
    show (if q0.wt then _ else _)=_;rw[if_neg (by decide)];rfl
   refine r_not (r_vt (r_eql (r_vtE rfl (k 0 w6 (by decide) (S25.trans S6) ?_))));rw[hr];exact RepB.obs (r:=(q0,[],false)) rfl (by decide) hR6
  ·have hxl:x.length≠0:=λe=>hx0 (List.eq_nil_of_length_eq_zero e);refine Zty hov hK hs hU (by omega) hl hR5 λz w6 S6 hres=>?_;have hmu:∀ P:Prop,P->P/\x.length - (intOf (nv x.length)).toNat < x.length - (intOf (iv 0)).toNat:=λP hP=>⟨hP,by simp only[intOf,gC];show _ < x.length - 0;omega⟩;refine r_not (r_vif (λ_=>r_eql (r_vfE (by show ¬ (x.length:Int)=0;omega) (r_ke (hmu _ (.inr ⟨rfl,hx0,S25.trans S6,hres⟩))))) λ_=>r_ke (hmu _ (.inr ⟨rfl,hx0,S25.trans S6,hres⟩)))
 ·rcases hres with⟨hr,c',hc',hR⟩|⟨hr,hR⟩
  ·have hst:=hstk hr;generalize hrr:runF ts n 600 q0 x=r at hr hR hst hlen k;obtain⟨t,wt,last,m,as_,ys,a,h,H⟩:=hR;obtain⟨p,v,hp,H3⟩:=Zaa (j:=3) H rfl;refine r_nc (r_fo0 (r_ld 0 H3 rfl (ov_of hov) (r_not (r_vt ?_))));refine r_dr H λw4 S4 H4=>?_;obtain⟨p,v,hp,H5⟩:=Zaa (j:=3) H4 rfl;refine r_nc (r_fo0 (r_ld 0 H5 rfl rfl (q_D2 (Nat.le_refl _) ?_)));rw[drop_length];refine Zjx (Zfg hov H4) (by show r.2.1.length+0<=_;omega) λw5 S5 H6=>?_;rw[gU] at H6;replace H6:=Zge hov H6;refine Zb1 (a:=x.length) (b:=0) (by omega) ?_;refine Zk6 hov hst (by omega) ⟨t,wt,last,m,as_,ys,a,h,H6⟩ λw6 S6 hR6=>?_;exact r_not (r_vt (r_eql (r_vtE rfl (k x.length w6 hl (S.trans (S4.trans (S5.trans S6))) (RepB.obs hr hc' hR6)))))
  ·have hob:=OvR.obs hr hR;obtain⟨e,last,m,acs,out,as_,he,ho,hal,hus,H⟩:=hR;obtain⟨p,v,hp,H3⟩:=Zaa (j:=3) H rfl;refine r_nc (r_fo0 (r_ld 0 H3 (v:=.bool true) rfl (by show some (Value.bool (decide (e≠0)))=_;rw[decide_eq_true he]) (r_not (r_vf ?_))));exact k x.length w3 hl S hob
theorem OUsed {i:Nat}{x:G40.Ak}(H:Holds w (SvL s ts n wt last acs out B rows as_ fv ys m++L)) (hx:as_[i]?=some x) (k:∀ w',Same w w'->Holds w' (SvL s ts n wt last acs out B rows as_ fv ys m++L)->K (nv x.us) w'):Cl prog 11 #[pt s.b,nv i] w K:=by
 refine Tz11 ?_;unfold Vz11;refine Za3 (r_vf (r_nc (r_fo0 (r_ld 0 H rfl rfl ?_))));exact G40.Zok (j:=7) H rfl hx k
theorem OLeft {i:Nat}{tn:Tn}(H:Holds w (SvL s ts n wt last acs out B rows as_ fv ys m++L)) (htn:ts[i]?=some tn) (hst:stN tn<=1099511627776) (k:∀ w',Same w w'->Holds w' (SvL s ts n wt last acs out B rows as_ fv ys m++L)->K (nv (stN tn)) w'):Cl prog 105 #[pt s.b,nv i] w K:=by
 refine Tz105 ?_;unfold Vz105;refine Za3 (r_vf (r_nc (r_fo0 (r_ld 0 H rfl rfl ?_))));exact Zpi (j:=8) (x:=stN tn) H rfl (by rw[hV_,htn];rfl) hst k
theorem OCharged {i:Nat}(H:Holds w (SvL s ts n wt last acs out B rows as_ fv ys m++L)) (hi:i < ts.length) (k:K (iv 0) w):Cl prog 67 #[pt s.b,nv i] w K:=by
 refine Tz67 ?_;unfold Vz67;refine Za3 (r_vf (r_nc (r_fo0 (r_ld 0 H rfl rfl ?_))));refine Tz104 ?_;unfold Vz104;obtain⟨q,c,u,H1⟩:=Zea (j:=8) H rfl;refine Tz149 ?_;unfold Vz149;obtain⟨oq,sq,hq,_⟩:=H1.open 1 rfl;refine Zfz (r_vt (r_geq (r_vtD (by omega) (r_nc (r_fo0 (r_ld 0 H1 rfl rfl ?_))))));rw[hq];refine r_lnl (r_lss ?_);rw[decide_eq_true (by rw[hS_];omega)];refine r_not (r_vf (r_nc (r_fo0 (r_ld 0 H1 rfl rfl ?_))));exact Ztg 3 H1 rfl (x:=0) (by rw[List.getElem?_replicate_of_lt (by rw[hS_];exact hi)]) k
theorem OJobs {i:Nat}(H:Holds w (SvL s ts n wt last acs out B rows as_ fv ys m++L)) (hl:rows.length<=64) (k:∀ p w',p<=64->Same w w'->Holds w' (SvL s ts n wt last acs out B rows as_ fv ys m++L)->K (nv p) w'):Cl prog 69 #[pt s.b,nv i] w K:=by
 refine Tz69 ?_;unfold Vz69;refine Za3 (r_vf (r_nc (r_fo0 (r_ld 0 H rfl rfl ?_))));refine A40.By_at (j:=6) H rfl (by omega) λo cc w2 S2 H2=>r_lnl (k _ w2 ?_ S2 H2);unfold A40.handles;rw[hS_];exact Nat.le_trans (List.length_filter_le _ _) hl
theorem OSent {j:Nat}(H:Holds w (SvL s ts n wt last acs out B rows as_ fv ys m++L)) (ho:out.length<=200000) (k:∀ x w',Same w w'->Holds w' (SvL s ts n wt last acs out B rows as_ fv ys m++L)->K (S_ x) w'):Cl prog 71 #[pt s.b,nv j] w K:=by
 refine Tz71 ?_;unfold Vz71;refine Tz108 ?_;unfold Vz108;refine Za3 (r_vf (r_nc (r_fo0 (r_ld 0 H rfl rfl ?_))));refine r_lkD (t:=tM88) (kt:=tIw) (et:=79) (x:=.p none) (z:=.pointer none) (k:=(j:Int)) (by kernel_rfl) (by kernel_rfl) (by kernel_rfl) rfl 2 H rfl ?_
 by_cases e:j=0
 ·subst e;exact Za3 (r_vf (r_nc (r_fo0 (Zja (j:=3) H rfl (by omega) λw2 S2 H2=>k _ w2 S2 H2))))
 ·have:linesF s.ln (j:Int)=none:=by unfold linesF;rw[if_neg (by omega)]
  rw[this];exact Ziq (r_vt (k [] w (.refl w) H))
theorem OHeld {i:Nat}(H:Holds w (SvL s ts n wt last acs out B (ys.map (rowP t)) as_ (livesF ys) ys m++L)) (hd:ys.Pairwise (λa b=>a.hd≠b.hd)) (hl:ys.length<=64) (hsz:∀ y∈ys,y.inp.length<=n.wi/\y.head.length<=4) (hw:n.wi<=1048576)
  (k:∀ p w',p<=1000000000->Same w w'->Holds w' (SvL s ts n wt last acs out B (ys.map (rowP t)) as_ (livesF ys) ys m++L)->K (nv p) w'):Cl prog 106 #[pt s.b,nv i] w K:=by
 refine Tz106 ?_;unfold Vz106;refine Za3 (r_vf (r_nc (r_fo0 (r_ld 0 H rfl rfl ?_))));refine A40.Zwk (j:=6) H rfl (by rw[hS_];omega) λv w2 S2 H2=>?_
 have hmem:∀ h∈A40.handles (λx=>x.tn==i) (ys.map (rowP t)),∃ y∈ys,y.hd=h:=by
  intro h hh;unfold A40.handles at hh;obtain⟨x,hx,rfl⟩:=mem_map.1 hh;obtain⟨y,hy,rfl⟩:=mem_map.1 (List.mem_filter.1 hx).1;exact⟨y,hy,rfl⟩
 have hlen:(A40.handles (λx=>x.tn==i) (ys.map (rowP t))).length<=64:=by
  unfold A40.handles;rw[hS_];exact Nat.le_trans (List.length_filter_le _ _) (by rw[hS_];exact hl)
 generalize A40.handles (λx=>x.tn==i) (ys.map (rowP t))=hs at hmem hlen H2;refine r_lnS 0 H2 rfl ?_;refine Zam (λo x w'=>∃ j p:Nat,j<=hs.length/\x=nv j/\o=nv p/\p<=2000000*j/\Same w w'/\Holds w' (SL nv 3 v hs::(SvL s ts n wt last acs out B (ys.map (rowP t)) as_ (livesF ys) ys m++L))) (λ_ x _=>hs.length - (intOf x).toNat) ⟨0,0,by omega,rfl,rfl,by omega,S2,H2⟩ ?_;clear H H2 S2;rintro _ _ _ w3 ⟨j,p,hj,rfl,rfl,hp,S,H⟩;refine r_lss (r_ifD (λh=>?_) λh=>?_)
 ·have hlt:j < hs.length:=by omega
  obtain⟨hh,hhx⟩:∃ x,hs[j]?=some x:=⟨_,gA hlt⟩;obtain⟨y,hym,rfl⟩:=hmem hh (mem_of_getElem? hhx);obtain⟨iy,hy⟩:=getElem?_of_mem hym;obtain⟨z1,z2⟩:=hsz y hym;refine Ztg 0 H rfl hhx ?_;refine r_nc (r_fo0 (r_ld 1 H rfl rfl ?_));refine r_lkE (t:=tM89) (kt:=tIw) (et:=185) (x:=.p none) (z:=.pointer none) (by kernel_rfl) (by kernel_rfl) (by kernel_rfl) rfl 10 H rfl ?_;rw[Zf1 hy hd];have H5:=Zas (Holds.atK H 12 rfl hy);refine r_nc (r_fo0 (r_ld 0 H5 rfl rfl ?_));refine Zmy H5.swap (by omega) (by omega) λpp w4 hpp S4 H6=>?_;have H7:=Holds.putK (L:=SL nv 3 v hs::(SvL s ts n wt last acs out B (ys.map (rowP t)) as_ (livesF ys) ys m++L)) 12 rfl hy (Zb2 H6.swap);rw[Zb0 hy] at H7;replace H7:Holds w4 (SL nv 3 v hs::(SvL s ts n wt last acs out B (ys.map (rowP t)) as_ (livesF ys) ys m++L)):=H7;refine Zb1 (by omega) (Za7 (by omega) (r_ke ⟨⟨j+1,p+pp,by omega,rfl,rfl,by omega,S.trans S4,H7⟩,?_⟩));simp only[intOf,gC];omega
 ·exact k p w3 (by omega) S H.drop
end
end F33
namespace S42
open Go.M31 J31 J32 J34
variable {w:World}{L:List HProp}{K:KT}
def evOk (e:Et) (m:Nat):Prop:=(e.kd=1/\0<=e.cn/\e.cn < m/\0<=e.nn/\e.nn<=65536)\/(e.kd=2/\e.cn=0/\1<=e.nn/\e.nn<=65536)\/(e.kd=3/\0<=e.cn/\e.cn < m/\e.nn=0)
instance (e:Et) (m:Nat):Decidable (evOk e m):=by unfold evOk;infer_instance
def tickE (e:Et) (t:Int):Int:=if e.kd=2 then t+e.nn else t
def evE (m:Nat):Int->List Et->Int
 |_,[]=>0
 |t,e::r=>if ¬ evOk e m then 1 else if 65536 < tickE e t then 2 else evE m (tickE e t) r
def chkS (xs:List ByteArray) (es:List Et):Int:=if ∃ s∈xs,65536 < s.size then 2 else evE xs.length 0 es
theorem Znf {a a2 a3:Option Addr}{ts:List Tn}{xs:List ByteArray}{es:List Et}{c c2 c3:Nat}{n:Cn}{m:Nat}(H:Holds w L) (hT:TsIn L a ts) (hX:StIn L a2 xs) (hE:EtIn L a3 es) 
  (post:∀ b w',Same w w'->Holds w' L->(b=false->(∀ t∈ts,szT t)/\ts.length<=20/\xs.length<=6/\es.length<=60/\∀ s∈xs,s.size<=m)->K (.bool b) w') :
  Cl prog 4 #[.agg (cellsS a ts.length c n a2 xs.length c2 a3 es.length c3).toArray,nv m] w K:=by
 refine Tz4 ?_;unfold Vz4
 have hzT:(zeroP prog tT).cells.toList=[.string ⟨#[]⟩,.string ⟨#[]⟩,iv 0,iv 0,iv 0]:=by kernel_rfl
 have hzE:(zeroP prog tE).cells.toList=[iv 0,iv 0,iv 0]:=by kernel_rfl
 refine r_new H λbs w1 S1 H1=>?_;replace H1:Holds w1 (blk bs tS (cellsS a ts.length c n a2 xs.length c2 a3 es.length c3)::L):=H1;have S:=S1;clear H S1;have H:=H1;clear H1;refine Za0 (λx w'=>w1=w'/\∃ b:Bool,x=.bool b/\(b=false->ts.length<=20/\xs.length<=6/\es.length<=60)) ?_ ?_
 rotate_left
 ·repeat (first|refine r_fo0 ?_|refine r_lnl ?_|refine r_gtr ?_|refine r_ld 0 H rfl rfl ?_)
  refine r_ifD (λh=>r_ke ⟨rfl,true,rfl,λe=>by cases e⟩) λh=>?_
  repeat (first|refine r_fo0 ?_|refine r_lnl ?_|refine r_gtr ?_|refine r_ld 0 H rfl rfl ?_)
  refine r_ifD (λh=>r_ke ⟨rfl,true,rfl,λe=>by cases e⟩) λh1=>?_
  repeat (first|refine r_fo0 ?_|refine r_lnl ?_|refine r_gtr ?_|refine r_ld 0 H rfl rfl ?_)
  refine r_ifD (λh=>r_ke ⟨rfl,true,rfl,λe=>by cases e⟩) λh2=>?_
  repeat (first|refine r_fo0 ?_|refine r_gtr ?_|refine r_ld 0 H rfl rfl ?_)
  refine r_ifD (λh3=>?_) λh3=>?_
  ·repeat (first|refine r_fo0 ?_|refine r_ke ?_|refine r_leq ?_|refine r_ld 0 H rfl rfl ?_)
   exact⟨rfl,_,rfl,λe=>⟨by omega,by omega,by omega⟩⟩
  ·exact r_ke ⟨rfl,false,rfl,λe=>⟨by omega,by omega,by omega⟩⟩
 rintro _ _ _ ⟨rfl,b,rfl,hb⟩;refine r_vif (λh=>?_) λh=>?_
 ·exact post _ _ S H.drop (λe=>by cases e)
 have h20:=hb h
 repeat (first|refine r_fo0 ?_|refine r_lnl ?_|refine r_ld 0 H rfl rfl ?_)
 refine Zac (λx w'=>∃ i:Nat,i<=ts.length/\x=nv i/\(∀ q t,q < i->ts[q]?=some t->szT t)/\Same w w'/\Holds w' (blk bs tS (cellsS a ts.length c n a2 xs.length c2 a3 es.length c3)::L))
  (λx _=>ts.length - (intOf x).toNat) ⟨0,by omega,rfl,λq t hq=>by omega,S,H⟩ ?_
 clear H S;rintro _ _ w2 ⟨i,hi,rfl,g1,S,H⟩
 repeat (refine r_lss ?_)
 refine r_ifD (λh3=>?_) λh3=>?_
 ·have hlt:i < ts.length:=by omega
  obtain⟨t,ht⟩:∃ t,ts[i]?=some t:=⟨_,gA hlt⟩;refine r_ldT hT.up H ht hlt ?_;refine r_new H λbt w3 S3 H3=>?_;rw[hzT] at H3;refine r_stA 0 H3 (vs:=cellsT t) rfl (Nat.le_refl 5) rfl (Zb8 t) λw4 S4 H4=>?_;replace H4:Holds w4 (blk bt tT (cellsT t)::blk bs tS (cellsS a ts.length c n a2 xs.length c2 a3 es.length c3)::L):=H4;replace S:=(S.trans S3).trans S4;clear H H3 S3 S4;have H:=H4;clear H4;refine Za0 (λx w'=>w4=w'/\∃ b:Bool,x=.bool b/\(b=false->szT t)) ?_ ?_
  ·rintro _ _ _ ⟨rfl,b2,rfl,hb2⟩;refine r_vif (λe=>?_) λe=>?_
   ·exact post _ _ S H.drop.drop (λe=>by cases e)
   ·repeat (first|refine r_ke ?_|(refine Za7 (by omega) ?_))
    refine⟨⟨i+1,by omega,rfl,λq v hq hv=>?_,S,H.drop⟩,?_⟩
    ·rcases hU_ q i with h5|h5
     ·exact g1 q v h5 hv
     ·obtain rfl:q=i:=by omega
      rw[ht] at hv;obtain rfl:=Option.some.inj hv;exact hb2 e
    ·simp[nv,intOf];omega
  ·repeat (first|refine r_fo0 ?_|refine r_lns ?_|refine r_gtr ?_|refine r_ld 0 H rfl rfl ?_)
   refine r_ifD (λh5=>r_ke ⟨rfl,true,rfl,λe=>by cases e⟩) λh5=>?_
   repeat (first|refine r_fo0 ?_|refine r_ke ?_|refine r_lns ?_|refine r_gtr ?_|refine r_ld 0 H rfl rfl ?_)
   exact⟨rfl,_,rfl,λe=>⟨by omega,by have:=of_decide_eq_false e;omega⟩⟩
 ·obtain rfl:i=ts.length:=by omega
  have hall:∀ t∈ts,szT t:=λt ht=>by
   obtain⟨q,hq⟩:=getElem?_of_mem ht;exact g1 q t (gH.1 hq).1 hq
  repeat (first|refine r_fo0 ?_|refine r_lnl ?_|refine r_ld 0 H rfl rfl ?_)
  refine Zac (λx w'=>∃ i:Nat,i<=xs.length/\x=nv i/\(∀ q s,q < i->xs[q]?=some s->s.size<=m)/\w2=w') (λx _=>xs.length - (intOf x).toNat) ⟨0,by omega,rfl,λq t hq=>by omega,rfl⟩ ?_;rintro _ _ _ ⟨i,hi,rfl,g2,rfl⟩
  repeat (refine r_lss ?_)
  refine r_ifD (λh4=>?_) λh4=>?_
  ·have hlt:i < xs.length:=by omega
   obtain⟨s,hx⟩:∃ s,xs[i]?=some s:=⟨_,gA hlt⟩;refine Zjn hX.up H hx (v:=.string s) rfl hlt ?_
   repeat (first|refine r_lns ?_|refine r_gtr ?_)
   refine r_ifD (λh5=>?_) λh5=>?_
   ·exact post _ _ S H.drop (λe=>by cases e)
   ·repeat (first|refine r_ke ?_|(refine Za7 (by omega) ?_))
    refine⟨⟨i+1,by omega,rfl,λq v hq hv=>?_,rfl⟩,?_⟩
    ·rcases hU_ q i with h6|h6
     ·exact g2 q v h6 hv
     ·obtain rfl:q=i:=by omega
      rw[hx] at hv;obtain rfl:=Option.some.inj hv;omega
    ·simp[nv,intOf];omega
  ·obtain rfl:i=xs.length:=by omega
   have hall2:∀ s∈xs,s.size<=m:=λt ht=>by
    obtain⟨q,hq⟩:=getElem?_of_mem ht;exact g2 q t (gH.1 hq).1 hq
   repeat (first|refine r_fo0 ?_|refine r_lnl ?_|refine r_ld 0 H rfl rfl ?_)
   refine Zam (λk x w'=>∃ (i:Nat) (t:Int),i<=es.length/\x=nv i/\k=iv t/\0<=t/\t<=300*i/\Same w w'/\Holds w' (blk bs tS (cellsS a ts.length c n a2 xs.length c2 a3 es.length c3)::L)) (λ_ x _=>es.length - (intOf x).toNat) ⟨0,0,by omega,rfl,rfl,by omega,by omega,S,H⟩ ?_;clear H S;rintro _ _ _ w3 ⟨i,t,hi,rfl,rfl,h5,h6,S,H⟩
   repeat (refine r_lss ?_)
   refine r_ifD (λh7=>?_) λh7=>?_
   ·have hlt:i < es.length:=by omega
    obtain⟨e,he⟩:∃ e,es[i]?=some e:=⟨_,gA hlt⟩;refine r_ldG hE.up H he rfl hlt ?_;refine r_new H λbe w4 S4 H4=>?_;rw[hzE] at H4;refine r_stA 0 H4 (vs:=cellsE e) rfl (Nat.le_refl 3) rfl rfl λw5 S5 H5=>?_;replace H5:Holds w5 (blk be tE (cellsE e)::blk bs tS (cellsS a ts.length c n a2 xs.length c2 a3 es.length c3)::L):=H5;replace S:=(S.trans S4).trans S5;clear H H4 S4 S5;have H:=H5;clear H5;refine Za0 (λx w'=>w5=w'/\∃ b:Bool,x=.bool b) ?_ ?_
    rotate_left
    ·repeat (first|refine r_fo0 ?_|refine r_eql ?_|refine r_ld 0 H rfl rfl ?_)
     refine r_ifE (λh8=>?_) λh8=>r_ke ⟨rfl,_,rfl⟩
     repeat (first|refine r_fo0 ?_|refine r_gtr ?_|refine r_ld 0 H rfl rfl ?_)
     refine r_ifD (λh9=>?_) λh9=>r_ke ⟨rfl,_,rfl⟩
     repeat (first|refine r_fo0 ?_|refine r_ke ?_|refine r_leq ?_|refine r_ld 0 H rfl rfl ?_)
     exact⟨rfl,_,rfl⟩
    rintro _ _ _ ⟨rfl,b2,rfl⟩;refine r_vif (λ_=>?_) λ_=>?_
    ·exact post _ _ S H.drop.drop (λe=>by cases e)
    refine Za0 (λx w'=>w5=w'/\∃ b:Bool,x=.bool b/\(b=true->0 < e.nn/\e.nn<=300)) ?_ ?_
    rotate_left
    ·repeat (first|refine r_fo0 ?_|refine r_eql ?_|refine r_ld 0 H rfl rfl ?_)
     refine r_ifE (λh8=>?_) λh8=>r_ke ⟨rfl,_,rfl,λe=>by cases e⟩
     repeat (first|refine r_fo0 ?_|refine r_gtr ?_|refine r_ld 0 H rfl rfl ?_)
     refine r_ifD (λh9=>?_) λh9=>r_ke ⟨rfl,_,rfl,λe=>by cases e⟩
     repeat (first|refine r_fo0 ?_|refine r_ke ?_|refine r_leq ?_|refine r_ld 0 H rfl rfl ?_)
     exact⟨rfl,_,rfl,λe=>⟨h9,of_decide_eq_true e⟩⟩
    rintro _ _ _ ⟨rfl,b3,rfl,hb3⟩;refine r_vif (λhb4=>?_) λ_=>?_
    ·have:=hb3 hb4
     repeat (first|refine r_fo0 ?_|refine r_ke ?_|(refine Za7 (by omega) ?_)|(refine r_add (by omega) (by omega) ?_)|refine r_ld 0 H rfl rfl ?_)
     refine⟨⟨i+1,t+e.nn,by omega,rfl,rfl,by omega,by omega,S,H.drop⟩,?_⟩;simp[nv,intOf];omega
    ·repeat (first|refine r_ke ?_|(refine Za7 (by omega) ?_))
     refine⟨⟨i+1,t,by omega,rfl,rfl,by omega,by omega,S,H.drop⟩,?_⟩;simp[nv,intOf];omega
   ·repeat (refine r_gtr ?_)
    exact post _ _ S H.drop λ_=>⟨hall,h20.1,h20.2.1,h20.2.2,hall2⟩
end S42
namespace S43
open Go.M31 J30 J31 J32 J34 S42
variable {w:World}{L:List HProp}{K:KT}
theorem Znn {e:Et}{m:Nat}(H:Holds w L) (post:∀ w',Same w w'->Holds w' L->K (.bool (decide (evOk e m))) w'):Cl prog 40 #[.agg (cellsE e).toArray,nv m] w K:=by
 refine Tz40 ?_;unfold Vz40;refine r_new H λb w1 S1 H1=>?_;replace H1:Holds w1 (blk b tE (cellsE e)::L):=H1;have S:=S1;clear H S1;have H:=H1;clear H1
 have fin:∀ b:Bool,(b=true↔evOk e m)->K (.bool b) w1:=λb hb=>by
  rw[show b=decide (evOk e m) by rw[Bool.eq_iff_iff,hb,decide_eq_true_iff]];exact post _ S H.drop
 clear post;unfold evOk at fin;refine Za0 (λx w'=>w1=w'/\x=.bool (decide (0<=e.cn/\e.cn < m))) ?_ ?_
 rotate_left
 ·repeat (first|refine r_fo0 ?_|refine r_geq ?_|refine r_ld 0 H rfl rfl ?_)
  refine r_ifD (λh=>?_) λh=>r_ke ⟨rfl,by rw[decide_eq_false (by omega)]⟩
  repeat (first|refine r_fo0 ?_|refine r_ke ?_|refine r_lss ?_|refine r_ld 0 H rfl rfl ?_)
  exact⟨rfl,by congr 1;rw[Bool.eq_iff_iff,decide_eq_true_iff,decide_eq_true_iff];omega⟩
 rintro _ _ _ ⟨rfl,rfl⟩
 repeat (first|refine r_fo0 ?_|refine r_eql ?_|refine r_ld 0 H rfl rfl ?_)
 refine r_ifE (λh1=>?_) λh1=>?_
 ·refine r_ifD (λh2=>?_) λh2=>fin _ (by simp;omega)
  repeat (first|refine r_fo0 ?_|refine r_geq ?_|refine r_ld 0 H rfl rfl ?_)
  refine r_ifD (λh3=>?_) λh3=>fin _ (by simp;omega)
  repeat (first|refine r_fo0 ?_|refine r_leq ?_|refine r_ld 0 H rfl rfl ?_)
  exact fin _ (by rw[decide_eq_true_iff];omega)
 repeat (refine r_eql ?_)
 refine r_ifE (λh2=>?_) λh2=>?_
 ·repeat (first|refine r_fo0 ?_|refine r_eql ?_|refine r_ld 0 H rfl rfl ?_)
  refine r_ifE (λh3=>?_) λh3=>fin _ (by simp;omega)
  repeat (first|refine r_fo0 ?_|refine r_geq ?_|refine r_ld 0 H rfl rfl ?_)
  refine r_ifD (λh4=>?_) λh4=>fin _ (by simp;omega)
  repeat (first|refine r_fo0 ?_|refine r_leq ?_|refine r_ld 0 H rfl rfl ?_)
  exact fin _ (by rw[decide_eq_true_iff];omega)
 repeat (refine r_eql ?_)
 refine r_ifE (λh3=>?_) λh3=>fin _ (by simp;omega);refine r_ifD (λh4=>?_) λh4=>fin _ (by simp;omega)
 repeat (first|refine r_fo0 ?_|refine r_eql ?_|refine r_ld 0 H rfl rfl ?_)
 exact fin _ (by rw[beq_iff_eq];omega)
theorem Zl9 {e:Et}{m:Nat}(H:Holds w L) (post:∀ w',Same w w'->Holds w' L->K (.bool (decide (evOk e m))) w'):Cl prog 13 #[.agg (cellsE e).toArray,nv m] w K:=by
 refine Tz13 ?_;unfold Vz13;refine r_new H λb w1 S1 H1=>?_;replace H1:Holds w1 (blk b tE (cellsE e)::L):=H1;have S:=S1;clear H S1;have H:=H1;clear H1
 have fin:∀ b:Bool,(b=true↔evOk e m)->K (.bool b) w1:=λb hb=>by
  rw[show b=decide (evOk e m) by rw[Bool.eq_iff_iff,hb,decide_eq_true_iff]];exact post _ S H.drop
 clear post;unfold evOk at fin;refine Za0 (λx w'=>w1=w'/\x=.bool (decide (0<=e.cn/\e.cn < m))) ?_ ?_
 rotate_left
 ·repeat (first|refine r_fo0 ?_|refine r_geq ?_|refine r_ld 0 H rfl rfl ?_)
  refine r_ifD (λh=>?_) λh=>r_ke ⟨rfl,by rw[decide_eq_false (by omega)]⟩
  repeat (first|refine r_fo0 ?_|refine r_ke ?_|refine r_lss ?_|refine r_ld 0 H rfl rfl ?_)
  exact⟨rfl,by congr 1;rw[Bool.eq_iff_iff,decide_eq_true_iff,decide_eq_true_iff];omega⟩
 rintro _ _ _ ⟨rfl,rfl⟩
 repeat (first|refine r_fo0 ?_|refine r_eql ?_|refine r_ld 0 H rfl rfl ?_)
 refine r_ifE (λh1=>?_) λh1=>?_
 ·refine r_ifD (λh2=>?_) λh2=>fin _ (by simp;omega)
  repeat (first|refine r_fo0 ?_|refine r_geq ?_|refine r_ld 0 H rfl rfl ?_)
  refine r_ifD (λh3=>?_) λh3=>fin _ (by simp;omega)
  repeat (first|refine r_fo0 ?_|refine r_leq ?_|refine r_ld 0 H rfl rfl ?_)
  exact fin _ (by rw[decide_eq_true_iff];omega)
 repeat (first|refine r_fo0 ?_|refine r_eql ?_|refine r_ld 0 H rfl rfl ?_)
 refine r_ifE (λh2=>?_) λh2=>?_
 ·repeat (first|refine r_fo0 ?_|refine r_eql ?_|refine r_ld 0 H rfl rfl ?_)
  refine r_ifE (λh3=>?_) λh3=>fin _ (by simp;omega)
  repeat (first|refine r_fo0 ?_|refine r_geq ?_|refine r_ld 0 H rfl rfl ?_)
  refine r_ifD (λh4=>?_) λh4=>fin _ (by simp;omega)
  repeat (first|refine r_fo0 ?_|refine r_leq ?_|refine r_ld 0 H rfl rfl ?_)
  exact fin _ (by rw[decide_eq_true_iff];omega)
 repeat (first|refine r_fo0 ?_|refine r_eql ?_|refine r_ld 0 H rfl rfl ?_)
 refine r_ifE (λh3=>?_) λh3=>fin _ (by simp;omega);refine r_ifD (λh4=>?_) λh4=>fin _ (by simp;omega)
 repeat (first|refine r_fo0 ?_|refine r_eql ?_|refine r_ld 0 H rfl rfl ?_)
 exact fin _ (by rw[beq_iff_eq];omega)
theorem Zoo {s:ByteArray}(k:K (.bool (decide (65536 < (s.size:Int)))) w):Cl prog 39 #[.string s] w K:=by
 refine Tz39 ?_;unfold Vz39
 repeat (first|refine r_lns ?_|refine r_gtr ?_)
 exact k
theorem Zi0 {a:Option Addr}{xs:List ByteArray}{c:Nat}(H:Holds w L) (hX:StIn L a xs) (hl:xs.length<=1000) (post:K (.bool (decide (∃ s∈xs,65536 < s.size))) w) :
  Cl prog 38 #[.slice a xs.length c,.func (.func 39) #[] #[]] w K:=by
 refine Tz38 ?_;unfold Vz38;refine Tz64 ?_;unfold Vz64
 repeat (refine r_lnl ?_)
 refine Zac (λx w'=>∃ i:Nat,i<=xs.length/\x=nv i/\(∀ q s,q < i->xs[q]?=some s->s.size<=65536)/\w=w') (λx _=>xs.length - (intOf x).toNat) ⟨0,by omega,rfl,λq t hq=>by omega,rfl⟩ ?_;rintro _ _ _ ⟨i,hi,rfl,g2,rfl⟩
 repeat (refine r_lss ?_)
 refine r_ifD (λh4=>?_) λh4=>?_
 ·have hlt:i < xs.length:=by omega
  obtain⟨s,hx⟩:∃ s,xs[i]?=some s:=⟨_,gA hlt⟩;refine Zjn hX H hx (v:=.string s) rfl hlt ?_;refine r_inv (f:=39) (args:=#[.string s]) (by kernel_rfl) (Zoo ?_);refine r_ifD (λh5=>?_) λh5=>?_
  ·repeat (refine r_geq ?_)
   rw[show (decide ((0:Int)<=(i:Int)))=decide (∃ s∈xs,65536 < s.size) by
    rw[Bool.eq_iff_iff,decide_eq_true_iff,decide_eq_true_iff]
    exact⟨λ_=>⟨s,mem_of_getElem? hx,by omega⟩,λ_=>by omega⟩]
   exact post
  ·repeat (first|refine r_ke ?_|(refine Za7 (by omega) ?_))
   refine⟨⟨i+1,by omega,rfl,λq v hq hv=>?_,rfl⟩,?_⟩
   ·rcases hU_ q i with h6|h6
    ·exact g2 q v h6 hv
    ·obtain rfl:q=i:=by omega
     rw[hx] at hv;obtain rfl:=Option.some.inj hv;omega
   ·simp[nv,intOf];omega
 ·obtain rfl:i=xs.length:=by omega
  repeat (refine r_geq ?_)
  rw[show (decide ((0:Int)<=-1))=decide (∃ s∈xs,65536 < s.size) by
   rw[Bool.eq_iff_iff,decide_eq_true_iff,decide_eq_true_iff];refine⟨λh=>by omega,λ⟨s,hs,hb⟩=>?_⟩;obtain⟨q,hq⟩:=getElem?_of_mem hs;have:=g2 q s (gH.1 hq).1 hq
   omega]
  exact post
theorem Zmm {m:Nat}{t:Int}{e:Et}{r:List Et}:evE m t (e::r)=if ¬ evOk e m then 1 else if 65536 < tickE e t then 2 else evE m (tickE e t) r:=rfl
def ChkS (ts:List Tn) (n:Cn) (xs:List ByteArray) (es:List Et) (e:Int):Prop:=(ChkC ts n e/\e≠0)\/(ChkC ts n 0/\e=chkS xs es)
theorem Zsh {ts:List Tn}{n:Cn}{xs:List ByteArray}{es:List Et}{e e':Int}(h:ChkS ts n xs es e) (h':ChkS ts n xs es e'):e=e':=by
 rcases h with⟨a1,a2⟩|⟨a1,a2⟩ <;> rcases h' with⟨b1,b2⟩|⟨b1,b2⟩
 ·exact Zf8 a1 b1
 ·exact (a2 (Zf8 a1 b1)).elim
 ·exact (b2 (Zf8 b1 a1)).elim
 ·rw[a2,b2]
section
variable {a a2 a3:Option Addr}{ts:List Tn}{xs:List ByteArray}{es:List Et}{c c2 c3:Nat}{n:Cn}
theorem Check_spec (H:Holds w L) (hT:TsIn L a ts) (hX:StIn L a2 xs) (hE:EtIn L a3 es) (hU:TabIn L) (hs:∀ t∈ts,szT t) (hc:ts.length<=c) (hx6:xs.length<=6) (he:es.length<=60)
  (post:∀ e w',Same w w'->Holds w' L->ChkS ts n xs es e->K (iv e) w'):Cl prog 17 #[.agg (cellsS a ts.length c n a2 xs.length c2 a3 es.length c3).toArray] w K:=by
 refine Tz17 ?_;unfold Vz17
 have hzE:(zeroP prog tE).cells.toList=[iv 0,iv 0,iv 0]:=by kernel_rfl
 refine r_new H λbs w1 S1 H1=>?_;replace H1:Holds w1 (blk bs tS (cellsS a ts.length c n a2 xs.length c2 a3 es.length c3)::L):=H1;refine r_fo0 ?_;refine r_ldA 0 H1 (cellsC a ts.length c n) rfl rfl rfl ?_;refine J33.Config_spec H1 hT.up hU.up hs hc λe w2 S2 H2 hk=>?_;have S:=S1.trans S2;clear H H1 S1 S2;have H:=H2;clear H2
 repeat (refine r_neq ?_)
 refine r_ifN (λh=>?_) λh=>?_
 ·exact post e _ S H.drop (.inl ⟨hk,h⟩)
 have hg0:ChkC ts n 0:=by rw[<-h];exact hk
 repeat (first|refine r_fo0 ?_|refine r_ld 0 H rfl rfl ?_)
 refine Zi0 H hX.up (by omega) ?_;refine Za0 (λx w'=>w2=w'/\x=.bool (decide (∃ s∈xs,65536 < s.size))) ?_ ?_
 rotate_left
 ·repeat (first|refine r_fo0 ?_|refine r_lnl ?_|refine r_gtr ?_|refine r_ld 0 H rfl rfl ?_|((with_reducible refine r_vfD ?h ?_);(case h=>omega)))
  refine r_ifD (λh1=>r_ke ⟨rfl,by rw[decide_eq_true h1]⟩) λh1=>?_
  repeat (first|refine r_fo0 ?_|refine r_ke ?_|refine r_lnl ?_|refine r_gtr ?_|refine r_ld 0 H rfl rfl ?_)
  exact⟨rfl,by rw[decide_eq_false h1,decide_eq_false (by omega)]⟩
 rintro _ _ _ ⟨rfl,rfl⟩;refine r_ifD (λh1=>?_) λh1=>?_
 ·exact post 2 _ S H.drop (.inr ⟨hg0,by unfold chkS;rw[if_pos h1]⟩)
 have hch:chkS xs es=evE xs.length 0 es:=by unfold chkS;rw[if_neg h1]
 repeat (first|refine r_fo0 ?_|refine r_lnl ?_|refine r_ld 0 H rfl rfl ?_)
 refine Zam (λk x w'=>∃ (i:Nat) (t:Int),i<=es.length/\x=nv i/\k=iv t/\0<=t/\t<=65536/\evE xs.length t (es.drop i)=evE xs.length 0 es/\Same w w'/\Holds w' (blk bs tS (cellsS a ts.length c n a2 xs.length c2 a3 es.length c3)::L)) (λ_ x _=>es.length - (intOf x).toNat) ⟨0,0,by omega,rfl,rfl,by omega,by omega,rfl,S,H⟩ ?_;clear H S;rintro _ _ _ w3 ⟨i,t,hi,rfl,rfl,h5,h6,hev,S,H⟩
 repeat (refine r_lss ?_)
 refine r_ifD (λh7=>?_) λh7=>?_
 ·have hlt:i < es.length:=by omega
  obtain⟨e,hei⟩:∃ e,es[i]?=some e:=⟨_,gA hlt⟩
  have hdrop:es.drop i=e::es.drop (i+1):=by
   rw[List.drop_eq_getElem_cons hlt];obtain⟨_,h4⟩:=gH.1 hei;rw[h4]
  rw[hdrop,Zmm] at hev;refine r_ldG hE.up H hei rfl hlt ?_;refine r_new H λbe w4 S4 H4=>?_;rw[hzE] at H4;refine r_stA 0 H4 (vs:=cellsE e) rfl (Nat.le_refl 3) rfl rfl λw5 S5 H5=>?_;replace H5:Holds w5 (blk be tE (cellsE e)::blk bs tS (cellsS a ts.length c n a2 xs.length c2 a3 es.length c3)::L):=H5;replace S:=(S.trans S4).trans S5;clear H H4 S4 S5;have H:=H5;clear H5;refine r_ldA 0 H (cellsE e) rfl rfl rfl ?_
  repeat (first|refine r_fo0 ?_|refine r_lnl ?_|refine r_ld 1 H rfl rfl ?_)
  refine Znn H λw6 S6 H6=>?_;replace S:=S.trans S6;clear H S6;have H:=H6;clear H6;refine r_not ?_;refine r_vif (λhn=>?_) λhn=>?_
  ·have hno:¬ evOk e xs.length:=λh=>by simp[h] at hn
   rw[if_pos hno] at hev;exact post 1 _ S H.drop.drop (.inr ⟨hg0,by rw[hch,<-hev]⟩)
  have hok:evOk e xs.length:=by simpa using hn
  rw[if_neg (λh=>h hok)] at hev
  have hb:0<=tickE e t/\tickE e t<=131072:=by
   unfold tickE;unfold evOk at hok
   split <;> omega
  refine Za0 (λx w'=>w6=w'/\x=iv (tickE e t)) ?_ ?_
  rotate_left
  ·repeat (first|refine r_fo0 ?_|refine r_eql ?_|refine r_ld 0 H rfl rfl ?_)
   refine r_ifE (λh8=>?_) λh8=>?_
   ·have hb2:tickE e t=t+e.nn:=by unfold tickE;rw[if_pos h8]
    rw[hb2] at hb
    repeat (first|refine r_fo0 ?_|refine r_ke ?_|(refine r_add (by omega) (by omega) ?_)|refine r_ld 0 H rfl rfl ?_)
    exact⟨rfl,by rw[hb2]⟩
   ·have hb2:tickE e t=t:=by unfold tickE;rw[if_neg h8]
    exact r_ke ⟨rfl,by rw[hb2]⟩
  rintro _ _ _ ⟨rfl,rfl⟩
  repeat (refine r_gtr ?_)
  refine r_ifD (λh8=>?_) λh8=>?_
  ·rw[if_pos (by omega)] at hev;exact post 2 _ S H.drop.drop (.inr ⟨hg0,by rw[hch,<-hev]⟩)
  ·rw[if_neg (by omega)] at hev
   repeat (first|refine r_ke ?_|(refine Za7 (by omega) ?_))
   refine⟨⟨i+1,_,by omega,rfl,rfl,hb.1,by omega,hev,S,H.drop⟩,?_⟩;simp[nv,intOf];omega
 ·obtain rfl:i=es.length:=by omega
  rw[drop_length] at hev;exact post 0 _ S H.drop (.inr ⟨hg0,by rw[hch,<-hev];rfl⟩)
theorem Zkn (H:Holds w L) (hT:TsIn L a ts) (hX:StIn L a2 xs) (hE:EtIn L a3 es) (hs:∀ t∈ts,szT t) (hc:ts.length<=c) (hx6:xs.length<=6) (he:es.length<=60)
  (post:∀ e w',Same w w'->Holds w' L->ChkS ts n xs es e->K (iv e) w'):Cl prog 5 #[.agg (cellsS a ts.length c n a2 xs.length c2 a3 es.length c3).toArray] w K:=by
 refine Tz5 ?_;unfold Vz5
 have hzE:(zeroP prog tE).cells.toList=[iv 0,iv 0,iv 0]:=by kernel_rfl
 refine r_new H λbs w1 S1 H1=>?_;replace H1:Holds w1 (blk bs tS (cellsS a ts.length c n a2 xs.length c2 a3 es.length c3)::L):=H1;refine r_fo0 ?_;refine r_ldA 0 H1 (cellsC a ts.length c n) rfl rfl rfl ?_;refine J32.Config_spec H1 hT.up hs hc λe w2 S2 H2 hk=>?_;have S:=S1.trans S2;clear H H1 S1 S2;have H:=H2;clear H2
 repeat (refine r_neq ?_)
 refine r_ifN (λh=>?_) λh=>?_
 ·exact post e _ S H.drop (.inl ⟨hk,h⟩)
 have hg0:ChkC ts n 0:=by rw[<-h];exact hk
 refine Za0 (λx w'=>w2=w'/\x=.bool false) ?_ ?_
 rotate_left
 ·repeat (first|refine r_fo0 ?_|refine r_ke ?_|refine r_lnl ?_|refine r_gtr ?_|refine r_ld 0 H rfl rfl ?_|((with_reducible refine r_vfD ?h ?_);(case h=>omega)))
  exact⟨rfl,by rw[decide_eq_false (by omega)]⟩
 rintro _ _ _ ⟨rfl,rfl⟩
 repeat (first|refine r_fo0 ?_|refine r_lnl ?_|(with_reducible refine r_vf ?_)|refine r_ld 0 H rfl rfl ?_)
 refine Zac (λx w'=>∃ i:Nat,i<=xs.length/\x=nv i/\(∀ q s,q < i->xs[q]?=some s->s.size<=65536)/\w2=w') (λx _=>xs.length - (intOf x).toNat) ⟨0,by omega,rfl,λq t hq=>by omega,rfl⟩ ?_;rintro _ _ _ ⟨i,hi,rfl,g2,rfl⟩
 repeat (refine r_lss ?_)
 refine r_ifD (λh4=>?_) λh4=>?_
 ·have hlt:i < xs.length:=by omega
  obtain⟨s,hx⟩:∃ s,xs[i]?=some s:=⟨_,gA hlt⟩;refine Zjn hX.up H hx (v:=.string s) rfl hlt ?_
  repeat (first|refine r_lns ?_|refine r_gtr ?_)
  refine r_ifD (λh5=>?_) λh5=>?_
  ·exact post 2 _ S H.drop (.inr ⟨hg0,by unfold chkS;rw[if_pos ⟨s,mem_of_getElem? hx,by omega⟩]⟩)
  ·repeat (first|refine r_ke ?_|(refine Za7 (by omega) ?_))
   refine⟨⟨i+1,by omega,rfl,λq v hq hv=>?_,rfl⟩,?_⟩
   ·rcases hU_ q i with h6|h6
    ·exact g2 q v h6 hv
    ·obtain rfl:q=i:=by omega
     rw[hx] at hv;obtain rfl:=Option.some.inj hv;omega
   ·simp[nv,intOf];omega
 obtain rfl:i=xs.length:=by omega
 have h1:¬ ∃ s∈xs,65536 < s.size:=λ⟨s,hs,hb⟩=>by
  obtain⟨q,hq⟩:=getElem?_of_mem hs;have:=g2 q s (gH.1 hq).1 hq;omega
 have hch:chkS xs es=evE xs.length 0 es:=by unfold chkS;rw[if_neg h1]
 repeat (first|refine r_fo0 ?_|refine r_lnl ?_|refine r_ld 0 H rfl rfl ?_)
 refine Zam (λk x w'=>∃ (i:Nat) (t:Int),i<=es.length/\x=nv i/\k=iv t/\0<=t/\t<=65536/\evE xs.length t (es.drop i)=evE xs.length 0 es/\Same w w'/\Holds w' (blk bs tS (cellsS a ts.length c n a2 xs.length c2 a3 es.length c3)::L)) (λ_ x _=>es.length - (intOf x).toNat) ⟨0,0,by omega,rfl,rfl,by omega,by omega,rfl,S,H⟩ ?_;clear H S g2 hi h4;rintro _ _ _ w3 ⟨i,t,hi,rfl,rfl,h5,h6,hev,S,H⟩
 repeat (refine r_lss ?_)
 refine r_ifD (λh7=>?_) λh7=>?_
 ·have hlt:i < es.length:=by omega
  obtain⟨e,hei⟩:∃ e,es[i]?=some e:=⟨_,gA hlt⟩
  have hdrop:es.drop i=e::es.drop (i+1):=by
   rw[List.drop_eq_getElem_cons hlt];obtain⟨_,h4⟩:=gH.1 hei;rw[h4]
  rw[hdrop,Zmm] at hev;refine r_ldG hE.up H hei rfl hlt ?_;refine r_new H λbe w4 S4 H4=>?_;rw[hzE] at H4;refine r_stA 0 H4 (vs:=cellsE e) rfl (Nat.le_refl 3) rfl rfl λw5 S5 H5=>?_;replace H5:Holds w5 (blk be tE (cellsE e)::blk bs tS (cellsS a ts.length c n a2 xs.length c2 a3 es.length c3)::L):=H5;replace S:=(S.trans S4).trans S5;clear H H4 S4 S5;have H:=H5;clear H5;refine r_ldA 0 H (cellsE e) rfl rfl rfl ?_
  repeat (first|refine r_fo0 ?_|refine r_lnl ?_|refine r_ld 1 H rfl rfl ?_)
  refine Zl9 H λw6 S6 H6=>?_;replace S:=S.trans S6;clear H S6;have H:=H6;clear H6;refine r_not ?_;refine r_vif (λhn=>?_) λhn=>?_
  ·have hno:¬ evOk e xs.length:=λh=>by simp[h] at hn
   rw[if_pos hno] at hev;exact post 1 _ S H.drop.drop (.inr ⟨hg0,by rw[hch,<-hev]⟩)
  have hok:evOk e xs.length:=by simpa using hn
  rw[if_neg (λh=>h hok)] at hev
  have hb:0<=tickE e t/\tickE e t<=131072:=by
   unfold tickE;unfold evOk at hok
   split <;> omega
  refine Za0 (λx w'=>w6=w'/\x=iv (tickE e t)) ?_ ?_
  rotate_left
  ·repeat (first|refine r_fo0 ?_|refine r_eql ?_|refine r_ld 0 H rfl rfl ?_)
   refine r_ifE (λh8=>?_) λh8=>?_
   ·have hb2:tickE e t=t+e.nn:=by unfold tickE;rw[if_pos h8]
    rw[hb2] at hb
    repeat (first|refine r_fo0 ?_|refine r_ke ?_|(refine r_add (by omega) (by omega) ?_)|refine r_ld 0 H rfl rfl ?_)
    exact⟨rfl,by rw[hb2]⟩
   ·have hb2:tickE e t=t:=by unfold tickE;rw[if_neg h8]
    exact r_ke ⟨rfl,by rw[hb2]⟩
  rintro _ _ _ ⟨rfl,rfl⟩
  repeat (refine r_gtr ?_)
  refine r_ifD (λh8=>?_) λh8=>?_
  ·rw[if_pos (by omega)] at hev;exact post 2 _ S H.drop.drop (.inr ⟨hg0,by rw[hch,<-hev]⟩)
  ·rw[if_neg (by omega)] at hev
   repeat (first|refine r_ke ?_|(refine Za7 (by omega) ?_))
   refine⟨⟨i+1,_,by omega,rfl,rfl,hb.1,by omega,hev,S,H.drop⟩,?_⟩;simp[nv,intOf];omega
 ·obtain rfl:i=es.length:=by omega
  rw[drop_length] at hev;exact post 0 _ S H.drop (.inr ⟨hg0,by rw[hch,<-hev];rfl⟩)
end
end S43
namespace F33
open Go.M31 J30 J31 J32
variable {w:World}{L:List HProp}{K:KT}
abbrev tWa:Nat:=57
abbrev tRp4:Nat:=36
abbrev tI4:Nat:=3
abbrev tS4:Nat:=9
theorem Zbh {i o z b:Nat}{t:TypeId}{cs:List Value}{f:Bool}(H:Holds w L) (hi:L[i]?=some (blk b t cs)) (hc:cs[o]?=some (nv z)) (hz:z<=1000000) (k:∀ d w',d<=z+1->Same w w'->Holds w' (L.set i (blk b t (cs.set o (nv d))))->K (.tuple #[]) w') :
  Cl prog 70 #[.pointer (some ⟨b,o,none⟩),.bool f] w K:=by
 refine Tz70 ?_;unfold Vz70
 cases f with
 |true=>
  refine r_vt (r_nc (r_ld i H hi hc (Za7 (by omega) (r_nc (r_st i H hi (gH.1 hc).1 rfl λw1 S1 H1=>?_)))));exact k (z+1) w1 (Nat.le_refl _) S1 H1
 |false=>
  refine r_vf (k z w (by omega) (.refl w) ?_);rw[Zb0 hc,Zb0 hi];exact H
theorem Zgs {s p:List UInt8}(k:∀ z,K (.bool z) w):Cl prog 72 #[S_ s,S_ p] w K:=by
 refine Tz72 ?_;unfold Vz72;refine Tz110 ?_;unfold Vz110;refine q_len (q_len (r_geq (r_ifD (λh=>?_) λh=>k _)));exact q_len (q_T (by omega) (q_eqs (k _)))
def cellsWa (c0 c1 c2 c3 c4 c5 lk:Nat) (pv:Value) (sc:List Value) (b:Nat) (tk st ch:Value):List Value:=[nv c0,nv c1,nv c2,nv c3,nv c4,nv c5,nv lk,pv]++sc++[pt b,tk,st,ch]
structure Wx where
 wb:Nat
 pb:Nat
 tb:Nat
 sb:Nat
 cb:Nat
 N:Nat
 M:Nat
abbrev rowV (b n:Nat):Value:=.slice (some ⟨b,0,none⟩) n n
abbrev slN (b:Nat) (xs:List Nat):HProp:=slb nv tI4 (some ⟨b,0,none⟩) xs []
def AuL (x:Wx) (b:Nat) (sc:List Value) (c0 c1 c2 c3 c4 c5 lk:Nat) (ps tks:List Nat) (sts:List (List UInt8)) (chs:List Nat):List HProp:=
 [blk x.wb tWa (cellsWa c0 c1 c2 c3 c4 c5 lk (rowV x.pb x.N) sc b (rowV x.tb x.M) (rowV x.sb x.M) (rowV x.cb x.N)),slN x.pb ps,slN x.tb tks,slb S_ tS4 (some ⟨x.sb,0,none⟩) sts [],slN x.cb chs]
section
variable {s:Sx}{ts:List Tn}{n:Cf}{wt last m t:Nat}{B:List UInt8}{as_:List G40.Ak}{ys:List Px}{acs:List Ac}{out:List UInt8}{U:Nat->Nat}{x:Wx}{c0 c1 c2 c3 c4 c5 lk i:Nat}{ps tks chs:List Nat}{sts:List (List UInt8)}
 {a a2 a3:Option Addr} {c cc2 cc3 l2 l3:Nat}
set_option maxHeartbeats 8000000 in
theorem Zkw {tn:Tn}(ho:ObsP ts n U as_ ys out) (hK:Kn ts n) (htn:ts[i]?=some tn) (hN:x.N=ts.length) (hpl:ps.length=x.N) (hps:ps[i]?=some 0) (hcl:chs.length=x.N) (hch:chs[i]?=some 0) (h0:c0<=1000/\c1<=1000/\c2<=1000/\c3<=1000)
  (H:Holds w (SvL s ts n wt last acs out B (ys.map (rowP t)) as_ (livesF ys) ys m++(AuL x s.b (J34.cellsS a ts.length c (cnF n) a2 l2 cc2 a3 l3 cc3) c0 c1 c2 c3 c4 c5 lk ps tks sts chs++L)))
  (k:∀ d0 d1 d2 d3 w',d0<=c0+1/\d1<=c1+1/\d2<=c2+1/\d3<=c3+1->Same w w'->
   Holds w' (SvL s ts n wt last acs out B (ys.map (rowP t)) as_ (livesF ys) ys m++(AuL x s.b (J34.cellsS a ts.length c (cnF n) a2 l2 cc2 a3 l3 cc3) d0 d1 d2 d3 c4 c5 lk (ps.set i (U i)) tks sts chs++L))->K (.tuple #[]) w') :
  Cl prog 68 #[pt x.wb,nv i,.agg (cellsT tn).toArray] w K:=by
 have hlt:i < ts.length:=(gH.1 htn).1;obtain⟨ak,hak⟩:∃ ak,as_[i]?=some ak:=⟨_,gA (by rw[ho.al];exact hlt)⟩;have hus:=ho.us i ak hak;have hk1:=hK.t1 tn (mem_of_getElem? htn)
 have hst:stN tn<=1099511627776:=by unfold stN;omega
 refine Tz68 ?_;unfold Vz68;refine r_new H λnb w1 S1 H1=>?_
 let M1:List HProp:=blk nb tT (cellsT tn)::L
 have H2:Holds w1 (SvL s ts n wt last acs out B (ys.map (rowP t)) as_ (livesF ys) ys m++(AuL x s.b (J34.cellsS a ts.length c (cnF n) a2 l2 cc2 a3 l3 cc3) c0 c1 c2 c3 c4 c5 lk ps tks sts chs++M1)):=by
  have H1':=(show Holds w1 (blk nb tT (cellsT tn)::(SvL s ts n wt last acs out B (ys.map (rowP t)) as_ (livesF ys) ys m++(AuL x s.b (J34.cellsS a ts.length c (cnF n) a2 l2 cc2 a3 l3 cc3) c0 c1 c2 c3 c4 c5 lk ps tks sts chs++L))) from H1);rw[<-gI] at H1' ⊢;exact Holds.behind _ H1'
 clear H1 H;refine r_dr H2 λw2 S2 H3=>?_;refine r_nc (r_fo0 (r_ld 12 H3 rfl rfl ?_));refine OUsed H3 hak λw3 S3 H4=>?_;rw[hus];refine r_nc (r_fo0 (r_ld 12 H4 rfl rfl (r_rk (r_ld 12 H3 rfl rfl rfl) ?_)));refine OLeft H4 htn hst λw4 S4 H5=>?_;refine r_dr H5 λw5 S5 H6=>?_;refine r_nc (r_fo0 (r_ld 12 H6 rfl rfl ?_));refine OCharged H6 hlt ?_;refine r_nc (r_fo0 (r_ld 12 H6 rfl rfl (r_rk (r_ld 12 H6 rfl rfl rfl) ?_)));refine Zbb (xs:=chs) 16 H6 rfl (by omega) (by omega) ?_;rintro b2 hb2;cases hb2;refine Zbn 16 H6 rfl hch (r_rk (Zbn 16 H6 rfl hch rfl) (r_sub (by omega) (by omega) ?_));have S:=S1.trans (S2.trans (S3.trans (S4.trans S5)));clear S1 S2 S3 S4 S5 H2 H3 H4 H5
 refine Zcz (λw'=>∃ d0,d0<=c0+1/\Same w w'/\Holds w' (SvL s ts n wt last acs out B (ys.map (rowP t)) as_ (livesF ys) ys m++(AuL x s.b (J34.cellsS a ts.length c (cnF n) a2 l2 cc2 a3 l3 cc3) d0 c1 c2 c3 c4 c5 lk ps tks sts chs++M1))) ?_ ?_
 rotate_left
 ·refine r_dr H6 λw6 S6 H7=>?_;refine r_nc (r_fo0 (r_fo0 (r_lss (r_vfD (by omega) (r_fo0 (r_ld 17 H7 rfl rfl (r_gtr ?_)))))));refine Zbh (i:=12) (z:=c0) H7 rfl rfl (by omega) λd w7 hd S7 H8=>?_;exact r_ke ⟨d,hd,S.trans (S6.trans S7),H8⟩
 clear H6 S;rintro _ w6 ⟨d0,hd0,S,H⟩
 refine r_dr H λw7 S7 H7=>?_;refine r_nc (r_fo0 (r_fo0 (r_nc (r_fo0 (r_ld 12 H7 rfl rfl ?_)))));refine OHeld H7 ho.hd ho.ln ho.sz hK.g4 λph w8 hph S8 H8=>?_;refine r_gtr ?_;refine Zbh (i:=12) (z:=c1) H8 rfl rfl (by omega) λd1 w9 hd1 S9 H9=>?_;replace H9:Holds w9 (SvL s ts n wt last acs out B (ys.map (rowP t)) as_ (livesF ys) ys m++(AuL x s.b (J34.cellsS a ts.length c (cnF n) a2 l2 cc2 a3 l3 cc3) d0 d1 c2 c3 c4 c5 lk ps tks sts chs++M1)):=H9;replace S:=S.trans (S7.trans (S8.trans S9));clear S7 S8 S9 H7 H8 H
 refine Zcz (λw'=>∃ d2,d2<=c2+1/\Same w w'/\Holds w' (SvL s ts n wt last acs out B (ys.map (rowP t)) as_ (livesF ys) ys m++(AuL x s.b (J34.cellsS a ts.length c (cnF n) a2 l2 cc2 a3 l3 cc3) d0 d1 d2 c3 c4 c5 lk ps tks sts chs++M1))) ?_ ?_
 rotate_left
 ·refine r_dr H9 λw6 S6 H7=>?_;refine r_nc (r_fo0 (r_fo0 (r_lss (r_vfD (by omega) (r_fo0 (r_ld 17 H7 rfl rfl (r_gtr ?_)))))));refine Zbh (i:=12) (z:=c2) H7 rfl rfl (by omega) λd w7 hd S7 H8=>?_;exact r_ke ⟨d,hd,S.trans (S6.trans S7),H8⟩
 clear H9 S;rintro _ w10 ⟨d2,hd2,S,H⟩
 refine r_dr H λw11 S11 H7=>?_;refine r_nc (r_fo0 (r_fo0 (r_add (by omega) (by omega) (r_fo0 (r_ld 17 H7 rfl rfl (r_neq ?_))))));refine Zbh (i:=12) (z:=c3) H7 rfl rfl (by omega) λd3 w12 hd3 S12 H8=>?_;replace H8:Holds w12 (SvL s ts n wt last acs out B (ys.map (rowP t)) as_ (livesF ys) ys m++(AuL x s.b (J34.cellsS a ts.length c (cnF n) a2 l2 cc2 a3 l3 cc3) d0 d1 d2 d3 c4 c5 lk ps tks sts chs++M1)):=H8
 refine r_dr H8 λw13 S13 H9=>?_;refine r_nc (r_fo0 (r_fo0 (r_ld 12 H9 rfl rfl (r_nc (r_fo0 (r_fo0 (r_ld 12 H9 rfl rfl ?_)))))));refine Zbb (xs:=ps) 13 H9 rfl (by omega) (by omega) ?_;rintro b2 hb2;cases hb2;refine Zbn 13 H9 rfl hps (r_max ?_);rw[show max ((0:Nat):Int) ((U i:Nat):Int)=((U i:Nat):Int) by omega];refine Zbb (xs:=ps) 13 H9 rfl (by omega) (by omega) ?_;rintro b2 hb2;cases hb2;refine Zp7 13 H9 (U i) rfl (by omega) rfl rfl λw14 S14 H10=>?_;refine k d0 d1 d2 d3 w14 ⟨hd0,hd1,hd2,hd3⟩ (S.trans (S11.trans (S12.trans (S13.trans S14)))) ?_;exact Holds.dropAt H10 17
end
end F33
end Go.Proofs.YtgdfganaoehokaaGreatDoor
namespace Go.Proofs.YtgdfganaoehokaaGreatDoor
open Go Go.Vc Go.Proofs.Tryz
theorem Zcx {α:Type}{F:α->List Value}{k:Nat}{L:List HProp}{a:Option Addr}{xs:List α}(h:S4r.InG F k L a xs):∀ M:List HProp,S4r.InG F k (M++L) a xs
 |[]=>h
 |Q::M=>(Zcx h M).up
attribute [local irreducible] Vc.Nc Vc.Ld Vc.LdA Vc.St Vc.StA Vc.Fo Vc.Iaa Vc.Ias Vc.Ixs Vc.Ixa Vc.Fd Vc.FdA Vc.Bp Vc.Bb Vc.Bn Vc.Up Vc.Ci Vc.Lns Vc.Lnl Vc.Ex Vc.Sst Vc.Ssl Vc.New Vc.Vif Vc.VJoin Vc.VLoop Vc.KE Vc.Dr Vc.Rk Vc.Cl Vc.Cx Vc.Inv Vc.Be Vc.Cv Vc.Cw Vc.Mf Vc.Sl Vc.Lk Vc.Bd Vc.Bs Vc.Ms Vc.Mm Vc.Mu Vc.Me Vc.Es Vc.Rg Vc.Nx Vc.Ta Vc.Ap Vc.Usd Vc.Ust Vc.Cp Vc.Ln Vc.Bc Vc.Bmin Vc.Bmax Vc.Bdel Vc.Bclr Vc.Pk
namespace F33
open Go.M31 J30 J31 J32
variable {w:World}{L:List HProp}{K:KT}
theorem Zs7:(zeroP prog tT).cells.toList=[.string ⟨#[]⟩,.string ⟨#[]⟩,iv 0,iv 0,iv 0]:=by kernel_rfl
section
variable {s:Sx}{ts:List Tn}{n:Cf}{wt last m t:Nat}{B:List UInt8}{as_:List G40.Ak}{ys:List Px}{acs:List Ac}{out:List UInt8}{U:Nat->Nat}{x:Wx}{ps tks chs:List Nat}{sts:List (List UInt8)}
 {a a2 a3:Option Addr} {c cc2 cc3 l2 l3:Nat}
set_option maxHeartbeats 8000000 in
theorem Zqz (ho:ObsP ts n U as_ ys out) (hK:Kn ts n) (hT:TsIn L a ts) (hN:x.N=ts.length) (hM:x.M<=64) (hpl:ps.length=x.N) (hps:∀ j,j < x.N->ps[j]?=some 0) (hcl:chs.length=x.N) (hch:∀ j,j < x.N->chs[j]?=some 0) (hsl:sts.length=x.M)
  (H:Holds w (SvL s ts n wt last acs out B (ys.map (rowP t)) as_ (livesF ys) ys m++(AuL x s.b (J34.cellsS a ts.length c (cnF n) a2 l2 cc2 a3 l3 cc3) 0 0 0 0 0 0 0 ps tks sts chs++L)))
  (k:∀ c0 c1 c2 c3 c4 c5 ps' sts' w',ps'.length=x.N->(∀ j,j < x.N->ps'[j]?=some (U j))->Same w w'->
   Holds w' (SvL s ts n wt last acs out B (ys.map (rowP t)) as_ (livesF ys) ys m++(AuL x s.b (J34.cellsS a ts.length c (cnF n) a2 l2 cc2 a3 l3 cc3) c0 c1 c2 c3 c4 c5 1 ps' tks sts' chs++L))->K (.tuple #[]) w') :
  Cl prog 43 #[pt x.wb] w K:=by
 have hts2:=hK.t2;refine Tz43 ?_;unfold Vz43;refine r_nc (r_fo0 (r_fo0 (r_ld 12 H (v:=nv 0) rfl rfl (Za7 (a:=0) (by decide) (r_nc (r_fo0 (r_fo0 (r_st 12 H rfl (by show 6 < 21;decide) rfl λw1 S1 H1=>?_))))))));replace H1:Holds w1 (SvL s ts n wt last acs out B (ys.map (rowP t)) as_ (livesF ys) ys m++(AuL x s.b (J34.cellsS a ts.length c (cnF n) a2 l2 cc2 a3 l3 cc3) 0 0 0 0 0 0 1 ps tks sts chs++L)):=H1;refine r_nc (r_fo0 (r_fo (r_fo (r_ld 12 H1 (v:=.slice a ts.length c) rfl rfl (r_lnl ?_)))))
 refine Zam (λjn y w'=>∃ (i jo c0 c1 c2 c3:Nat) (ps:List Nat),i<=ts.length/\y=nv i/\jn=nv jo/\jo<=64*i/\(c0<=i/\c1<=i/\c2<=i/\c3<=i)/\ps.length=x.N/\(∀ j,j < x.N->ps[j]?=some (if j < i then U j else 0))/\Same w w'/\
  Holds w' (SvL s ts n wt last acs out B (ys.map (rowP t)) as_ (livesF ys) ys m++(AuL x s.b (J34.cellsS a ts.length c (cnF n) a2 l2 cc2 a3 l3 cc3) c0 c1 c2 c3 0 0 1 ps tks sts chs++L))) (λ_ y _=>ts.length - (intOf y).toNat)
  ⟨0,0,0,0,0,0,ps,by omega,rfl,rfl,by omega,⟨by omega,by omega,by omega,by omega⟩,hpl,λj hj=>by rw[if_neg (by omega)];exact hps j hj,S1,H1⟩ ?_
 clear H H1 S1 hpl hps;rintro _ _ _ w2 ⟨i,jo,c0,c1,c2,c3,ps,hi,rfl,rfl,hjo,hcb,hpl,hps,S,H⟩;refine r_lss (r_ifD (λh=>?_) λh=>?_)
 ·have hlt:i < ts.length:=by omega
  obtain⟨tn,htn⟩:∃ tn,ts[i]?=some tn:=⟨_,gA hlt⟩;have hT2:TsIn (SvL s ts n wt last acs out B (ys.map (rowP t)) as_ (livesF ys) ys m++(AuL x s.b (J34.cellsS a ts.length c (cnF n) a2 l2 cc2 a3 l3 cc3) c0 c1 c2 c3 0 0 1 ps tks sts chs++L)) a ts:=Zcx (Zcx hT _) _;refine r_ldT hT2 H htn hlt ?_;refine r_new H λnb w3 S3 H3=>?_;rw[Zs7] at H3;refine r_stA 0 H3 (vs:=cellsT tn) rfl (Nat.le_refl 5) rfl (Zb8 tn) λw4 S4 H4=>?_;refine r_ldA 0 H4 (cellsT tn) rfl rfl rfl ?_
  have H5:Holds w4 (SvL s ts n wt last acs out B (ys.map (rowP t)) as_ (livesF ys) ys m++(AuL x s.b (J34.cellsS a ts.length c (cnF n) a2 l2 cc2 a3 l3 cc3) c0 c1 c2 c3 0 0 1 ps tks sts chs++(blk nb tT (cellsT tn)::L))):=by
   have H4':=(show Holds w4 (blk nb tT (cellsT tn)::(SvL s ts n wt last acs out B (ys.map (rowP t)) as_ (livesF ys) ys m++(AuL x s.b (J34.cellsS a ts.length c (cnF n) a2 l2 cc2 a3 l3 cc3) c0 c1 c2 c3 0 0 1 ps tks sts chs++L))) from H4);rw[<-gI] at H4' ⊢;exact Holds.behind _ H4'
  refine Zkw ho hK htn hN hpl (by have:=hps i (by omega);rw[if_neg (by omega)] at this;exact this) hcl (hch i (by omega)) ⟨by omega,by omega,by omega,by omega⟩ H5 λd0 d1 d2 d3 w5 hd S5 H6=>?_;refine r_nc (r_fo0 (r_ld 12 H6 rfl rfl ?_));refine OJobs H6 (by rw[hS_];exact ho.ln) λp w6 hp S6 H7=>?_;refine Zb1 (by omega) (Za7 (by omega) (r_ke ⟨⟨i+1,jo+p,d0,d1,d2,d3,ps.set i (U i),by omega,rfl,rfl,by omega,⟨by omega,by omega,by omega,by omega⟩,by rw[hX_];exact hpl,λj hj=>?_,S.trans (S3.trans (S4.trans (S5.trans S6))),Holds.dropAt H7 17⟩,?_⟩))
  ·rw[List.getElem?_set]
   by_cases e:i=j
   ·subst e;rw[if_pos rfl,if_pos (by omega),if_pos (by omega)]
   ·rw[if_neg e,hps j hj]
    by_cases g:j < i
    ·rw[if_pos g,if_pos (by omega)]
    ·rw[if_neg g,if_neg (by omega)]
  ·simp only[intOf,gC];omega
 ·obtain rfl:i=ts.length:=by omega
  have hps':∀ j,j < x.N->ps[j]?=some (U j):=λj hj=>by have:=hps j hj;rw[if_pos (by omega)] at this;exact this
  refine r_dr H λw3 S3 H3=>?_;refine r_nc (r_fo0 (r_fo0 (r_nc (r_fo0 (r_fo (r_fo (r_ld 12 H3 (v:=iv (n.jo:Int)) rfl rfl (r_gtr ?_))))))));refine Zbh (i:=12) (z:=0) H3 rfl rfl (by omega) λc4 w4 _ S4 H4=>?_;replace H4:Holds w4 (SvL s ts n wt last acs out B (ys.map (rowP t)) as_ (livesF ys) ys m++(AuL x s.b (J34.cellsS a ts.length c (cnF n) a2 l2 cc2 a3 l3 cc3) c0 c1 c2 c3 c4 0 1 ps tks sts chs++L)):=H4;refine r_nc (r_fo0 (r_ld 12 H4 (v:=rowV x.sb x.M) rfl rfl (r_lnl ?_)))
  refine Zac (λy w'=>∃ (i c5:Nat) (sts:List (List UInt8)),i<=x.M/\y=nv i/\c5<=i/\sts.length=x.M/\Same w w'/\
   Holds w' (SvL s ts n wt last acs out B (ys.map (rowP t)) as_ (livesF ys) ys m++(AuL x s.b (J34.cellsS a ts.length c (cnF n) a2 l2 cc2 a3 l3 cc3) c0 c1 c2 c3 c4 c5 1 ps tks sts chs++L))) (λy _=>x.M - (intOf y).toNat)
   ⟨0,0,sts,by omega,rfl,Nat.le_refl 0,hsl,S.trans (S3.trans S4),H4⟩ ?_
  clear H H3 H4 S S3 S4 hsl;rintro _ _ w5 ⟨i,c5,sts,hi,rfl,hc5,hsl,S,H⟩;refine r_lss (r_ifD (λh=>?_) λh=>?_)
  ·have hlt:i < x.M:=by omega
   obtain⟨st,hst⟩:∃ st,sts[i]?=some st:=⟨_,gA (by omega)⟩;refine Zbb (xs:=sts) 15 H rfl hlt (by omega) ?_;rintro b2 hb2;cases hb2;refine Zbn 15 H rfl hst ?_;refine r_nc (r_fo0 (r_ld 12 H rfl rfl ?_));refine OSent H ho.ou λnow w6 S6 H6=>?_;refine r_dr H6 λw7 S7 H7=>?_;refine r_nc (r_fo0 (r_fo0 ?_));refine Zgs λz=>r_not ?_;refine Zbh (i:=12) (z:=c5) H7 rfl rfl (by omega) λd5 w8 hd5 S8 H8=>?_;replace H8:Holds w8 (SvL s ts n wt last acs out B (ys.map (rowP t)) as_ (livesF ys) ys m++(AuL x s.b (J34.cellsS a ts.length c (cnF n) a2 l2 cc2 a3 l3 cc3) c0 c1 c2 c3 c4 d5 1 ps tks sts chs++L)):=H8;refine r_nc (r_fo0 (r_ld 12 H8 (v:=rowV x.sb x.M) rfl rfl ?_));refine Zbb (xs:=sts) 15 H8 rfl hlt (by omega) ?_;rintro b2 hb2;cases hb2;refine Zp7 15 H8 now rfl (by omega) rfl rfl λw9 S9 H9=>?_;refine Za7 (by omega) (r_ke ⟨⟨i+1,d5,sts.set i now,by omega,rfl,by omega,by rw[hX_];exact hsl,S.trans (S6.trans (S7.trans (S8.trans S9))),H9⟩,?_⟩);simp only[intOf,gC];omega
  ·exact k c0 c1 c2 c3 c4 c5 ps sts w5 hpl hps' S H
theorem Ziv {L:List HProp}(h:J30.TabIn L):∀ M:List HProp,J30.TabIn (M++L)
 |[]=>h
 |Q::M=>(Ziv h M).up
theorem S_of2 (s:ByteArray):Value.string s=S_ s.data.toList:=S_of s
set_option maxHeartbeats 8000000 in
theorem Zp0 {xs:List ByteArray}{str:ByteArray}(hK:Kn ts n) (hg:goodTs ts) (hs:∀ t∈ts,szT t) (hU:J30.TabIn L) (hT:TsIn L a ts) (hX:J34.StIn L a2 xs) (hx0:xs[0]?=some str) (hxl:str.data.toList.length<=500) (hl2:l2=xs.length) (hsc:ts.length<=s.c)
  (hN:x.N=ts.length) (hM:x.M<=64) (hM1:1<=x.M) (hpl:ps.length=x.N) (hps:∀ j,j < x.N->ps[j]?=some 0) (hcl:chs.length=x.N) (hch:∀ j,j < x.N->chs[j]?=some 0) (hsl:sts.length=x.M) (htl:tks.length=x.M) (htk:tks[0]?=some 0)
  (H:Holds w (NvL s ts n++(AuL x s.b (J34.cellsS a ts.length c (cnF n) a2 l2 cc2 a3 l3 cc3) 0 0 0 0 0 0 0 ps tks sts chs++L)))
  (k:∀ c0 c1 c2 c3 c4 c5 ps' w',ps'.length=x.N->(∀ j,j < x.N->ps'[j]?=some (usedR (runF ts n 600 q0 str.data.toList) j))->Same w w'->
   Holds w' (blk x.wb tWa (cellsWa c0 c1 c2 c3 c4 c5 1 (rowV x.pb x.N) (J34.cellsS a ts.length c (cnF n) a2 l2 cc2 a3 l3 cc3) s.b (rowV x.tb x.M) (rowV x.sb x.M) (rowV x.cb x.N))::slN x.pb ps'::L)->K (.tuple #[]) w') :
  Cl prog 18 #[pt x.wb,.agg (J34.cellsE ⟨1,0,65536⟩).toArray] w K:=by
 subst hl2;have hlx:0 < xs.length:=(gH.1 hx0).1;refine Tz18 ?_;unfold Vz18;refine r_new H λeb w1 S1 H1=>?_
 have H2:Holds w1 (NvL s ts n++(AuL x s.b (J34.cellsS a ts.length c (cnF n) a2 xs.length cc2 a3 l3 cc3) 0 0 0 0 0 0 0 ps tks sts chs++(blk eb J34.tE (J34.cellsE ⟨1,0,65536⟩)::L))):=by
  have H1':=(show Holds w1 (blk eb J34.tE (J34.cellsE ⟨1,0,65536⟩)::(NvL s ts n++(AuL x s.b (J34.cellsS a ts.length c (cnF n) a2 xs.length cc2 a3 l3 cc3) 0 0 0 0 0 0 0 ps tks sts chs++L))) from H1);rw[<-gI] at H1' ⊢;exact Holds.behind _ H1'
 clear H H1;refine r_fo0 (r_ld 13 H2 (v:=iv 1) rfl rfl (r_eql (r_vtE rfl ?_)));refine r_dr H2 λw2 S2 H3=>?_;have hX2:S4r.InG J34.cellsX 1 (NvL s ts n++(AuL x s.b (J34.cellsS a ts.length c (cnF n) a2 xs.length cc2 a3 l3 cc3) 0 0 0 0 0 0 0 ps tks sts chs++(blk eb J34.tE (J34.cellsE ⟨1,0,65536⟩)::L))) a2 xs:=Zcx (Zcx (S4r.InG.up hX) _) _;refine r_nc (r_fo0 (r_fo (r_ld 8 H3 (v:=.slice a2 xs.length cc2) rfl rfl (r_fo0 (r_ld 13 H3 (v:=nv 0) rfl rfl ?_)))));refine J34.Zjn (i:=0) hX2 H3 hx0 (v:=.string str) rfl hlx ?_;rw[S_of2 str];refine r_nc (r_fo0 (r_ld 8 H3 (v:=rowV x.tb x.M) rfl rfl (r_fo0 (r_ld 13 H3 (v:=nv 0) rfl rfl ?_))));refine Zbb (xs:=tks) (m:=0) 10 H3 rfl (by omega) (by omega) ?_;rintro b2 hb2;cases hb2;refine Zbn 10 H3 rfl htk (q_D2 (m:=0) (Nat.zero_le _) ?_);rw[List.drop_zero];refine r_dr H3 λw3 S3 H4=>?_;refine r_nc (r_fo0 (r_ld 8 H4 (v:=rowV x.tb x.M) rfl rfl (r_fo0 (r_ld 13 H4 (v:=nv 0) rfl rfl ?_))));refine Zbb (xs:=tks) (m:=0) 10 H4 rfl (by omega) (by omega) ?_;rintro b2 hb2;cases hb2;refine Zbn 10 H4 rfl htk (r_nc (r_fo0 (r_ld 8 H4 (v:=pt s.b) rfl rfl (r_fo0 (r_ld 13 H4 (v:=nv 0) rfl rfl (q_len (r_fo0 (r_ld 13 H4 (v:=iv 65536) rfl rfl (r_min ?_)))))))));rw[show min (str.data.toList.length:Int) 65536=((str.data.toList.length:Nat):Int) by omega];refine q_T (Nat.le_refl _) ?_;rw[List.take_length];refine Zgd hK hg hs (Ziv hU.up _) hsc hxl H4 λp w4 hp S4 hob=>?_;obtain⟨s',t,wt,last,m,B,acs,out,as_,ys,hsb,ho,H5⟩:=hob;rw[<-hsb] at H5;refine r_rk (Zbn 14 H5 rfl htk rfl) (r_rk (r_ld 17 H5 rfl rfl rfl) (r_rk (r_ld 12 H5 rfl rfl rfl) (Zb1 (a:=0) (b:=p) (by omega) ?_)));refine Zbb (xs:=tks) (m:=0) 14 H5 rfl (by omega) (by omega) ?_;rintro b2 hb2;cases hb2;refine Zp7 14 H5 (0+p) rfl (by omega) rfl rfl λw5 S5 H6=>?_;have hT2:TsIn (blk eb J34.tE (J34.cellsE ⟨1,0,65536⟩)::L) a ts:=hT.up;refine Zqz (x:=x) (tks:=tks.set 0 (0+p)) ho hK hT2 hN hM hpl hps hcl hch hsl H6 λc0 c1 c2 c3 c4 c5 ps' sts' w6 hpl' hps' S6 H7=>?_;rw[hsb] at H7;refine k c0 c1 c2 c3 c4 c5 ps' w6 hpl' hps' (S1.trans (S2.trans (S3.trans (S4.trans (S5.trans S6))))) ?_;exact (by have h_:=Holds.ord 18 [12,13] (show Holds w6 (SvL s' ts n wt last acs out B (ys.map (rowP t)) as_ (livesF ys) ys m++(AuL x s.b (J34.cellsS a ts.length c (cnF n) a2 xs.length cc2 a3 l3 cc3) c0 c1 c2 c3 c4 c5 1 ps' (tks.set 0 (0+p)) sts' chs++(blk eb J34.tE (J34.cellsE ⟨1,0,65536⟩)::L))) from H7) rfl;exact h_)
end
end F33
namespace F33
open Go.M31 J30 J31 J32
section
variable {ts:List Tn}{n:Cf}{q:Qt}{f:Fr}{x:Ac}
def NeedOk (n:Cf) (xs:List Lv):Prop:=∀ y∈xs,needN n.un n.wi 1 1<=y.need
theorem Zo2 {kd lv:Nat}(hk:kd=1/\1<=lv/\lv<=9\/(kd=2\/kd=3)/\lv=0) (h3:24<=n.un):needN n.un n.wi 1 1<=needF n kd lv:=by
 rw[Zoz];unfold needN;rw[if_pos rfl];rcases hk with⟨rfl,h1,h2⟩|⟨rfl|rfl,rfl⟩
 ·rw[if_pos rfl];have:1*n.un<=lv*n.un:=Nat.mul_le_mul_right _ h1;omega
 ·rw[if_neg (by decide),if_pos rfl];omega
 ·rw[if_neg (by decide),if_neg (by decide)];omega
theorem Zew {ch:Nat}:∀ (k:Nat) (y:Lv) (out:List UInt8),(chunksF ch k y out).1.need=y.need
 |0,y,out=>rfl
 |k+1,y,out=>by
  unfold chunksF
  dsimp only
  split
  ·rfl
  ·rw[Zew k]
theorem Zg5 {v:Lv}{g:Bool}{xs:List Lv}{y:Lv}(h:y∈withF v g xs):y∈xs\/y=v:=by
 unfold withF at h;obtain⟨z,hz,hy⟩:=List.mem_flatMap.1 h;split at hy
 ·rw[mem_singleton.1 hy];exact .inl hz
 ·split at hy
  ·cases hy
  ·exact .inr (mem_singleton.1 hy)
theorem Zpt (h:NeedOk n q.xs):NeedOk n (useF n q x).xs:=by
 unfold useF;split
 ·exact h
 ·rename_i y hy;have hym:=List.mem_of_find?_eq_some hy;split
  ·intro z hz;rcases Zg5 hz with g|rfl
   ·exact h z g
   ·exact h y hym
  ·split
   ·intro z hz;rcases Zg5 hz with g|rfl
    ·exact h z g
    ·exact h _ hym
   ·split
    ·intro z hz;rcases Zg5 hz with g|g
     ·exact h z g
     ·rw[g,Zew];exact h y hym
    ·exact h
theorem Zry (h:NeedOk n q.xs) (hx:x.wh=3->needN n.un n.wi 1 1<=needF n x.kd.toNat x.lv.toNat):NeedOk n (doF ts n q x).xs:=by
 unfold doF;split
 ·exact h
 split
 ·exact h
 split
 ·rename_i h3;split
  ·exact h
  ·split
   ·exact h
   ·unfold openF;split
    ·exact h
    ·split
     ·exact h
     ·intro z hz;rcases hT_.1 hz with g|g
      ·exact h z g
      ·rw[mem_singleton.1 g];exact hx h3
 split
 ·split
  ·exact h
  ·split
   ·exact h
   ·exact h
 ·exact Zpt h
theorem Zq2 (hK:Kn ts n) (h:NeedOk n q.xs):NeedOk n (quiF ts n q f).xs:=by
 unfold quiF;refine Zry (q:={ q with acs:=q.acs++[stepF ts q.acs f] }) h λh3=>?_
 rcases Zfx ts q.acs f with⟨e,hx,_⟩|⟨_,i,_,hx⟩|⟨_,⟨_,hkd,hx⟩|hx|⟨_,_,⟨_,hx⟩|⟨_,hx⟩|hx|⟨p,_,hx⟩⟩⟩ <;> rw[hx] at h3
 ·exact absurd h3 (by show ¬ (1:Int)=3;decide)
 ·exact absurd h3 (by show ¬ (2:Int)=3;decide)
 ·rw[hx];show needN n.un n.wi 1 1<=needF n (((kindF f.da).1:Int)).toNat (((kindF f.da).2:Int)).toNat;rw[gC,gC];have:=Ziu f.da;exact Zo2 (by omega) hK.g1
 ·exact absurd h3 (by show ¬ (8:Int)=3;decide)
 ·exact absurd h3 (by show ¬ (4:Int)=3;decide)
 ·exact absurd h3 (by show ¬ (5:Int)=3;decide)
 ·exact absurd h3 (by show ¬ (6:Int)=3;decide)
 ·exact absurd h3 (by show ¬ (7:Int)=3;decide)
theorem Zis (hK:Kn ts n):∀ (k:Nat) (q:Qt) (B:List UInt8),NeedOk n q.xs->NeedOk n (runF ts n k q B).1.xs
 |0,q,B,h=>h
 |k+1,q,B,h=>by
  unfold runF;split
  ·exact h
  ·split
   ·split
    ·exact h
    ·exact h
   ·exact Zis hK k _ _ (Zq2 hK h)
theorem Zki (hK:Kn ts n){B:List UInt8}{i:Nat}:usedR (runF ts n 600 q0 B) i=0\/needN n.un n.wi 1 1<=usedR (runF ts n 600 q0 B) i:=by
 have h:=Zis hK 600 q0 B (λy hy=>by cases hy);unfold usedR;split
 ·exact .inl rfl
 split
 ·unfold NeedOk at h;unfold usedF
  cases hx:(runF ts n 600 q0 B).1.xs with
  |nil=>exact .inl rfl
  |cons y r=>
   rw[hx] at h;have:=h y (hJ_ ..);rw[hR_,List.sum_cons];exact .inr (by omega)
 ·exact .inl rfl
end
end F33
end Go.Proofs.YtgdfganaoehokaaGreatDoor
namespace Go.Proofs.YtgdfganaoehokaaGreatDoor
open Go Go.Vc Go.Proofs.Tryz
theorem Zm3 {w:World}{L:List HProp}:∀ M:List HProp,Holds w (M++L)->Holds w L
 |[],H=>H
 |_::M,H=>Zm3 M H.drop
attribute [local irreducible] Vc.Nc Vc.Ld Vc.LdA Vc.St Vc.StA Vc.Fo Vc.Iaa Vc.Ias Vc.Ixs Vc.Ixa Vc.Fd Vc.FdA Vc.Bp Vc.Bb Vc.Bn Vc.Up Vc.Ci Vc.Lns Vc.Lnl Vc.Ex Vc.Sst Vc.Ssl Vc.New Vc.Vif Vc.VJoin Vc.VLoop Vc.KE Vc.Dr Vc.Rk Vc.Cl Vc.Cx Vc.Inv Vc.Be Vc.Cv Vc.Cw Vc.Mf Vc.Sl Vc.Lk Vc.Bd Vc.Bs Vc.Ms Vc.Mm Vc.Mu Vc.Me Vc.Es Vc.Rg Vc.Nx Vc.Ta Vc.Ap Vc.Usd Vc.Ust Vc.Cp Vc.Ln Vc.Bc Vc.Bmin Vc.Bmax Vc.Bdel Vc.Bclr Vc.Pk
namespace F33
open Go.M31 J30 J31 J32
variable {w:World}{L:List HProp}{K:KT}
instance rowSt:Row prog 25 9 (.string ⟨#[]⟩):=⟨by kernel_rfl,⟨t9,by kernel_rfl,by kernel_rfl,by decide,by kernel_rfl⟩,rfl⟩
def cellsRp (c0 c1 c2 c3 c4 c5 lk:Nat) (pv:Value):List Value:=[nv c0,nv c1,nv c2,nv c3,nv c4,nv c5,nv lk,pv]
def ev1:J34.Et:=⟨1,0,65536⟩
section
variable {ts:List Tn}{n:Cf}{a a2 a3:Option Addr}{xs:List ByteArray}{str:ByteArray}{c cc2 cc3:Nat}
theorem Zcu {p:Nat}(H:Holds w L) (hp:p<=100) (k:∀ b w',Same w w'->Holds w' (slN b (List.replicate p 0)::L)->K (rowV b p) w'):Ms prog 34 (nv p) (nv p) w K:=by
 refine r_ms (f:=nv) (x:=0) H rfl (by omega) (by omega) λb w2 S2 H2=>?_
 have e:(p:Int).toNat=p:=by omega
 rw[e] at H2 ⊢;exact k b w2 S2 H2
theorem Zjm {p:Nat}(H:Holds w L) (hp:p<=100) (k:∀ b w',Same w w'->Holds w' (slb S_ tS4 (some ⟨b,0,none⟩) (List.replicate p []) []::L)->K (rowV b p) w'):Ms prog 25 (nv p) (nv p) w K:=by
 refine r_ms (f:=S_) (x:=[]) H rfl (by omega) (by omega) λb w2 S2 H2=>?_
 have e:(p:Int).toNat=p:=by omega
 rw[e] at H2 ⊢;exact k b w2 S2 H2
set_option maxHeartbeats 8000000 in
theorem Zsm (hK:Kn ts n) (hch0:ChkC ts (cnF n) 0) (hchS:S43.ChkS ts (cnF n) xs [ev1] 0) (hs:∀ t∈ts,szT t) (hc:ts.length<=c) (hU:J30.TabIn L) (hT:TsIn L a ts) (hX:J34.StIn L a2 xs) (hE:J34.EtIn L a3 [ev1]) (hx0:xs[0]?=some str) (hx6:xs.length<=6) (hxl:str.data.toList.length<=500)
  (H:Holds w L)
  (k:∀ c0 c1 c2 c3 c4 c5 pb ps w',ps.length=ts.length->(∀ j,j < ts.length->ps[j]?=some (usedR (runF ts n 600 q0 str.data.toList) j))->Same w w'->Holds w' (slN pb ps::L)->K (.tuple #[.agg (cellsRp c0 c1 c2 c3 c4 c5 1 (rowV pb ts.length)).toArray,iv 0]) w') :
  Cl prog 7 #[.agg (J34.cellsS a ts.length c (cnF n) a2 xs.length cc2 a3 1 cc3).toArray] w K:=by
 have hg:=(Zg0 hch0).1;have hN16:=hK.t2;have hN0:=hK.t0;have hlx:0 < xs.length:=(gH.1 hx0).1;refine Tz7 ?_;unfold Vz7;refine r_new H λsb w1 S1 H1=>?_;replace H1:Holds w1 (blk sb J34.tS (J34.cellsS a ts.length c (cnF n) a2 xs.length cc2 a3 1 cc3)::L):=H1;refine r_new H1 λrb w2 S2 H2=>?_
 have hz:(zeroP prog tRp4).cells.toList=[iv 0,iv 0,iv 0,iv 0,iv 0,iv 0,iv 0,.slice none 0 0]:=by kernel_rfl
 rw[hz] at H2;generalize hRZ:blk rb tRp4 [iv 0,iv 0,iv 0,iv 0,iv 0,iv 0,iv 0,.slice none 0 0]=RZ at H2;replace H2:Holds w2 (RZ::blk sb J34.tS (J34.cellsS a ts.length c (cnF n) a2 xs.length cc2 a3 1 cc3)::L):=H2;refine r_ldA 1 H2 (J34.cellsS a ts.length c (cnF n) a2 xs.length cc2 a3 1 cc3) rfl rfl rfl ?_;refine S43.Check_spec (es:=[ev1]) H2 hT.up.up (S4r.InG.up (S4r.InG.up hX)) (S4r.InG.up (S4r.InG.up hE)) hU.up.up hs hc hx6 (by decide) λe w3 S3 H3 hce=>?_;obtain rfl:=S43.Zsh hchS hce;refine r_neq (r_vfN rfl ?_);refine r_fo0 (r_ldA 1 H3 (cellsC a ts.length c (cnF n)) rfl rfl rfl ?_);refine Zj2 H3 hT.up.up hU.up.up hs hc hch0 λs w4 hsc S4 H4=>?_;refine Za6 (Za5 ?_);replace H4:Holds w4 (NvL s ts n++(RZ::blk sb J34.tS (J34.cellsS a ts.length c (cnF n) a2 xs.length cc2 a3 1 cc3)::L)):=H4;refine r_fo0 (r_fo0 (r_ld 9 H4 (v:=.slice a ts.length c) rfl rfl (r_lnl ?_)));have S:=S1.trans (S2.trans (S3.trans S4));clear S1 S2 S3 S4 H H1 H2 H3
 refine Za0 (λy w'=>∃ wb tb sb2 cb:Nat,y=pt wb/\Same w w'/\Holds w' (NvL s ts n++(blk wb tWa (cellsWa 0 0 0 0 0 0 0 (.slice none 0 0) (J34.cellsS a ts.length c (cnF n) a2 xs.length cc2 a3 1 cc3) s.b (rowV tb xs.length) (rowV sb2 xs.length) (rowV cb ts.length))::slN tb (List.replicate xs.length 0) ::
  slb S_ tS4 (some ⟨sb2,0,none⟩) (List.replicate xs.length []) []::slN cb (List.replicate ts.length 0)::RZ::blk sb J34.tS (J34.cellsS a ts.length c (cnF n) a2 xs.length cc2 a3 1 cc3)::L))) ?_ ?_
 rotate_left
 ·refine r_dr H4 λw5 S5 H5=>?_
  have fin:∀ (tb sb2 cb:Nat) w',Same w w'->Holds w' (NvL s ts n++(slN tb (List.replicate xs.length 0)::slb S_ tS4 (some ⟨sb2,0,none⟩) (List.replicate xs.length []) []::slN cb (List.replicate ts.length 0)::RZ::blk sb J34.tS (J34.cellsS a ts.length c (cnF n) a2 xs.length cc2 a3 1 cc3)::L))->
    Bd prog tWa #[(1,.agg (J34.cellsS a ts.length c (cnF n) a2 xs.length cc2 a3 1 cc3).toArray),(2,pt s.b),(3,rowV tb xs.length),(4,rowV sb2 xs.length),(5,rowV cb ts.length)] w' λx_52=>New x_52 tWa w' λx_54 w18=>
     KE [pt sb,pt rb,nv ts.length] [pt sb,pt rb,nv ts.length] <| (λy w'=>∃ wb tb sb2 cb:Nat,y=pt wb/\Same w w'/\Holds w' (NvL s ts n++(blk wb tWa (cellsWa 0 0 0 0 0 0 0 (.slice none 0 0) (J34.cellsS a ts.length c (cnF n) a2 xs.length cc2 a3 1 cc3) s.b (rowV tb xs.length) (rowV sb2 xs.length) (rowV cb ts.length))::slN tb (List.replicate xs.length 0) ::
      slb S_ tS4 (some ⟨sb2,0,none⟩) (List.replicate xs.length []) []::slN cb (List.replicate ts.length 0)::RZ::blk sb J34.tS (J34.cellsS a ts.length c (cnF n) a2 xs.length cc2 a3 1 cc3)::L))) x_54 w18:=by
   intro tb sb2 cb w' S' H';refine r_bd (v:=.agg (cellsWa 0 0 0 0 0 0 0 (.slice none 0 0) (J34.cellsS a ts.length c (cnF n) a2 xs.length cc2 a3 1 cc3) s.b (rowV tb xs.length) (rowV sb2 xs.length) (rowV cb ts.length)).toArray) (by kernel_rfl) ?_;refine r_new H' λwb w6 S6 H6=>?_;refine r_ke ⟨wb,tb,sb2,cb,rfl,S'.trans S6,?_⟩;exact (by have h_:=Holds.ord 9 [1,2,3,4,5,6,7,8,0] (show Holds w6 (blk wb tWa (cellsWa 0 0 0 0 0 0 0 (.slice none 0 0) (J34.cellsS a ts.length c (cnF n) a2 xs.length cc2 a3 1 cc3) s.b (rowV tb xs.length) (rowV sb2 xs.length) (rowV cb ts.length))::(NvL s ts n++(slN tb (List.replicate xs.length 0)::slb S_ tS4 (some ⟨sb2,0,none⟩) (List.replicate xs.length []) []::slN cb (List.replicate ts.length 0)::RZ::blk sb J34.tS (J34.cellsS a ts.length c (cnF n) a2 xs.length cc2 a3 1 cc3)::L))) from H6) rfl;exact h_)
  have ldS:∀ {w':World} {M:List HProp} (j:Nat),Holds w' M->M[j]?=some (blk sb J34.tS (J34.cellsS a ts.length c (cnF n) a2 xs.length cc2 a3 1 cc3))->LdA 9 (pt sb) w' λu=>u=.agg (J34.cellsS a ts.length c (cnF n) a2 xs.length cc2 a3 1 cc3).toArray:=λj h hj=>r_ldA j h (J34.cellsS a ts.length c (cnF n) a2 xs.length cc2 a3 1 cc3) hj rfl rfl rfl;have ldX:∀ {w':World} {M:List HProp} (j:Nat),Holds w' M->M[j]?=some (blk sb J34.tS (J34.cellsS a ts.length c (cnF n) a2 xs.length cc2 a3 1 cc3))->Ld (.pointer (some ⟨sb,7,none⟩)) w' λu=>u=.slice a2 xs.length cc2:=λj h hj=>r_ld j h hj rfl rfl;refine r_ldA 9 H5 (J34.cellsS a ts.length c (cnF n) a2 xs.length cc2 a3 1 cc3) rfl rfl rfl ?_;refine r_fo0 (r_ld 9 H5 (v:=.slice a2 xs.length cc2) rfl rfl (r_lnl (r_fo0 (r_ld 9 H5 (v:=.slice a2 xs.length cc2) rfl rfl (r_lnl ⟨?_,?_,?_⟩)))))
  ·refine Zcu H5 (by omega) λtb w6 S6 H6=>?_;refine r_rk (r_lnl rfl) (r_rk (ldX 10 H6 rfl) (r_rk (ldS 10 H6 rfl) ⟨?_,?_⟩))
   ·refine Zjm H6 (by omega) λsb2 w7 S7 H7=>?_;refine r_rk (r_lnl rfl) (r_rk (ldX 11 H7 rfl) (r_rk (ldS 11 H7 rfl) ?_));refine Zcu H7 (by omega) λcb w8 S8 H8=>?_;refine r_rk (r_lnl rfl) (r_rk (ldX 12 H8 rfl) (r_rk (r_lnl rfl) (r_rk (ldX 12 H8 rfl) (r_rk (ldS 12 H8 rfl) ?_))));exact fin tb sb2 cb w8 (S.trans (S5.trans (S6.trans (S7.trans S8)))) (by have h_:=Holds.ord 11 [3,4,5,6,7,8,9,10,2,1,0] H8 rfl;exact h_)
   ·refine Zcu H6 (by omega) λcb w7 S7 H7=>?_;refine r_rk (r_lnl rfl) (r_rk (ldX 11 H7 rfl) (r_rk (r_lnl rfl) (r_rk (ldX 11 H7 rfl) (r_rk (ldS 11 H7 rfl) ?_))));refine Zjm H7 (by omega) λsb2 w8 S8 H8=>?_;refine r_rk (r_lnl rfl) (r_rk (ldX 12 H8 rfl) (r_rk (ldS 12 H8 rfl) ?_));exact fin tb sb2 cb w8 (S.trans (S5.trans (S6.trans (S7.trans S8)))) (by have h_:=Holds.ord 11 [3,4,5,6,7,8,9,10,2,0,1] H8 rfl;exact h_)
  ·refine Zjm H5 (by omega) λsb2 w6 S6 H6=>?_;refine r_rk (r_lnl rfl) (r_rk (ldX 10 H6 rfl) (r_rk (ldS 10 H6 rfl) ⟨?_,?_⟩))
   ·refine Zcu H6 (by omega) λtb w7 S7 H7=>?_;refine r_rk (r_lnl rfl) (r_rk (ldX 11 H7 rfl) (r_rk (ldS 11 H7 rfl) ?_));refine Zcu H7 (by omega) λcb w8 S8 H8=>?_;refine r_rk (r_lnl rfl) (r_rk (ldX 12 H8 rfl) (r_rk (r_lnl rfl) (r_rk (ldX 12 H8 rfl) (r_rk (ldS 12 H8 rfl) ?_))));exact fin tb sb2 cb w8 (S.trans (S5.trans (S6.trans (S7.trans S8)))) (by have h_:=Holds.ord 11 [3,4,5,6,7,8,9,10,1,2,0] H8 rfl;exact h_)
   ·refine Zcu H6 (by omega) λcb w7 S7 H7=>?_;refine r_rk (r_lnl rfl) (r_rk (ldX 11 H7 rfl) (r_rk (r_lnl rfl) (r_rk (ldX 11 H7 rfl) (r_rk (ldS 11 H7 rfl) ?_))));refine Zcu H7 (by omega) λtb w8 S8 H8=>?_;refine r_rk (r_lnl rfl) (r_rk (ldX 12 H8 rfl) (r_rk (ldS 12 H8 rfl) ?_));exact fin tb sb2 cb w8 (S.trans (S5.trans (S6.trans (S7.trans S8)))) (by have h_:=Holds.ord 11 [3,4,5,6,7,8,9,10,0,2,1] H8 rfl;exact h_)
  ·refine Zcu H5 (by omega) λcb w6 S6 H6=>?_;refine r_rk (r_lnl rfl) (r_rk (ldX 10 H6 rfl) (r_rk (r_lnl rfl) (r_rk (ldX 10 H6 rfl) (r_rk (ldS 10 H6 rfl) ⟨?_,?_⟩))))
   ·refine Zcu H6 (by omega) λtb w7 S7 H7=>?_;refine r_rk (r_lnl rfl) (r_rk (ldX 11 H7 rfl) (r_rk (ldS 11 H7 rfl) ?_));refine Zjm H7 (by omega) λsb2 w8 S8 H8=>?_;refine r_rk (r_lnl rfl) (r_rk (ldX 12 H8 rfl) (r_rk (ldS 12 H8 rfl) ?_));exact fin tb sb2 cb w8 (S.trans (S5.trans (S6.trans (S7.trans S8)))) (by have h_:=Holds.ord 11 [3,4,5,6,7,8,9,10,1,0,2] H8 rfl;exact h_)
   ·refine Zjm H6 (by omega) λsb2 w7 S7 H7=>?_;refine r_rk (r_lnl rfl) (r_rk (ldX 11 H7 rfl) (r_rk (ldS 11 H7 rfl) ?_));refine Zcu H7 (by omega) λtb w8 S8 H8=>?_;refine r_rk (r_lnl rfl) (r_rk (ldX 12 H8 rfl) (r_rk (ldS 12 H8 rfl) ?_));exact fin tb sb2 cb w8 (S.trans (S5.trans (S6.trans (S7.trans S8)))) (by have h_:=Holds.ord 11 [3,4,5,6,7,8,9,10,0,1,2] H8 rfl;exact h_)
 clear H4 S;rintro _ _ w5 ⟨wb,tb,sb2,cb,rfl,S,H5⟩;refine Zcu H5 (by omega) λpb w6 S6 H6=>?_;refine r_nc (r_fo0 (r_fo0 (r_st 9 H6 rfl (by show 7 < 21;decide) rfl λw7 S7 H7=>?_)));generalize hx:(⟨wb,pb,tb,sb2,cb,ts.length,xs.length⟩:Wx)=x at *
 have H8:Holds w7 (NvL s ts n++(AuL x s.b (J34.cellsS a ts.length c (cnF n) a2 xs.length cc2 a3 1 cc3) 0 0 0 0 0 0 0 (List.replicate ts.length 0) (List.replicate xs.length 0) (List.replicate xs.length []) (List.replicate ts.length 0)++(RZ::blk sb J34.tS (J34.cellsS a ts.length c (cnF n) a2 xs.length cc2 a3 1 cc3)::L))):=by
  rw[<-hx]
  exact (by have h_:=Holds.ord 13 [1,2,3,4,5,6,7,8,9,0,10,11,12] (show Holds w7 (slN pb (List.replicate ts.length 0)::(NvL s ts n++(blk wb tWa (cellsWa 0 0 0 0 0 0 0 (rowV pb ts.length) (J34.cellsS a ts.length c (cnF n) a2 xs.length cc2 a3 1 cc3) s.b (rowV tb xs.length) (rowV sb2 xs.length) (rowV cb ts.length))::slN tb (List.replicate xs.length 0) ::
   slb S_ tS4 (some ⟨sb2,0,none⟩) (List.replicate xs.length []) []::slN cb (List.replicate ts.length 0)::RZ::blk sb J34.tS (J34.cellsS a ts.length c (cnF n) a2 xs.length cc2 a3 1 cc3)::L))) from H7) rfl;exact h_)
 have hwb:pt wb=pt x.wb:=by rw[<-hx]
 have hpb:x.pb=pb:=by rw[<-hx]
 have hxN:x.N=ts.length:=by rw[<-hx]
 have hxM:x.M=xs.length:=by rw[<-hx]
 rw[hwb];clear H5 H6 H7 hwb;replace S:=S.trans (S6.trans S7);clear S6 S7;refine r_fo0 (r_ld 14 H8 (v:=.slice a3 1 cc3) rfl rfl (r_lnl ?_))
 refine Zac (λy w'=>(w7=w'/\y=nv 0)\/(y=nv 1/\∃ c0 c1 c2 c3 c4 c5 ps',ps'.length=ts.length/\(∀ j,j < ts.length->ps'[j]?=some (usedR (runF ts n 600 q0 str.data.toList) j))/\Same w w'/\
  Holds w' (blk x.wb tWa (cellsWa c0 c1 c2 c3 c4 c5 1 (rowV x.pb x.N) (J34.cellsS a ts.length c (cnF n) a2 xs.length cc2 a3 1 cc3) s.b (rowV x.tb x.M) (rowV x.sb x.M) (rowV x.cb x.N))::slN x.pb ps'::RZ::blk sb J34.tS (J34.cellsS a ts.length c (cnF n) a2 xs.length cc2 a3 1 cc3)::L)))
  (λy _=>1 - (intOf y).toNat) (.inl ⟨rfl,rfl⟩) ?_
 rintro _ y w8 (⟨rfl,rfl⟩|⟨rfl,c0,c1,c2,c3,c4,c5,ps',hpl',hps',S8,H9⟩)
 ·refine r_lss (r_vtD (by decide) ?_);have hE2:J34.InG J34.cellsE 3 (NvL s ts n++(AuL x s.b (J34.cellsS a ts.length c (cnF n) a2 xs.length cc2 a3 1 cc3) 0 0 0 0 0 0 0 (List.replicate ts.length 0) (List.replicate xs.length 0) (List.replicate xs.length []) (List.replicate ts.length 0)++(RZ::blk sb J34.tS (J34.cellsS a ts.length c (cnF n) a2 xs.length cc2 a3 1 cc3)::L))) a3 [ev1]:=Zcx (Zcx (S4r.InG.up (S4r.InG.up hE)) _) _;refine J34.r_ldG (i:=0) (x:=ev1) hE2 H8 rfl rfl (by decide) ?_;refine r_new H8 λeb w9 S9 H9=>?_
  have hzE:(zeroP prog J34.tE).cells.toList=J34.cellsE ⟨0,0,0⟩:=by kernel_rfl
  rw[hzE] at H9;refine r_stA 0 H9 (vs:=J34.cellsE ev1) rfl (Nat.le_refl 3) rfl rfl λw10 S10 H10=>?_;refine r_ldA 0 H10 (J34.cellsE ev1) rfl rfl rfl ?_;have H11:Holds w10 (NvL s ts n++(AuL x s.b (J34.cellsS a ts.length c (cnF n) a2 xs.length cc2 a3 1 cc3) 0 0 0 0 0 0 0 (List.replicate ts.length 0) (List.replicate xs.length 0) (List.replicate xs.length []) (List.replicate ts.length 0)++(RZ::blk sb J34.tS (J34.cellsS a ts.length c (cnF n) a2 xs.length cc2 a3 1 cc3)::L))):=H10.drop
  refine Zp0 (x:=x) hK hg hs hU.up.up hT.up.up (S4r.InG.up (S4r.InG.up hX)) hx0 hxl rfl hsc hxN (by omega) (by omega) (by rw[gP,hxN]) (λj hj=>by rw[List.getElem?_replicate_of_lt (by omega)]) (by rw[gP,hxN]) (λj hj=>by rw[List.getElem?_replicate_of_lt (by omega)])
   (by rw[gP,hxM]) (by rw[gP,hxM]) (by rw[List.getElem?_replicate_of_lt hlx]) H11 λc0 c1 c2 c3 c4 c5 ps' w11 hpl' hps' S11 H12=>?_
  refine Za7 (a:=0) (by decide) (r_ke ⟨.inr ⟨rfl,c0,c1,c2,c3,c4,c5,ps',by omega,λj hj=>hps' j (by omega),S.trans (S9.trans (S10.trans S11)),H12⟩,?_⟩);show 0 < 1;decide
 ·refine r_lss (r_vfD (by decide) ?_);subst hRZ;refine r_nc (r_fo0 (r_ldA 0 H9 (cellsRp c0 c1 c2 c3 c4 c5 1 (rowV x.pb x.N)) rfl rfl rfl ?_));refine r_stA 2 H9 (vs:=cellsRp c0 c1 c2 c3 c4 c5 1 (rowV x.pb x.N)) rfl (Nat.le_refl 8) rfl rfl λw10 S10 H10=>?_;refine r_ldA 2 H10 (cellsRp c0 c1 c2 c3 c4 c5 1 (rowV x.pb x.N)) rfl rfl rfl ?_;rw[hxN];rw[hxN] at H10;exact k c0 c1 c2 c3 c4 c5 x.pb ps' w10 hpl' hps' (S8.trans S10) (by have h_:=Holds.ord 4 [1] H10 rfl;exact h_)
set_option maxHeartbeats 8000000 in
theorem Zi3 (tst:∀ {w:World}{L:List HProp}{K:KT},Holds w L->(∀ w',Same w w'->Holds w' L->K (.bool true) w')->Cl prog 6 #[] w K)
  (H:Holds w L) (a:Option Addr) (ts:List Tn) (c:Nat) (n:Cn) (a2:Option Addr) (xs:List ByteArray) (c2:Nat) (a3:Option Addr) (es:List J34.Et) (c3:Nat)
  (h0:(TsIn L a ts/\ts.length<=c)/\(J34.StIn L a2 xs/\xs.length<=c2)/\J34.EtIn L a3 es/\es.length<=c3) (hU:J30.TabIn L) (post:∀ w',Same w w'->Holds w' L->K (.bool true) w') :
  Cl prog 3 #[.agg (J34.cellsS a ts.length c n a2 xs.length c2 a3 es.length c3).toArray] w K:=by
 obtain⟨⟨hT,hc⟩,⟨hX,hx2⟩,hE,he3⟩:=h0;refine Tz3 ?_;unfold Vz3;refine r_new H λsb w1 S1 H1=>?_;replace H1:Holds w1 (blk sb J34.tS (J34.cellsS a ts.length c n a2 xs.length c2 a3 es.length c3)::L):=H1;refine Za0 (λy w'=>∃ z:Bool,y=.bool z/\(z=false->((∀ t∈ts,szT t)/\xs.length<=6/\es.length<=60/\∀ s∈xs,s.size<=500)/\S43.ChkS ts n xs es 0/\xs.length≠0)/\Same w w'/\Holds w' (blk sb J34.tS (J34.cellsS a ts.length c n a2 xs.length c2 a3 es.length c3)::L)) ?_ ?_
 rotate_left
 ·refine r_ldA 0 H1 (J34.cellsS a ts.length c n a2 xs.length c2 a3 es.length c3) rfl rfl rfl ?_;refine S42.Znf (m:=500) H1 hT.up (S4r.InG.up hX) (S4r.InG.up hE) λz w2 S2 H2 hz=>?_;refine r_vif (λe=>r_ke ⟨true,rfl,(λe=>by cases e),S1.trans S2,H2⟩) λe=>?_;obtain⟨z1,_,z2,z3,z4⟩:=hz e;refine r_ldA 0 H2 (J34.cellsS a ts.length c n a2 xs.length c2 a3 es.length c3) rfl rfl rfl ?_;refine S43.Zkn H2 hT.up (S4r.InG.up hX) (S4r.InG.up hE) z1 hc z2 z3 λe2 w3 S3 H3 k2=>?_;refine r_neq (r_ifN (λg=>r_ke ⟨true,rfl,(λe=>by cases e),S1.trans (S2.trans S3),H3⟩) λg=>?_);subst g;refine r_fo0 (r_ld 0 H3 (v:=.slice a2 xs.length c2) rfl rfl (r_lnl (r_eql (r_ke ⟨_,rfl,λg=>⟨⟨z1,z2,z3,z4⟩,k2,?_⟩,S1.trans (S2.trans S3),H3⟩))));intro g2;rw[g2] at g;cases g
 clear H H1 S1;rintro _ _ w2 ⟨z,rfl,hz,S,H⟩;refine r_vif (λ_=>tst H λw3 S3 H3=>post w3 (S.trans S3) H3.drop) λe=>?_;obtain⟨⟨hs,hx6,he60,hx500⟩,hchS,hx0⟩:=hz e;clear hz e z;obtain⟨str,hstr⟩:∃ str,xs[0]?=some str:=⟨_,gA (by omega)⟩
 have hsl:str.data.toList.length<=500:=by have:=hx500 str (mem_of_getElem? hstr);simpa using this
 have hch:ChkC ts n 0:=by
  rcases hchS with⟨_,g⟩|⟨g,_⟩
  ·exact absurd rfl g
  ·exact g
 have hno:¬ ∃ s∈xs,65536 < s.size:=λ⟨s,h1,h2⟩=>by have:=hx500 s h1;omega
 have hchS2:S43.ChkS ts n xs [ev1] 0:=by
  refine .inr ⟨hch,?_⟩;have hok:S42.evOk ev1 xs.length:=.inl ⟨rfl,Int.le_refl 0,by show (0:Int) < xs.length;omega,by show (0:Int)<=65536;decide,by show (65536:Int)<=65536;decide⟩;unfold S42.chkS;rw[if_neg hno];unfold S42.evE;rw[if_neg (λg=>g hok),if_neg (by decide)];rfl
 obtain⟨hg,hoc⟩:=Zg0 hch;obtain⟨n,rfl⟩:=Zv0 hoc;have hK:Kn ts n:=Kn_of ⟨hg,hoc⟩ hs;have hN16:=hK.t2;have hN0:=hK.t0;refine r_bd (v:=.agg (J34.cellsE ev1).toArray) (by kernel_rfl) ?_;refine r_bsK (e:=J34.tE) (J34.cellsE ev1) H (by kernel_rfl) λeb w3 S3 H3=>?_;refine r_fo0 (r_st 1 H3 rfl (by show 8 < 9;decide) rfl λw4 S4 H4=>?_)
 have H5:Holds w4 (RW J34.cellsE 3 J34.tE (.slice (some ⟨eb,0,none⟩) 1 1) [ev1]::blk sb J34.tS (J34.cellsS a ts.length c (cnF n) a2 xs.length c2 (some ⟨eb,0,none⟩) 1 1)::L):=
  Holds.imp H4 λg hg=>⟨some ⟨eb,0,none⟩,0,[],rfl,rfl,rfl,rfl,hg⟩
 replace S:=S.trans (S3.trans S4);clear S3 S4 H H3 H4;refine r_ldA 1 H5 (J34.cellsS a ts.length c (cnF n) a2 xs.length c2 (some ⟨eb,0,none⟩) 1 1) rfl rfl rfl ?_;refine Zsm (str:=str) hK hch hchS2 hs hc hU.up.up hT.up.up (S4r.InG.up (S4r.InG.up hX)) (S4r.InG.own 0 rfl λ_=>rfl) hstr hx6 hsl H5 λc0 c1 c2' c3' c4 c5 pb ps w5 hpl hps S5 H6=>?_;generalize hU2:usedR (runF ts n 600 q0 str.data.toList)=U at hps
 have hleast:∀ j,U j=0\/needN n.un n.wi 1 1<=U j:=λj=>by rw[<-hU2];exact Zki hK
 refine Za6 (Za5 ?_);refine r_new H6 λrb w6 S6 H7=>?_
 have hz:(zeroP prog tRp4).cells.toList=[iv 0,iv 0,iv 0,iv 0,iv 0,iv 0,iv 0,.slice none 0 0]:=by kernel_rfl
 rw[hz] at H7;refine r_stA 0 H7 (vs:=cellsRp c0 c1 c2' c3' c4 c5 1 (rowV pb ts.length)) rfl (Nat.le_refl 8) rfl rfl λw7 S7 H8=>?_;replace H8:Holds w7 (blk rb tRp4 (cellsRp c0 c1 c2' c3' c4 c5 1 (rowV pb ts.length))::slN pb ps::RW J34.cellsE 3 J34.tE (.slice (some ⟨eb,0,none⟩) 1 1) [ev1]::blk sb J34.tS (J34.cellsS a ts.length c (cnF n) a2 xs.length c2 (some ⟨eb,0,none⟩) 1 1)::L):=H8;replace S:=S.trans (S5.trans (S6.trans S7));clear S5 S6 S7 H5 H6 H7;refine r_fo0 (r_ldA 3 H8 (cellsC a ts.length c (cnF n)) rfl rfl rfl ?_);refine Zj2 H8 hT.up.up.up.up hU.up.up.up.up hs hc hch λs w8 hsc S8 H9=>?_;refine Za6 (Za5 ?_);refine r_fo0 (r_ld 11 H9 (v:=.slice a2 xs.length c2) rfl rfl ?_);have hX2:S4r.InG J34.cellsX 1 (NvL s ts n++(blk rb tRp4 (cellsRp c0 c1 c2' c3' c4 c5 1 (rowV pb ts.length))::slN pb ps::RW J34.cellsE 3 J34.tE (.slice (some ⟨eb,0,none⟩) 1 1) [ev1]::blk sb J34.tS (J34.cellsS a ts.length c (cnF n) a2 xs.length c2 (some ⟨eb,0,none⟩) 1 1)::L)) a2 xs:=Zcx (S4r.InG.up (S4r.InG.up (S4r.InG.up (S4r.InG.up hX)))) _;refine J34.Zjn (i:=0) hX2 H9 hstr (v:=.string str) rfl (by omega) ?_;rw[S_of2 str];refine Zgd hK hg hs hU.up.up.up.up hsc hsl H9 λp w9 hp S9 hob=>?_;rw[hU2] at hob;obtain⟨s',t,wt,last,m,B,acs,out,as_,ys,hsb,ho,H10⟩:=hob;replace S:=S.trans (S8.trans S9);clear S8 S9 H8 H9 hX2;refine r_fo0 (r_ld 12 H10 (v:=rowV pb ts.length) rfl rfl (r_lnl (r_fo0 (r_fo0 (r_ld 15 H10 (v:=.slice a ts.length c) rfl rfl (r_lnl (r_neq (r_vfN rfl ?_))))))));refine r_fo0 (r_fo0 (r_ld 15 H10 rfl rfl (r_fo0 (r_fo0 (r_ld 15 H10 rfl rfl ?_)))));refine Zn6 (kd:=1) (lv:=1) (u:=n.un) (wi:=n.wi) (.inl ⟨rfl,by decide,by decide⟩) hK.g1 hK.g2 hK.g3 hK.g4 ?_;refine r_fo0 (r_fo0 (r_ld 15 H10 (v:=.slice a ts.length c) rfl rfl (r_lnl ?_)));rw[<-hsb]
 refine Zac (λy w'=>∃ i:Nat,i<=ts.length/\y=nv i/\Same w w'/\Holds w' (SvL s' ts n wt last acs out B (ys.map (rowP t)) as_ (livesF ys) ys m++(blk rb tRp4 (cellsRp c0 c1 c2' c3' c4 c5 1 (rowV pb ts.length))::slN pb ps::RW J34.cellsE 3 J34.tE (.slice (some ⟨eb,0,none⟩) 1 1) [ev1] ::
  blk sb J34.tS (J34.cellsS a ts.length c (cnF n) a2 xs.length c2 (some ⟨eb,0,none⟩) 1 1)::L))) (λy _=>ts.length - (intOf y).toNat) ⟨0,by omega,rfl,S,H10⟩ ?_
 clear S H10;rintro _ _ w10 ⟨i,hi,rfl,S,H⟩;refine r_lss (r_ifD (λh=>?_) λh=>?_)
 ·have hlt:i < ts.length:=by omega
  have hpi:=hps i hlt;obtain⟨ak,hak⟩:∃ ak,as_[i]?=some ak:=⟨_,gA (by rw[ho.al];exact hlt)⟩;have hus:=ho.us i ak hak
  refine Za0 (λy w'=>y=.bool false/\Same w w'/\Holds w' (SvL s' ts n wt last acs out B (ys.map (rowP t)) as_ (livesF ys) ys m++(blk rb tRp4 (cellsRp c0 c1 c2' c3' c4 c5 1 (rowV pb ts.length))::slN pb ps::RW J34.cellsE 3 J34.tE (.slice (some ⟨eb,0,none⟩) 1 1) [ev1] ::
   blk sb J34.tS (J34.cellsS a ts.length c (cnF n) a2 xs.length c2 (some ⟨eb,0,none⟩) 1 1)::L))) ?_ ?_
  ·rintro _ _ w11 ⟨rfl,S1,H1⟩;refine r_vf (Za7 (by omega) (r_ke ⟨⟨i+1,by omega,rfl,S1,H1⟩,?_⟩));simp only[intOf,gC];omega
  ·refine r_dr H λw11 S11 H11=>?_
   have ldp:∀ {w':World} {K:Value->Prop},Holds w' (SvL s' ts n wt last acs out B (ys.map (rowP t)) as_ (livesF ys) ys m++(blk rb tRp4 (cellsRp c0 c1 c2' c3' c4 c5 1 (rowV pb ts.length))::slN pb ps::RW J34.cellsE 3 J34.tE (.slice (some ⟨eb,0,none⟩) 1 1) [ev1] ::
     blk sb J34.tS (J34.cellsS a ts.length c (cnF n) a2 xs.length c2 (some ⟨eb,0,none⟩) 1 1)::L))->K (nv (U i))->Ld (.pointer (some ⟨pb,i,none⟩)) w' K:=λh hk=>Zbn 13 h rfl hpi hk
   have ias:∀ {K:Value->Prop},K (.pointer (some ⟨pb,i,none⟩))->Ias 1 (rowV pb ts.length) (nv i) K:=λhk=>Zbb (xs:=ps) 13 H11 rfl hlt (by omega) λb2 hb2=>by cases hb2;exact hk
   refine r_fo0 (r_ld 12 H11 (v:=rowV pb ts.length) rfl rfl (ias (ldp H11 ?_)));refine OUsed H11 hak λw12 S12 H12=>?_;rw[hus];refine r_rk (ldp H12 rfl) (r_rk (r_ld 12 H12 rfl rfl rfl) (r_neq (r_vfN rfl ?_)));refine r_fo0 (r_ld 12 H12 (v:=rowV pb ts.length) rfl rfl (ias (ldp H12 (r_gtr (r_ifD (λhp0=>?_) λhp0=>?_)))))
   ·refine r_fo0 (r_ld 12 H12 (v:=rowV pb ts.length) rfl rfl (ias (ldp H12 (r_lss (r_ke ⟨?_,S.trans (S11.trans S12),H12⟩)))));have:=hleast i;rw[decide_eq_false (by omega)]
   ·exact r_ke ⟨rfl,S.trans (S11.trans S12),H12⟩
 ·refine r_eql (r_vtE rfl (r_eql (r_vtE rfl ?_)));refine r_fo0 (r_ld 12 H (v:=nv 1) rfl rfl (r_eql (r_vtE rfl ?_)));refine tst H λw11 S11 H11=>post w11 (S.trans S11) ?_;exact Holds.drop (Holds.drop (Holds.drop (Holds.drop (Zm3 (SvL s' ts n wt last acs out B (ys.map (rowP t)) as_ (livesF ys) ys m) H11))))
end
end F33
end Go.Proofs.YtgdfganaoehokaaGreatDoor
set_option maxRecDepth 1000000
namespace Go.Proofs.YtgdfganaoehokaaGreatDoor
open Go Go.Vc Go.Proofs.Tryz
attribute [local irreducible] Vc.Nc Vc.Ld Vc.LdA Vc.St Vc.StA Vc.Fo Vc.Iaa Vc.Ias Vc.Ixs Vc.Ixa Vc.Fd Vc.FdA Vc.Bp Vc.Bb Vc.Bn Vc.Up Vc.Ci Vc.Lns Vc.Lnl Vc.Ex Vc.Sst Vc.Ssl Vc.New Vc.Vif Vc.VJoin Vc.VLoop Vc.KE Vc.Dr Vc.Rk Vc.Cl Vc.Cx Vc.Inv Vc.Be Vc.Cv Vc.Cw Vc.Mf Vc.Sl Vc.Lk Vc.Bd Vc.Bs Vc.Ms Vc.Mm Vc.Mu Vc.Me Vc.Es Vc.Rg Vc.Nx Vc.Ta Vc.Ap Vc.Usd Vc.Ust Vc.Cp Vc.Ln Vc.Bc Vc.Bmin Vc.Bmax Vc.Bdel Vc.Bclr Vc.Pk
namespace F33
open Go.M31 J30 J31 J32
theorem tab_laidP {W:World}(h:laidMetH prog Rows.auditPeaksRow.laid W):TabIn [whole W]:=Zp6 h (by simp[Rows.auditPeaksRow]) (by simp[Rows.auditPeaksRow])
theorem mixedP:prog.follows .mixedOrders=true:=by kernel_rfl
theorem Zn4:Ev.isTrue (Ev.callF prog [] (Ev.evF prog [] 5000) 6 [] Ev.s0)=true:=by kernel_rfl
theorem Zmw {w:World}{L:List HProp}{K:KT}(H:Holds w L) (post:∀ w',Same w w'->Holds w' L->K (.bool true) w'):Cl prog 6 #[] w K:=Ev.Zsj mixedP Ev.Zuj Zn4 H post
theorem AuditPeaks_spec {w:World}{L:List HProp}{K:KT}(H:Holds w L) (a:Option Addr) (ts:List Tn) (c:Nat) (n:Cn) (a2:Option Addr) (xs:List ByteArray) (c2:Nat) (a3:Option Addr) (es:List J34.Et) (c3:Nat)
  (h0:(TsIn L a ts/\ts.length<=c)/\(J34.StIn L a2 xs/\xs.length<=c2)/\J34.EtIn L a3 es/\es.length<=c3) (hU:TabIn L) (post:∀ w',Same w w'->Holds w' L->K (.bool true) w') :
  Cl prog 3 #[.agg (J34.cellsS a ts.length c n a2 xs.length c2 a3 es.length c3).toArray] w K:=
 Zi3 Zmw H a ts c n a2 xs c2 a3 es c3 h0 hU post
end F33
end Go.Proofs.YtgdfganaoehokaaGreatDoor
