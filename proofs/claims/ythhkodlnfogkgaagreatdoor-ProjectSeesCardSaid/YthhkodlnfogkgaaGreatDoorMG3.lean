/- Several texts in one: Rt, Te, Bo. -/
import Derived.Test.YthhkodlnfogkgaaGreatDoorMG2
set_option linter.unusedVariables false
set_option linter.unusedSimpArgs false
open Go.RowKit (intOf)
namespace Go.Proofs.YthhkodlnfogkgaaGreatDoor
open Go Go.Vc Go.Proofs.Tryz
attribute [local irreducible] Vc.Nc Vc.Ld Vc.LdA Vc.St Vc.StA Vc.Fo Vc.Iaa Vc.Ias Vc.Ixs Vc.Ixa Vc.Fd Vc.FdA Vc.Bp Vc.Bb Vc.Bn Vc.Up Vc.Ci Vc.Lns Vc.Lnl Vc.Ex Vc.Sst Vc.Ssl Vc.New Vc.Vif Vc.VJoin Vc.VLoop Vc.KE Vc.Dr Vc.Rk Vc.Cl Vc.Cx Vc.Inv Vc.Be Vc.Cv Vc.Cw Vc.Mf Vc.Sl Vc.Lk Vc.Bd Vc.Bs Vc.Ms Vc.Mm Vc.Mu Vc.Me Vc.Es Vc.Rg Vc.Nx Vc.Ta Vc.Ap Vc.Usd Vc.Ust Vc.Cp Vc.Ln Vc.Bc Vc.Bmin Vc.Bmax Vc.Bdel Vc.Bclr Vc.Pk
namespace F33
open Go.M31 J30 J31 J32
variable {w:World}{L:List HProp}{K:KT}{ts:List Tn}
abbrev tIn:Nat:=3
abbrev tEr:Nat:=27
def whoI:Option Nat->Int
 |none=>-1
 |some i=>(i:Int)
theorem Zkh {a:Option Addr}{c:Nat}{n:Cn}{s:List UInt8}(H:Holds w L)
  (k:∀ cb sb w',Same w w'->Holds w' (blk cb tC (cellsC a ts.length c n)::blk sb tSt [S_ s]::L)->K (.func (.func 82) #[] #[pt cb,pt sb]) w') :
  Cl prog 59 #[.agg (cellsC a ts.length c n).toArray,S_ s] w K:=by
 refine Tz59 ?_;unfold Vz59;refine r_new H λcb w1 S1 H1=>?_;replace H1:Holds w1 (blk cb tC (cellsC a ts.length c n)::L):=H1;refine r_new H1 λsb w2 S2 H2=>?_;replace H2:Holds w2 (blk sb tSt [S_ s]::blk cb tC (cellsC a ts.length c n)::L):=H2;refine r_mf (.func (.func 82) #[] #[pt cb,pt sb]) (by kernel_rfl) ?_;exact k cb sb w2 (S1.trans S2) H2.swap
set_option maxRecDepth 1000000 in
theorem Zgo {z:Bool}{a:Option Addr}{c:Nat}{n:Cn}{s:List UInt8}(H:Holds w L) (hT:TsIn L a ts) (hU:J33.TabZ z L) (hA:∀ t∈ts,J33.AscT z t) (hAs:J33.Asc z s) (hs:∀ t∈ts,szT t) (hc:ts.length<=c) (hl:s.length<=65536)
  (k0:∀ e w',ChkC ts n e->e≠0->Same w w'->Holds w' L->K (.tuple #[iv 0,iv e]) w')
  (k1:ChkC ts n 0->∀ r w',TnR ts s r->Same w w'->Holds w' L->K (.tuple #[iv (whoI r),iv 0]) w') :
  Cl prog 41 #[.agg (cellsC a ts.length c n).toArray,S_ s] w K:=by
 refine Tz41 ?_;unfold Vz41;refine r_new H λca w1 S1 H1=>?_;replace H1:Holds w1 (blk ca tC (cellsC a ts.length c n)::L):=H1;refine r_new H1 λxa w2 S2 H2=>?_;replace H2:Holds w2 (blk xa tIn [iv 0]::blk ca tC (cellsC a ts.length c n)::L):=H2;refine r_new H2 λxe w3 S3 H3=>?_;replace H3:Holds w3 (blk xe tEr [iv 0]::blk xa tIn [iv 0]::blk ca tC (cellsC a ts.length c n)::L):=H3;refine r_ldA 2 H3 (cellsC a ts.length c n) rfl rfl rfl ?_;refine J33.Zgp H3 hT.up.up.up hU.up.up.up hA hs hc λe w4 S4 H4 hch=>?_;have S:=S1.trans (S2.trans (S3.trans S4));clear S1 S2 S3 S4 H H1 H2 H3;refine r_neq (r_ifN (λhe=>?_) λhe=>?_)
 ·refine r_st 1 H4 rfl (by simp) rfl λw5 S5 H5=>?_;refine r_st 0 H5 rfl (by simp) rfl λw6 S6 H6=>?_;replace H6:Holds w6 (blk xe tEr [iv e]::blk xa tIn [iv 0]::blk ca tC (cellsC a ts.length c n)::L):=H6;refine r_ld 1 H6 rfl rfl (r_ld 0 H6 rfl rfl ?_);exact k0 e w6 hch he (S.trans (S5.trans S6)) H6.drop.drop.drop
 subst he
 have hok:goodTs ts:=by
  rcases hch with⟨_,h⟩|⟨_,_,h⟩|⟨h,_⟩
  ·exact absurd rfl h
  ·cases h
  ·rcases h with⟨_,h⟩|⟨_,h⟩|⟨_,_,_,_,_,_,h⟩|⟨h,_⟩
   ·cases h
   ·cases h
   ·rcases h with⟨_,h⟩|⟨_,_,h⟩ <;> cases h
   ·exact h
 refine r_ldA 2 H4 (cellsC a ts.length c n) rfl rfl rfl ?_;refine Zkh H4 λcb sb w7 S7 H7=>?_;replace S:=S.trans S7;clear S7 H4;unfold RgF;intro rc hrdy hpend Yd;refine⟨82,#[yv (w7.heap.size+1),pt cb,pt sb],by kernel_rfl,?_⟩;have H8:=(H7.alloc (.deferred (some []))).alloc (.loop rc)
 have hsz:(w7.alloc (.deferred (some []))).heap.size=w7.heap.size+1:=by
  show (w7.heap.push _).size=_;simp
 rw[hsz] at H8;generalize hD:w7.heap.size=D at *;generalize hW:(w7.alloc (.deferred (some []))).alloc (.loop rc)=w8 at *
 have S8:Same w7 w8:=by rw[<-hW];exact (Same.alloc _ _).trans (.alloc _ _)
 have H9:Holds w8 (blk cb tC (cellsC a ts.length c n)::blk sb tSt [S_ s]::blkO (D+1) (.loop rc)::blkO D (.deferred (some []))::blk xe tEr [iv 0]::blk xa tIn [iv 0]::blk ca tC (cellsC a ts.length c n)::L):=by
  have h_:=Holds.ord 4 [2,3,0,1] H8 rfl;exact h_
 clear H7 H8 hW hsz
 have rnd:∀ (wh:Int) (jb tn e:Value) (M:List HProp) (W:World) (R:Bool->World->Prop),[iv wh,jb,tn,iv 0,iv 0,iv 0,S_ [],e].all sg=true->Holds W (M++(blkO (D+1) (.loop rc)::blkO D (.deferred (some []))::blk xe tEr [iv 0]::blk xa tIn [iv 0]::blk ca tC (cellsC a ts.length c n)::L))->
   (wh≠2->∀ W',Same W W'->Holds W' (M++(blkO (D+1) (.loop rc)::blkO D (.deferred (some []))::blk xe tEr [iv 0]::blk xa tIn [iv 0]::blk ca tC (cellsC a ts.length c n)::L))->R true W')->
   (wh=2->sg tn=true->∀ W',Same W W'->Holds W' (M++(blkO (D+1) (.loop { rc with state:=.done,pending:=some .ret })::blkO D (.deferred (some []))::blk xe tEr [iv 0]::blk xa tIn [tn]::blk ca tC (cellsC a ts.length c n)::L))->R false W')->
   YdTo prog (D+1) (.agg #[iv wh,jb,tn,iv 0,iv 0,iv 0,S_ [],e]) W R:=by
  intro wh jb tn e M W R hsg HW r1 r2;have hrec:=HW.obj _ (Zca (i:=0) rfl);refine Yd _ W R hrec ?_;refine r_new HW λnb W1 T1 G1=>?_;rw[Zd6] at G1;refine r_stA 0 G1 (vs:=[iv wh,jb,tn,iv 0,iv 0,iv 0,S_ [],e]) rfl (Nat.le_refl 8) rfl hsg λW2 T2 G2=>?_;replace G2:Holds W2 ((blk nb tAc [iv wh,jb,tn,iv 0,iv 0,iv 0,S_ [],e]::M)++(blkO (D+1) (.loop rc)::blkO D (.deferred (some []))::blk xe tEr [iv 0]::blk xa tIn [iv 0]::blk ca tC (cellsC a ts.length c n)::L)):=G2;refine⟨G2.obj _ (Zca (i:=0) rfl),?_⟩;have G3:=Holds.putR 0 (.loop { rc with state:=.busy }) G2 rfl;replace G3:Holds (W2.putObj (D+1) (.loop { rc with state:=.busy })) ((blk nb tAc [iv wh,jb,tn,iv 0,iv 0,iv 0,S_ [],e]::M)++(blkO (D+1) (.loop { rc with state:=.busy })::blkO D (.deferred (some []))::blk xe tEr [iv 0]::blk xa tIn [iv 0]::blk ca tC (cellsC a ts.length c n)::L)):=G3;have T3:Same W (W2.putObj (D+1) (.loop { rc with state:=.busy })):=T1.trans (T2.trans Zcv);generalize W2.putObj (D+1) (.loop { rc with state:=.busy })=W3 at *;clear G1 G2 T1 T2;refine r_fo0 (r_ld 0 G3 rfl rfl (r_eql (r_ifE (λh2=>?_) λh2=>?_)))
  ·refine r_fo0 (r_ld 0 G3 rfl rfl ?_)
   have htn:sg tn=true:=by
    simp only[List.all_cons,List.all_nil,Bool.and_true,Bool.and_eq_true] at hsg;exact hsg.2.2.1
   refine r_st _ G3 (Zca (i:=3) rfl) (by simp) htn λW4 T4 G4=>?_;rw[Zhf] at G4;replace G4:Holds W4 ((blk nb tAc [iv wh,jb,tn,iv 0,iv 0,iv 0,S_ [],e]::M)++(blkO (D+1) (.loop { rc with state:=.busy })::blkO D (.deferred (some []))::blk xe tEr [iv 0]::blk xa tIn [tn]::blk ca tC (cellsC a ts.length c n)::L)):=G4;refine r_st _ G4 (Zca (i:=2) rfl) (by simp) rfl λW5 T5 G5=>?_;rw[Zhf] at G5;replace G5:Holds W5 ((blk nb tAc [iv wh,jb,tn,iv 0,iv 0,iv 0,S_ [],e]::M)++(blkO (D+1) (.loop { rc with state:=.busy })::blkO D (.deferred (some []))::blk xe tEr [iv 0]::blk xa tIn [tn]::blk ca tC (cellsC a ts.length c n)::L)):=G5;refine⟨G5.obj _ (Zca (i:=0) rfl),?_⟩;have G6:=Holds.putR 0 (.loop { rc with state:=.done,pending:=some .ret }) G5 rfl;exact r2 h2 htn _ (T3.trans (T4.trans (T5.trans Zcv))) (Holds.drop G6)
  ·refine⟨G3.obj _ (Zca (i:=0) rfl),?_⟩;have G6:=Holds.putR 0 (.loop rc) G3 rfl;exact r1 h2 _ (T3.trans Zcv) (Holds.drop G6)
 have tail:∀ (x:Value) (W:World) (rc':Loop),sg x=true->Same w W->Holds W (blkO (D+1) (.loop rc')::blkO D (.deferred (some []))::blk xe tEr [iv 0]::blk xa tIn [x]::blk ca tC (cellsC a ts.length c n)::L)->
   (∀ W',Same w W'->Holds W' L->K (.tuple #[x,iv 0]) W')->TkM W (λw21=>Ld (pt xa) w21 λx_20=>Ld (pt xe) w21 λx_21=>K (.tuple #[x_20,x_21]) w21) [D]:=by
  intro x W rc' hx T G kk;refine⟨G.obj 1 rfl,?_⟩;have G2:=Holds.putR (M:=[]) 1 (.deferred none) G rfl;refine r_ld 3 G2 rfl rfl (r_ld 2 G2 rfl rfl ?_);exact kk _ (T.trans Zcv) G2.drop.drop.drop.drop.drop
 have Sz:=S.trans S8
 refine (Zmm (Zjb (ts:=ts) (Lx:=λi=>blkO (D+1) (.loop { rc with state:=.done,pending:=some .ret })::blkO D (.deferred (some []))::blk xe tEr [iv 0]::blk xa tIn [nv i]::blk ca tC (cellsC a ts.length c n)::L)
  (K:=λ_ w'=>∃ r,TnR ts s r/\Same w8 w'/\Holds w' (match r with
   |none=>blkO (D+1) (.loop rc)::blkO D (.deferred (some []))::blk xe tEr [iv 0]::blk xa tIn [iv 0]::blk ca tC (cellsC a ts.length c n)::L
   |some i=>blkO (D+1) (.loop { rc with state:=.done,pending:=some .ret })::blkO D (.deferred (some []))::blk xe tEr [iv 0]::blk xa tIn [nv i]::blk ca tC (cellsC a ts.length c n)::L))
  H9 hT.up.up.up.up.up hU.up.up.up.up.up hA hAs hs hc hok hl
  (λjb e M W R HW kr=>rnd 1 (nv jb) (iv 0) (iv e) M W R rfl HW (λ_=>kr) λh=>absurd h (by decide))
  (λi M W R HW kr=>rnd 2 (iv 0) (nv i) (iv 0) M W R rfl HW (λh=>absurd rfl h) λ_ _=>kr)
  λr w' h1 h2 h3=>⟨r,h1,h2,h3⟩)).mono ?_
 rintro e w9 ⟨v,rfl,r,hr,S9,G⟩;refine⟨⟨_,rfl⟩,?_⟩
 cases r with
 |none=>
  refine .inl ⟨G.obj 0 rfl,?_⟩;have G2:=Holds.putR (M:=[]) 0 (.loop { rc with state:=.exhausted }) G rfl;refine r_st 3 G2 rfl (by simp) rfl λwa Sa Ga=>?_;refine r_st 2 Ga rfl (by simp) rfl λwb Sb Gb=>?_;exact tail (iv (-1)) wb _ rfl (Sz.trans (S9.trans (Zcv.trans (Sa.trans Sb)))) Gb λW' T' G'=>k1 hch none W' hr T' G'
 |some i=>
  refine .inr (.inl ⟨G.obj 0 rfl,?_⟩);have G2:=Holds.putR (M:=[]) 0 (.loop { rc with state:=.exhausted,pending:=some .ret }) G rfl;exact tail (nv i) _ _ rfl (Sz.trans (S9.trans Zcv)) G2 λW' T' G'=>k1 hch (some i) W' hr T' G'
end F33
end Go.Proofs.YthhkodlnfogkgaaGreatDoor
namespace Go.Proofs.YthhkodlnfogkgaaGreatDoor
open Go Go.Vc Go.Proofs.Tryz
namespace F33
open Go.M31 J30 J31 J32
variable {ts:List Tn}
theorem add_off (r o k:Nat):(⟨r,o,none⟩:Addr).add k=⟨r,o+k,none⟩:=by
 unfold Addr.add;split
 ·rename_i h;subst h;rfl
 ·rfl
theorem Zjj {q:Ev.St}{b c e:Nat}{cs:List Ev.X}{n:Cn}{s:List Nat}{r:Option Nat}(hd:Ev.domS q q=true) (hq:q.blk b=some (e,cs))
  (hcs:∀ σ vs,Ev.vls σ cs=some vs->vs.take (5*ts.length)=flatL cellsT ts) (hA:∀ t∈ts,J33.AscT false t) (hAs:J33.Asc false (s.map UInt8.ofNat)) (hs:∀ t∈ts,szT t) (hc:ts.length<=c) (hl:s.length<=65536)
  (hk:ChkC ts n 0) (hr:∀ r',TnR ts (s.map UInt8.ofNat) r'->r'=r) :
  Ev.EntOk prog (.s 41 [.g [.l (some (b,0)) ts.length c,.i .i64 n.un,.i .i64 n.wi,.i .i64 n.bu,.i .i64 n.sp,.i .i64 n.jo,.i .i64 n.ch],.s s] q (.t [.i .i64 (whoI r),.i .i64 0]) q):=by
 refine⟨hd,?_⟩;intro base w0 σ w vs hW hv K hK;refine⟨by kernel_rfl,?_⟩;obtain⟨rb,off,k,pre,us,sp,post,own⟩:=hW.mem.own b e cs hq;have hsg:=own.sg_;simp only[Ev.vls,Ev.vl,hsg,Option.some.injEq] at hv;subst hv
 have hcell:∀ j v,(flatL cellsT ts)[j]?=some v->w.cell? ⟨rb,off+j,none⟩=some v:=by
  intro j v hj;have hlen:=Zbz (F:=cellsT) (k:=5) (λ_=>rfl) ts
  have hj5:j < 5*ts.length:=by have:=(gH.1 hj).1;omega
  rw[<-hcs σ us own.val,hI_ hj5] at hj;have:=(gH.1 hj).1;rw[own.cell this];exact hj
 have keep:∀ w':World,Holds w' [whole w]->∀ (c:Nat) (o:Obj),w.heap[c]?=some o->w'.heap[c]?=some o:=by
  intro w' H' c o ho;obtain⟨g,hg,hgs,_⟩:=H';exact hgs _ _ (hg _ _ ho)
 have hT:TsIn [whole w] (some ⟨rb,off+0,none⟩) ts:=by
  intro w' H' i t ht;refine⟨_,rfl,λj v hj=>?_⟩;have hj5:j < 5:=(gH.1 hj).1;have h1:=Zdw (F:=cellsT) (k:=5) (λ_=>rfl) ts i t ht
  have h2:(flatL cellsT ts)[i*5+j]?=some v:=by
   have:((flatL cellsT ts).drop (i*5)).take 5=cellsT t:=h1;rw[<-this,hI_ hj5,hH_] at hj;exact hj
  have h3:=hcell _ _ h2;rw[Addr.add_add,add_off];unfold World.cell? at h3 ⊢
  cases hb:w.heap[rb]? with
  |none=>simp only[hb] at h3;cases h3
  |some o=>
   simp only[hb] at h3;simp only[keep w' H' rb o hb];exact h3
 show Cl prog 41 #[.agg (cellsC (some ⟨rb,off+0,none⟩) ts.length (c+k) n).toArray,S_ (s.map UInt8.ofNat)] w K;refine Zgo (z:=false) (holds_whole w) hT (λh=>by cases h) hA hAs hs (by omega) (by rw[List.length_map];exact hl) (λe w' hch he _ _=>absurd (Zmb hch hk) he) λ_ r' w' htn S' H'=>?_;obtain rfl:=hr r' htn;exact hK σ w' _ (Ev.Ext.refl _) (hW.keepAll S' (keep w' H')) rfl
end F33
end Go.Proofs.YthhkodlnfogkgaaGreatDoor
namespace Go.Proofs.YthhkodlnfogkgaaGreatDoor
open Go Go.Vc Go.Proofs.Tryz
namespace F33
open Go.M31 J30 J31 J32
theorem Zge:∀ (l:List UInt8),(∀ b∈l,b < 128)->runes l=l.map λb=>((b.toNat:Int),1)
 |[],_=>by unfold runes;rw[dif_pos rfl];rfl
 |b::l,h=>by
  have hb:=h b (hJ_ ..)
  have h1:byt (b::l) 0 < 128:=by
   show b.toNat < 128;simpa using UInt8.lt_iff_toNat_lt.1 hb
  have h2:=J33.Zgc h1;unfold runes;rw[dif_neg (by simp),h2];show (_,1)::runes ((b::l).drop 1)=_;rw[List.drop_succ_cons,List.drop_zero,Zge l λx hx=>h x (hK_ _ hx)];rfl
theorem Zm2 {l:List UInt8}(h:∀ b∈l,b < 128) (hm:∀ b∈l,mayR (b.toNat:Int)) (h1:0 < l.length) (h2:l.length<=32):word l:=by
 unfold word;rw[Zge l h];refine⟨λr hr=>?_,by simpa using h1,by simpa using h2⟩;obtain⟨b,hb,rfl⟩:=List.mem_map.1 hr;exact hm b hb
abbrev ann:Tn:=⟨Ev.str [97,110,110],Ev.str [107,101,121],1048576,1048576,50⟩
abbrev bob:Tn:=⟨Ev.str [98,111,98],Ev.str [107,101,122],1048576,1048576,50⟩
abbrev ts46:List Tn:=[ann,bob]
abbrev n46:Cn:=⟨24,64,200,5,3,10⟩
abbrev s46:List Nat:=[1,0,0,0,0,0,0,0,3,107,101,122]
abbrev f46:Fr:=⟨1,0,[107,101,122]⟩
abbrev x46:List Ev.X:=[.s [97,110,110],.s [107,101,121],.i .i64 1048576,.i .i64 1048576,.i .i64 50,.s [98,111,98],.s [107,101,122],.i .i64 1048576,.i .i64 1048576,.i .i64 50]
theorem dec46:dec (s46.map UInt8.ofNat)=.ok f46 12:=by kernel_rfl
theorem w46 {l:List UInt8}(h:l=[97,110,110]\/l=[107,101,121]\/l=[98,111,98]\/l=[107,101,122]):word l:=by
 rcases h with rfl|rfl|rfl|rfl <;> exact Zm2 (by decide) (by decide) (by decide) (by decide)
theorem get46 {i:Nat}{t:Tn}(h:ts46[i]?=some t):(i=0/\t=ann)\/(i=1/\t=bob):=by
 match i,h with
 |0,h=>exact .inl ⟨rfl,(Option.some.inj h).symm⟩
 |1,h=>exact .inr ⟨rfl,(Option.some.inj h).symm⟩
 |i+2,h=>cases h
theorem good46:goodTs ts46:=by
 refine⟨λi t h=>?_,λi t j u h1 h2 hlt=>?_,by decide,by decide⟩
 ·rcases get46 h with⟨_,rfl⟩|⟨_,rfl⟩
  ·exact⟨w46 (.inl rfl),w46 (.inr (.inl rfl)),by decide,by decide,by decide,by decide,by decide,by decide⟩
  ·exact⟨w46 (.inr (.inr (.inl rfl))),w46 (.inr (.inr (.inr rfl))),by decide,by decide,by decide,by decide,by decide,by decide⟩
 ·rcases get46 h1 with⟨rfl,rfl⟩|⟨rfl,rfl⟩ <;> rcases get46 h2 with⟨rfl,rfl⟩|⟨rfl,rfl⟩
  ·omega
  ·omega
  ·constructor
   ·intro e;have:=congrArg (λb:ByteArray=>b.data.toList) e;exact absurd this (by decide)
   ·intro e;have:=congrArg (λb:ByteArray=>b.data.toList) e;exact absurd this (by decide)
  ·omega
theorem chk46:ChkC ts46 n46 0:=.inr (.inr ⟨.inr (.inr (.inr ⟨good46,rfl⟩)),⟨by decide,by decide,by decide,by decide,by decide,by decide,by decide,by decide,by decide,by decide,by decide,by decide⟩,rfl⟩)
theorem tn46:∀ r',TnR ts46 (s46.map UInt8.ofNat) r'->r'=some 1:=by
 intro r' h
 cases h with
 |stop h=>rw[dec46] at h;cases h
 |hit h hl hi=>
  rw[dec46] at h;cases h;obtain⟨⟨t,ht,he⟩,_⟩:=hi;rcases get46 ht with⟨rfl,rfl⟩|⟨rfl,rfl⟩
  ·exact absurd he (by decide)
  ·rfl
 |go h hn t=>
  rw[dec46] at h;cases h;rcases hn with hn|hn
  ·exact absurd ⟨rfl,rfl,w46 (.inr (.inr (.inr rfl)))⟩ hn
  ·exact absurd rfl (hn 1 bob rfl)
theorem Zhx {q:Ev.St}{b e c:Nat}{cs:List Ev.X}(hd:Ev.domS q q=true) (hq:q.blk b=some (e,cs)) (hcs:cs.take 10=x46) (hc:2<=c) :
  Ev.EntOk prog (.s 41 [.g [.l (some (b,0)) 2 c,.i .i64 24,.i .i64 64,.i .i64 200,.i .i64 5,.i .i64 3,.i .i64 10],.s s46] q (.t [.i .i64 1,.i .i64 0]) q):=by
 refine Zjj (ts:=ts46) (n:=n46) (r:=some 1) hd hq ?_ ?_ ?_ ?_ hc (by decide) chk46 tn46
 ·intro σ vs h;have h2:=Ev.Zah 10 h;rw[hcs] at h2;exact (Option.some.inj h2).symm
 ·intro t ht;rcases List.mem_cons.1 ht with rfl|ht
  ·exact⟨λ_=>by decide,λ_=>by decide⟩
  ·rw[List.mem_singleton.1 ht];exact⟨λ_=>by decide,λ_=>by decide⟩
 ·exact λ_=>by decide
 ·intro t ht;rcases List.mem_cons.1 ht with rfl|ht
  ·exact⟨by decide,by decide⟩
  ·rw[List.mem_singleton.1 ht];exact⟨by decide,by decide⟩
end F33
end Go.Proofs.YthhkodlnfogkgaaGreatDoor
