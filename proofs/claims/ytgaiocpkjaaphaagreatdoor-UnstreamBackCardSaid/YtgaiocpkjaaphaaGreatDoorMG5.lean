/- Several texts in one: Bd, W22, O2U, W2l, W2t, O2K, W2y. -/
import Derived.Test.YtgaiocpkjaaphaaGreatDoorMG2
import Derived.Test.YtgaiocpkjaaphaaGreatDoorMG0
import Derived.Test.YtgaiocpkjaaphaaGreatDoorMG4
import Derived.Lib.SmallJoins
set_option linter.unusedVariables false
set_option linter.unusedSimpArgs false
open Go.RowKit (intOf)
open List (drop_zero mem_filter)
namespace Go.Vc
open Ev
variable {P:Program}{w:World}{L:List HProp}
theorem Znf (H:Holds w L) (j:Nat){b:Nat}{ty:TypeId}{cs:List Value}(hj:L[j]?=some (blk b ty cs)):w.shape? b=some (ty,cs.length):=by
 unfold World.shape?;rw[H.obj j hj];simp
theorem Ye0 {q d t ty:TypeId}{b:Nat}{cs:List Value}{i:TypeInfo}{K:KT}(hq:P.underlying q=some (.pointer t)) (hd:P.underlying d=some .unsafePointer) (hi:P.info? t=some i) (h2:i.size≠0)
  (H:Holds w L) (j:Nat) (hj:L[j]?=some (blk b ty cs)) (h0:0 < cs.length) (k:K (.pointer (some ⟨b,0,none⟩)) w):Cw P q d (.pointer (some ⟨b,0,none⟩)) w K:=by
 have hsh:=Znf H j hj;have hn:cs≠[]:=gZ.1 h0;refine r_cw ?_ k;simp[convert,run_underlying hq,run_underlying hd,Conv.unsafePointer,Conv.seenAt,viewAt,cellsIn,hsh,Zc5 hi,h2,hn]
theorem Yea {q d t ty:TypeId}{b:Nat}{cs:List Value}{i:TypeInfo}{K:KT}(hq:P.underlying q=some .unsafePointer) (hd:P.underlying d=some (.pointer t)) (hi:P.info? t=some i)
  (hl:liesAt P P.depth ty (cs.length/P.cellsOf ty) 0 t 1=true)
  (H:Holds w L) (j:Nat) (hj:L[j]?=some (blk b ty cs)) (k:K (.pointer (some ⟨b,0,none⟩)) w):Cw P q d (.pointer (some ⟨b,0,none⟩)) w K:=by
 have hsh:=Znf H j hj;refine r_cw ?_ k;simp[convert,run_underlying hq,run_underlying hd,Conv.unsafePointer,Conv.seenAt,viewAt,hsh,Zc5 hi,variablesAt,hl]
end Go.Vc
namespace Go.Proofs.YtgaiocpkjaaphaaGreatDoor
open Go Go.Vc Go.Proofs.Tryz
attribute [local irreducible] Vc.Nc Vc.Ld Vc.LdA Vc.St Vc.StA Vc.Fo Vc.Iaa Vc.Ias Vc.Ixs Vc.Ixa Vc.Fd Vc.FdA Vc.Bp Vc.Bb Vc.Bn Vc.Up Vc.Ci Vc.Lns Vc.Lnl Vc.Ex Vc.Sst Vc.Ssl Vc.New Vc.Vif Vc.VJoin Vc.VLoop Vc.KE Vc.Dr Vc.Rk Vc.Cl Vc.Cx Vc.Inv Vc.Be Vc.Cv Vc.Cw Vc.Mf Vc.Sl Vc.Lk Vc.Bd Vc.Bs Vc.Ms Vc.Mm Vc.Mu Vc.Me Vc.Es Vc.Rg Vc.Nx Vc.Ta Vc.Ap Vc.Usd Vc.Ust Vc.Cp Vc.Ln Vc.Bc Vc.Bmin Vc.Bmax Vc.Bdel Vc.Bclr Vc.Pk
namespace Bd
variable {w:World}{L:List HProp}{K:KT}{b:Nat}{t:List UInt8}
abbrev tBd:Nat:=114
theorem Ydd {f:Nat}{v:Value}{fn:Func}(h:Ev.extK prog f=some (fn,.noEsc)) (k:K v w):Cx prog f #[v] w K:=
 r_cx (Ev.callExt (P:=prog) (w:=w) (w':=w) (args:=#[v]) (v:=v) h (Ev.Zsl (Ev.Zqa h).2.2) rfl).2 k
theorem noesc:∃ fn,Ev.extK prog 176=some (fn,.noEsc):=⟨f176,by kernel_rfl⟩
def BdR (b:Nat) (t:List UInt8):HProp:=λh=>∃ p v,(p=.pointer none\/p=pt b)/\Sat [blk b tBd [p,v],SL bv tB v t] h
theorem Zlv (H:Holds w (BdR b t::L)):∃ p v,(p=.pointer none\/p=pt b)/\Holds w (blk b tBd [p,v]::SL bv tB v t::L):=by
 obtain⟨p,H⟩:=Holds.ex H;obtain⟨v,H⟩:=Holds.ex H;obtain⟨hp,H⟩:=Holds.pure H;exact⟨p,v,hp,Holds.unpack H⟩
theorem Zfw {p v:Value}(hp:p=.pointer none\/p=pt b) (H:Holds w (blk b tBd [p,v]::SL bv tB v t::L)):Holds w (BdR b t::L):=
 Holds.imp (Holds.pack (A:=[blk b tBd [p,v],SL bv tB v t]) H) λ_ hh=>⟨p,v,hp,hh⟩
theorem Yc7:(zeroP prog tBd).cells.toList=[.pointer none,.slice none 0 0]:=by kernel_rfl
theorem Yel (H:Holds w (blk b tBd (zeroP prog tBd).cells.toList::L)):Holds w (BdR b []::L):=by
 rw[Yc7] at H;exact Zfw (.inl rfl) (H.nilSL bv tB).swap
theorem Zjn (H:Holds w (BdR b t::L)) (k:∀ w',Same w w'->Holds w' (BdR b t::L)->K (.tuple #[]) w'):Cl prog 129 #[pt b] w K:=by
 refine Tz129 ?_;unfold Vz129;obtain⟨p,v,hp,H1⟩:=Zlv H;obtain⟨fn,hfn⟩:=noesc;refine r_nc (r_fo0 (r_ld 0 H1 rfl rfl ?_));rcases hp with rfl|rfl
 ·refine Zjv (r_vt ?_);refine Ye0 (t:=tBd) (i:=t114) (by kernel_rfl) (by kernel_rfl) (by kernel_rfl) (by decide) H1 0 rfl (by simp) ?_;refine Ydd hfn ?_;refine Yea (t:=tBd) (i:=t114) (by kernel_rfl) (by kernel_rfl) (by kernel_rfl) (by kernel_rfl) H1 0 rfl ?_;refine r_nc (r_fo0 ?_);refine r_st 0 H1 rfl (by simp) rfl λw2 S2 H2=>?_;exact k _ S2 (Zfw (.inr rfl) H2)
 ·refine Zab (r_vf ?_);refine r_nc (r_fo0 (r_ld 0 H1 rfl rfl ?_));refine Yem (i:=t114) (by kernel_rfl) (r_vf ?_);exact k w (.refl w) (Zfw (.inr rfl) H1)
theorem Zhc {s:List UInt8}(H:Holds w (BdR b t::L)) (hn:t.length+s.length<=1099511627776) (k:∀ v w',Same w w'->Holds w' (BdR b (t++s)::L)->K v w'):Cl prog 78 #[pt b,.string ⟨s.toArray⟩] w K:=by
 refine Tz78 ?_;unfold Vz78;refine Zjn H λw1 S1 H1=>?_;obtain⟨p,v,hp,H2⟩:=Zlv H1;refine r_nc (r_fo0 (r_ld 0 H2 rfl rfl ?_));refine Zwg (by kernel_rfl) H2 1 rfl hn λv' w3 S3 H3=>?_;refine r_nc (r_fo0 ?_);refine r_st 0 H3 rfl (by simp) (SL_sg H3 1 rfl) λw4 S4 H4=>?_;refine r_lns ?_;exact k _ _ ((S1.trans S3).trans S4) (Zfw hp H4)
theorem Zpj (H:Holds w (BdR b t::L)) (hn:t.length<=1099511627776) (k:∀ w',Same w w'->Holds w' L->K (.string ⟨t.toArray⟩) w'):Cl prog 75 #[pt b] w K:=by
 refine Tz75 ?_;unfold Vz75;refine r_dr H λw1 S1 H1=>?_;obtain⟨p,v,hp,H2⟩:=Zlv H1;refine r_nc (r_fo0 (r_ld 0 H2 rfl rfl ?_));have hv:Lnl v λn=>n=nv t.length:=r_lnS 1 H2 rfl rfl;have hld:∀ w',Holds w' (blk b tBd [p,v]::L)->Ld (.pointer (some ⟨b,1,none⟩)) w' λu=>u=v:=λw' H'=>r_ld 0 H' rfl rfl rfl;refine Yee (e:=tB) (pty:=190) (ity:=3) (by kernel_rfl) (by kernel_rfl) (by kernel_rfl) H2 1 rfl hn λpv w3 S3 H3 hust=>?_;replace H3:Holds w3 (blk b tBd [p,v]::L):=H3;refine r_nc (r_fo0 (r_ld 0 H3 rfl rfl ?_));refine r_rk (r_ld 0 H2 rfl rfl rfl) ?_;refine r_lnS 1 H2 rfl ?_;refine r_rk (r_lnS 1 H2 rfl rfl) ?_;refine hust _ (λw4 S4 H4=>?_) _;exact k _ ((S1.trans S3).trans S4) (show Holds w4 (blk b tBd [p,v]::L) from H4).drop
end Bd
namespace U22
open Go.M01 Go.Mb Go.Mp Go.M10 Go.Mc Go.Mz Go.Mk Go.Q20 Go.M02 Go.M03 Go.M20 Go.Q24 Go.Q25 Rb
variable {w:World}{L:List HProp}{K:KT}{b r:Nat}{B:List UInt8}{d at_:Nat}{u:US}
def outT:TOut->List UInt8
 |.bad _=>[]
 |.got t=>t
def outE:TOut->Nat
 |.bad e=>e
 |.got _=>0
def lastN (w:World) (b:Nat):Nat:=match w.cell? ⟨b,4,none⟩ with
 |some (.pointer (some a))=>B20.cellN w a.block 5
 |_=>0
theorem Zzg (H:Holds w (UsR b u::L)):lastN w b=bkL u.blk:=by
 have H0:=(Zc1 H).2;unfold lastN
 cases hb:u.blk with
 |none=>
  have H1:=Raw_openN hb H0;rw[H1.cell 0 rfl 4];rfl
 |some s=>
  obtain⟨q,H1⟩:=Raw_openS hb H0;rw[H1.cell 0 rfl 4];exact B20.Zq0 H1.swap
theorem Ztl {u':US}{l:List Bool}{k n:Nat}(hu:u.Ok) (h:ustep u l=.ok (u',k) n):1<=n\/(n=0/\u.due=2/\u'.due=2/\bkL u'.blk=bkL u.blk+1)\/(n=0/\u.due=2/\u'.due=1):=by
 unfold ustep at h;split at h
 ·unfold uletter at h
  repeat' split at h
  all_goals first
   |(cases h;exact .inl (by omega))
   |cases h
 ·split at h
  ·unfold umagic at h
   repeat' split at h
   all_goals first
    |(cases h;exact .inl (by omega))
    |cases h
  ·split at h
   ·rename_i hd2;unfold ubody at h;split at h
    ·cases h
    ·rename_i s hb;obtain⟨_,hbo,hbd,hbr⟩:=hu.blk s hb;unfold uwith at h;split at h
     ·cases h
     ·cases h
     ·rename_i b' n' hs;have hpg:=Q23.Zes hbo hs;split at h
      ·cases h;rcases hpg.2 with⟨h3,h4⟩|⟨h3,h4⟩
       ·exact .inl h3
       ·exact .inr (.inr ⟨h3,hd2,rfl⟩)
      ·cases h;rcases hpg.2 with⟨h3,h4⟩|⟨h3,h4⟩
       ·exact .inl h3
       ·refine .inr (.inl ⟨h3,hd2,hd2,?_⟩);rw[hb];exact h4
   ·unfold usum at h
    repeat' split at h
    all_goals first
     |(cases h;exact .inl (by omega))
     |cases h
def mea (w:World) (b r len:Nat):Nat:=
 (8*len - B20.cellN w r 2)*1000003+(match w.cell? ⟨b,1,none⟩ with|some (.int _ n)=>if n=2 then 1000001 - lastN w b else 0|_=>0)
theorem Zqn (H:Holds w (UsR b u::RdR r B d at_::L)):mea w b r B.length=(8*B.length - at_)*1000003+if u.due=2 then 1000001 - bkL u.blk else 0:=by
 obtain⟨p,L',H1,_⟩:=Zg5 H;unfold mea;rw[B20.at_of H.drop,H1.cell 0 rfl 1,Zzg H]
 congr 1
 simp only[usC,gF,List.getElem?_cons_zero];split
 ·rw[if_pos (by omega)]
 ·rw[if_neg (by omega)]
theorem Zwa (hu:u.Ok):bkL u.blk<=900000:=by
 have h1:=Yds hu;have h2:=hu.unit;omega
theorem Zdy {s:List UInt8}{unit:Nat}(H:Holds w L) (hs:s.length<=90000) (h1:24<=unit) (h2:unit<=100000)
  (k:∀ o,TComes (u0 unit,[]) (bitsL s) o->∀ w',Same w w'->Holds w' L->K (.tuple #[S_ (outT o),nv (outE o)]) w'):Cl prog 31 #[nv unit,S_ s] w K:=by
 refine Tz31 ?_;unfold Vz31;refine New_spec H h1 h2 λb w1 S1 H1=>?_;refine Za4 (Za3 ?_);refine r_neq (r_vfN rfl ?_);refine Rb.NewReader_spec H1 (by omega) λr w2 S2 H2=>?_;refine r_new H2 λob w3 S3 H3=>?_;replace H3:=Bd.Yel H3;replace S1:=(S1.trans S2).trans S3;clear H H1 H2 S2 S3;replace H3:Holds w3 (UsR b (u0 unit)::RdR r s 0 0::Bd.BdR ob []::L):=(by have h_:=Holds.ord 3 [2,1,0] H3 rfl;exact h_)
 refine Zjc (λw'=>∃ (u:US) (t:List UInt8) (q i m:Nat),TRun (u0 unit,[]) (bitsL s) (u,t) q/\Cnt u q i m/\t.length<=229500000*m/\Same w w'/\Holds w' (UsR b u::RdR r s 0 q::Bd.BdR ob t::L))
  (λw'=>mea w' b r s.length) ⟨u0 unit,[],0,0,0,.start,cnt0 unit,hE _,S1,H3⟩ ?_
 clear H3 S1;rintro _ w4 ⟨u,t,q,i,m,hr,hcnt,htl,S,H⟩;have hu:=(Zc1 H).1;have hq:=(Zag H.drop).1.2.1;have hm0:=Zqn H;have hrest:(bitsL s).drop q=rest s q:=rfl;have hrl:=Zbm s q
 have hm12:160*m<=q:=by have:=hcnt.bits;omega
 refine Za2 (λx w'=>Same w w'/\Holds w' (UsR b u::RdR r s 0 q::Bd.BdR ob t::L)/\x=.bool (u.mayEnd&&decide (rest s q=[]))/\mea w' b r s.length=mea w4 b r s.length) ?_ ?_
 rotate_left
 ·refine Zpg H ?_
  cases hme:u.mayEnd with
  |false=>
   refine r_vf ?_;exact r_ke ⟨S,H,rfl,rfl⟩
  |true=>
   refine r_vt ?_;have H1:Holds w4 (RdR r s 0 q::UsR b u::Bd.BdR ob t::L):=H.swap;refine Rb.Zg3 H1 λw5 S5 H5=>?_;refine r_eql (r_ke ⟨S.trans S5,H5.swap,congrArg Value.bool ?_,?_⟩)
   ·rw[Bool.true_and,Bool.eq_iff_iff,beq_iff_eq,decide_eq_true_iff,<-List.length_eq_zero_iff];omega
   ·rw[Zqn H5.swap,hm0]
 clear S H;rintro _ _ w5 ⟨S,H,rfl,hmea⟩
 cases hend:(u.mayEnd&&decide (rest s q=[])) with
 |true=>
  refine r_vt ?_
  have h3:u.mayEnd=true/\rest s q=[]:=by simpa using hend
  have H1:Holds w5 (Bd.BdR ob t::UsR b u::RdR r s 0 q::L):=(by have h_:=Holds.ord 3 [2,0,1] H rfl;exact h_);refine Bd.Zpj H1 (by omega) λw6 S6 H6=>?_;refine k (.got t) ⟨(u,t),q,hr,.inr (.inl ⟨?_,rfl⟩)⟩ _ (S.trans S6) H6.drop.drop;unfold tstep;rw[if_pos ⟨h3.1,h3.2⟩]
 |false=>
  refine r_vf ?_
  have hts:tstep (u,t) (rest s q)=tnext t (ustep u (rest s q)):=by
   unfold tstep;rw[if_neg];rintro⟨h3,h4⟩;simp only at h3;rw[h3,h4] at hend;simp at hend
  refine Step_spec H λwt e w6 S6 hA=>?_;refine Za4 (Za3 ?_)
  cases hx:ustep u (rest s q) with
  |short=>
   rw[hx] at hA hts;obtain⟨rfl,rfl,H6⟩:=hA;refine r_eql (r_vtE rfl ?_);exact k (.bad 24) ⟨(u,t),q,hr,.inl ⟨hts,rfl⟩⟩ _ (S.trans S6) H6.drop.drop.drop
  |bad c=>
   have hcb:=Zny hu hx;rw[hx] at hA hts;obtain⟨rfl,rfl,q',H6⟩:=hA;refine r_eql (r_vfE (by omega) ?_);refine r_neq (r_vtN (by omega) ?_);exact k (.bad c) ⟨(u,t),q,hr,.inr (.inr ⟨c,by omega,hts,rfl⟩)⟩ _ (S.trans S6) H6.drop.drop.drop
  |ok y n=>
   obtain⟨u',kk⟩:=y;have hcn:=Zx1 hu hcnt hx;have hpg:=Ztl hu hx;have hok':=Zfa hu hx;rw[hx] at hA hts;obtain⟨rfl,rfl,H6⟩:=hA;have hq6:=(Zag H6.drop).1.2.1;have hb':=Zwa hok'.1;have hb0:=Zwa hu;refine r_eql (r_vfE (by decide) ?_);refine r_neq (r_vfN rfl ?_);have hm6:=Zqn H6
   have hfall:∀ {w7:World},Holds w7 (UsR b u'::RdR r s 0 (q+n)::L)->mea w7 b r s.length < mea w4 b r s.length:=by
    intro w7 H7;rw[Zqn H7,hm0];rcases hpg with h3|⟨h3,hd1,hd2,h4⟩|⟨h3,hd1,hd2⟩
    ·have:(8*s.length - (q+n))*1000003+1000003<=(8*s.length - q)*1000003:=by
      have:(8*s.length - (q+n))+1<=8*s.length - q:=by omega
      have:=Nat.mul_le_mul_right 1000003 this;omega
     split <;> omega
    ·subst h3;rw[Nat.add_zero,h4,if_pos hd2,if_pos hd1];omega
    ·subst h3;rw[Nat.add_zero,if_neg (by omega),if_pos hd1];omega
   refine r_eql (r_ifE (λh3=>?_) λh3=>?_)
   ·obtain rfl:kk=1:=by omega
    simp only[if_true] at hcn;simp only[tnext,if_true] at hts;refine Zyt H6 λw7 S7 H7=>?_;have hlast:=hok'.1.last;refine O20.Zu8 (l:=u'.last) (o:=(u'.frm:Int)) (s:=(u'.sum:Int)) H7 hlast λw8 S8 H8=>?_;refine Za4 (Za3 ?_);have hoe:=Zxs u'.last u'.frm u'.sum;have hol:=Ycw u'.last u'.frm u'.sum;refine r_neq (r_ifN (λh4=>?_) λh4=>?_)
    ·rw[if_neg h4] at hts
     have hen:(opn u'.last (u'.frm:Int) (u'.sum:Int)).2=(((opn u'.last (u'.frm:Int) (u'.sum:Int)).2.toNat:Nat):Int):=by omega
     rw[hen];exact k (.bad _) ⟨(u,t),q,hr,.inr (.inr ⟨_,by omega,hts,rfl⟩)⟩ _ (((S.trans S6).trans S7).trans S8) H8.drop.drop.drop
    ·rw[if_pos h4] at hts;have hr':=hr.next rfl hts;have H9:Holds w8 (Bd.BdR ob t::UsR b u'::RdR r s 0 (q+n)::L):=(by have h_:=Holds.ord 3 [2,0,1] H8 rfl;exact h_);refine Bd.Zhc H9 (by omega) λv wa Sa Ha=>?_;have Hb:Holds wa (UsR b u'::RdR r s 0 (q+n)::Bd.BdR ob (t++(opn u'.last (u'.frm:Int) (u'.sum:Int)).1)::L):=(by have h_:=Holds.ord 3 [1,2,0] Ha rfl;exact h_);refine r_ke ⟨⟨u',_,q+n,i+1,m+1,hr',hcn,?_,(((S.trans S6).trans S7).trans S8).trans Sa,Hb⟩,?_⟩
     ·rw[gD];omega
     ·exact hfall (Holds.dropAt Hb 2)
   ·have h3':¬ kk=1:=by omega
    rw[if_neg h3'] at hcn;simp only[tnext,if_neg h3'] at hts;have hr':=hr.next rfl hts;exact r_ke ⟨⟨u',t,q+n,i+1,m,hr',hcn,htl,S.trans S6,H6⟩,hfall (Holds.dropAt H6 2)⟩
end U22
end Go.Proofs.YtgaiocpkjaaphaaGreatDoor
namespace Go.Vc
end Go.Vc
namespace Go.Proofs.YtgaiocpkjaaphaaGreatDoor
open Go Go.Vc Go.Proofs.Tryz
attribute [local irreducible] Vc.Nc Vc.Ld Vc.LdA Vc.St Vc.StA Vc.Fo Vc.Iaa Vc.Ias Vc.Ixs Vc.Ixa Vc.Fd Vc.FdA Vc.Bp Vc.Bb Vc.Bn Vc.Up Vc.Ci Vc.Lns Vc.Lnl Vc.Ex Vc.Sst Vc.Ssl Vc.New Vc.Vif Vc.VJoin Vc.VLoop Vc.KE Vc.Dr Vc.Rk Vc.Cl Vc.Cx Vc.Inv Vc.Be Vc.Cv Vc.Cw Vc.Mf Vc.Sl Vc.Lk Vc.Bd Vc.Bs Vc.Ms Vc.Mm Vc.Mu Vc.Me Vc.Es Vc.Rg Vc.Nx Vc.Ta Vc.Ap Vc.Usd Vc.Ust Vc.Cp Vc.Ln Vc.Bc Vc.Bmin Vc.Bmax Vc.Bdel Vc.Bclr Vc.Pk
namespace G33
set_option maxRecDepth 1000000 in
theorem pair_open {H:Type}{enc:TypeId × Value->H}{W:World}{base:Nat}{v:Value}{d:DataW H}{ps:List MemPlace}(hval:Value.okWide prog W .any base 51 v)
  (h:DataW.Trod enc prog W 0 (λ_=>true) true 51 v d ps):∃ x y:Int,v=.agg #[iv x,iv y]/\True:=by
 have hu:=underlying51
 obtain⟨cs,rfl,hsz⟩:∃ cs,v=.agg cs/\cs.size=prog.cellsOf 51:=by
  simp only[Value.okWide,hu] at hval;obtain⟨cs,h1,h2,_⟩:=hval;exact⟨cs,h1,h2⟩
 obtain⟨c0,c1,rfl⟩:=Joins.array2 (hsz.trans (by kernel_rfl));obtain⟨fuel,h⟩:=h;replace h:DataW.trod enc prog W 0 (λ_=>true) true fuel 51 [c0,c1]=some (d,ps):=h
 cases fuel with
 |zero=>simp[DataW.trod] at h
 |succ n=>
  unfold DataW.trod at h;rw[hu] at h;have r2:List.range 2=[0,1]:=rfl
  have hce:prog.cellsOf 3=1:=by kernel_rfl
  simp[r2,hce] at h;obtain⟨_,h⟩:=h
  cases h0:DataW.trod enc prog W 0 (λ_=>true) true n 3 [c0] with
  |none=>simp[h0] at h
  |some y0=>
   cases h1:DataW.trod enc prog W 0 (λ_=>true) true n 3 [c1] with
   |none=>simp[h0,h1] at h
   |some y1=>
    obtain⟨z0,g0,_⟩:=DataW.trod_int underlying3 h0;obtain⟨z1,g1,_⟩:=DataW.trod_int underlying3 h1;simp only[List.cons.injEq,and_true] at g0 g1;exact⟨z0,z1,by rw[g0,g1],trivial⟩
end G33
namespace P20
open Go.M01 Go.Mb Go.Me Go.M02 Go.M03 Go.M3d Go.M18 Go.M20 Go.Mh Go.Q20 Go.Q24 Go.Qs T12 W14 W20
variable {w:World}{L:List HProp}{K:KT}
theorem Zhv {s:List UInt8}{o:TOut}(H:Holds w L) (hs:s.length<=90000) (ho:TComes (atL (u0 100000) 0,[]) (bitsL s) o) (k:∀ w',Same w w'->Holds w' L->K (.tuple #[S_ (U22.outT o),nv (U22.outE o)]) w'):Cl prog 67 #[S_ s] w K:=by
 refine Tz67 ?_;unfold Vz67;refine U22.Zdy (unit:=100000) H hs (by decide) (by decide) λo2 hc w1 S1 H1=>?_;obtain rfl:=hc.det ho;exact Za4 (Za3 (k _ S1 H1))
theorem c1 (u:US) (h:u.ended=false):TComes (atL u 0,[]) (bitsL []) (.bad 24):=Zw9 (by decide) (.inr (.inr h))
theorem c2 (u:US):TComes (atL u 0,[]) (bitsL [66,90,120]) (.bad 20):=by
 have r1:TRun (atL u 0,[]) (bitsL [66,90,120]) (atL u 1,[]) (0+8):=Run.start.next rfl (Zlu (by decide) (by decide) (by decide));have r2:TRun (atL u 0,[]) (bitsL [66,90,120]) (atL u 2,[]) (0+8+8):=r1.next rfl (Zlu (by decide) (by decide) (by decide));exact .after r2 (Zn7 (by decide) (by decide) (by decide))
theorem c3 (u:US) (hu:u.unit=100000):TComes (atL u 0,[]) (bitsL [66,90,104,57,23,114,69,56,80,144,0,0,0,0]) (.got []):=by
 have e:bitsL [66,90,104,57,23,114,69,56,80,144,0,0,0,0]=strB 9 []++(List.replicate 0 false++[]):=by decide +kernel
 obtain⟨u',h1,h2,h3,h4⟩:=Zm5 (level:=9) (bs:=[]) (pad:=0) (rest:=[]) (u:=u) (t:=[]) (l:=bitsL [66,90,104,57,23,114,69,56,80,144,0,0,0,0]) (k:=0) (by decide) hu (λx hx=>(by cases hx)) .start (by decide) rfl (by rw[drop_zero];exact e);refine .after h3 ?_;rw[h4];exact Zpo h2
theorem Zqz {level unit:Nat}{bs:List Bk}(h1:1<=level/\level<=9) (u:US) (hu:u.unit=unit) (hg:∀ x∈bs,Gb (level*unit) x) (t:List UInt8):TComes (atL u 0,t) (bitsL (wholeB (padB (strB level bs)))) (.got (t++textOf bs)):=by
 rw[Zbq (Zdp _).1];obtain⟨u',h2,h3,h4,h5⟩:=Zm5 (level:=level) (bs:=bs) (pad:=(8 - (strB level bs).length%8)%8) (rest:=[]) (u:=u) (t:=t) (l:=padB (strB level bs)) (k:=0) h1 hu hg .start (by omega) rfl (by rw[drop_zero,gU];rfl);refine .after h4 ?_;rw[h5];exact Zpo h3
theorem Zxp (H:Holds w L) (post:∀ w',Same w w'->Holds w' L->K (.bool true) w'):Cl prog 28 #[] w K:=by
 refine Tz28 ?_;unfold Vz28;refine Zhv (s:=[]) H (by decide) (c1 _ rfl) λw1 S1 H1=>?_;refine Za4 (Za3 ?_);refine Zhv (s:=[66,90,120]) H1 (by decide) (c2 _) λw2 S2 H2=>?_;refine Za4 (Za3 ?_);refine Zhv (s:=[66,90,104,57,23,114,69,56,80,144,0,0,0,0]) H2 (by decide) (c3 _ rfl) λw3 S3 H3=>?_;refine Za4 (Za3 ?_);refine Zoy (level:=1) (unit:=100000) (s:=[97,98]) H3 (by decide) (by decide) (by decide) λbs w4 hg htx hbl hsl S4 H4=>?_;have hpl:=Zdp (strB 1 bs);have hsl2:(strB 1 bs).length<=420200:=hsl;refine Zhv (s:=wholeB (padB (strB 1 bs))) H4 (by rw[Zas];omega) (Zqz (by decide) (u0 100000) rfl hg []) λw5 S5 H5=>?_;rw[hO_,htx];refine Za4 (Za3 ?_);refine r_eql (r_vtE rfl ?_);refine r_eql (r_vtE rfl ?_);refine r_eql (r_vtE rfl ?_);refine Zez (r_vtD rfl ?_);refine r_eql (r_vtE rfl ?_);refine Zke (xs:=[97,98]) (ys:=[97,98]) ?_;exact post w5 (S1.trans (S2.trans (S3.trans (S4.trans S5)))) H5
theorem Zt7 {n:Int}(k:K (.bool (decide (1<=n/\n<=9))) w):Cl prog 26 #[iv n] w K:=by
 refine Tz26 ?_;unfold Vz26;refine r_geq (r_ifD (λh=>?_) λh=>?_)
 ·refine r_leq ?_;rw[show decide (n<=9)=decide (1<=n/\n<=9) by rw[Bool.eq_iff_iff,decide_eq_true_iff,decide_eq_true_iff];omega];exact k
 ·rw[decide_eq_false (by omega)] at k;exact k
theorem Zte {n:Int}(k:K (.bool (decide (24<=n/\n<=100000))) w):Cl prog 27 #[iv n] w K:=by
 refine Tz27 ?_;unfold Vz27;refine r_geq (r_ifD (λh=>?_) λh=>?_)
 ·refine r_leq ?_;rw[show decide (n<=100000)=decide (24<=n/\n<=100000) by rw[Bool.eq_iff_iff,decide_eq_true_iff,decide_eq_true_iff];omega];exact k
 ·rw[decide_eq_false (by omega)] at k;exact k
def flipB (j:Nat):List Bool:=(bitsOf 0 32).set j true
end P20
namespace P20
open Go.M01 Go.Mb Go.Mp Go.M10 Go.Mz Go.Mw Go.Mx Go.Mv Go.Mh F08 Rw T12 W14 W20
theorem Zra {α:Type} [DecidableEq α]:∀ (a b:List α),a.Nodup->(∀ x∈a,x∈b)->a.length<=b.length
 |[],b,_,_=>hE _
 |x::a,b,hn,hs=>by
  have hx:=hs x (hJ_ ..);have hn2:=List.nodup_cons.1 hn
  have h1:=Zra a (b.erase x) hn2.2 λy hy=>by
   have hne:y≠x:=λe=>hn2.1 (e▸hy);exact (List.mem_erase_of_ne hne).2 (hs y (hK_ _ hy))
  have h2:=List.length_erase_of_mem hx;have h3:=List.length_pos_of_mem hx;rw[List.length_cons];omega
theorem Yc2 (s:List UInt8):(symsOf s).length<=s.length:=by
 refine Zra _ _ ?_ λc hc=>?_
 ·unfold symsOf listed;refine List.Pairwise.map _ (R:=λa b=>a≠b/\a < 256/\b < 256) ?_ ?_
  ·rintro a b ⟨hne,ha,hb⟩ e;apply hne;have:=congrArg UInt8.toNat e;simp only[UInt8.toNat_ofNat'] at this;omega
  ·have h1:((List.range 256).filter (upT s)).Pairwise (·≠·):=List.Pairwise.sublist List.filter_sublist List.nodup_range;refine List.Pairwise.imp_of_mem ?_ h1;intro a b ha hb hne;exact⟨hne,List.mem_range.1 (mem_filter.1 ha).1,List.mem_range.1 (mem_filter.1 hb).1⟩
 ·unfold symsOf listed at hc;obtain⟨b,hb,rfl⟩:=List.mem_map.1 hc;have:=(mem_filter.1 hb).2;unfold upT at this;exact of_decide_eq_true this
theorem Znh {ts:List (List Nat)}{size:Nat}(hT:Tb size ts):∀ u,((ts.take u).flatMap lensB).length<=(5+41*size)*u
 |0=>by simp
 |u+1=>by
  have ih:=Znh hT u;rw[Nat.mul_add];rcases hU_ u ts.length with q|q
  ·have e:ts.take (u+1)=ts.take u++[ts.getD u []]:=by rw[gO,Zcp q];rfl
   have h1:=Zji (hT.le _ (Zaw q));rw[hT.sz _ (Zaw q)] at h1;rw[e,hL_,gD];simp only[hM_,List.flatMap_nil,gU];omega
  ·rw[gK (by omega),<-gK (i:=u) q];omega
theorem Zjq {s:List UInt8}{origin sum:Nat}{picks:List Nat}{ts:List (List Nat)}(h:s≠[]) (hl:s.length<=1000000) (hC:Cho (rowOf s) ((symsOf s).length+2) picks ts):(blockBits s origin sum picks ts).length<=1000+270*s.length:=by
 obtain⟨hT,hpl,hpx⟩:=hC.ok;have hR:=Zmi h hl;have h2:=Zg0 (upT s)
 have h3:(rowOf s).length<=s.length+1:=by
  have:=Zl1 (mtfE (symsOf s) s).2 (symsOf s).length;rw[(Zc2 s).1] at this;exact this
 have h4:nGr (rowOf s)=((rowOf s).length+49)/50:=rfl;have h5:=Yc2 s;have g1:=Zev hT.n6 hpx;have g2:=Znh hT ts.length;rw[hF_] at g2;have g3:=Zec (l:=rowOf s) (picks:=picks) hT (rowOf s).length;have g4:(5+41*((symsOf s).length+2))*ts.length<=(5+41*(s.length+2))*6:=Nat.mul_le_mul (by omega) hT.n6;unfold blockBits codeBits;simp only[gD,Za1,gQ];omega
theorem BodyBits.len3 {s:List UInt8}{sum:Nat}{B:List Bool}(h:BodyBits s sum B) (h0:s≠[]) (hl:s.length<=4000):B.length<=1000+270*s.length:=by
 obtain⟨o,p,t,h1,h2,rfl⟩:=h;have hll:=M18.Zaq s;have:=Zjq (origin:=o) (sum:=sum) (Zdn h0) (by omega) h2;omega
end P20
namespace P20
open Go.M01 Go.Mb Go.Me Go.M02 Go.M03 Go.M3d Go.M18 Go.M20 Go.Mh Go.Q20 Go.Q24 Go.Qs T12 W14 W20 P35
variable {w:World}{L:List HProp}{K:KT}
abbrev tSb:Nat:=132
def Fsb (x:Bl):List Value:=[S_ x.1,uv (crcOf x.2),nv x.2.length]
theorem Zbp:(zeroP prog tSb).cells.toList=[S_ [],uv 0,iv 0]:=by kernel_rfl
def SplitC:Prop:=∀ {w:World}{L:List HProp}{K:KT}{s:List UInt8}{room:Nat},Holds w L->s.length<=60->5<=room->room<=900000->
 (∀ v bs w',Cuts s room bs->Same w w'->Holds w' (RW Fsb 3 tSb v bs::L)->K (.tuple #[v,iv 0]) w')->Cl prog 83 #[S_ s,nv room] w K
theorem Ztx {level unit:Nat}(h1:1<=level/\level<=9) (hu:24<=unit/\unit<=100000) (k:K (.tuple #[nv (level*unit - 19),iv 0]) w):Cl prog 82 #[nv level,nv unit] w K:=by
 refine Tz82 ?_;unfold Vz82;refine Za2 (λx w'=>w=w'/\x=.bool false) ?_ ?_
 rotate_left
 ·refine r_lss (r_vfD (by omega) ?_);refine r_gtr (r_vfD (by omega) ?_);refine r_lss (r_vfD (by omega) ?_);refine r_gtr (r_ke ⟨rfl,?_⟩);rw[decide_eq_false (by omega)]
 rintro _ _ _ ⟨rfl,rfl⟩;refine r_vf ?_;have hm1:1*24<=level*unit:=Nat.mul_le_mul h1.1 hu.1;have hm2:level*unit<=9*100000:=Nat.mul_le_mul h1.2 hu.2;refine Zbc ((level*unit:Nat):Int) (Int.natCast_mul _ _).symm (by omega) (by omega) ?_;generalize level*unit=M at *;refine r_sub (by omega) (by omega) ?_;rw[show ((M:Nat):Int) - 19=((M - 19:Nat):Int) by omega];exact k
theorem Zkc (hS:SplitC){level unit:Nat}{s:List UInt8}(H:Holds w L) (hb:BndOk L) (h1:1<=level/\level<=9) (hu:24<=unit/\unit<=100000) (hs:s.length<=60)
  (k:∀ bs w',(∀ x∈bs,Gb (level*unit) x)->textOf bs=s->(strB level bs).length<=150000->Same w w'->Holds w' L->K (.tuple #[S_ (wholeB (padB (strB level bs))),iv 0]) w') :
  Cl prog 37 #[nv level,nv unit,S_ s] w K:=by
 refine Tz37 ?_;unfold Vz37;refine Ztx h1 hu ?_;refine Za4 (Za3 (r_neq (r_vfN rfl ?_)));refine W2s.New_spec H h1 λsb wb w1 S1 H1=>?_;refine Za4 (Za3 ?_);have hm1:1*24<=level*unit:=Nat.mul_le_mul h1.1 hu.1;have hm2:level*unit<=9*100000:=Nat.mul_le_mul h1.2 hu.2;generalize level*unit=M at *;refine hS H1 hs (by omega) (by omega) λv blks w2 hc S2 H2=>?_;have hcnt:=hc.cnt;have hlen:=hc.len
 have hbok:∀ x∈blks,x.1≠[]/\x.1.length<=M/\rle x.1=some x.2/\x.1.length<=300:=by
  intro x hx;obtain⟨g1,g2,g3⟩:=hc.ok x hx;have g4:=Zx6 (List.mem_map.2 ⟨x,hx,rfl⟩:x.1.length∈blks.map λb=>b.1.length);exact⟨g1,by omega,g3,by omega⟩
 refine Za4 (Za3 ?_);refine r_lnN 0 H2 rfl ?_;have h32:=Zge level
 refine Zde (λj y w'=>∃ i bks,j=blks.length - i/\i<=blks.length/\y=nv i/\textOf bks=(blks.take i).flatMap (λb=>b.2)/\(∀ z∈bks,Gb M z)/\(blksB bks).length<=1048*i+270*((blks.take i).map λb=>b.1.length).sum/\Same w w'/\
   Holds w' (RW Fsb 3 tSb v blks::blk sb W2s.tSt (W2s.stC wb (sumOf 0 bks) false)::W01.WrR wb (headB level++blksB bks) 0::L)) blks.length
  ⟨0,[],rfl,hE _,rfl,rfl,λz hz=>(by cases hz),hE _,S1.trans S2,by
   have e:headB level++blksB []=headB level:=gU _
   rw[e];exact H2⟩ ?_
 clear H H1 H2 S1 S2;rintro _ j _ w3 _ ⟨i,bks,rfl,hi,rfl,htx,hgb,hbb,S3,H3⟩ hgo
 have hsum:((blks.take i).map λb=>b.1.length).sum<=300:=by
  have:∀ (l:List Bl) (i:Nat),((l.take i).map λb=>b.1.length).sum<=(l.map λb=>b.1.length).sum:=by
   intro l
   induction l with
   |nil=>intro i;simp
   |cons y l ih=>
    intro i
    cases i with
    |zero=>simp
    |succ i=>rw[List.take_succ_cons,hR_,hR_,hQ_,hQ_];have:=ih i;omega
  have:=this blks i;omega
 have htot:sumOf 0 bks < 4294967296:=Zmg bks (by decide);refine r_lss (r_ifD (λh=>?_) λh=>?_)
 ·have hlt:i < blks.length:=by omega
  have hx:blks[i]?=some blks[i]:=gA hlt;obtain⟨g1,g2,g3,g4⟩:=hbok _ (List.getElem_mem hlt)
  have htk:blks.take (i+1)=blks.take i++[blks[i]]:=by rw[gO,hx];rfl
  generalize blks[i]=x at *;refine Zf1 0 H3 rfl hx (λ_=>rfl) ?_;refine r_new H3 λb w4 S4 H4=>?_;rw[Zbp] at H4;refine r_stA 0 H4 (vs:=Fsb x) rfl (Nat.le_refl 3) rfl rfl λw5 S5 H5=>?_;replace H5:Holds w5 (blk b tSb (Fsb x)::RW Fsb 3 tSb v blks::blk sb W2s.tSt (W2s.stC wb (sumOf 0 bks) false)::W01.WrR wb (headB level++blksB bks) 0::L):=H5;refine r_fo0 (r_ld 0 H5 rfl rfl ?_);refine r_fo0 (r_ld 0 H5 rfl rfl ?_)
  have H6:Holds w5 (blk sb W2s.tSt (W2s.stC wb (sumOf 0 bks) false)::W01.WrR wb (headB level++blksB bks) 0::blk b tSb (Fsb x)::RW Fsb 3 tSb v blks::L):=by have h_:=Holds.ord 4 [2,3,0,1] H5 rfl;exact h_
  refine W2s.Zu4 (s:=x.1) (sum:=crcOf x.2) H6 hb.up.up g1 (by omega) (Zgc _) htot (by rw[gD,h32];omega) (hE _) λB w6 hB S6 H7=>?_;have hBl:=hB.len3 g1 (by omega)
  have H8:Holds w6 (RW Fsb 3 tSb v blks::blk sb W2s.tSt (W2s.stC wb (comb (sumOf 0 bks) (crcOf x.2)) false)::W01.WrR wb (headB level++blksB bks++(magW++B)) 0::L):=by
   have h_:=Holds.ord 4 [3,0,1] H7 rfl;exact h_
  refine r_neq (r_vfN rfl ?_)
  have eb:blksB (bks++[(x.2,B)])=blksB bks++(magW++B):=by
   unfold blksB;rw[hL_,hM_,List.flatMap_nil,gU]
  refine Za0 (by omega) (r_ke (hgo (blks.length - (i+1)) _ _ (by omega) ⟨i+1,bks++[(x.2,B)],rfl,by omega,rfl,?_,λz hz=>?_,?_,S3.trans (S4.trans (S5.trans S6)),?_⟩))
  ·rw[htk,hL_,<-htx];unfold textOf;rw[hL_];simp
  ·rcases hT_.1 hz with hz|hz
   ·exact hgb z hz
   ·rw[List.mem_singleton.1 hz];exact gb_of g1 g2 (by omega) hB g3
  ·rw[eb,gD,gD,Zdj,htk,List.map_append,List.sum_append,hR_,List.map_nil,hQ_,List.sum_nil];omega
  ·have es:sumOf 0 (bks++[(x.2,B)])=comb (sumOf 0 bks) (crcOf x.2):=by
    unfold sumOf;rw[List.foldl_append];rfl
   rw[eb,es,<-gI];exact H8
 ·obtain rfl:i=blks.length:=by omega
  have H4:Holds w3 (blk sb W2s.tSt (W2s.stC wb (sumOf 0 bks) false)::W01.WrR wb (headB level++blksB bks) 0::L):=H3.drop;refine W2s.Yal H4 htot (by rw[gD,h32];omega) (hE _) λw4 S4 H5=>?_;refine W2s.Take_spec H5 λw5 S5 H6=>?_;rw[drop_zero]
  have e:headB level++blksB bks++(endW++bitsOf (sumOf 0 bks) 32)=strB level bks:=by
   unfold strB preB;simp only[gI]
  rw[e]
  have hsl:(strB level bks).length<=150000:=by
   unfold strB preB;rw[gD,gD,gD,h32,Zcd,Za1];omega
  rw[hF_,hc.txt] at htx;exact k bks _ hgb htx hsl (S3.trans (S4.trans S5)) H6.drop.drop
end P20
namespace P20
open Go.M01 Go.Mb Go.Me Go.M02 Go.M03 Go.M3d Go.M18 Go.M20 Go.Mh Go.Q20 Go.Q24 Go.Qs T12 W14 W20
variable {w:World}{L:List HProp}{K:KT}
theorem Zla (l:List Bool):padB l=l++List.replicate ((8 - l.length%8)%8) false:=rfl
theorem Yb6 (l:List Bool):(8 - l.length%8)%8 < 8:=Nat.mod_lt _ (by decide)
theorem Zzf {l:List Bool}(h:l.length%8=0) (n:Nat) (hn:n<=l.length/8):bitsL ((wholeB l).take n)=l.take (8*n):=by
 have e2:=Ze5 ((wholeB l).take n) ((wholeB l).drop n);rw[hN_,Zbq h] at e2
 have e3:(bitsL ((wholeB l).take n)).length=8*n:=by
  rw[Zgh,gN,Zas];omega
 have e4:=Zbs (r:=bitsL ((wholeB l).drop n)) e3;rw[<-e2] at e4;exact e4.symm
theorem Zrs {l1 l2 unit:Nat}{b1 b2:List Bk}{t:List UInt8}(q:List Bool) (h1:1<=l1/\l1<=9) (h2:1<=l2/\l2<=9) (u:US) (hu:u.unit=unit) (g1:∀ x∈b1,Gb (l1*unit) x) (g2:∀ x∈b2,Gb (l2*unit) x) (hq:q.length%8=0) :
  ∃ u' k,u'.ended=true/\TRun (atL u 0,t) (padB (strB l1 b1)++(padB (strB l2 b2)++q)) (atL u' 0,t++textOf b1++textOf b2) k/\(padB (strB l1 b1)++(padB (strB l2 b2)++q)).drop k=q:=by
 have p1:=Zdp (strB l1 b1);have p2:=Zdp (strB l2 b2)
 obtain⟨u1,a1,a2,a3,a4⟩:=Zm5 (level:=l1) (bs:=b1) (pad:=(8 - (strB l1 b1).length%8)%8) (rest:=padB (strB l2 b2)++q) (u:=u) (t:=t) (l:=padB (strB l1 b1)++(padB (strB l2 b2)++q)) (k:=0) h1 hu g1 .start (Yb6 _) (by rw[gD];omega) (by
  rw[drop_zero,Zla (strB l1 b1),gI])
 obtain⟨u2,c1,c2,c3,c4⟩:=Zm5 (level:=l2) (bs:=b2) (pad:=(8 - (strB l2 b2).length%8)%8) (rest:=q) (u:=u1) h2 a1 g2 a3 (Yb6 _) hq (by
  rw[a4,Zla (strB l2 b2),gI])
 exact⟨u2,_,c2,c3,c4⟩
theorem Zia (hS:SplitC) (H:Holds w L) (x y:Int) (s1 s2:ByteArray) (_:True) (_:s1.size<=maxLen) (_:s2.size<=maxLen) (hG:BndOk L) (post:∀ w',Same w w'->Holds w' L->K (.bool true) w') :
  Cl prog 7 #[.agg #[iv x,iv y],.string s1,.string s2] w K:=by
 refine Tz7 ?_;unfold Vz7;obtain⟨xs,rfl⟩:∃ xs:List UInt8,s1=⟨xs.toArray⟩:=⟨s1.data.toList,by simp⟩;obtain⟨ys,rfl⟩:∃ ys:List UInt8,s2=⟨ys.toArray⟩:=⟨s2.data.toList,by simp⟩;refine r_new H λqb w1 S1 H1=>?_;replace H1:Holds w1 (blk qb 51 [iv x,iv y]::L):=H1;refine Za2 (λv w'=>w1=w'/\∃ c:Bool,v=.bool c/\(c=false->xs.length<=60/\ys.length<=60/\(1<=x/\x<=9)/\24<=y/\y<=100000)) ?_ ?_
 rotate_left
 ·refine q_len (r_gtr (r_ifD (λh=>r_ke ⟨rfl,true,rfl,λe=>by cases e⟩) λh1=>?_));refine q_len (r_gtr (r_ifD (λh=>r_ke ⟨rfl,true,rfl,λe=>by cases e⟩) λh2=>?_));refine r_iaa (by decide) (by decide) (r_ld 0 H1 rfl rfl ?_);refine Zt7 (r_not (r_vif (λh=>r_ke ⟨rfl,true,rfl,λe=>by cases e⟩) λh3=>?_))
  have h3':1<=x/\x<=9:=by
   have:=h3;simpa using this
  refine r_iaa (by decide) (by decide) (r_ld 0 H1 rfl rfl ?_);refine Zte (r_not (r_ke ⟨rfl,_,rfl,λe=>?_⟩))
  have h4:24<=y/\y<=100000:=by simpa using e
  exact⟨by omega,by omega,h3',h4⟩
 rintro _ _ _ ⟨rfl,c,rfl,hc⟩;refine r_vif (λh=>Zxp H1 λw2 S2 H2=>post w2 (S1.trans S2) H2.drop) λh=>?_;obtain⟨hx,hy,hlv,hun⟩:=hc h;clear h hc c;obtain⟨level,rfl⟩:∃ n:Nat,x=(n:Int):=⟨x.toNat,by omega⟩;obtain⟨unit,rfl⟩:∃ n:Nat,y=(n:Int):=⟨y.toNat,by omega⟩
 have h1:1<=level/\level<=9:=by omega
 have h2:1<=10 - level/\10 - level<=9:=by omega
 have hu:24<=unit/\unit<=100000:=by omega
 refine r_iaa (by decide) (by decide) (r_ld 0 H1 rfl rfl ?_);refine r_iaa (by decide) (by decide) (r_ld 0 H1 rfl rfl ?_);refine Zkc hS (s:=xs) H1 hG.up h1 hu hx λb1 w2 g1 t1 n1 S2 H2=>?_;refine Za4 (Za3 ?_);refine r_iaa (by decide) (by decide) (r_ld 0 H2 rfl rfl ?_);refine r_sub (by omega) (by omega) ?_;rw[show (10:Int) - ((level:Nat):Int)=((10 - level:Nat):Int) by omega];refine r_iaa (by decide) (by decide) (r_ld 0 H2 rfl rfl ?_);refine Zkc hS (s:=ys) H2 hG.up h2 hu hy λb2 w3 g2 t2 n2 S3 H3=>?_;refine Za4 (Za3 ?_);have p1:=Zdp (strB level b1);have p2:=Zdp (strB (10 - level) b2)
 have k1:(wholeB (padB (strB level b1))).length<=18751:=by rw[Zas];omega
 have k2:(wholeB (padB (strB (10 - level) b2))).length<=18751:=by rw[Zas];omega
 refine r_iaa (by decide) (by decide) (r_ld 0 H3 rfl rfl ?_);refine U22.Zdy (unit:=unit) H3 (by omega) hu.1 hu.2 λo4 c4 w4 S4 H4=>?_;obtain rfl:=c4.det (Zqz h1 (u0 unit) rfl g1 []);refine Za4 (Za3 ?_);refine r_iaa (by decide) (by decide) (r_ld 0 H4 rfl rfl ?_);refine Zad (by omega) ?_;refine U22.Zdy (unit:=unit) H4 (by rw[gD];omega) hu.1 hu.2 λo5 c5 w5 S5 H5=>?_;obtain⟨u5,k5,e5,r5,d5⟩:=Zrs (t:=[]) [] h1 h2 (u0 unit) rfl g1 g2 rfl
 have f5:bitsL (wholeB (padB (strB level b1))++wholeB (padB (strB (10 - level) b2)))=padB (strB level b1)++(padB (strB (10 - level) b2)++[]):=by
  rw[Ze5,Zbq p1.1,Zbq p2.1,gU]
 rw[f5] at c5;obtain rfl:=c5.det (.after r5 (by rw[d5];exact Zpo e5));refine Za4 (Za3 ?_);refine r_iaa (by decide) (by decide) (r_ld 0 H5 rfl rfl ?_);refine Zad (by omega) ?_;refine Zad (ys:=[0]) (by rw[gD];simp only[gQ];omega) ?_;refine U22.Zdy (unit:=unit) H5 (by rw[gD,gD];simp only[gQ];omega) hu.1 hu.2 λo6 c6 w6 S6 H6=>?_;obtain⟨u6,k6,e6,r6,d6⟩:=Zrs (t:=[]) (bitsOf 0 8++[]) h1 h2 (u0 unit) rfl g1 g2 (by rw[gU,Za1])
 have f6:bitsL (wholeB (padB (strB level b1))++wholeB (padB (strB (10 - level) b2))++[0])=padB (strB level b1)++(padB (strB (10 - level) b2)++(bitsOf 0 8++[])):=by
  rw[Ze5,Ze5,Zbq p1.1,Zbq p2.1,gI];rfl
 rw[f6] at c6;obtain rfl:=c6.det (.after r6 (by rw[d6];exact Zyf));refine Za4 (Za3 ?_);refine r_dr H6 λw7 S7 H7=>?_;refine r_iaa (by decide) (by decide) (r_ld 0 H7 rfl rfl ?_)
 have hpre:80<=(preB level b1).length:=by unfold preB;rw[gD,gD,Zge,Zcd];omega
 have hstr:(strB level b1).length=(preB level b1).length+32:=by unfold strB;rw[gD,Za1]
 have kw:(wholeB (padB (strB level b1))).length=(padB (strB level b1)).length/8:=Zas _
 have kp:(padB (strB level b1)).length=(strB level b1).length+(8 - (strB level b1).length%8)%8:=by rw[Zla,gD,gP]
 refine q_len ?_;refine r_sub (by omega) (by omega) ?_;refine r_max ?_;rw[show max (((wholeB (padB (strB level b1))).length:Nat) - 1:Int) 0=(((wholeB (padB (strB level b1))).length - 1:Nat):Int) by omega];refine q_T (by omega) ?_;refine U22.Zdy (unit:=unit) H7 (by rw[gN];omega) hu.1 hu.2 λo8 c8 w8 S8 H8=>?_
 have f8:∃ q,bitsL ((wholeB (padB (strB level b1))).take ((wholeB (padB (strB level b1))).length - 1))=preB level b1++q/\q.length < 32:=by
  have e1:bitsL ((wholeB (padB (strB level b1))).take ((wholeB (padB (strB level b1))).length - 1))=(padB (strB level b1)).take (8*((wholeB (padB (strB level b1))).length - 1)):=by
   exact Zzf p1.1 _ (by omega)
  have e4:padB (strB level b1)=preB level b1++(bitsOf (sumOf 0 b1) 32++List.replicate ((8 - (strB level b1).length%8)%8) false):=by
   rw[Zla]
   conv=>lhs;lhs;unfold strB
   rw[gI]
  refine⟨(bitsOf (sumOf 0 b1) 32++List.replicate ((8 - (strB level b1).length%8)%8) false).take (8*((wholeB (padB (strB level b1))).length - 1) - (preB level b1).length),?_,?_⟩
  ·rw[e1]
   have hm:(preB level b1).length<=8*((wholeB (padB (strB level b1))).length - 1):=by omega
   generalize 8*((wholeB (padB (strB level b1))).length - 1)=m at *;rw[e4,List.take_append,gK (by omega)]
  ·rw[gN,gD,Za1,gP];omega
 obtain⟨q,f8,hq⟩:=f8;rw[f8] at c8;obtain rfl:=c8.det (Zw5 (u:=u0 unit) (t:=[]) h1 rfl g1 hq);refine Za4 (Za3 ?_);refine r_eql (r_vtE rfl ?_);refine r_eql (r_vtE rfl ?_);refine r_eql (r_vtE rfl ?_);refine r_eql (r_vtE rfl ?_);rw[t1,t2];refine Zke (r_vtD rfl ?_);refine Zad (by omega) ?_;refine Zke (r_vtD rfl ?_);refine r_eql (r_vtE rfl ?_);refine r_eql (r_vtE rfl ?_);exact Zxp H8 λw9 S9 H9=>post w9 (S1.trans (S2.trans (S3.trans (S4.trans (S5.trans (S6.trans (S7.trans (S8.trans S9)))))))) H9.drop
end P20
end Go.Proofs.YtgaiocpkjaaphaaGreatDoor
namespace Go.Proofs.YtgaiocpkjaaphaaGreatDoor
open Go Go.Vc Go.Proofs.Tryz
section
variable {w:World}{L:List HProp}{K:KT}
theorem Yc8 {α:Type}{P:Program}{t e:TypeId}{k:Nat} [hr:RowN P t e k] {F:α->List Value}(H:Holds w L) (i:Nat){v:Value}{xs:List α}{b:Option Addr}{c:Nat}{ty:TypeId}(hi:L[i]?=some (RW F k e v xs)) (h:K v w):Ap P #[t,t] ty #[v,.slice b 0 c] w K:=by
 obtain⟨oa,m,sp,rfl,_⟩:=H.openRW i hi;obtain⟨inf,z,hinf,hsz,hby,hzz,hzk⟩:=hr.inf
 have hsrc:Src P inf.size t (.slice b 0 c) 0 [] w:=by
  cases b with
  |none=>exact Src.ofNil w hr.und c
  |some p=>exact Src.ofSlice w hr.und p 0 c [] (by simp) (λj u hu=>by simp at hu) (λ_ h=>by cases h)
 exact⟨_,_,run_append_nothing w t t ty e inf hr.und hinf oa _ _ (by omega) _ hsrc,h⟩
end
attribute [local irreducible] Vc.Nc Vc.Ld Vc.LdA Vc.St Vc.StA Vc.Fo Vc.Iaa Vc.Ias Vc.Ixs Vc.Ixa Vc.Fd Vc.FdA Vc.Bp Vc.Bb Vc.Bn Vc.Up Vc.Ci Vc.Lns Vc.Lnl Vc.Ex Vc.Sst Vc.Ssl Vc.New Vc.Vif Vc.VJoin Vc.VLoop Vc.KE Vc.Dr Vc.Rk Vc.Cl Vc.Cx Vc.Inv Vc.Be Vc.Cv Vc.Cw Vc.Mf Vc.Sl Vc.Lk Vc.Bd Vc.Bs Vc.Ms Vc.Mm Vc.Mu Vc.Me Vc.Es Vc.Rg Vc.Nx Vc.Ta Vc.Ap Vc.Usd Vc.Ust Vc.Cp Vc.Ln Vc.Bc Vc.Bmin Vc.Bmax Vc.Bdel Vc.Bclr Vc.Pk
namespace P20
open Go.M01 Go.Mb Go.Me Go.M02 Go.M03 Go.M3d T12
variable {w:World}{L:List HProp}{K:KT}{p sm pk room:Nat}{body tx s:List UInt8}{bs:List Bl}{bd:Value}{x:UInt8 × Nat}
abbrev Zsb:List Value:=[S_ [],uv 0,iv 0]
theorem Zqo:∀ y:Bl,∀ u∈Fsb y,sg u=true:=by
 intro y u hu;simp only[Fsb,List.mem_cons,List.not_mem_nil,or_false] at hu
 rcases hu with rfl|rfl|rfl <;> rfl
instance rowSb:RowN prog 128 tSb 3:=⟨by kernel_rfl,⟨t132,.agg #[S_ [],uv 0,iv 0],by kernel_rfl,by kernel_rfl,by decide,by kernel_rfl,by kernel_rfl⟩⟩
theorem Zpa (H:Holds w (SpL p bd sm pk room [] tx x L)) (k:∀ w',Same w w'->Holds w' (SpL p bd sm pk room [] tx x L)->K (.tuple #[.agg Zsb.toArray,.bool false]) w'):Cl prog 182 #[pt p] w K:=by
 refine Tz182 ?_;unfold Vz182;refine r_new H λq w1 S1 H1=>?_;rw[Zbp] at H1;refine r_nc (r_fo0 (r_ld 1 H1 rfl rfl ?_));refine r_lnS 2 H1 rfl ?_;refine r_eql (r_vtE rfl ?_);refine r_bd (v:=.agg Zsb.toArray) (by kernel_rfl) ?_;refine r_stA 0 H1 (vs:=Zsb) rfl (Nat.le_refl 3) rfl rfl λw2 S2 H2=>?_;replace H2:Holds w2 (blk q tSb Zsb::SpL p bd sm pk room [] tx x L):=H2;refine r_ldA 0 H2 Zsb rfl rfl rfl ?_;exact k _ (S1.trans S2) H2.drop
theorem Zi8 (h0:body≠[]) (H:Holds w (SpL p bd sm pk room body tx x L)) (k:∀ w',Same w w'->Holds w' (SpL p (.slice none 0 0) sm pk room [] [] x L)->K (.tuple #[.agg (Fsb (body,tx)).toArray,.bool true]) w'):Cl prog 182 #[pt p] w K:=by
 refine Tz182 ?_;unfold Vz182;have hp:0 < body.length:=gZ.2 h0;obtain⟨oa,sp,rfl,H⟩:=H.open 1 rfl;replace H:Holds w (blk p tSp (spC (.slice oa body.length (body.length+sp.length)) sm tx.length room pk)::slb bv tB oa body sp::R3b.SumR sm (crcF 4294967295 tx)::blk pk tPk (Fpc x)::L):=H;generalize hbd:Value.slice oa body.length (body.length+sp.length)=bd at *;refine r_new H λq w1 S1 H1=>?_;rw[Zbp] at H1;refine r_nc (r_fo0 (r_ld 1 H1 rfl rfl ?_));rw[<-hbd];refine r_lnl (r_eql (r_vfE (by omega) ?_));refine Za2 (λv w'=>∃ nb,v=pt nb/\Same w w'/\Holds w' (blk nb tSb (Fsb (body,tx))::blk q tSb Zsb::blk p tSp (spC bd sm tx.length room pk)::slb bv tB oa body sp::R3b.SumR sm (crcF 4294967295 tx)::blk pk tPk (Fpc x)::L)) ?_ ?_
 rotate_left
 ·refine r_dr H1 λw2 S2 H2=>?_;refine r_nc (r_fo0 (r_ld 1 H2 rfl rfl ?_))
  have cv:∀ {wz:World} {i:Nat} {Lz:List HProp} {Kz:Value->Prop},Holds wz Lz->Lz[i]?=some (slb bv tB oa body sp)->Kz (S_ body)->Cv prog 54 9 bd wz Kz:=by
   intro wz i Lz Kz Hz hz kz;rw[<-hbd];exact B20.r_cvb Hz i hz rfl kz
  refine cv (i:=2) H2 rfl ?_;refine r_nc (r_fo0 (r_ld 1 H2 rfl rfl ?_));refine r_nc (r_fo0 (r_ld 1 H2 rfl rfl ?_));refine⟨?_,?_⟩
  ·refine Zh8 (tx:=tx) (by have h_:=Holds.ord 4 [3,0,1,2] H2 rfl;exact h_) ?_;refine r_rk (r_ld 1 H2 rfl rfl rfl) ?_;refine r_rk (cv (i:=2) H2 rfl rfl) ?_;refine r_rk (r_ld 1 H2 rfl rfl rfl) ?_;refine r_bd (v:=.agg (Fsb (body,tx)).toArray) (by kernel_rfl) ?_;refine r_new H2 λob w3 S3 H3=>?_;rw[Zbp] at H3;refine r_rk (r_bd (v:=.agg (Fsb (body,tx)).toArray) (by kernel_rfl) rfl) ?_;refine r_rk (r_ld 2 H3 rfl rfl rfl) ?_;refine r_rk (r_ld 2 H3 rfl rfl rfl) ?_;refine r_rk (cv (i:=3) H3 rfl rfl) ?_;refine r_rk (r_ld 2 H3 rfl rfl rfl) ?_;refine r_stA 0 H3 (vs:=Fsb (body,tx)) rfl (Nat.le_refl 3) rfl rfl λw4 S4 H4=>?_;exact r_ke ⟨ob,rfl,S1.trans (S2.trans (S3.trans S4)),H4⟩
  ·refine r_new H2 λob w3 S3 H3=>?_;rw[Zbp] at H3;refine r_rk (r_ld 2 H3 rfl rfl rfl) ?_;refine r_rk (r_ld 2 H3 rfl rfl rfl) ?_;refine r_rk (cv (i:=3) H3 rfl rfl) ?_;refine r_rk (r_ld 2 H3 rfl rfl rfl) ?_;refine Zh8 (tx:=tx) (by have h_:=Holds.ord 5 [4,0,1,2,3] H3 rfl;exact h_) ?_;refine r_rk (r_ld 2 H3 rfl rfl rfl) ?_;refine r_rk (cv (i:=3) H3 rfl rfl) ?_;refine r_rk (r_ld 2 H3 rfl rfl rfl) ?_;refine r_bd (v:=.agg (Fsb (body,tx)).toArray) (by kernel_rfl) ?_;refine r_stA 0 H3 (vs:=Fsb (body,tx)) rfl (Nat.le_refl 3) rfl rfl λw4 S4 H4=>?_;exact r_ke ⟨ob,rfl,S1.trans (S2.trans (S3.trans S4)),H4⟩
 clear H H1 S1;rintro _ _ w2 ⟨nb,rfl,S2,H2⟩;refine r_nc (r_fo0 ?_);refine r_st 2 H2 rfl (by simp) rfl λw3 S3 H3=>?_;replace H3:Holds w3 (blk nb tSb (Fsb (body,tx))::blk q tSb Zsb::blk p tSp (spC (.slice none 0 0) sm tx.length room pk)::slb bv tB oa body sp::R3b.SumR sm (crcF 4294967295 tx)::blk pk tPk (Fpc x)::L):=H3;refine r_nc (r_fo0 ?_);refine r_st 2 H3 rfl (by simp) rfl λw4 S4 H4=>?_;replace H4:Holds w4 (blk nb tSb (Fsb (body,tx))::blk q tSb Zsb::blk p tSp (spC (.slice none 0 0) sm 0 room pk)::slb bv tB oa body sp::R3b.SumR sm (crcF 4294967295 tx)::blk pk tPk (Fpc x)::L):=H4;refine r_nc (r_fo0 (r_ld 2 H4 rfl rfl ?_));refine Zmz (tx:=tx) (by have h_:=Holds.ord 5 [4,0,1,2] H4 rfl;exact h_) λw5 S5 H5=>?_;replace H5:Holds w5 (R3b.SumR sm (crcF 4294967295 [])::blk nb tSb (Fsb (body,tx))::blk q tSb Zsb::blk p tSp (spC (.slice none 0 0) sm 0 room pk)::blk pk tPk (Fpc x)::L):=H5;refine r_ldA 1 H5 (Fsb (body,tx)) rfl rfl rfl ?_;refine r_stA 2 H5 (vs:=Fsb (body,tx)) rfl (Nat.le_refl 3) rfl rfl λw6 S6 H6=>?_;replace H6:Holds w6 (R3b.SumR sm (crcF 4294967295 [])::blk nb tSb (Fsb (body,tx))::blk q tSb (Fsb (body,tx))::blk p tSp (spC (.slice none 0 0) sm 0 room pk)::blk pk tPk (Fpc x)::L):=H6;refine r_ldA 2 H6 (Fsb (body,tx)) rfl rfl rfl ?_;refine k _ (S2.trans (S3.trans (S4.trans (S5.trans S6)))) ?_;have h_:=Holds.ord 6 [4,0,1,5] (H6.nilSL bv tB) rfl;exact h_
theorem Zkt (hR:RepC){y:UInt8 × Nat}(H:Holds w (SpL p bd sm pk room body tx x L)) (hy:1<=y.2/\y.2<=255) (hb:body.length<=1000000) (ht:tx.length<=1000000) (h5:5<=room)
  (k1:body.length+(pieceB y).length<=room->∀ bd' w',Same w w'->Holds w' (SpL p bd' sm pk room (body++pieceB y) (tx++List.replicate y.2 y.1) x L)->K (.tuple #[.agg Zsb.toArray,.bool false]) w')
  (k2:room < body.length+(pieceB y).length->∀ bd' w',Same w w'->Holds w' (SpL p bd' sm pk room (pieceB y) (List.replicate y.2 y.1) x L)->K (.tuple #[.agg (Fsb (body,tx)).toArray,.bool true]) w') :
  Cl prog 180 #[pt p,.agg (Fpc y).toArray,nv (pieceB y).length] w K:=by
 refine Tz180 ?_;unfold Vz180;have hp:=(Zin y).2;refine r_new H λxb w1 S1 H1=>?_;replace H1:Holds w1 (blk xb tPc (Fpc y)::SpL p bd sm pk room body tx x L):=H1;refine r_new H1 λx2 w2 S2 H2=>?_;rw[Zbp] at H2;refine r_new H2 λo3 w3 S3 H3=>?_;rw[Zbp] at H3;have S:=S1.trans (S2.trans S3);clear S1 S2 S3 H H1 H2
 refine Za2 (λv w'=>∃ (v0 v1 v2:Value) (c:Bool) (bd':Value) (body' tx':List UInt8),v=.bool c/\[v0,v1,v2].all sg=true/\body'.length<=1000000/\tx'.length<=1000000/\Same w w'/\Holds w' (blk o3 tSb [v0,v1,v2]::blk x2 tSb Zsb::blk xb tPc (Fpc y)::SpL p bd' sm pk room body' tx' x L)/\
   (∀ bd'' w'',Same w w''->Holds w'' (SpL p bd'' sm pk room (body'++pieceB y) (tx'++List.replicate y.2 y.1) x L)->K (.tuple #[.agg #[v0,v1,v2],.bool c]) w'')) ?_ ?_
 rotate_left
 ·refine r_dr H3 λw4 S4 H4=>?_;refine r_nc (r_fo0 (r_fo0 (r_ld 3 H4 rfl rfl ?_)));refine r_lnS 4 H4 rfl ?_;refine Zac (a:=body.length) (b:=(pieceB y).length) (by omega) ?_;refine r_nc (r_fo0 (r_ld 3 H4 rfl rfl ?_));refine r_gtr (r_ifD (λhc=>?_) λhc=>?_)
  ·have hne:body≠[]:=λe=>by rw[e] at hc;simp at hc;omega
   refine r_nc (r_fo0 ?_);refine Zi8 hne (by have h_:=Holds.ord 7 [3,4,5,6,0,1,2] H4 rfl;exact h_) λw5 S5 H5=>?_;replace H5:Holds w5 (SpL p (.slice none 0 0) sm pk room [] [] x (blk o3 tSb Zsb::blk x2 tSb Zsb::blk xb tPc (Fpc y)::L)):=H5;refine Za4 (Za3 ?_);refine r_stA 4 H5 (vs:=Fsb (body,tx)) rfl (Nat.le_refl 3) rfl rfl λw6 S6 H6=>?_;have H7:=Holds.ord 7 [4,5,6,0,1,2,3] H6 rfl;refine r_ke ⟨S_ body,uv (crcOf tx),nv tx.length,true,.slice none 0 0,[],[],rfl,rfl,hE _,hE _,S.trans (S4.trans (S5.trans S6)),H7,λbd'' w'' S'' H''=>k2 (by omega) bd'' w'' S'' ?_⟩;rw[hO_,hO_] at H'';exact H''
  ·exact r_ke ⟨S_ [],uv 0,iv 0,false,bd,body,tx,rfl,rfl,hb,ht,S.trans S4,H4,λbd'' w'' S'' H''=>k1 (by omega) bd'' w'' S'' H''⟩
 clear H3 S k1 k2 hb ht;rintro _ _ w4 ⟨v0,v1,v2,c,bd',body',tx',rfl,hsg,hb,ht,S4,H4,k⟩;refine r_dr H4 λw5 S5 H5=>?_;refine r_nc (r_fo0 ?_);refine r_ldA 2 H5 (Fpc y) rfl rfl rfl ?_;refine Zq5 hR (by have h_:=Holds.ord 7 [3,4,5,6,0,1,2] H5 rfl;exact h_) hy hb ht λbd'' w6 S6 H6=>?_;replace H6:Holds w6 (SpL p bd'' sm pk room (body'++pieceB y) (tx'++List.replicate y.2 y.1) x (blk o3 tSb [v0,v1,v2]::blk x2 tSb Zsb::blk xb tPc (Fpc y)::L)):=H6;refine r_ldA 4 H6 [v0,v1,v2] rfl rfl rfl ?_;refine r_stA 5 H6 (vs:=[v0,v1,v2]) rfl (Nat.le_refl 3) rfl hsg λw7 S7 H7=>?_;refine r_ldA 5 H7 [v0,v1,v2] rfl rfl rfl ?_;exact k bd'' w7 (S4.trans (S5.trans (S6.trans S7))) (Holds.dropAt (Holds.dropAt (Holds.dropAt H7 4) 4) 4)
theorem Zw0 (hR:RepC){d:UInt8}(H:Holds w (SpL p bd sm pk room body tx x L)) (hg:Cg room s bs body tx x) (hs:s.length<=60) (hr:5<=room/\room<=900000)
  (k1:∀ bd' body' tx' x' w',Cg room (s++[d]) bs body' tx' x'->Same w w'->Holds w' (SpL p bd' sm pk room body' tx' x' L)->K (.tuple #[.agg Zsb.toArray,.bool false]) w')
  (k2:∀ bd' body' tx' x' w',Cg room (s++[d]) (bs++[(body,tx)]) body' tx' x'->Same w w'->Holds w' (SpL p bd' sm pk room body' tx' x' L)->K (.tuple #[.agg (Fsb (body,tx)).toArray,.bool true]) w') :
  Cl prog 132 #[pt p,bv d] w K:=by
 refine Tz132 ?_;unfold Vz132;have hle:=hg.le;have hrm:=hg.rm;refine r_new H λq w1 S1 H1=>?_;rw[Zbp] at H1;refine Zab (r_vf (r_nc (r_fo0 (r_ld 1 H1 rfl rfl ?_))));refine Zkd (by have h_:=Holds.ord 5 [4,0,1,2,3] H1 rfl;exact h_) λw2 S2 H2=>?_;refine r_new H2 λrb w3 S3 H3=>?_;rw[Zj8] at H3;refine r_stA 0 H3 (vs:=Fpc x) rfl (Nat.le_refl 2) rfl rfl λw4 S4 H4=>?_;replace H4:Holds w4 (blk rb tPc (Fpc x)::blk pk tPk (Fpc x)::blk q tSb Zsb::blk p tSp (spC bd sm tx.length room pk)::SL bv tB bd body::R3b.SumR sm (crcF 4294967295 tx)::L):=H4;refine r_nc (r_fo0 (r_ld 3 H4 rfl rfl ?_));refine Zx0 hR (by have h_:=Holds.ord 2 [1,0] H4 rfl;exact h_) (by omega) λw5 S5 H5=>?_;have S:=S1.trans (S2.trans (S3.trans (S4.trans S5)));clear S1 S2 S3 S4 S5 H H1 H2 H3 H4
 by_cases hc:0 < x.2/\x.1≠d
 ·rw[if_pos hc] at H5 ⊢
  have hpb:(pieceB x).length≠0:=by
   unfold pieceB;rw[gD,gP];omega
  refine Zez (r_vfD (by show ¬ (pieceB x).toArray.size=0;simpa using hpb) ?_);refine Zdg (λw'=>w5=w') ?_ ?_
  rotate_left
  ·refine r_fo0 (r_ld 1 H5 rfl rfl ?_);refine r_eql (r_vfE (λe=>hc.2 (UInt8.toNat_inj.1 (by omega))) (r_ke rfl))
  rintro _ _ rfl;refine r_ldA 1 H5 (Fpc x) rfl rfl rfl ?_;refine q_len ?_
  have H6:Holds w5 (SpL p bd sm pk room body tx (d,1) (blk rb tPc (Fpc x)::blk q tSb Zsb::L)):=by
   have h_:=Holds.ord 6 [3,4,5,0,1,2] H5 rfl;exact h_
  refine Zkt hR H6 ⟨hc.1,by omega⟩ (by omega) (by omega) hr.1 (λhf bd' w6 S6 H7=>?_) λhf bd' w6 S6 H7=>?_
  ·refine Za4 (Za3 ?_);refine r_stA 5 H7 (vs:=Zsb) rfl (Nat.le_refl 3) rfl rfl λw7 S7 H8=>?_;refine r_ldA 5 H8 Zsb rfl rfl rfl ?_;exact k1 bd' _ _ (d,1) w7 ((hg.piece hc.1 hf).put hc.2) (S.trans (S6.trans S7)) (Holds.dropAt (Holds.dropAt H8 4) 4)
  ·refine Za4 (Za3 ?_);refine r_stA 5 H7 (vs:=Fsb (body,tx)) rfl (Nat.le_refl 3) rfl rfl λw7 S7 H8=>?_;refine r_ldA 5 H8 (Fsb (body,tx)) rfl rfl rfl ?_;exact k2 bd' _ _ (d,1) w7 ((hg.cut hc.1 hf hr.1).2.put hc.2) (S.trans (S6.trans S7)) (Holds.dropAt (Holds.dropAt H8 4) 4)
 ·rw[if_neg hc] at H5 ⊢;refine Zez (r_vtD rfl ?_);refine r_bd (v:=.agg Zsb.toArray) (by kernel_rfl) ?_;refine r_stA 2 H5 (vs:=Zsb) rfl (Nat.le_refl 3) rfl rfl λw6 S6 H6=>?_;refine r_ldA 2 H6 Zsb rfl rfl rfl ?_
  have H7:Holds w6 (SpL p bd sm pk room body tx (d,x.2+1) (blk rb tPc (Fpc x)::blk q tSb Zsb::L)):=by
   have h_:=Holds.ord 6 [3,4,5,0,1,2] H6 rfl;exact h_
  exact k1 bd body tx (d,x.2+1) w6 (hg.same (by omega) hc) (S.trans S6) (Holds.dropAt (Holds.dropAt H7 4) 4)
theorem Zxx (hR:RepC) (H:Holds w (SpL p bd sm pk room body tx x L)) (hg:Cg room s bs body tx x) (hs:s.length<=60) (hr:5<=room/\room<=900000)
  (k:∀ v rs w',Cuts s room (bs++rs)->Same w w'->Holds w' (RW Fsb 3 tSb v rs::L)->K v w') :
  Cl prog 133 #[pt p] w K:=by
 refine Tz133 ?_;unfold Vz133;have hle:=hg.le;have hrm:=hg.rm;refine Zab (r_vf (r_nc (r_fo0 (r_ld 0 H rfl rfl ?_))));refine Zkd (by have h_:=Holds.ord 4 [3,0,1,2] H rfl;exact h_) λw2 S2 H2=>?_;refine r_new H2 λrb w3 S3 H3=>?_;rw[Zj8] at H3;refine r_stA 0 H3 (vs:=Fpc x) rfl (Nat.le_refl 2) rfl rfl λw4 S4 H4=>?_;replace H4:Holds w4 (blk rb tPc (Fpc x)::blk pk tPk (Fpc x)::blk p tSp (spC bd sm tx.length room pk)::SL bv tB bd body::R3b.SumR sm (crcF 4294967295 tx)::L):=H4;have S:=S2.trans (S3.trans S4);clear S2 S3 S4 H H2 H3;refine Za2 (λv w'=>∃ (bd':Value) (body' tx':List UInt8) (rs:List Bl),((body'=[]/\Cuts s room (bs++rs))\/(body'≠[]/\Cuts s room (bs++rs++[(body',tx')])))/\rs.length<=1/\Same w w'/\Holds w' (SpL p bd' sm pk room body' tx' (0,0) (RW Fsb 3 tSb v rs::L))) ?_ ?_
 rotate_left
 ·refine r_nc (r_fo0 (r_ld 2 H4 rfl rfl ?_));refine Ztj hR (by have h_:=Holds.ord 2 [1,0] H4 rfl;exact h_) (by omega) λw5 S5 H5=>?_;replace S:=S.trans S5
  by_cases h0:x.2=0
  ·rw[if_pos h0];refine Zkp (r_vfD (λh=>h rfl) ?_);obtain⟨e1,e2⟩:=hg.fin0 h0;refine r_ke ⟨bd,body,tx,[],.inl ⟨e1,by rw[gU];exact e2⟩,hE _,S,?_⟩
   have H6:Holds w5 (SpL p bd sm pk room body tx (0,0) (blk rb tPc (Fpc x)::L)):=by
    have h_:=Holds.ord 5 [2,3,4,0,1] H5 rfl;exact h_
   have h_:=Holds.ord 6 [1,2,3,4,0] (H6.nilRW Fsb 3 tSb) rfl;exact h_
  ·rw[if_neg h0]
   have hpb:(pieceB x).length≠0:=by
    unfold pieceB;rw[gD,gP];omega
   refine Zkp (r_vtD (by show ¬ (pieceB x).toArray.size=0;simpa using hpb) ?_);refine r_ldA 1 H5 (Fpc x) rfl rfl rfl ?_;refine q_len ?_
   have H6:Holds w5 (SpL p bd sm pk room body tx (0,0) (blk rb tPc (Fpc x)::L)):=by
    have h_:=Holds.ord 5 [2,3,4,0,1] H5 rfl;exact h_
   have hx:0 < x.2:=by omega
   refine Zkt hR H6 ⟨hx,by omega⟩ (by omega) (by omega) hr.1 (λhf bd' w6 S6 H7=>?_) λhf bd' w6 S6 H7=>?_
   ·refine Za4 (Za3 ?_);refine r_new H7 λnb w7 S7 H8=>?_;rw[Zbp] at H8;refine r_stA 0 H8 (vs:=Zsb) rfl (Nat.le_refl 3) rfl rfl λw8 S8 H9=>?_;refine r_vf ?_;obtain⟨g1,g2⟩:=(hg.piece hx hf).fin;refine r_ke ⟨bd',_,_,[],.inr ⟨g1,by rw[gU];exact g2⟩,hE _,S.trans (S6.trans (S7.trans S8)),?_⟩;have h_:=Holds.ord 7 [2,3,4,5,0] (H9.nilRW Fsb 3 tSb) rfl;exact h_
   ·refine Za4 (Za3 ?_);refine r_new H7 λnb w7 S7 H8=>?_;rw[Zbp] at H8;refine r_stA 0 H8 (vs:=Fsb (body,tx)) rfl (Nat.le_refl 3) rfl rfl λw8 S8 H9=>?_;refine r_vt ?_;refine r_ldA 0 H9 (Fsb (body,tx)) rfl rfl rfl ?_;obtain⟨g1,g2⟩:=(hg.cut hx hf hr.1).2.fin;refine Zfd (H9.nilRW Fsb 3 tSb) 0 ((body,tx):Bl) rfl (by kernel_rfl) (λy=>rfl) Zqo (by decide) (by decide) λv' w9 S9 Ha=>?_;refine r_ke ⟨bd',_,_,[(body,tx)],.inr ⟨g1,g2⟩,Nat.le_refl 1,S.trans (S6.trans (S7.trans (S8.trans S9))),?_⟩;have h_:=Holds.ord 7 [2,3,4,5,0] Ha rfl;exact h_
 clear H4 S;rintro _ v w5 ⟨bd',body',tx',rs,hcut,hl,S,H5⟩;refine r_nc (r_fo0 ?_);rcases hcut with⟨rfl,hcut⟩|⟨hne,hcut⟩
 ·refine Zpa H5 λw6 S6 H6=>?_;refine Za4 (Za3 ?_);refine r_new H6 λnb w7 S7 H7=>?_;rw[Zbp] at H7;refine r_stA 0 H7 (vs:=Zsb) rfl (Nat.le_refl 3) rfl rfl λw8 S8 H8=>?_;refine r_vf ?_;exact k v rs _ hcut (S.trans (S6.trans (S7.trans S8))) H8.drop.drop.drop.drop.drop
 ·refine Zi8 hne H5 λw6 S6 H6=>?_;refine Za4 (Za3 ?_);refine r_new H6 λnb w7 S7 H7=>?_;rw[Zbp] at H7;refine r_stA 0 H7 (vs:=Fsb (body',tx')) rfl (Nat.le_refl 3) rfl rfl λw8 S8 H8=>?_;refine r_vt ?_;refine r_ldA 0 H8 (Fsb (body',tx')) rfl rfl rfl ?_;refine Zfd H8 5 ((body',tx'):Bl) rfl (by kernel_rfl) (λy=>rfl) Zqo (by omega) (by decide) λv' w9 S9 Ha=>?_;refine k v' (rs++[(body',tx')]) _ (by rw[<-gI];exact hcut) (S.trans (S6.trans (S7.trans (S8.trans S9)))) ?_;exact Ha.drop.drop.drop.drop.drop
theorem Zy7 (H:Holds w L) (hr:5<=room/\room<=900000) (k:∀ p bd sm pk w',Same w w'->Holds w' (SpL p bd sm pk room [] [] (0,0) L)->K (.tuple #[pt p,iv 0]) w'):Cl prog 131 #[nv room] w K:=by
 refine Tz131 ?_;unfold Vz131;refine Za2 (λv w'=>w=w'/\v=.bool false) ?_ ?_
 rotate_left
 ·refine r_lss (r_vfD (by omega) ?_);refine r_gtr (r_ke ⟨rfl,?_⟩);rw[decide_eq_false (by omega)]
 rintro _ _ _ ⟨rfl,rfl⟩;refine r_vf ?_;refine R3b.New_spec H λsm w1 S1 H1=>?_;refine r_bd (v:=.agg #[.slice none 0 0,pt sm,nv 0]) (by kernel_rfl) ?_;refine Zjo H1 λpk w2 S2 H2=>?_;refine r_bd (v:=.agg (spC (.slice none 0 0) sm 0 room pk).toArray) (by kernel_rfl) ?_;refine r_new H2 λp w3 S3 H3=>?_;refine k p (.slice none 0 0) sm pk w3 (S1.trans (S2.trans S3)) ?_;have h_:=Holds.ord 4 [1,0,3,2] (H3.nilSL bv tB) rfl;exact h_
theorem Zza:SplitC:=by
 intro w L K s room H hs h5 h9 k;refine Tz83 ?_;unfold Vz83;refine Zy7 H ⟨h5,h9⟩ λp bd sm pk w1 S1 H1=>?_;refine Za4 (Za3 (r_neq (r_vfN rfl ?_)));refine q_len ?_
 refine Zeq (λj o y w'=>∃ (i:Nat) (bs:List Bl) (bd:Value) (body tx:List UInt8) (x:UInt8 × Nat),j=s.length - i/\i<=s.length/\y=nv i/\Cg room (s.take i) bs body tx x/\Same w w'/\Holds w' (SpL p bd sm pk room body tx x (RW Fsb 3 tSb o bs::L))) s.length
  ⟨0,[],bd,[],[],(0,0),rfl,hE _,rfl,Cg.start room,S1,by
   have h_:=Holds.ord 5 [1,2,3,4,0] (H1.nilRW Fsb 3 tSb) rfl;exact h_⟩ ?_
 clear H H1 S1 bd;rintro _ j o _ w2 _ ⟨i,bs,bd,body,tx,x,rfl,hi,rfl,hg,S2,H2⟩ hgo;refine r_lss (r_ifD (λhlt=>?_) λhlt=>?_)
 ·have hlt:i < s.length:=by omega
  refine q_ix hlt ?_
  have et:s.take (i+1)=s.take i++[s.getD i 0]:=by
   rw[gO,gA hlt,gB,gA hlt];rfl
  have hbl:bs.length<=60:=by
   have h1:=(Zls hg.ok).cnt;have h2:=congrArg List.length hg.txt;simp only[gD,gN] at h2;omega
  refine Zw0 Yb9 (d:=s.getD i 0) H2 hg (by rw[gN];omega) ⟨h5,h9⟩ (λbd' body' tx' x' w3 hg' S3 H3=>?_) λbd' body' tx' x' w3 hg' S3 H3=>?_
  ·refine Za4 (Za3 ?_);refine r_new H3 λnb w4 S4 H4=>?_;rw[Zbp] at H4;refine r_stA 0 H4 (vs:=Zsb) rfl (Nat.le_refl 3) rfl rfl λw5 S5 H5=>?_;refine r_vf ?_;refine Za0 (by omega) (r_ke (hgo (s.length - (i+1)) _ _ _ (by omega) ⟨i+1,bs,bd',body',tx',x',rfl,by omega,rfl,by rw[et];exact hg',S2.trans (S3.trans (S4.trans S5)),H5.drop⟩))
  ·refine Za4 (Za3 ?_);refine r_new H3 λnb w4 S4 H4=>?_;rw[Zbp] at H4;refine r_stA 0 H4 (vs:=Fsb (body,tx)) rfl (Nat.le_refl 3) rfl rfl λw5 S5 H5=>?_;refine r_vt ?_;refine r_ldA 0 H5 (Fsb (body,tx)) rfl rfl rfl ?_;refine Zfd H5 5 ((body,tx):Bl) rfl (by kernel_rfl) (λy=>rfl) Zqo (by omega) (by decide) λv' w6 S6 H6=>?_;refine Za0 (by omega) (r_ke (hgo (s.length - (i+1)) _ _ _ (by omega) ⟨i+1,bs++[(body,tx)],bd',body',tx',x',rfl,by omega,rfl,by rw[et];exact hg',S2.trans (S3.trans (S4.trans (S5.trans S6))),H6.drop⟩))
 ·obtain rfl:i=s.length:=by omega
  rw[hF_] at hg;refine Zxx Yb9 H2 hg hs ⟨h5,h9⟩ λv rs w3 hcut S3 H3=>?_;have hcnt:=hcut.cnt;rw[gD] at hcnt
  by_cases hr0:rs=[]
  ·subst hr0;obtain⟨oa,m,sp,rfl,_⟩:=H3.openRW 0 rfl;refine Yc8 H3 1 rfl ?_;rw[gU] at hcut;exact k o bs w3 hcut (S2.trans S3) H3.drop
  ·have hpos:0 < rs.length:=gZ.2 hr0;obtain⟨oa,m,sp,rfl,H4⟩:=H3.openRW 0 rfl;obtain⟨b,rfl,hsp,H5⟩:=H4.rwb 0 rfl (.inl hpos);refine r_apN (ys:=rs) H5 1 0 rfl rfl (by decide) ?_ rfl (λy=>rfl) Zqo (by omega) hpos (by decide) λv' w4 S4 H6=>?_
   ·have:=Zdx (F:=Fsb) (k:=3) (λy=>rfl) rs;rw[List.take_append_of_le_length (by omega),gK (by omega)]
   ·exact k v' (bs++rs) w4 hcut (S2.trans (S3.trans S4)) H6.drop
theorem UnstreamBack_spec (H:Holds w L) (x y:Int) (s1 s2:ByteArray) (w0:True) (w1:s1.size<=maxLen) (w2:s2.size<=maxLen) (hG:BndOk L) (post:∀ w',Same w w'->Holds w' L->K (.bool true) w') :
  Cl prog 7 #[.agg #[iv x,iv y],.string s1,.string s2] w K:=Zia Zza H x y s1 s2 w0 w1 w2 hG post
end P20
end Go.Proofs.YtgaiocpkjaaphaaGreatDoor
