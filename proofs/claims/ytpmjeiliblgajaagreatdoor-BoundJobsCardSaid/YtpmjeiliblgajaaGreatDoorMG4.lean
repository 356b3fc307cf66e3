/- Several texts in one: Kc, Ke, Kf, U38, Kj, Kk, Kw, Km, D45, Kl. -/
import Derived.Test.YtpmjeiliblgajaaGreatDoorMG3
import Derived.Test.YtpmjeiliblgajaaGreatDoorMG1
import Derived.Test.YtpmjeiliblgajaaGreatDoorMG2
import Derived.Shelf.Vars
import Derived.Handed
import Derived.Test.YtpmjeiliblgajaaGreatDoorMG0
import Derived.Test.YtpmjeiliblgajaaGreatDoorFm
import Derived.Lib.SmallJoins
import Derived.Test.YtpmjeiliblgajaaGreatDoorRows
set_option linter.unusedVariables false
set_option linter.unusedSimpArgs false
set_option linter.unusedSectionVars false
open Go.RowKit (intOf)
open List (drop_length length_nil mem_cons)
namespace Go.Proofs.YtpmjeiliblgajaaGreatDoor
open Go Go.Vc Go.Proofs.Tryz
attribute [local irreducible] Vc.Nc Vc.Ld Vc.LdA Vc.St Vc.StA Vc.Fo Vc.Iaa Vc.Ias Vc.Ixs Vc.Ixa Vc.Fd Vc.FdA Vc.Bp Vc.Bb Vc.Bn Vc.Up Vc.Ci Vc.Lns Vc.Lnl Vc.Ex Vc.Sst Vc.Ssl Vc.New Vc.Vif Vc.VJoin Vc.VLoop Vc.KE Vc.Dr Vc.Rk Vc.Cl Vc.Cx Vc.Inv Vc.Be Vc.Cv Vc.Cw Vc.Mf Vc.Sl Vc.Lk Vc.Bd Vc.Bs Vc.Ms Vc.Mm Vc.Mu Vc.Me Vc.Es Vc.Rg Vc.Nx Vc.Ta Vc.Ap Vc.Usd Vc.Ust Vc.Cp Vc.Ln Vc.Bc Vc.Bmin Vc.Bmax Vc.Bdel Vc.Bclr Vc.Pk
namespace P23
open Go.M01 Go.Mb Go.Me Go.M02 Go.M03 Go.M18 P20 S17
variable {w:World}{L:List HProp}{K:KT}{b:Nat}
abbrev tPr:Nat:=78
abbrev tSt:Nat:=110
abbrev stC (wb tot:Nat) (en:Bool):List Value:=[pt wb,uv tot,.bool en]
structure Pz where
 win:Nat
 inp:List UInt8
 en:Bool
 room:Nat
 fl:Bool
 bls:List Bl
 tu:Option Tun
 paid:Nat
 tot:Nat
 bits:List Bool
 tk:Nat
 out:List UInt8
 dn:Bool
 st:Nat
 cnt:Nat
 k:Nat
 c:Nat
def MM (room:Nat):Nat:=M45.mostS room+room+room
def cur (z:Pz):Nat:=match z.tu with
 |none=>0
 |some t=>t.cnt
structure PzOk (z:Pz) (g:Nat):Prop where
 wi:z.win<=1048576
 ip:z.inp.length<=z.win
 rm:5<=z.room/\z.room<=3000
 bl:∀ x∈z.bls,P20.BlOk z.room x
 ln:z.bls.length<=3/\(z.fl=false->z.bls.length<=1)
 tn:z.tu≠none->z.bls≠[]
 pd:∀ x r,z.bls=x::r->z.paid < x.1.length
 p0:z.bls=[]->z.paid=0
 tt:z.tot < 4294967296
 bi:z.bits.length<=1000+300000*z.cnt+(if z.dn=true then 100 else 0)
 tk:z.tk=z.bits.length/8
 fe:z.fl=true->z.inp=[]/\z.en=true
 db:z.dn=true->z.fl=true/\z.bls=[]
 ou:z.out.length<=40000
 ck:z.cnt+z.bls.length<=z.k+(if z.fl=true then 1 else 0)
 gl:z.st<=g
 gs:g<=z.c+z.cnt*MM z.room+(cur z+z.paid)+(if z.dn=true then 1 else 0)
def cellsPz (z:Pz) (sp:Nat) (bv tv:Value) (wt:Nat):List Value:=[nv z.win,S_ z.inp,.bool z.en,pt sp,.bool z.fl,bv,tv,nv z.paid,pt wt,S_ z.out,.bool z.dn,nv z.st]
def hd1 (z:Pz):List UInt8:=match z.bls with
 |[]=>[]
 |x::_=>x.1
def tuV (tb:Nat):Option Tun->Value
 |none=>.pointer none
 |some _=>pt tb
def tuH (tb:Nat) (s:List UInt8):Option Tun->List HProp
 |none=>[]
 |some t=>[TuR tb s t]
def PzL (b:Nat) (z:Pz) (sp:Nat) (bv:Value) (tb wt wb:Nat):List HProp:=
 [blk b tPr (cellsPz z sp bv (tuV tb z.tu) wt),SpR sp z.room z.k z.c,RO Fsb 3 tSb bv z.bls,blk wt tSt (stC wb z.tot z.dn),W01.WrR wb z.bits z.tk]++tuH tb (hd1 z) z.tu
def PzR (b:Nat) (z:Pz):HProp:=λh=>∃ sp bv tb wt wb,Sat (PzL b z sp bv tb wt wb) h
theorem Zdr {z:Pz}(H:Holds w (PzR b z::L)):∃ sp bv tb wt wb,Holds w (PzL b z sp bv tb wt wb++L):=by
 obtain⟨sp,H⟩:=Holds.ex H;obtain⟨bv,H⟩:=Holds.ex H;obtain⟨tb,H⟩:=Holds.ex H;obtain⟨wt,H⟩:=Holds.ex H;obtain⟨wb,H⟩:=Holds.ex H;exact⟨sp,bv,tb,wt,wb,Holds.unpack H⟩
theorem Zky {z:Pz}{sp:Nat}{bv:Value}{tb wt wb:Nat}(H:Holds w (PzL b z sp bv tb wt wb++L)):Holds w (PzR b z::L):=
 Holds.imp (Holds.pack H) λg hg=>⟨sp,bv,tb,wt,wb,hg⟩
theorem whole_spec {z:Pz}(H:Holds w (PzR b z::L)) (k:K (.bool (decide (z.bls≠[]))) w):Cl prog 91 #[pt b] w K:=by
 refine Tz91 ?_;unfold Vz91;obtain⟨sp,bv,tb,wt,wb,H⟩:=Zdr H;refine r_nc (r_fo0 (r_ld 0 H rfl rfl (r_lnO 2 H rfl (r_gtr ?_))));rw[show decide ((0:Int) < ((z.bls.length:Nat):Int))=decide (z.bls≠[]) from decide_eq_decide.2 ⟨λh e=>by rw[e] at h;simp at h,λh=>by have:=gZ.2 h;omega⟩];exact k
theorem Done_spec {z:Pz}(H:Holds w (PzR b z::L)) (k:K (.bool z.dn) w):Cl prog 79 #[pt b] w K:=by
 refine Tz79 ?_;unfold Vz79;obtain⟨sp,bv,tb,wt,wb,H⟩:=Zdr H;exact Zao (r_vt (r_nc (r_fo0 (r_ld 0 H rfl rfl k))))
theorem Waiting_spec {z:Pz}(H:Holds w (PzR b z::L)) (k:K (nv z.out.length) w):Cl prog 87 #[pt b] w K:=by
 refine Tz87 ?_;unfold Vz87;obtain⟨sp,bv,tb,wt,wb,H⟩:=Zdr H;exact Za6 (r_vf (r_nc (r_fo0 (r_ld 0 H rfl rfl (q_len k)))))
theorem q_sne {a b:List UInt8}{K:Value->Prop}(h:K (.bool (decide (¬ a=b)))):Bp .neq (S_ a) (S_ b) K:=by
 refine r_sne ?_;rw[show (!decide ((⟨a.toArray⟩:ByteArray)=⟨b.toArray⟩))=decide (¬ a=b) from by rw[<-decide_not];exact decide_eq_decide.2 (not_congr Zy4)];exact h
def PzB (b:Nat) (z:Pz) (sp:Nat) (bv tv:Value) (wt wb:Nat):List HProp:=
 [blk b tPr (cellsPz z sp bv tv wt),SpR sp z.room z.k z.c,RO Fsb 3 tSb bv z.bls,blk wt tSt (stC wb z.tot z.dn),W01.WrR wb z.bits z.tk]
theorem Zf6 {z:Pz}(ht:z.tu=none) (H:Holds w (PzR b z::L)):∃ sp bv wt wb,Holds w (PzB b z sp bv (.pointer none) wt wb++L):=by
 obtain⟨sp,bv,tb,wt,wb,H⟩:=Zdr H;unfold PzL at H;rw[ht] at H;exact⟨sp,bv,wt,wb,H⟩
theorem Zdt {z:Pz}{t:Tun}(ht:z.tu=some t) (H:Holds w (PzR b z::L)):∃ sp bv tb wt wb,Holds w (PzB b z sp bv (pt tb) wt wb++(TuR tb (hd1 z) t::L)):=by
 obtain⟨sp,bv,tb,wt,wb,H⟩:=Zdr H;unfold PzL at H;rw[ht] at H;exact⟨sp,bv,tb,wt,wb,H⟩
theorem Zco {z:Pz}{sp wt wb:Nat}{bv:Value}(ht:z.tu=none) (H:Holds w (PzB b z sp bv (.pointer none) wt wb++L)):Holds w (PzR b z::L):=by
 refine Zky (sp:=sp) (bv:=bv) (tb:=0) (wt:=wt) (wb:=wb) ?_;unfold PzL;rw[ht];exact H
theorem Zck {z:Pz}{t:Tun}{sp tb wt wb:Nat}{bv:Value}(ht:z.tu=some t) (H:Holds w (PzB b z sp bv (pt tb) wt wb++(TuR tb (hd1 z) t::L))):Holds w (PzR b z::L):=by
 refine Zky (sp:=sp) (bv:=bv) (tb:=tb) (wt:=wt) (wb:=wb) ?_;unfold PzL;rw[ht];exact H
theorem Zb9 {z:Pz}(H:Holds w (PzR b z::L)):∃ sp bv tv wt wb L',Holds w (PzB b z sp bv tv wt wb++L')/\∀ (z':Pz) w' bv',z'.tu=z.tu->(z.tu≠none->hd1 z'=hd1 z)->Holds w' (PzB b z' sp bv' tv wt wb++L')->Holds w' (PzR b z'::L):=by
 cases ht:z.tu with
 |none=>
  obtain⟨sp,bv,wt,wb,H⟩:=Zf6 ht H;exact⟨sp,bv,_,wt,wb,L,H,λz' w' bv' h1 _ H'=>Zco h1 H'⟩
 |some t=>
  obtain⟨sp,bv,tb,wt,wb,H⟩:=Zdt ht H;exact⟨sp,bv,_,wt,wb,_,H,λz' w' bv' h1 h2 H'=>Zck h1 (by rw[h2 (by simp)];exact H')⟩
def Ef (z:Pz):Prop:=z.en=true->z.inp=[]->z.fl=true
theorem PzOk.app {z:Pz}{g g':Nat}(h:PzOk z g){rs:List Bl}{f:Bool}{k c:Nat}(hd:z.dn=false) (hr:∀ x∈rs,P20.BlOk z.room x) (hl:(z.bls++rs).length<=3/\(f=false->(z.bls++rs).length<=1)) (hf:f=true->z.inp=[]/\z.en=true)
  (hk:z.cnt+(z.bls++rs).length<=k+(if f=true then 1 else 0)) (hst:z.st<=g') (hc:g'+z.c<=g+c):PzOk { z with bls:=z.bls++rs,fl:=f,k:=k,c:=c } g':=by
 refine⟨h.wi,h.ip,h.rm,?_,hl,?_,?_,?_,h.tt,h.bi,h.tk,hf,(λe=>?_),h.ou,hk,hst,?_⟩
 ·intro x hx;rcases hT_.1 hx with hx|hx
  ·exact h.bl x hx
  ·exact hr x hx
 ·intro ht e;exact h.tn ht (List.append_eq_nil_iff.1 e).1
 ·intro x r e
  cases hb:z.bls with
  |nil=>
   rw[show ({ z with bls:=z.bls++rs,fl:=f,k:=k,c:=c }:Pz).bls=z.bls++rs from rfl,hb,hO_] at e;have:=(hr x (by rw[e];exact hJ_ ..)).1;show z.paid < _;rw[h.p0 hb];exact gZ.2 this
  |cons y r'=>
   rw[show ({ z with bls:=z.bls++rs,fl:=f,k:=k,c:=c }:Pz).bls=z.bls++rs from rfl,hb,List.cons_append] at e;cases e;exact h.pd x r' hb
 ·intro e;exact h.p0 (List.append_eq_nil_iff.1 e).1
 ·rw[show ({ z with bls:=z.bls++rs,fl:=f,k:=k,c:=c }:Pz).dn=z.dn from rfl,hd] at e;cases e
 ·have:=h.gs;show g'<=c+z.cnt*MM z.room+(cur z+z.paid)+(if z.dn=true then 1 else 0);omega
theorem Zyx {z:Pz}{rs:List Bl}{f:Bool}{k c:Nat}(h:z.bls≠[]):hd1 { z with bls:=z.bls++rs,fl:=f,k:=k,c:=c }=hd1 z:=by
 unfold hd1
 cases hb:z.bls with
 |nil=>exact absurd hb h
 |cons y r=>rfl
def fed (z:Pz):Nat:=z.c+z.inp.length
def Kp (z z':Pz):Prop:=z'.out=z.out/\z'.dn=z.dn/\z'.st=z.st/\fed z'=fed z/\z'.room=z.room/\z'.win=z.win/\z'.cnt=z.cnt/\z'.en=z.en
theorem Kp.refl (z:Pz):Kp z z:=⟨rfl,rfl,rfl,rfl,rfl,rfl,rfl,rfl⟩
theorem Zfh {z:Pz}{g:Nat}(H:Holds w (PzR b z::L)) (hz:PzOk z g)
  (k:∀ z' w',PzOk z' g->Ef z'->Kp z z'->(z.fl=true->z'=z)->Same w w'->Holds w' (PzR b z'::L)->K (.tuple #[]) w'):Cl prog 88 #[pt b] w K:=by
 refine Tz88 ?_;unfold Vz88;obtain⟨sp,bv,tv,wt,wb,L',H1,back⟩:=Zb9 H;refine Za1 (λx w'=>w=w'/\x=.bool (decide (z.en=true/\z.inp=[]/\z.fl=false))) ?_ ?_
 rotate_left
 ·refine r_nc (r_fo0 (r_ld 0 H1 rfl rfl ?_))
  cases he:z.en with
  |false=>exact r_vf (r_ke ⟨rfl,by rw[decide_eq_false (by simp)]⟩)
  |true=>
   refine r_vt (r_nc (r_fo0 (r_ld 0 H1 rfl rfl (Zxi (r_ifD (λh=>?_) λh=>?_)))))
   ·refine r_nc (r_fo0 (r_ld 0 H1 rfl rfl (r_not (r_ke ⟨rfl,?_⟩))))
    cases hf:z.fl with
    |false=>rw[decide_eq_true ⟨rfl,h,rfl⟩];rfl
    |true=>rw[decide_eq_false (by simp)];rfl
   ·exact r_ke ⟨rfl,by rw[decide_eq_false (λe=>h e.2.1)]⟩
 rintro _ _ _ ⟨rfl,rfl⟩;refine r_ifD (λh=>?_) λh=>k z w hz (λe1 e2=>by cases hf:z.fl with|true=>rfl|false=>exact absurd ⟨e1,e2,hf⟩ h) (.refl z) (λ_=>rfl) (.refl _) H;obtain⟨he,hi,hf⟩:=h;refine r_dr H1 λw2 S2 H2=>?_;refine r_nc (r_fo0 (r_ld 0 H2 rfl rfl (r_nc (r_fo0 (r_ld 0 H2 rfl rfl ?_)))));refine Zpy P20.Zpm (by have h_:=Holds.front H2 1 rfl;exact h_) hz.rm λv rs kk w3 hl hkk hrs S3 H3=>?_
 have H4:Holds w3 (RW Fsb 3 tSb v rs::(PzB b { z with k:=kk } sp bv tv wt wb++L')):=by have h_:=Holds.ord 6 [0,2,1,3,4,5] H3 rfl;exact h_
 clear H1 H3;refine r_rk (r_ld 1 H4 rfl rfl rfl) ?_;have hb1:=hz.ln.2 hf;have hck:=hz.ck
 have hdn:z.dn=false:=by
  cases hd:z.dn with
  |false=>rfl
  |true=>rw[(hz.db hd).1] at hf;cases hf
 rw[if_neg (by rw[hf];decide)] at hck
 have fin:∀ v' w4,Same w3 w4->Holds w4 ([blk b tPr (cellsPz z sp bv tv wt),SpR sp z.room kk z.c,RO Fsb 3 tSb v' (z.bls++rs),blk wt tSt (stC wb z.tot z.dn),W01.WrR wb z.bits z.tk]++L')->
   (Nc (pt b) <| Fo 5 (pt b) λx_10=>St x_10 v' w4 λw5=>Nc (pt b) <| Fo 4 (pt b) λx_11=>St x_11 (.bool true) w5 λw6=>K (.tuple #[]) w6):=by
  intro v' w4 S4 H5;refine r_nc (r_fo0 (r_st 0 H5 rfl (by simp[cellsPz]) (H5.sgRO 2 rfl) λw5 S5 H6=>?_));refine r_nc (r_fo0 (r_st 0 H6 rfl (by simp[cellsPz]) rfl λw6 S6 H7=>?_));refine k { z with bls:=z.bls++rs,fl:=true,k:=kk,c:=z.c } w6 (hz.app hdn hrs ⟨by rw[gD];omega,λe=>by cases e⟩ (λ_=>⟨hi,he⟩) (by rw[if_pos rfl,gD];omega) hz.gl (Nat.le_refl _)) (λ_ _=>rfl) ⟨rfl,rfl,rfl,rfl,rfl,rfl,rfl,rfl⟩ (λe=>by rw[hf] at e;cases e) (S2.trans (S3.trans (S4.trans (S5.trans S6)))) ?_;exact back { z with bls:=z.bls++rs,fl:=true,k:=kk,c:=z.c } w6 v' rfl (λht=>Zyx (hz.tn ht)) H7
 cases hrz:rs with
 |nil=>
  subst hrz;obtain⟨oa,m,spc,rfl,H5⟩:=Holds.openRW H4 0 rfl;refine Ztf H4 3 rfl ?_;refine fin bv w3 (.refl _) ?_;rw[gU];exact H4.drop
 |cons x r=>
  obtain⟨oa,m,spc,rfl,H5⟩:=Holds.openRW H4 0 rfl;obtain⟨b2,rfl,hsp,H6⟩:=Holds.rwb H5 0 rfl (.inl (by rw[hrz];exact Nat.succ_pos _));replace H6:Holds w3 (blk b2 tSb (flatL Fsb rs++spc)::(PzB b { z with k:=kk } sp bv tv wt wb++L')):=H6;refine Zxt (ys:=rs) H6 3 0 rfl rfl (by decide) (List.take_left' (Zcm (k:=3) (λ_=>rfl) rs)) rfl (λy=>rfl) Zoc (by show z.bls.length+rs.length<=_;omega) (by rw[hrz];exact Nat.succ_pos _) λv' w4 S4 H7=>?_;exact fin v' w4 S4 H7.drop
theorem Feed_spec {z:Pz}{g:Nat}{s:List UInt8}(H:Holds w (PzR b z::L)) (hz:PzOk z g) (hs:s.length<=1000000000)
  (k:∀ n z' w',n=(if z.en=true then 0 else min s.length (z.win - z.inp.length))->z'={ z with inp:=z.inp++s.take n }->PzOk z' g->Same w w'->Holds w' (PzR b z'::L)->K (nv n) w'):Cl prog 81 #[pt b,S_ s] w K:=by
 refine Tz81 ?_;unfold Vz81;obtain⟨sp,bv,tv,wt,wb,L',H1,back⟩:=Zb9 H;have hip:=hz.ip;have hwi:=hz.wi;refine Za1 (λx w'=>w=w'/\x=.bool z.en) ?_ ?_
 rotate_left
 ·exact Za6 (r_vf (r_nc (r_fo0 (r_ld 0 H1 rfl rfl (r_ke ⟨rfl,rfl⟩)))))
 rintro _ _ _ ⟨rfl,rfl⟩
 cases he:z.en with
 |true=>exact r_vt (k 0 z w (by rw[if_pos he]) (by rw[List.take_zero,gU]) hz (.refl _) H)
 |false=>
  refine r_vf (r_dr H1 λw2 S2 H2=>?_);refine q_len (r_nc (r_fo0 (r_ld 0 H2 rfl rfl (r_nc (r_fo0 (r_ld 0 H2 rfl rfl (q_len ?_)))))));refine r_sub (by omega) (by omega) (r_min ?_);rw[show min (s.length:Int) ((z.win:Int) - (z.inp.length:Int))=((min s.length (z.win - z.inp.length):Nat):Int) by omega];generalize hn:min s.length (z.win - z.inp.length)=n;refine r_dr H2 λw3 S3 H3=>?_;refine r_nc (r_fo0 (r_ld 0 H3 rfl rfl (q_T (by omega) ?_)));refine Zeg (by rw[gN];omega) ?_;refine r_nc (r_fo0 (r_st 0 H3 rfl (by simp[cellsPz]) rfl λw4 S4 H4=>?_));refine k n { z with inp:=z.inp++s.take n } w4 (by rw[if_neg (by rw[he];decide)];exact hn.symm) rfl ⟨hz.wi,?_,hz.rm,hz.bl,hz.ln,hz.tn,hz.pd,hz.p0,hz.tt,hz.bi,hz.tk,λe=>?_,hz.db,hz.ou,hz.ck,hz.gl,hz.gs⟩ (S2.trans (S3.trans S4)) ?_
  ·show (z.inp++s.take n).length<=z.win;rw[gD,gN];omega
  ·rw[(hz.fe e).2] at he;cases he
  ·exact back { z with inp:=z.inp++s.take n } w4 bv rfl (λ_=>rfl) H4
theorem End_spec {z:Pz}{g:Nat}(H:Holds w (PzR b z::L)) (hz:PzOk z g) (hef:Ef z)
  (k:∀ v z' w',PzOk z' g->Ef z'->z'.en=true->(z.en=true->z'=z)->(z.fl=true->z'=z)->Kp { z with en:=true } z'->Same w w'->Holds w' (PzR b z'::L)->K v w'):Cl prog 80 #[pt b] w K:=by
 refine Tz80 ?_;unfold Vz80;obtain⟨sp,bv,tv,wt,wb,L',H1,back⟩:=Zb9 H;refine Za1 (λx w'=>w=w'/\x=.bool z.en) ?_ ?_
 rotate_left
 ·exact Za6 (r_vf (r_nc (r_fo0 (r_ld 0 H1 rfl rfl (r_ke ⟨rfl,rfl⟩)))))
 rintro _ _ _ ⟨rfl,rfl⟩
 cases he:z.en with
 |true=>
  have e:({ z with en:=true }:Pz)=z:=by rw[<-he]
  exact r_vt (k _ z w hz hef he (λ_=>rfl) (λ_=>rfl) (by rw[e];exact .refl z) (.refl _) H)
 |false=>
  refine r_vf (r_nc (r_fo0 (r_st 0 H1 rfl (by simp[cellsPz]) rfl λw2 S2 H2=>?_)));have H3:=back { z with en:=true } w2 bv rfl (λ_=>rfl) H2;have hz2:PzOk { z with en:=true } g:=⟨hz.wi,hz.ip,hz.rm,hz.bl,hz.ln,hz.tn,hz.pd,hz.p0,hz.tt,hz.bi,hz.tk,λe=>⟨(hz.fe e).1,rfl⟩,hz.db,hz.ou,hz.ck,hz.gl,hz.gs⟩;refine Zfh H3 hz2 λz' w3 hz' hf' h1 _ S3 H4=>k _ z' w3 hz' hf' h1.2.2.2.2.2.2.2 (λe=>by rw[he] at e;cases e) (λe=>?_) h1 (S2.trans S3) H4;rw[(hz.fe e).2] at he;cases he
def tuD (z:Pz):Bool:=match z.tu with
 |none=>false
 |some t=>t.done (hd1 z)
def wrt (z:Pz):Bool:=if z.bls=[] then z.fl else tuD z&&decide (z.paid+1=(hd1 z).length)
def stp (z:Pz):Bool:=z.dn||(if wrt z=true then decide (z.out≠[]) else decide (z.bls=[]/\z.inp=[]))
theorem Zrw {z:Pz}(h:z.bls≠[]):∃ x r,z.bls=x::r/\hd1 z=x.1:=by
 unfold hd1
 cases hb:z.bls with
 |nil=>exact absurd hb h
 |cons y r=>exact⟨y,r,rfl,rfl⟩
theorem Zi8 {z:Pz}{g:Nat}(hz:PzOk z g) (h:z.bls≠[]):hd1 z≠[]/\(hd1 z).length<=3000/\z.paid < (hd1 z).length:=by
 obtain⟨x,r,hx,e⟩:=Zrw h;have h1:=hz.bl x (by rw[hx];exact hJ_ ..);have h2:=hz.rm.2;rw[e];exact⟨h1.1,by have:=h1.2;omega,hz.pd x r hx⟩
theorem Zei {z:Pz}{sp wt wb:Nat}{bv tv:Value}{K:Value->Prop}(h:z.bls≠[]) (H:Holds w (PzB b z sp bv tv wt wb++L)) (k:K (S_ (hd1 z))):Ias 3 bv (.int .i64 0) λx=>Fo 0 x λy=>Ld y w K:=by
 obtain⟨x,r,hx,e⟩:=Zrw h;refine Zx7 (xs:=z.bls) (F:=Fsb) (e:=tSb) 2 H rfl (λ_=>rfl) (q:=0) (x:=x) (u:=S_ x.1) (by rw[hx];rfl) rfl ?_;rw[<-e];exact k
theorem Znr {z:Pz}{g:Nat}(H:Holds w (PzR b z::L)) (hz:PzOk z g) (k:∀ w',Same w w'->Holds w' (PzR b z::L)->K (.bool (wrt z)) w'):Cl prog 90 #[pt b] w K:=by
 refine Tz90 ?_;unfold Vz90;refine whole_spec H ?_
 by_cases hb:z.bls=[]
 ·refine r_vfD (λh=>h hb) ?_;obtain⟨sp,bv,tv,wt,wb,L',H1,back⟩:=Zb9 H;refine r_nc (r_fo0 (r_ld 0 H1 rfl rfl ?_));have:=k w (.refl _) H;unfold wrt at this;rw[if_pos hb] at this;exact this
 ·refine r_vtD hb ?_;obtain⟨h0,h3,hp⟩:=Zi8 hz hb;unfold wrt at k;rw[if_neg hb] at k;unfold tuD at k;refine r_dr H λw2 S2 H2=>?_
  cases ht:z.tu with
  |none=>
   rw[ht] at k;obtain⟨sp,bv,wt,wb,H3⟩:=Zf6 ht H2;refine r_nc (r_fo0 (r_ld 0 H3 rfl rfl (Zuf (r_vf ?_))));exact k w2 S2 H2
  |some t=>
   rw[ht] at k;obtain⟨sp,bv,tb,wt,wb,H3⟩:=Zdt ht H2;refine r_nc (r_fo0 (r_ld 0 H3 rfl rfl (Zao (r_vt ?_))));refine r_nc (r_fo0 (r_ld 0 H3 rfl rfl ?_));refine Ze4 h0 (by have h_:=Holds.front H3 5 rfl;exact h_) λw3 S3 H4=>?_
   have H5:Holds w3 (PzB b z sp bv (pt tb) wt wb++(TuR tb (hd1 z) t::L)):=by have h_:=Holds.ord 6 [1,2,3,4,5,0] H4 rfl;exact h_
   have k3:=k w3 (S2.trans S3) (Zck ht H5)
   cases hd:t.done (hd1 z) with
   |false=>
    simp only[hd,Bool.false_and] at k3;exact r_vf k3
   |true=>
    simp only[hd,Bool.true_and] at k3;refine r_vt (r_nc (r_fo0 (r_ld 0 H5 rfl rfl (r_nc (r_fo0 (r_ld 0 H5 rfl rfl ?_))))));refine Zei hb H5 (q_len ?_);refine r_sub (by omega) (by omega) (r_eql ?_);rw[show ((z.paid:Int)==(((hd1 z).length:Nat):Int) - 1)=decide (z.paid+1=(hd1 z).length) from by rw[Bool.eq_iff_iff,beq_iff_eq,decide_eq_true_iff];omega];exact k3
theorem Stopped_spec {z:Pz}{g:Nat}(H:Holds w (PzR b z::L)) (hz:PzOk z g) (k:∀ w',Same w w'->Holds w' (PzR b z::L)->K (.bool (stp z)) w'):Cl prog 85 #[pt b] w K:=by
 refine Tz85 ?_;unfold Vz85;unfold stp at k;obtain⟨sp,bv,tv,wt,wb,L',H1,back⟩:=Zb9 H;refine Za1 (λx w'=>w=w'/\x=.bool z.dn) ?_ ?_
 rotate_left
 ·exact Za6 (r_vf (r_nc (r_fo0 (r_ld 0 H1 rfl rfl (r_ke ⟨rfl,rfl⟩)))))
 rintro _ _ _ ⟨rfl,rfl⟩
 cases hd:z.dn with
 |true=>
  rw[hd] at k;exact r_vt (k w (.refl _) H)
 |false=>
  rw[hd] at k;simp only[Bool.false_or] at k;refine r_vf ?_;refine Znr H hz λw2 S2 H2=>?_;obtain⟨sp2,bv2,tv2,wt2,wb2,L2,H3,_⟩:=Zb9 H2
  cases hw:wrt z with
  |true=>
   rw[if_pos hw] at k;refine r_vt (r_nc (r_fo0 (r_ld 0 H3 rfl rfl ?_)));exact q_sne (k w2 S2 H2)
  |false=>
   rw[if_neg (by rw[hw];decide)] at k;refine r_vf ?_;refine whole_spec H2 (r_not ?_)
   by_cases hb:z.bls=[]
   ·rw[decide_eq_false (λh=>h hb)];refine r_vt (r_nc (r_fo0 (r_ld 0 H3 rfl rfl (Zxi ?_))));have:=k w2 S2 H2;rw[show decide (z.bls=[]/\z.inp=[])=decide (z.inp=[]) from decide_eq_decide.2 ⟨λh=>h.2,λh=>⟨hb,h⟩⟩] at this;exact this
   ·rw[decide_eq_true hb];refine r_vf ?_;have:=k w2 S2 H2;rw[decide_eq_false (λh=>hb h.1)] at this;exact this
theorem nd_of {z:Pz}{g:Nat}(hz:PzOk z g) (hf:z.fl=false):z.dn=false:=by
 cases hd:z.dn with
 |false=>rfl
 |true=>rw[(hz.db hd).1] at hf;cases hf
theorem take_spec {z:Pz}{g:Nat}(H:Holds w (PzR b z::L)) (hz:PzOk z g) (hb:z.bls=[]) (hi:z.inp≠[]) (hf:z.fl=false)
  (k:∀ z' w',PzOk z' (g+1)->Ef z'->Kp z z'->Same w w'->Holds w' (PzR b z'::L)->K (.tuple #[]) w'):Cl prog 97 #[pt b] w K:=by
 refine Tz97 ?_;unfold Vz97
 have ht:z.tu=none:=by
  cases ht:z.tu with
  |none=>rfl
  |some t=>exact absurd hb (hz.tn (by rw[ht];simp))
 obtain⟨sp,bv,wt,wb,H1⟩:=Zf6 ht H;have hpos:=gZ.2 hi;have hdn:=nd_of hz hf;have hgl:=hz.gl;have hgs:=hz.gs;have hck:=hz.ck;rw[hb,length_nil] at hck
 have hz1:PzOk { z with inp:=z.inp.drop 1,c:=z.c+1 } (g+1):=⟨hz.wi,by show (z.inp.drop 1).length<=z.win;rw[gS];have:=hz.ip;omega,hz.rm,hz.bl,hz.ln,hz.tn,hz.pd,hz.p0,hz.tt,hz.bi,hz.tk,(λe=>by rw[show ({ z with inp:=z.inp.drop 1,c:=z.c+1 }:Pz).fl=z.fl from rfl,hf] at e;cases e),hz.db,hz.ou,hz.ck,Nat.le_succ_of_le hz.gl,by
  show g+1<=z.c+1+z.cnt*MM z.room+(cur z+z.paid)+(if z.dn=true then 1 else 0)
  omega⟩
 have hfd:z.c+1+(z.inp.drop 1).length=fed z:=by unfold fed;rw[gS];omega
 refine Zsp (λx y w'=>∃ (q:Nat) (c:Bool) (vs:List Value) (kk:Nat),x=pt q/\y=.bool c/\Same w w'/\Holds w' (PzB b { z with k:=kk,c:=z.c+1 } sp bv (.pointer none) wt wb++(blk q tSb vs::L))/\(c=true->kk=z.k+1/\∃ x:Bl,P20.BlOk z.room x/\vs=Fsb x)/\(c=false->kk=z.k)) ?_ ?_
 ·rintro _ _ _ w2 ⟨q,c,vs,kk,rfl,rfl,S2,H2,hc,hc0⟩;refine r_nc (r_fo0 (r_ld 0 H2 rfl rfl (q_D (m:=1) (by show 1<=z.inp.length;omega) ?_)));refine r_nc (r_fo0 (r_st 0 H2 rfl (by simp[cellsPz]) rfl λw3 S3 H3=>?_));replace H3:Holds w3 (PzB b { z with inp:=z.inp.drop 1,k:=kk,c:=z.c+1 } sp bv (.pointer none) wt wb++(blk q tSb vs::L)):=H3
  cases c with
  |false=>
   obtain rfl:=hc0 rfl;refine r_vf ?_;refine Zfh (Zco (z:={ z with inp:=z.inp.drop 1,c:=z.c+1 }) (bv:=bv) ht (Holds.dropAt H3 5)) hz1 λz' w4 h1 h2 h3 _ S4 H4=>?_;exact k z' w4 h1 h2 ⟨h3.1,h3.2.1,h3.2.2.1,h3.2.2.2.1.trans hfd,h3.2.2.2.2⟩ (S2.trans (S3.trans S4)) H4
  |true=>
   obtain⟨rfl,x,hx,rfl⟩:=hc rfl;refine r_vt (r_dr H3 λw4 S4 H4=>?_);refine r_nc (r_fo0 (r_ld 0 H4 rfl rfl ?_));refine r_ldA 5 H4 (Fsb x) rfl rfl rfl ?_;refine r_bsK (e:=tSb) (Fsb x) H4 (by kernel_rfl) λb2 w5 S5 H5=>?_;refine r_rk (r_ld 1 H5 rfl rfl rfl) ?_;refine Zxt (ys:=[x]) H5 3 0 rfl rfl (by decide) rfl rfl (λy=>rfl) Zoc (by show z.bls.length+1<=_;rw[hb];decide) (Nat.succ_pos _) λv' w6 S6 H6=>?_;replace H6:=Holds.dropAt H6.drop 5;refine r_nc (r_fo0 (r_st 0 H6 rfl (by simp[cellsPz]) (H6.sgRO 2 rfl) λw7 S7 H7=>?_))
   have hz2:=hz1.app (rs:=[x]) (f:=false) (k:=z.k+1) (c:=z.c+1) (g':=g+1) hdn (λy hy=>by rw[List.mem_singleton.1 hy];exact hx) (by show (z.bls++[x]).length<=3/\_;rw[hb];exact⟨by simp,λ_=>by simp⟩) (λe=>by cases e)
    (by show z.cnt+(z.bls++[x]).length<=z.k+1+0;rw[hb];simp;rw[hf,if_neg (by decide)] at hck;omega) (Nat.le_succ_of_le hgl) (Nat.le_refl _)
   have H8:Holds w7 (PzB b { { z with inp:=z.inp.drop 1,c:=z.c+1 } with bls:=z.bls++[x],fl:=false,k:=z.k+1,c:=z.c+1 } sp v' (.pointer none) wt wb++L):=by
    have h_:=H7;unfold PzB cellsPz;rw[<-hf];exact h_
   refine Zfh (Zco (bv:=v') (by exact ht) H8) hz2 λz' w8 h1 h2 h3 _ S8 H9=>?_;exact k z' w8 h1 h2 ⟨h3.1,h3.2.1,h3.2.2.1,h3.2.2.2.1.trans hfd,h3.2.2.2.2⟩ (S2.trans (S3.trans (S4.trans (S5.trans (S6.trans (S7.trans S8)))))) H9
 ·refine r_dr H1 λw2 S2 H2=>⟨?_,?_⟩
  ·refine r_nc (r_fo0 (r_ld 0 H2 rfl rfl (r_nc (r_fo0 (r_ld 0 H2 rfl rfl ?_)))));refine q_ix (m:=0) hpos ?_;refine Ziy P20.Zpm (by have h_:=Holds.front H2 1 rfl;exact h_) hz.rm (λw3 S3 H3=>?_) λx w3 hx S3 H3=>?_
   ·refine Za3 (Za4 ?_);refine r_new H3 λq w4 S4 H4=>?_;rw[Zbd] at H4;refine r_rk (r_ld 2 H4 rfl rfl rfl) (r_rk (r_ld 2 H4 rfl rfl rfl) ?_);refine r_stA 0 H4 (vs:=Zsb) rfl (Nat.le_refl 3) rfl rfl λw5 S5 H5=>?_;refine r_ke ⟨q,false,Zsb,z.k,rfl,rfl,S2.trans (S3.trans (S4.trans S5)),?_,(λe=>by cases e),λ_=>rfl⟩;have h_:=Holds.ord 6 [2,1,3,4,5,0] H5 rfl;exact h_
   ·refine Za3 (Za4 ?_);refine r_new H3 λq w4 S4 H4=>?_;rw[Zbd] at H4;refine r_rk (r_ld 2 H4 rfl rfl rfl) (r_rk (r_ld 2 H4 rfl rfl rfl) ?_);refine r_stA 0 H4 (vs:=Fsb x) rfl (Nat.le_refl 3) rfl rfl λw5 S5 H5=>?_;refine r_ke ⟨q,true,Fsb x,z.k+1,rfl,rfl,S2.trans (S3.trans (S4.trans S5)),?_,(λ_=>⟨rfl,x,hx,rfl⟩),λe=>by cases e⟩;have h_:=Holds.ord 6 [2,1,3,4,5,0] H5 rfl;exact h_
  ·refine r_nc (r_fo0 (r_ld 0 H2 rfl rfl (r_nc (r_fo0 (r_ld 0 H2 rfl rfl ?_)))));refine q_ix (m:=0) hpos ?_;refine r_new H2 λq w3 S3 H3=>?_;rw[Zbd] at H3;refine r_rk (r_ld 1 H3 rfl rfl rfl) (r_rk (r_ld 1 H3 rfl rfl rfl) ?_);refine Ziy P20.Zpm (by have h_:=Holds.front H3 2 rfl;exact h_) hz.rm (λw4 S4 H4=>?_) λx w4 hx S4 H4=>?_
   ·refine Za3 (Za4 ?_);refine r_stA 1 H4 (vs:=Zsb) rfl (Nat.le_refl 3) rfl rfl λw5 S5 H5=>?_;refine r_ke ⟨q,false,Zsb,z.k,rfl,rfl,S2.trans (S3.trans (S4.trans S5)),?_,(λe=>by cases e),λ_=>rfl⟩;have h_:=Holds.ord 6 [2,0,3,4,5,1] H5 rfl;exact h_
   ·refine Za3 (Za4 ?_);refine r_stA 1 H4 (vs:=Fsb x) rfl (Nat.le_refl 3) rfl rfl λw5 S5 H5=>?_;refine r_ke ⟨q,true,Fsb x,z.k+1,rfl,rfl,S2.trans (S3.trans (S4.trans S5)),?_,(λ_=>⟨rfl,x,hx,rfl⟩),λe=>by cases e⟩;have h_:=Holds.ord 6 [2,0,3,4,5,1] H5 rfl;exact h_
theorem Zwd {z:Pz}{g:Nat}(H:Holds w (PzR b z::L)) (hz:PzOk z g) (hb:z.bls≠[]) (hp:z.paid+1 < (hd1 z).length)
  (k:∀ w',PzOk { z with paid:=z.paid+1 } (g+1)->Same w w'->Holds w' (PzR b { z with paid:=z.paid+1 }::L)->K (.tuple #[]) w'):Cl prog 96 #[pt b] w K:=by
 refine Tz96 ?_;unfold Vz96;obtain⟨h0,h3,_⟩:=Zi8 hz hb;obtain⟨sp,bv,tv,wt,wb,L',H1,back⟩:=Zb9 H;refine r_nc (r_fo0 (r_ld 0 H1 rfl rfl (Za0 (by omega) ?_)));refine r_nc (r_fo0 (r_st 0 H1 rfl (by simp[cellsPz]) rfl λw2 S2 H2=>?_));replace H2:Holds w2 (PzB b { z with paid:=z.paid+1 } sp bv tv wt wb++L'):=H2;refine r_dr H2 λw3 S3 H3=>?_;refine r_nc (r_fo0 (r_ld 0 H3 rfl rfl (r_nc (r_fo0 (r_ld 0 H3 rfl rfl ?_)))));refine Zei (z:={ z with paid:=z.paid+1 }) hb H3 (q_len (r_lss (r_vtD ?_ ?_)))
 ·show ((z.paid+1:Nat):Int) < (((hd1 z).length:Nat):Int);omega
 ·refine k w3 ⟨hz.wi,hz.ip,hz.rm,hz.bl,hz.ln,hz.tn,λx r e=>?_,λe=>absurd e hb,hz.tt,hz.bi,hz.tk,hz.fe,hz.db,hz.ou,hz.ck,Nat.le_succ_of_le hz.gl,?_⟩ (S2.trans S3) (back _ w3 bv rfl (λ_=>rfl) H3)
  ·have e':z.bls=x::r:=e;show z.paid+1 < x.1.length
   have:hd1 z=x.1:=by unfold hd1;rw[e']
   rw[<-this];exact hp
  ·have:=hz.gs;show g+1<=z.c+z.cnt*MM z.room+(cur z+(z.paid+1))+(if z.dn=true then 1 else 0);omega
theorem mostS_mono {m n:Nat}(h:m<=n):M45.mostS m<=M45.mostS n:=by
 have h1:M45.lg m<=M45.lg n:=M45.lg_le m _ (Nat.le_trans h (M45.Ze3 n).2);unfold M45.mostS M45.each;exact Nat.mul_le_mul h (Nat.mul_le_mul (by omega) (by omega))
section
variable [T12.Bnds]
theorem Zrt {z:Pz}{g n:Nat}(H:Holds w (PzR b z::L)) (hz:PzOk z g) (hb:z.bls≠[]) (ht:z.tu=some (.takes n (hd1 z).length)) (hp:z.paid+1=(hd1 z).length) (ho:z.out=[]) (hB:T12.BndOk L) (hc:z.cnt<=20000)
  (k:∀ z' w',PzOk z' (g+1)->(Ef z->Ef z')->z'.dn=z.dn->z'.st=z.st->fed z'=fed z->z'.room=z.room->z'.win=z.win->z'.en=z.en->z'.cnt=z.cnt+1->Same w w'->Holds w' (PzR b z'::L)->K (.tuple #[]) w'):Cl prog 96 #[pt b] w K:=by
 refine Tz96 ?_;unfold Vz96;obtain⟨h0,h3,_⟩:=Zi8 hz hb;obtain⟨x,r,hx,hx1⟩:=Zrw hb
 have hdn:z.dn=false:=by
  cases hd:z.dn with
  |false=>rfl
  |true=>exact absurd (hz.db hd).2 hb
 have hbi:=hz.bi;have htk:=hz.tk;have hgl:=hz.gl;have hgs:=hz.gs;have hck:=hz.ck;have hrm:=hz.rm;obtain⟨sp,bv,tb,wt,wb,H1⟩:=Zdt ht H;refine r_nc (r_fo0 (r_ld 0 H1 rfl rfl (Za0 (by omega) ?_)));refine r_nc (r_fo0 (r_st 0 H1 rfl (by simp[cellsPz]) rfl λw2 S2 H2=>?_));replace H2:Holds w2 (PzB b { z with paid:=z.paid+1 } sp bv (pt tb) wt wb++(TuR tb (hd1 z) (.takes n (hd1 z).length)::L)):=H2;refine r_dr H2 λw3 S3 H3=>?_;refine r_nc (r_fo0 (r_ld 0 H3 rfl rfl (r_nc (r_fo0 (r_ld 0 H3 rfl rfl ?_)))));refine Zei (z:={ z with paid:=z.paid+1 }) hb H3 (q_len (r_lss (r_vfD ?_ ?_)))
 ·show ¬ ((z.paid+1:Nat):Int) < (((hd1 z).length:Nat):Int);omega
 have hTu:(n+(hd1 z).length)<=M45.mostS (hd1 z).length+(hd1 z).length:=Zxf (b:=tb) (s:=hd1 z) (t:=.takes n (hd1 z).length) (by have h_:=Holds.front H3 5 rfl;exact h_);refine r_nc (r_fo0 (r_ld 0 H3 rfl rfl ?_));refine Zjt (by have h_:=Holds.front H3 5 rfl;exact h_) h0 λo w4 hoz S4 H4=>?_
 have hol:o < (lastL (hd1 z)).length:=by
  rw[Zl9];have:=(gH.1 hoz).1;rw[Zcp] at this;exact this
 have hll:(lastL (hd1 z)).length=(hd1 z).length:=Zl9 _
 have hl0:lastL (hd1 z)≠[]:=λe=>by rw[e] at hol;cases hol
 have H5:Holds w4 (PzB b { z with paid:=z.paid+1 } sp bv (pt tb) wt wb++(TuR tb (hd1 z) (.takes n (hd1 z).length)::L)):=by have h_:=Holds.ord 6 [1,2,3,4,5,0] H4 rfl;exact h_
 refine Za3 (Za4 (r_dr H5 λw5 S5 H6=>?_));refine r_nc (r_fo0 (r_ld 0 H6 rfl rfl (r_nc (r_fo0 (r_ld 0 H6 rfl rfl ?_)))));refine Zx7 (xs:=z.bls) (F:=Fsb) (e:=tSb) 2 H6 rfl (λ_=>rfl) (q:=0) (j:=1) (x:=x) (u:=uv (crcOf x.2)) (by rw[hx];rfl) rfl ?_
 have H7:Holds w5 (blk wt tSt (stC wb z.tot false)::W01.WrR wb z.bits z.tk::blk b tPr (cellsPz { z with paid:=z.paid+1 } sp bv (pt tb) wt)::SpR sp z.room z.k z.c::RO Fsb 3 tSb bv z.bls::TuR tb (hd1 z) (.takes n (hd1 z).length)::L):=by
  have h_:=Holds.ord 6 [3,4,0,1,2,5] H6 rfl;rw[<-hdn];exact h_
 refine W2s.Turned_spec (s:=lastL (hd1 z)) H7 (((hB.up).up).up.up) hl0 (by omega) hol (Zpq _) hz.tt (by rw[hdn,if_neg (by decide)] at hbi;omega) (by omega) λpicks ts w6 hC S6 H8=>?_;have hbl:=W20.Zjs (origin:=o) (sum:=crcOf x.2) hl0 (by omega) hC;generalize hbs:z.bits++(Go.Qs.magW++W20.blockBits (lastL (hd1 z)) o (crcOf x.2) picks ts)=bs' at H8
 have hbl2:bs'.length<=z.bits.length+300000 - 100:=by
  rw[<-hbs,gD,gD]
  have:Go.Qs.magW.length=48:=by unfold Go.Qs.magW;rw[Za5]
  omega
 have hbl3:z.bits.length<=bs'.length:=by rw[<-hbs,gD];omega
 refine r_dr H8 λw7 S7 H9=>?_;refine r_nc (r_fo0 (r_ld 2 H9 rfl rfl (r_nc (r_fo0 (r_ld 2 H9 rfl rfl ?_)))));refine W2s.Take_spec H9 λw8 S8 H10=>?_;refine r_rk (r_ld 2 H10 rfl rfl rfl) ?_;generalize hot:(wholeB bs').drop z.tk=ot
 have hotl:ot.length<=40000:=by rw[<-hot,gS,Zcv];omega
 rw[show ({ z with paid:=z.paid+1 }:Pz).out=z.out from rfl,ho];refine Zeg (by rw[length_nil];omega) ?_;rw[hO_];refine r_nc (r_fo0 (r_st 2 H10 rfl (by simp[cellsPz]) rfl λw9 S9 H11=>?_));refine r_nc (r_fo0 (r_ld 2 H11 rfl rfl ?_));rw[hx] at H11;refine Zz9 (F:=Fsb) (e:=tSb) (x:=x) (r:=r) 4 H11 rfl (λ_=>rfl) λv' H12=>?_;refine r_nc (r_fo0 (r_st 2 H12 rfl (by simp[cellsPz]) (H12.sgRO 4 rfl) λw10 S10 H13=>?_));refine r_nc (r_fo0 (r_st 2 H13 rfl (by simp[cellsPz]) rfl λw11 S11 H14=>?_));refine r_nc (r_fo0 (r_st 2 H14 rfl (by simp[cellsPz]) rfl λw12 S12 H15=>?_));have hxl:=hz.bl x (by rw[hx];exact hJ_ ..);have hln:=hz.ln;rw[hx,List.length_cons] at hln hck;have hmm:M45.mostS (hd1 z).length<=M45.mostS z.room:=mostS_mono (by rw[hx1];exact hxl.2)
 have hlr:(hd1 z).length<=z.room:=by rw[hx1];exact hxl.2
 have hcur:cur z=n+(hd1 z).length:=by unfold cur;rw[ht];rfl
 refine k { z with bls:=r,tu:=none,paid:=0,tot:=comb z.tot (crcOf x.2),bits:=bs',tk:=bs'.length/8,out:=ot,cnt:=z.cnt+1 } w12 ⟨hz.wi,hz.ip,hz.rm,(λy hy=>hz.bl y (by rw[hx];exact hK_ _ hy)),⟨by show r.length<=3;omega,λe=>by show r.length<=1;have:=hln.2 e;omega⟩,(λe=>absurd rfl e),
  (λy r' e=>?_),λ_=>rfl,comb_lt hz.tt (Zpq _),?_,rfl,hz.fe,(λe=>by rw[show ({ z with bls:=r,tu:=none,paid:=0,tot:=comb z.tot (crcOf x.2),bits:=bs',tk:=bs'.length/8,out:=ot,cnt:=z.cnt+1 }:Pz).dn=z.dn from rfl,hdn] at e;cases e),hotl,?_,Nat.le_succ_of_le hgl,?_⟩ (λhe=>he) rfl rfl rfl rfl rfl rfl rfl
  (S2.trans (S3.trans (S4.trans (S5.trans (S6.trans (S7.trans (S8.trans (S9.trans (S10.trans (S11.trans S12)))))))))) (Zco (sp:=sp) (bv:=v') (wt:=wt) (wb:=wb) rfl ?_)
 ·have e':r=y::r':=e;have:=(hz.bl y (by rw[hx,e'];exact hK_ _ (hJ_ ..))).1;exact gZ.2 this
 ·show bs'.length<=1000+300000*(z.cnt+1)+(if z.dn=true then 100 else 0);rw[hdn,if_neg (by decide)] at hbi ⊢;omega
 ·show z.cnt+1+r.length<=z.k+(if z.fl=true then 1 else 0);omega
 ·show g+1<=z.c+(z.cnt+1)*MM z.room+(0+0)+(if z.dn=true then 1 else 0);rw[Nat.add_mul,Nat.one_mul];rw[hcur] at hgs;unfold MM at hgs ⊢;omega
 ·have h_:=Holds.dropAt (Holds.ord 6 [2,3,4,0,1,5] H15 rfl) 5
  have e:W2s.stC wb (comb z.tot (crcOf x.2)) false=W2s.stC wb (comb z.tot (crcOf x.2)) z.dn:=by rw[hdn]
  rw[e] at h_;exact h_
end
def Wr (z:Pz):Nat:=z.cnt+(if z.dn=true then 1 else 0)
structure Wk (z z':Pz):Prop where
 st:z'.st=z.st
 fd:fed z'=fed z
 rm:z'.room=z.room
 wn:z'.win=z.win
 en:z'.en=z.en
 wr:Wr z<=Wr z'
theorem Wk.refl (z:Pz):Wk z z:=⟨rfl,rfl,rfl,rfl,rfl,Nat.le_refl _⟩
theorem Wk.trans {x y z:Pz}(h:Wk x y) (h2:Wk y z):Wk x z:=⟨h2.st.trans h.st,h2.fd.trans h.fd,h2.rm.trans h.rm,h2.wn.trans h.wn,h2.en.trans h.en,Nat.le_trans h.wr h2.wr⟩
theorem cnt_le {z:Pz}{g:Nat}(H:Holds w (PzR b z::L)) (hz:PzOk z g):2*(z.k*(z.room+1))<=5*z.c:=by
 obtain⟨sp,bv,tv,wt,wb,L',H1,back⟩:=Zb9 H;exact Zzx (by have h_:=Holds.front H1 1 rfl;exact h_)
theorem Zyh {z:Pz}{g:Nat}(H:Holds w (PzR b z::L)) (hz:PzOk z g) (hf:fed z<=10000):z.cnt<=20000:=by
 have h1:=cnt_le H hz;have h2:=hz.ck;have h3:z.k*6<=z.k*(z.room+1):=Nat.mul_le_mul_left _ (by have:=hz.rm.1;omega);have h4:z.c<=fed z:=Nat.le_add_right _ _
 have h5:(if z.fl=true then 1 else 0)<=1:=by split <;> omega
 omega
section
variable [T12.Bnds]
theorem Ztl {z:Pz}{g q:Nat}(H:Holds w (PzR b z::L)) (hz:PzOk z g) (hef:Ef z) (hs:stp z=false) (hB:T12.BndOk L) (hfd:fed z<=10000) (hq1:1<=q) (hq:q<=1099511627776)
  (k:∀ z' r w',1<=r->r<=q->PzOk z' (g+r)->Ef z'->Wk z z'->(wrt z=true->Wr z < Wr z')->Same w w'->Holds w' (PzR b z'::L)->K (nv r) w'):Cl prog 89 #[pt b,nv q] w K:=by
 refine Tz89 ?_;unfold Vz89;have hcnt:=Zyh H hz hfd
 have hdn:z.dn=false:=by
  unfold stp at hs;exact (Bool.or_eq_false_iff.1 hs).1
 have ho:wrt z=true->z.out=[]:=by
  intro hw;unfold stp at hs;have:=(Bool.or_eq_false_iff.1 hs).2;rw[if_pos hw] at this;exact Classical.not_not.1 (of_decide_eq_false this)
 have hn:wrt z=false->¬ (z.bls=[]/\z.inp=[]):=by
  intro hw;unfold stp at hs;have:=(Bool.or_eq_false_iff.1 hs).2;rw[if_neg (by rw[hw];decide)] at this;exact of_decide_eq_false this
 refine whole_spec H ?_
 by_cases hb:z.bls=[]
 ·refine r_vfD (λh=>h hb) ?_
  have hwf:wrt z=z.fl:=by unfold wrt;rw[if_pos hb]
  obtain⟨sp,bv,tv,wt,wb,L',H1,back⟩:=Zb9 H
  by_cases hi:z.inp=[]
  ·have hw:wrt z=true:=by
    cases hw:wrt z with
    |true=>rfl
    |false=>exact absurd ⟨hb,hi⟩ (hn hw)
   have ho:=ho hw
   have ht:z.tu=none:=by
    cases ht:z.tu with
    |none=>rfl
    |some t=>exact absurd hb (hz.tn (by rw[ht];simp))
   obtain⟨sp,bv,wt,wb,H1⟩:=Zf6 ht H;have hbi:=hz.bi;have htk:=hz.tk;have hgs:=hz.gs;refine r_nc (r_fo0 (r_ld 0 H1 rfl rfl (q_sne (r_vfD (λh=>h hi) ?_))));refine r_nc (r_fo0 (r_ld 0 H1 rfl rfl ?_))
   have H7:Holds w (blk wt tSt (stC wb z.tot false)::W01.WrR wb z.bits z.tk::blk b tPr (cellsPz z sp bv (.pointer none) wt)::SpR sp z.room z.k z.c::RO Fsb 3 tSb bv z.bls::L):=by
    have h_:=Holds.ord 5 [3,4,0,1,2] H1 rfl;rw[<-hdn];exact h_
   rw[hdn,if_neg (by decide)] at hbi;refine W2s.End_spec H7 hz.tt (by omega) (by omega) λw6 S6 H8=>?_;generalize hbs:W20.padB (z.bits++(Go.Qs.endW++bitsOf z.tot 32))=bs' at H8
   have hbl2:bs'.length<=z.bits.length+87:=by
    rw[<-hbs];have:=(W20.Zvj (z.bits++(Go.Qs.endW++bitsOf z.tot 32))).2;rw[gD,gD,Za5] at this
    have e:Go.Qs.endW.length=48:=by unfold Go.Qs.endW;rw[Za5]
    omega
   refine r_dr H8 λw7 S7 H9=>?_;refine r_nc (r_fo0 (r_ld 2 H9 rfl rfl (r_nc (r_fo0 (r_ld 2 H9 rfl rfl ?_)))));refine W2s.Take_spec H9 λw8 S8 H10=>?_;refine r_rk (r_ld 2 H10 rfl rfl rfl) ?_;generalize hot:(wholeB bs').drop z.tk=ot
   have hotl:ot.length<=40000:=by rw[<-hot,gS,Zcv];omega
   rw[ho];refine Zeg (by rw[length_nil];omega) ?_;rw[hO_];refine r_nc (r_fo0 (r_st 2 H10 rfl (by simp[cellsPz]) rfl λw9 S9 H11=>?_));refine r_nc (r_fo0 (r_st 2 H11 rfl (by simp[cellsPz]) rfl λw10 S10 H12=>?_))
   refine k { z with bits:=bs',tk:=bs'.length/8,out:=ot,dn:=true } 1 w10 (Nat.le_refl 1) hq1 ⟨hz.wi,hz.ip,hz.rm,hz.bl,hz.ln,hz.tn,hz.pd,hz.p0,hz.tt,?_,rfl,hz.fe,λ_=>⟨hwf.symm.trans hw,hb⟩,hotl,hz.ck,Nat.le_succ_of_le hz.gl,?_⟩ hef ⟨rfl,rfl,rfl,rfl,rfl,?_⟩ (λ_=>?_)
    (S6.trans (S7.trans (S8.trans (S9.trans S10)))) (Zco (sp:=sp) (bv:=bv) (wt:=wt) (wb:=wb) ht ?_)
   ·show bs'.length<=1000+300000*z.cnt+100;omega
   ·show g+1<=z.c+z.cnt*MM z.room+(cur z+z.paid)+1;rw[hdn,if_neg (by decide)] at hgs;omega
   ·show z.cnt+(if z.dn=true then 1 else 0)<=z.cnt+1;rw[hdn,if_neg (by decide)];omega
   ·show z.cnt+(if z.dn=true then 1 else 0) < z.cnt+1;rw[hdn,if_neg (by decide)];omega
   ·have h_:=Holds.ord 5 [2,3,4,0,1] H12 rfl;exact h_
  ·have hf:z.fl=false:=by
    cases hf:z.fl with
    |false=>rfl
    |true=>exact absurd (hz.fe hf).1 hi
   refine r_nc (r_fo0 (r_ld 0 H1 rfl rfl (q_sne (r_vtD hi ?_))));refine take_spec H hz hb hi hf λz' w2 h1 h2 h3 S2 H2=>?_;refine k z' 1 w2 (Nat.le_refl 1) hq1 h1 h2 ⟨h3.2.2.1,h3.2.2.2.1,h3.2.2.2.2.1,h3.2.2.2.2.2.1,h3.2.2.2.2.2.2.2,?_⟩ (λe=>by rw[hwf,hf] at e;cases e) S2 H2;unfold Wr;rw[h3.2.1,h3.2.2.2.2.2.2.1];exact Nat.le_refl _
 ·refine r_vtD hb ?_;obtain⟨h0,h3,hp⟩:=Zi8 hz hb;refine Zay (λw'=>∃ z' t,z'.tu=some t/\(z.tu=some t/\z'=z\/z.tu=none/\t=.sorts 0/\z'={ z with tu:=some (.sorts 0) })/\Same w w'/\Holds w' (PzR b z'::L)) ?_ ?_
  rotate_left
  ·cases ht:z.tu with
   |none=>
    obtain⟨sp,bv,wt,wb,H1⟩:=Zf6 ht H;refine r_nc (r_fo0 (r_ld 0 H1 rfl rfl (Zu8 (r_vt ?_))));refine r_nc (r_fo0 (r_ld 0 H1 rfl rfl ?_));refine Zei hb H1 ?_;refine Zr7 H1 h0 (by omega) λtb w2 S2 H2=>?_;refine Za3 (Za4 ?_);refine r_nc (r_fo0 (r_st 1 H2 rfl (by simp[cellsPz]) rfl λw3 S3 H3=>?_));refine r_ke ⟨{ z with tu:=some (.sorts 0) },.sorts 0,rfl,.inr ⟨rfl,rfl,rfl⟩,S2.trans S3,?_⟩;refine Zck (z:={ z with tu:=some (.sorts 0) }) (t:=.sorts 0) (sp:=sp) (tb:=tb) (wt:=wt) (wb:=wb) (bv:=bv) rfl ?_;have h_:=Holds.ord 6 [1,2,3,4,5,0] H3 rfl;exact h_
   |some t=>
    obtain⟨sp,bv,tb,wt,wb,H1⟩:=Zdt ht H;refine r_nc (r_fo0 (r_ld 0 H1 rfl rfl (Za6 (r_vf ?_))));exact r_ke ⟨z,t,ht,.inl ⟨rfl,rfl⟩,.refl _,H⟩
  rintro _ w2 ⟨z',t,ht,hzt,S2,H2⟩;obtain⟨sp,bv,tb,wt,wb,H3⟩:=Zdt ht H2
  have hh:hd1 z'=hd1 z:=by rcases hzt with⟨_,rfl⟩|⟨_,_,rfl⟩ <;> rfl
  rw[hh] at H3;refine r_nc (r_fo0 (r_ld 0 H3 rfl rfl ?_));refine Ze4 h0 (by have h_:=Holds.front H3 5 rfl;exact h_) λw3 S3 H4=>?_
  have H5:Holds w3 (PzB b z' sp bv (pt tb) wt wb++(TuR tb (hd1 z) t::L)):=by have h_:=Holds.ord 6 [1,2,3,4,5,0] H4 rfl;exact h_
  cases hd:t.done (hd1 z) with
  |false=>
   have hwn:wrt z=false:=by
    unfold wrt tuD;rw[if_neg hb];rcases hzt with⟨h,_⟩|⟨h,_⟩
    ·rw[h];simp only[hd,Bool.false_and]
    ·rw[h];rfl
   refine Zbm (r_vt (r_nc (r_fo0 (r_ld 0 H5 rfl rfl ?_))));refine Znn H4 h0 (by omega) hd hq1 hq λt' r w4 hr1 hr2 hrc S4 H6=>?_
   have hcu:cur z=t.cnt:=by
    unfold cur;rcases hzt with⟨h,_⟩|⟨h,rfl,_⟩
    ·rw[h]
    ·rw[h];rfl
   have hgs:=hz.gs
   have h1:PzOk { z with tu:=some t' } (g+r):=⟨hz.wi,hz.ip,hz.rm,hz.bl,hz.ln,λ_=>hb,hz.pd,hz.p0,hz.tt,hz.bi,hz.tk,hz.fe,hz.db,hz.ou,hz.ck,Nat.le_trans hz.gl (Nat.le_add_right _ _),by
    show g+r<=z.c+z.cnt*MM z.room+(t'.cnt+z.paid)+(if z.dn=true then 1 else 0);rw[hrc,<-hcu]
    omega⟩
   have ez:{ z' with tu:=some t' }={ z with tu:=some t' }:=by rcases hzt with⟨_,rfl⟩|⟨_,_,rfl⟩ <;> rfl
   refine k { z with tu:=some t' } r w4 hr1 hr2 h1 hef ⟨rfl,rfl,rfl,rfl,rfl,Nat.le_refl _⟩ (λe=>by rw[hwn] at e;cases e) (S2.trans (S3.trans S4)) ?_;rw[<-ez];refine Zck (z:={ z' with tu:=some t' }) (t:=t') (sp:=sp) (tb:=tb) (wt:=wt) (wb:=wb) (bv:=bv) rfl ?_;have e:hd1 { z' with tu:=some t' }=hd1 z:=hh;rw[e];have h_:=Holds.ord 6 [1,2,3,4,5,0] H6 rfl;exact h_
  |true=>
   have hz':z'=z/\z.tu=some t:=by
    rcases hzt with⟨h1,h2⟩|⟨_,rfl,_⟩
    ·exact⟨h2,h1⟩
    ·cases hd
   obtain⟨rfl,ht'⟩:=hz';refine Zah (r_vf ?_)
   have hwd:wrt z'=decide (z'.paid+1=(hd1 z').length):=by
    unfold wrt tuD;rw[if_neg hb,ht'];simp only[hd,Bool.true_and]
   by_cases hp1:z'.paid+1=(hd1 z').length
   ·have hw:wrt z'=true:=by rw[hwd];exact decide_eq_true hp1
    obtain⟨n,rfl⟩:∃ n,t=.takes n (hd1 z').length:=by
     cases t with
     |sorts n=>cases hd
     |takes n u=>exact⟨n,by rw[show u=(hd1 z').length from of_decide_eq_true hd]⟩
    refine Zrt (Zck ht H5) hz hb ht' hp1 (ho hw) hB hcnt λz2 w4 h1 h2 h4 h5 h6 h7 h8 h9 h10 S4 H6=>?_;refine k z2 1 w4 (Nat.le_refl 1) hq1 h1 (h2 hef) ⟨h5,h6,h7,h8,h9,?_⟩ (λ_=>?_) (S2.trans (S3.trans S4)) H6
    ·unfold Wr;rw[h4,h10];omega
    ·unfold Wr;rw[h4,h10];omega
   ·have hw:wrt z'=false:=by rw[hwd];exact decide_eq_false hp1
    refine Zwd (Zck ht H5) hz hb (by omega) λw4 h1 S4 H6=>?_;exact k { z' with paid:=z'.paid+1 } 1 w4 (Nat.le_refl 1) hq1 h1 hef ⟨rfl,rfl,rfl,rfl,rfl,Nat.le_refl _⟩ (λe=>by rw[hw] at e;cases e) (S2.trans (S3.trans S4)) H6
theorem Step_spec {z:Pz}{g q:Nat}(H:Holds w (PzR b z::L)) (hz:PzOk z g) (hef:Ef z) (hB:T12.BndOk L) (hfd:fed z<=10000) (hq:q<=1000000) (hg:g<=1000000000000)
  (k:∀ z' m w',m<=q->PzOk z' (g+m)->Ef z'->z'.st=z.st+m->fed z'=fed z->z'.room=z.room->z'.win=z.win->z'.en=z.en->Wr z<=Wr z'->(wrt z=true->stp z=false->1<=q->Wr z < Wr z')->(m=q\/stp z'=true)->Same w w'->Holds w' (PzR b z'::L)->K (nv m) w'):Cl prog 83 #[pt b,nv q] w K:=by
 refine Tz83 ?_;unfold Vz83;have hgl:=hz.gl;refine Zdo (λj x w'=>∃ m z',j=q - m/\m<=q/\x=nv m/\PzOk z' (g+m)/\Ef z'/\Wk z z'/\(m=0->z'=z)/\(0 < m->wrt z=true->stp z=false->Wr z < Wr z')/\Same w w'/\Holds w' (PzR b z'::L)) q ⟨0,z,rfl,hE _,rfl,hz,hef,.refl z,λ_=>rfl,(λe=>absurd e (Nat.lt_irrefl 0)),.refl _,H⟩ ?_;clear H hz hef;rintro _ j _ w1 _ ⟨m,z1,rfl,hm,rfl,hz,hef,hk,h0,h1w,S1,H1⟩ hgo;refine Za1 (λx w'=>∃ c:Bool,x=.bool c/\(c=decide (m < q/\stp z1=false))/\Same w w'/\Holds w' (PzR b z1::L)) ?_ ?_
 ·rintro _ _ w2 ⟨c,rfl,hc,S2,H2⟩
  cases c with
  |true=>
   obtain⟨hlt,hst⟩:=of_decide_eq_true hc.symm;refine r_vt (r_sub (by omega) (by omega) ?_);rw[show (q:Int) - (m:Int)=((q - m:Nat):Int) by omega];refine Ztl H2 hz hef hst hB (by rw[hk.fd];exact hfd) (by omega) (by omega) λz' r w3 h1 h2 h3 h4 h5 h6 S3 H3=>?_;refine Za9 (by omega) (r_ke (hgo (q - (m+r)) _ _ (by omega) ⟨m+r,z',rfl,by omega,rfl,?_,h4,hk.trans h5,(λe=>by omega),(λ_ e1 e2=>?_),S2.trans S3,H3⟩))
   ·rw[<-hG_];exact h3
   ·rcases Nat.eq_zero_or_pos m with e|e
    ·obtain rfl:=h0 e;exact h6 e1
    ·exact Nat.lt_of_lt_of_le (h1w e e1 e2) h5.wr
  |false=>
   have hnc:=of_decide_eq_false hc.symm;refine r_vf (Zao (r_vt ?_));obtain⟨sp,bv,tv,wt,wb,L',H3,back⟩:=Zb9 H2;have hst:=hk.st;refine r_nc (r_fo0 (r_ld 0 H3 rfl rfl (Za9 (by omega) ?_)));refine r_nc (r_fo0 (r_st 0 H3 rfl (by simp[cellsPz]) rfl λw4 S4 H4=>?_))
   have hfin:m=q\/stp z1=true:=by
    cases hs:stp z1 with
    |true=>exact .inr rfl
    |false=>exact .inl (by have:¬ m < q:=λe=>hnc ⟨e,hs⟩;omega)
   refine k { z1 with st:=z1.st+m } m w4 hm ⟨hz.wi,hz.ip,hz.rm,hz.bl,hz.ln,hz.tn,hz.pd,hz.p0,hz.tt,hz.bi,hz.tk,hz.fe,hz.db,hz.ou,hz.ck,?_,hz.gs⟩ hef (by show z1.st+m=_;rw[hst]) hk.fd hk.rm hk.wn hk.en hk.wr (λe1 e2 e3=>?_) hfin (S2.trans S4) (back { z1 with st:=z1.st+m } w4 bv rfl (λ_=>rfl) H4)
   ·show z1.st+m<=g+m;omega
   ·rcases Nat.eq_zero_or_pos m with e|e
    ·have hz1:=h0 e;subst e;rw[hz1] at hnc;exact absurd ⟨by omega,e2⟩ hnc
    ·exact h1w e e1 e2
 ·refine r_lss (r_ifD (λh=>?_) λh=>?_)
  ·refine Stopped_spec H1 hz λw2 S2 H2=>r_not (r_ke ⟨!stp z1,rfl,?_,S1.trans S2,H2⟩)
   cases stp z1 with
   |true=>rw[decide_eq_false (λe=>by cases e.2)];rfl
   |false=>rw[decide_eq_true ⟨by omega,rfl⟩];rfl
  ·exact r_ke ⟨false,rfl,by rw[decide_eq_false (λe=>h (by omega))],S1,H1⟩
end
theorem Steps_spec {z:Pz}(H:Holds w (PzR b z::L)) (k:K (nv z.st) w):Cl prog 84 #[pt b] w K:=by
 refine Tz84 ?_;unfold Vz84;obtain⟨sp,bv,tb,wt,wb,H⟩:=Zdr H;exact Za6 (r_vf (r_nc (r_fo0 (r_ld 0 H rfl rfl k))))
theorem Take_spec {z:Pz}{q:Nat}(H:Holds w (PzR b z::L)) (hq:z.out.length<=q) (hq1:1<=q) (k:∀ w',Same w w'->Holds w' (PzR b { z with out:=[] }::L)->K (S_ z.out) w'):Cl prog 86 #[pt b,nv q] w K:=by
 refine Tz86 ?_;unfold Vz86;obtain⟨sp,bv,tv,wt,wb,L',H1,back⟩:=Zb9 H;refine Za1 (λy w'=>w=w'/\y=.bool false) ?_ ?_
 rotate_left
 ·refine Za6 (r_vf (r_lss (r_ke ⟨rfl,?_⟩)));rw[decide_eq_false (by omega)]
 rintro _ _ _ ⟨rfl,rfl⟩;refine r_vf (r_nc (r_fo0 (r_ld 0 H1 rfl rfl (q_len (r_min ?_)))));rw[show min ((q:Nat):Int) ((z.out.length:Nat):Int)=((z.out.length:Nat):Int) by omega];refine r_nc (r_fo0 (r_ld 0 H1 rfl rfl (q_T (Nat.le_refl _) ?_)));refine r_nc (r_fo0 (r_ld 0 H1 rfl rfl (q_D (Nat.le_refl _) ?_)));rw[hF_,drop_length];refine r_nc (r_fo0 (r_st 0 H1 rfl (by simp[cellsPz]) rfl λw2 S2 H2=>?_));exact k w2 S2 (back { z with out:=[] } w2 bv rfl (λ_=>rfl) H2)
end P23
namespace K24
open Go.M01 Go.Mb Go.Mk Go.M02 Go.M03 Go.Q24 Go.Q25 P20
variable {w:World}{L:List HProp}{K:KT}{b:Nat}
structure Xz where
 win:Nat
 en:Bool
 B:List UInt8
 d:Nat
 at_:Nat
 u:US
 op:Option Opn
 sh:Bool
 out:List UInt8
 dn:Bool
 wr:Int
 st:Nat
def rem (x:Xz):Nat:=match x.op with
 |none=>0
 |some o=>3*o.last.length - o.s
structure XzOk (x:Xz) (g:Nat):Prop where
 wi:x.win<=1048576
 hd:x.B.length - x.d<=x.win
 ou:x.out.length<=4500
 od:x.dn=true->x.op=none
 os:∀ o,x.op=some o->o.s < 3*o.last.length
 st:x.st<=g
 hs:x.sh=true->x.B.length - x.d<=60
 es:x.en=true->x.sh=false
 w0:x.dn=false->x.wr=0
 ct:∃ i m,(x.dn=false->Cnt x.u x.at_ i m)/\160*m<=8*x.B.length/\i<=8*x.B.length+9*x.u.unit*m+9*x.u.unit/\g+rem x<=i+27*x.u.unit*m+(if x.dn=true then 1 else 0)
def opV (q:Nat):Option Opn->Value
 |none=>.pointer none
 |some _=>pt q
def cellsX (x:Xz) (rb ub:Nat) (qv ov:Value):List Value:=[nv x.win,nv 4096,.bool x.en,pt rb,pt ub,qv,.bool x.sh,ov,.bool x.dn,iv x.wr,nv x.st]
def opH (q:Nat):Option Opn->List HProp
 |none=>[]
 |some o=>[OpR q o]
def XzT (x:Xz) (rb ub q:Nat):List HProp:=match x.dn with
 |true=>[]
 |false=>[Rb.RdR rb x.B x.d x.at_,U22.UsR ub x.u]++opH q x.op
def XzL (b:Nat) (x:Xz) (rb ub q:Nat) (ov:Value):List HProp:=[blk b tX (cellsX x rb ub (opV q x.op) ov),OB tB ov x.out]++XzT x rb ub q
def XzR (b:Nat) (x:Xz):HProp:=λh=>∃ rb ub q ov,Sat (XzL b x rb ub q ov) h
theorem Zju {x:Xz}(H:Holds w (XzR b x::L)):∃ rb ub q ov,Holds w (XzL b x rb ub q ov++L):=by
 obtain⟨rb,H⟩:=Holds.ex H;obtain⟨ub,H⟩:=Holds.ex H;obtain⟨q,H⟩:=Holds.ex H;obtain⟨ov,H⟩:=Holds.ex H;exact⟨rb,ub,q,ov,Holds.unpack H⟩
theorem Zed {x:Xz}{rb ub q:Nat}{ov:Value}(H:Holds w (XzL b x rb ub q ov++L)):Holds w (XzR b x::L):=
 Holds.imp (Holds.pack H) λg hg=>⟨rb,ub,q,ov,hg⟩
def SameT (x x':Xz):Prop:=x'.dn=x.dn/\x'.B=x.B/\x'.d=x.d/\x'.at_=x.at_/\x'.u=x.u/\x'.op=x.op
theorem Zbv {x:Xz}(H:Holds w (XzR b x::L)):∃ rb ub qv ov L',Holds w (blk b tX (cellsX x rb ub qv ov)::OB tB ov x.out::L')/\
  (∀ (x':Xz) w' ov',SameT x x'->Holds w' (blk b tX (cellsX x' rb ub qv ov')::OB tB ov' x'.out::L')->Holds w' (XzR b x'::L))/\(x.op=none->qv=.pointer none)/\(x.op≠none->∃ q,qv=pt q):=by
 obtain⟨rb,ub,q,ov,H⟩:=Zju H;refine⟨rb,ub,_,ov,XzT x rb ub q++L,H,λx' w' ov' hs H'=>?_,λe=>by rw[e];rfl,λe=>?_⟩
 ·obtain⟨h1,h2,h3,h4,h5,h6⟩:=hs
  have e:XzT x' rb ub q=XzT x rb ub q:=by
   unfold XzT;rw[h1,h2,h3,h4,h5,h6]
  refine Zed (rb:=rb) (ub:=ub) (q:=q) (ov:=ov') ?_;unfold XzL;rw[e,h6];exact H'
 ·cases ho:x.op with
  |none=>exact absurd ho e
  |some o=>exact⟨q,rfl⟩
theorem Zk3 {x:Xz}(hd:x.dn=false) (ho:x.op=none) (H:Holds w (XzR b x::L)):∃ rb ub ov,Holds w (blk b tX (cellsX x rb ub (.pointer none) ov)::OB tB ov x.out::Rb.RdR rb x.B x.d x.at_::U22.UsR ub x.u::L):=by
 obtain⟨rb,ub,q,ov,H⟩:=Zju H;unfold XzL XzT at H;rw[hd,ho] at H;exact⟨rb,ub,ov,H⟩
theorem Zk0 {x:Xz}{o:Opn}(hd:x.dn=false) (ho:x.op=some o) (H:Holds w (XzR b x::L)):∃ rb ub q ov,Holds w (blk b tX (cellsX x rb ub (pt q) ov)::OB tB ov x.out::Rb.RdR rb x.B x.d x.at_::U22.UsR ub x.u::OpR q o::L):=by
 obtain⟨rb,ub,q,ov,H⟩:=Zju H;unfold XzL XzT at H;rw[hd,ho] at H;exact⟨rb,ub,q,ov,H⟩
theorem Zdf {x:Xz}{rb ub:Nat}{ov:Value}(hd:x.dn=false) (ho:x.op=none) (H:Holds w (blk b tX (cellsX x rb ub (.pointer none) ov)::OB tB ov x.out::Rb.RdR rb x.B x.d x.at_::U22.UsR ub x.u::L)):Holds w (XzR b x::L):=by
 refine Zed (rb:=rb) (ub:=ub) (q:=0) (ov:=ov) ?_;unfold XzL XzT;rw[hd,ho];exact H
theorem Zgz {x:Xz}{o:Opn}{rb ub q:Nat}{ov:Value}(hd:x.dn=false) (ho:x.op=some o) (H:Holds w (blk b tX (cellsX x rb ub (pt q) ov)::OB tB ov x.out::Rb.RdR rb x.B x.d x.at_::U22.UsR ub x.u::OpR q o::L)):Holds w (XzR b x::L):=by
 refine Zed (rb:=rb) (ub:=ub) (q:=q) (ov:=ov) ?_;unfold XzL XzT;rw[hd,ho];exact H
theorem Zu6 {x:Xz}{rb ub:Nat}{ov:Value}(hd:x.dn=true) (ho:x.op=none) (H:Holds w (blk b tX (cellsX x rb ub (.pointer none) ov)::OB tB ov x.out::L)):Holds w (XzR b x::L):=by
 refine Zed (rb:=rb) (ub:=ub) (q:=0) (ov:=ov) ?_;unfold XzL XzT;rw[hd,ho];exact H
theorem Done_spec {x:Xz}(H:Holds w (XzR b x::L)) (k:K (.bool x.dn) w):Cl prog 228 #[pt b] w K:=by
 refine Tz228 ?_;unfold Vz228;obtain⟨rb,ub,qv,ov,L',H1,_⟩:=Zbv H;exact Zao (r_vt (r_nc (r_fo0 (r_ld 0 H1 rfl rfl k))))
theorem Err_spec {x:Xz}(H:Holds w (XzR b x::L)) (k:K (iv x.wr) w):Cl prog 230 #[pt b] w K:=by
 refine Tz230 ?_;unfold Vz230;obtain⟨rb,ub,qv,ov,L',H1,_⟩:=Zbv H;exact Za6 (r_vf (r_nc (r_fo0 (r_ld 0 H1 rfl rfl k))))
theorem Waiting_spec {x:Xz}(H:Holds w (XzR b x::L)) (k:K (nv x.out.length) w):Cl prog 237 #[pt b] w K:=by
 refine Tz237 ?_;unfold Vz237;obtain⟨rb,ub,qv,ov,L',H1,_⟩:=Zbv H;exact Za6 (r_vf (r_nc (r_fo0 (r_ld 0 H1 rfl rfl (Zu2 1 H1 rfl k)))))
theorem Take_spec {x:Xz}{q:Nat}(H:Holds w (XzR b x::L)) (hl:x.out.length<=q) (k:∀ w',Same w w'->Holds w' (XzR b { x with out:=[] }::L)->K (S_ x.out) w'):Cl prog 236 #[pt b,nv q] w K:=by
 refine Tz236 ?_;unfold Vz236;obtain⟨rb,ub,qv,ov,L',H1,back,_⟩:=Zbv H;refine Za1 (λy w'=>w=w'/\y=.bool (decide (((q:Nat):Int) < 1))) ?_ ?_
 rotate_left
 ·exact Za6 (r_vf (r_lss (r_ke ⟨rfl,rfl⟩)))
 rintro _ _ _ ⟨rfl,rfl⟩;refine r_ifD (λh=>?_) λh=>?_
 ·have h0:x.out=[]:=List.eq_nil_of_length_eq_zero (by omega);have:=k w (.refl _) (by rw[<-h0];exact H);rw[h0] at this;exact this
 ·refine r_nc (r_fo0 (r_ld 0 H1 rfl rfl (Zu2 1 H1 rfl (r_min ?_))));rw[show min ((q:Nat):Int) ((x.out.length:Nat):Int)=((x.out.length:Nat):Int) by omega];refine r_nc (r_fo0 (r_ld 0 H1 rfl rfl ?_));refine Yac (xs:=x.out) (e:=tB) 1 H1 rfl (Nat.le_refl _) ?_;rw[hF_];refine r_nc (r_fo0 (r_ld 0 H1 rfl rfl ?_));refine Zzn (xs:=x.out) (e:=tB) 1 H1 rfl (Nat.le_refl _) λv' H2=>?_;rw[drop_length] at H2;refine r_nc (r_fo0 (r_st 0 H2 rfl (by simp[cellsX]) (H2.sgOB 1 rfl) λw3 S3 H3=>?_));exact k w3 S3 (back { x with out:=[] } w3 v' ⟨rfl,rfl,rfl,rfl,rfl,rfl⟩ H3)
theorem Steps_spec {x:Xz}(H:Holds w (XzR b x::L)) (k:K (nv x.st) w):Cl prog 234 #[pt b] w K:=by
 refine Tz234 ?_;unfold Vz234;obtain⟨rb,ub,qv,ov,L',H1,_⟩:=Zbv H;exact Za6 (r_vf (r_nc (r_fo0 (r_ld 0 H1 rfl rfl k))))
theorem Feed_spec {x:Xz}{g:Nat}{s:List UInt8}(H:Holds w (XzR b x::L)) (hx:XzOk x g) (hs:s.length<=1000000) (hf:x.B.length<=100000000)
  (k:∀ n sh w',n=(if (x.en||x.dn)=true then 0 else min s.length (x.win - (x.B.length - x.d)))->(0 < n->sh=false)->(n=0->sh=x.sh)->XzOk { x with B:=x.B++s.take n,sh:=sh } g->Same w w'->Holds w' (XzR b { x with B:=x.B++s.take n,sh:=sh }::L)->K (nv n) w'):Cl prog 231 #[pt b,S_ s] w K:=by
 refine Tz231 ?_;unfold Vz231;obtain⟨rb,ub,qv,ov,L',H1,_⟩:=Zbv H;refine Za1 (λy w'=>w=w'/\y=.bool (x.en||x.dn)) ?_ ?_
 rotate_left
 ·refine Za6 (r_vf (r_nc (r_fo0 (r_ld 0 H1 rfl rfl ?_))))
  cases x.en with
  |true=>exact r_vt (r_ke ⟨rfl,rfl⟩)
  |false=>exact r_vf (r_nc (r_fo0 (r_ld 0 H1 rfl rfl (r_ke ⟨rfl,rfl⟩))))
 rintro _ _ _ ⟨rfl,rfl⟩
 cases hc:(x.en||x.dn) with
 |true=>
  have e:({ x with B:=x.B++s.take 0,sh:=x.sh }:Xz)=x:=by rw[List.take_zero,gU]
  exact r_vt (k 0 x.sh w (by rw[if_pos hc]) (λh=>absurd h (Nat.lt_irrefl 0)) (λ_=>rfl) (by rw[e];exact hx) (.refl _) (by rw[e];exact H))
 |false=>
  obtain⟨he,hd⟩:=Bool.or_eq_false_iff.1 hc;refine r_vf ?_;have hwi:=hx.wi;have hhd:=hx.hd;have hbl:=hf
  have go:∀ (rb ub:Nat) (qv ov:Value) (L2:List HProp),Holds w (blk b tX (cellsX x rb ub qv ov)::OB tB ov x.out::Rb.RdR rb x.B x.d x.at_::L2)->
    (∀ (x':Xz) w',x'.dn=false->x'.op=x.op->x'.u=x.u->x'.d=x.d->x'.at_=x.at_->Holds w' (blk b tX (cellsX x' rb ub qv ov)::OB tB ov x'.out::Rb.RdR rb x'.B x'.d x'.at_::L2)->Holds w' (XzR b x'::L))->
    Dr w λw2=>Lns (S_ s) λx_2=>Nc (pt b) <| Fo 0 (pt b) λx_4=>Ld x_4 w2 λx_5=>Nc (pt b) <| Fo 3 (pt b) λx_7=>Ld x_7 w2 λx_8=>
    Cl prog 239 #[x_8] w2 λx_10 w3=>Rk (λw K=>Ld x_4 w λx_6=>K x_6) x_5 w3 <| Rk (λw K=>Lns (S_ s) λx_3=>K x_3) x_2 w3 <|
    Bp .sub x_5 x_10 λx_11=>Bmin prog #[3,3] 3 #[x_2,x_11] w3 λx_12=>Dr w3 λw4=>Nc (pt b) <| Fo 3 (pt b) λx_14=>Ld x_14 w4 λx_15=>
    Sst (S_ s) none (some x_12) λx_17=>Cl prog 240 #[x_15,x_17] w4 λx_19 w5=>Bp .gtr x_12 (.int .i64 0) λx_20=>
    Vif x_20 (Nc (pt b) <| Fo 6 (pt b) λx_21=>St x_21 (.bool false) w5 λw6=>K x_12 w6) (K x_12 w5):=by
   intro rb ub qv ov L2 H1 back;refine r_dr H1 λw2 S2 H2=>?_;refine q_len (r_nc (r_fo0 (r_ld 0 H2 rfl rfl (r_nc (r_fo0 (r_ld 0 H2 rfl rfl ?_))))));obtain⟨hrd,H3⟩:=Rb.Zaf (by have h_:=Holds.front H2 2 rfl;exact h_);refine Zmh H3 ?_;rw[gS];refine r_rk (r_ld 0 H2 rfl rfl rfl) (r_rk (q_len rfl) ?_);refine r_sub (by omega) (by omega) (r_min ?_);rw[show min (s.length:Int) ((x.win:Int) - ((x.B.length - x.d:Nat):Int))=((min s.length (x.win - (x.B.length - x.d)):Nat):Int) by omega];generalize hn:min s.length (x.win - (x.B.length - x.d))=n;refine r_dr H2 λw3 S3 H4=>?_;refine r_nc (r_fo0 (r_ld 0 H4 rfl rfl (q_T (by omega) ?_)));refine Rb.Zul (by have h_:=Holds.front H4 2 rfl;exact h_) (by rw[gN];omega) λw4 S4 H5=>?_
   have H6:Holds w4 (blk b tX (cellsX x rb ub qv ov)::OB tB ov x.out::Rb.RdR rb (x.B++s.take n) x.d x.at_::L2):=by have h_:=Holds.ord 3 [1,2,0] H5 rfl;exact h_
   have hx2:∀ sh,(0 < n->sh=false)->(n=0->sh=x.sh)->XzOk { x with B:=x.B++s.take n,sh:=sh } g:=by
    intro sh h1 h2
    have hl:(x.B++s.take n).length=x.B.length+n:=by rw[gD,gN];omega
    obtain⟨i,m,c1,c2,c3,c4⟩:=hx.ct;refine⟨hx.wi,by show (x.B++s.take n).length - x.d<=x.win;rw[hl];omega,hx.ou,hx.od,hx.os,hx.st,(λe=>?_),(λe=>?_),hx.w0,i,m,c1,by show 160*m<=8*(x.B++s.take n).length;rw[hl];omega,by show i<=8*(x.B++s.take n).length+9*x.u.unit*m+9*x.u.unit;rw[hl];omega,c4⟩
    ·rcases Nat.eq_zero_or_pos n with q|q
     ·show (x.B++s.take n).length - x.d<=60;rw[hl,q];exact hx.hs ((h2 q).symm.trans e)
     ·rw[h1 q] at e;cases e
    ·have e':x.en=true:=e;rw[he] at e';cases e'
   have hnn:n=(if (x.en||x.dn)=true then 0 else min s.length (x.win - (x.B.length - x.d))):=by rw[if_neg (by rw[hc];decide)];exact hn.symm
   refine r_gtr (r_ifD (λh=>?_) λh=>?_)
   ·refine r_nc (r_fo0 (r_st 0 H6 rfl (by simp[cellsX]) rfl λw5 S5 H7=>?_));exact k n false w5 hnn (λ_=>rfl) (λe=>by omega) (hx2 _ (λ_=>rfl) (λe=>by omega)) (S2.trans (S3.trans (S4.trans S5))) (back { x with B:=x.B++s.take n,sh:=false } w5 hd rfl rfl rfl rfl H7)
   ·exact k n x.sh w4 hnn (λe=>by omega) (λ_=>rfl) (hx2 _ (λe=>by omega) (λ_=>rfl)) (S2.trans (S3.trans S4)) (back { x with B:=x.B++s.take n,sh:=x.sh } w4 hd rfl rfl rfl rfl H6)
  cases ho:x.op with
  |none=>
   obtain⟨rb,ub,ov,H2⟩:=Zk3 hd ho H;refine go rb ub _ ov _ H2 λx' w' h1 h2 h3 h4 h5 H'=>Zdf h1 (h2.trans ho) (by rw[h3];exact H')
  |some o=>
   obtain⟨rb,ub,q,ov,H2⟩:=Zk0 hd ho H;refine go rb ub _ ov _ H2 λx' w' h1 h2 h3 h4 h5 H'=>Zgz h1 (h2.trans ho) (by rw[h3];exact H')
theorem End_spec {x:Xz}{g:Nat}(H:Holds w (XzR b x::L)) (hx:XzOk x g) (k:∀ v sh w',(x.en=true->sh=x.sh)->(x.en=false->sh=false)->XzOk { x with en:=true,sh:=sh } g->Same w w'->Holds w' (XzR b { x with en:=true,sh:=sh }::L)->K v w'):Cl prog 229 #[pt b] w K:=by
 refine Tz229 ?_;unfold Vz229;obtain⟨rb,ub,qv,ov,L',H1,back,_⟩:=Zbv H;refine Za1 (λy w'=>w=w'/\y=.bool x.en) ?_ ?_
 rotate_left
 ·exact Za6 (r_vf (r_nc (r_fo0 (r_ld 0 H1 rfl rfl (r_ke ⟨rfl,rfl⟩)))))
 rintro _ _ _ ⟨rfl,rfl⟩
 cases he:x.en with
 |true=>
  have e:({ x with en:=true,sh:=x.sh }:Xz)=x:=by rw[<-he]
  exact r_vt (k _ x.sh w (λ_=>rfl) (λe=>by rw[he] at e;cases e) (by rw[e];exact hx) (.refl _) (by rw[e];exact H))
 |false=>
  refine r_vf (r_nc (r_fo0 (r_st 0 H1 rfl (by simp[cellsX]) rfl λw2 S2 H2=>?_)));refine r_nc (r_fo0 (r_st 0 H2 rfl (by simp[cellsX]) rfl λw3 S3 H3=>?_));exact k _ false w3 (λe=>by rw[he] at e;cases e) (λ_=>rfl) ⟨hx.wi,hx.hd,hx.ou,hx.od,hx.os,hx.st,(λe=>by cases e),λ_=>rfl,hx.w0,hx.ct⟩ (S2.trans S3) (back { x with en:=true,sh:=false } w3 ov ⟨rfl,rfl,rfl,rfl,rfl,rfl⟩ H3)
def stpX (x:Xz):Bool:=x.dn||(if x.op=none then x.sh else decide (4096<=x.out.length))
theorem Stopped_spec {x:Xz}(H:Holds w (XzR b x::L)) (k:∀ w',Same w w'->Holds w' (XzR b x::L)->K (.bool (stpX x)) w'):Cl prog 235 #[pt b] w K:=by
 refine Tz235 ?_;unfold Vz235;obtain⟨rb,ub,qv,ov,L',H1,back,hq0,hq1⟩:=Zbv H;unfold stpX at k;refine Za1 (λy w'=>w=w'/\y=.bool x.dn) ?_ ?_
 rotate_left
 ·exact Za6 (r_vf (r_nc (r_fo0 (r_ld 0 H1 rfl rfl (r_ke ⟨rfl,rfl⟩)))))
 rintro _ _ _ ⟨rfl,rfl⟩
 cases hd:x.dn with
 |true=>
  rw[hd] at k;exact r_vt (k w (.refl _) H)
 |false=>
  rw[hd,Bool.false_or] at k;refine r_vf (r_nc (r_fo0 (r_ld 0 H1 rfl rfl ?_)))
  by_cases ho:x.op=none
  ·obtain rfl:=hq0 ho;rw[if_pos ho] at k;refine Zuf (r_vf (r_nc (r_fo0 (r_ld 0 H1 rfl rfl ?_))));exact k w (.refl _) H
  ·obtain⟨q,rfl⟩:=hq1 ho;rw[if_neg ho] at k;refine Zao (r_vt (r_dr H1 λw2 S2 H2=>?_));refine r_nc (r_fo0 (r_ld 0 H2 rfl rfl (Zu2 1 H2 rfl (r_nc (r_fo0 (r_ld 0 H2 rfl rfl (r_geq ?_)))))));rw[show decide (((x.out.length:Nat):Int) >= ((4096:Nat):Int))=decide (4096<=x.out.length) from decide_eq_decide.2 ⟨λh=>by omega,λh=>by omega⟩];exact k w2 S2 (back x w2 ov ⟨rfl,rfl,rfl,rfl,rfl,rfl⟩ H2)
theorem Zel {x:Xz}{rb ub:Nat}{qv ov:Value}{e:Int}(H:Holds w (blk b tX (cellsX x rb ub qv ov)::OB tB ov x.out::L)) (k:∀ w',Same w w'->Holds w' (XzR b { x with dn:=true,wr:=e,op:=none }::L)->K (.tuple #[]) w'):Cl prog 243 #[pt b,iv e] w K:=by
 refine Tz243 ?_;unfold Vz243;refine r_nc (r_fo0 (r_st 0 H rfl (by simp[cellsX]) rfl λw2 S2 H2=>?_));refine r_nc (r_fo0 (r_st 0 H2 rfl (by simp[cellsX]) rfl λw3 S3 H3=>?_));refine r_nc (r_fo0 (r_st 0 H3 rfl (by simp[cellsX]) rfl λw4 S4 H4=>?_));exact k w4 (S2.trans (S3.trans S4)) (Zu6 (x:={ x with dn:=true,wr:=e,op:=none }) (rb:=rb) (ub:=ub) (ov:=ov) rfl rfl H4)
theorem XzOk.fail {x:Xz}{g:Nat}{e:Int}(h:XzOk x g) (hd:x.dn=false):XzOk ({ x with dn:=true,wr:=e,op:=none }) (g+1):=by
 obtain⟨i,m,c1,c2,c3,c4⟩:=h.ct;refine⟨h.wi,h.hd,h.ou,λ_=>rfl,(λo ho=>by cases ho),Nat.le_succ_of_le h.st,h.hs,h.es,(λe=>by cases e),i,m,(λe=>by cases e),c2,c3,?_⟩;rw[hd,if_neg (by decide)] at c4;show g+1+0<=i+27*x.u.unit*m+1;omega
structure SmX (x x':Xz):Prop where
 en:x'.en=x.en
 wn:x'.win=x.win
 bb:x'.B=x.B
 un:x'.u.unit=x.u.unit
theorem SmX.refl (x:Xz):SmX x x:=⟨rfl,rfl,rfl,rfl⟩
theorem SmX.trans {x y z:Xz}(h:SmX x y) (h2:SmX y z):SmX x z:=⟨h2.en.trans h.en,h2.wn.trans h.wn,h2.bb.trans h.bb,h2.un.trans h.un⟩
theorem Zry {x:Xz}{o:Opn}{g:Nat}(H:Holds w (XzR b x::L)) (hx:XzOk x g) (hd:x.dn=false) (ho:x.op=some o) (hl:x.out.length < 4096)
  (k:∀ x' w',XzOk x' (g+1)->x'.out.length<=x.out.length+251->x'.st=x.st->SmX x x'->Same w w'->Holds w' (XzR b x'::L)->K (.tuple #[]) w'):Cl prog 238 #[pt b] w K:=by
 refine Tz238 ?_;unfold Vz238;obtain⟨rb,ub,q,ov,H1⟩:=Zk0 hd ho H;refine r_nc (r_fo0 (r_ld 0 H1 rfl rfl ?_));obtain⟨ib,pb,sb,hok,H2⟩:=Zvk (by have h_:=Holds.front H1 4 rfl;exact h_);refine Zlo H2 hok (hx.os o ho) λt e o' w3 ht ho' hla hs' S3 H3=>?_;have hln:=ho'.ln;have hsz:=szb o'.last
 have H4:Holds w3 (OB tB ov x.out::blk b tX (cellsX x rb ub (pt q) ov)::Rb.RdR rb x.B x.d x.at_::U22.UsR ub x.u::(OpL q o' ib pb sb++L)):=by
  have h_:=Holds.ord 8 [5,4,6,7,0,1,2,3] H3 rfl;exact h_
 refine Za3 (Za4 ?_);refine r_nc (r_fo0 (r_ld 1 H4 rfl rfl ?_));refine Zw1 (xs:=x.out) (ys:=t) (e:=tB) (by kernel_rfl) H4 0 rfl (by omega) λv' w4 S4 H5=>?_;refine r_nc (r_fo0 (r_st 1 H5 rfl (by simp[cellsX]) (H5.sgOB 0 rfl) λw5 S5 H6=>?_));have hx2:XzOk { x with out:=x.out++t } g:=⟨hx.wi,hx.hd,by show (x.out++t).length<=4500;rw[gD];omega,hx.od,hx.os,hx.st,hx.hs,hx.es,hx.w0,hx.ct⟩;obtain⟨ci,cm,c1,c2,c3,c4⟩:=hx.ct
 have hrem:rem x=3*o.last.length - o.s:=by unfold rem;rw[ho]
 have hosl:=hx.os o ho;rw[hd,if_neg (by decide),hrem] at c4;have H7:Holds w5 (blk b tX (cellsX { x with out:=x.out++t } rb ub (pt q) v')::OB tB v' (x.out++t)::Rb.RdR rb x.B x.d x.at_::U22.UsR ub x.u::(OpL q o' ib pb sb++L)):=H6.swap
 have hol:(x.out++t).length<=x.out.length+251:=by rw[gD];omega
 refine r_neq ?_
 cases hc:(e != 0) with
 |true=>
  refine r_vt ?_
  have H8:Holds w5 (blk b tX (cellsX { x with out:=x.out++t } rb ub (pt q) v')::OB tB v' (x.out++t)::L):=by
   have h_:=Holds.dropAt (Holds.dropAt (Holds.dropAt (Holds.dropAt (Holds.dropAt (Holds.dropAt H7 2) 2) 2) 2) 2) 2;exact h_
  refine Zel (x:={ x with out:=x.out++t }) H8 λw6 S6 H9=>?_;exact k _ w6 (hx2.fail hd) hol rfl ⟨rfl,rfl,rfl,rfl⟩ (S3.trans (S4.trans (S5.trans S6))) H9
 |false=>
  refine r_vf (r_nc (r_fo0 (r_ld 0 H7 rfl rfl (r_nc (r_fo0 (r_ld 4 H7 rfl rfl ?_))))))
  have H8:Holds w5 (U18.InvR ib ⟨o'.last.toArray⟩ o'.org o'.s (o'.s - 2*o'.last.length)::blk b tX (cellsX { x with out:=x.out++t } rb ub (pt q) v')::OB tB v' (x.out++t)::Rb.RdR rb x.B x.d x.at_::U22.UsR ub x.u::blk q tOp [S_ o'.last,nv o'.org,uv o'.sum,pt ib,pt pb,pt sb]::blk pb tUn (Fpc o'.row)::R3b.SumR sb o'.cs::L):=by
   have h_:=Holds.ord 8 [5,0,1,2,3,4,6,7] H7 rfl;exact h_
  refine U18.Done_spec H8 (by rw[hsz];omega) λw6 S6 H9=>?_;rw[hsz]
  have H10:Holds w6 (blk b tX (cellsX { x with out:=x.out++t } rb ub (pt q) v')::OB tB v' (x.out++t)::Rb.RdR rb x.B x.d x.at_::U22.UsR ub x.u::(OpL q o' ib pb sb++L)):=by
   have h_:=Holds.ord 8 [1,2,3,4,5,0,6,7] H9 rfl;exact h_
  have S:=S3.trans (S4.trans (S5.trans S6))
  cases hc2:((o'.s:Int)==3*((o'.last.length:Nat):Int)) with
  |true=>
   refine r_vt (r_nc (r_fo0 (r_st 0 H10 rfl (by simp[cellsX]) rfl λw7 S7 H11=>?_)))
   have H12:Holds w7 (blk b tX (cellsX { x with out:=x.out++t } rb ub (.pointer none) v')::OB tB v' (x.out++t)::Rb.RdR rb x.B x.d x.at_::U22.UsR ub x.u::L):=by
    have h_:=Holds.dropAt (Holds.dropAt (Holds.dropAt (Holds.dropAt H11 4) 4) 4) 4;exact h_
   refine k { x with out:=x.out++t,op:=none } w7 ⟨hx.wi,hx.hd,hx2.ou,λ_=>rfl,(λo ho=>by cases ho),Nat.le_succ_of_le hx.st,hx.hs,hx.es,hx.w0,ci,cm,c1,c2,c3,by
    show g+1+0<=ci+27*x.u.unit*cm+(if x.dn=true then 1 else 0)
    omega⟩ hol rfl ⟨rfl,rfl,rfl,rfl⟩ (S.trans S7) (Zdf (x:={ x with out:=x.out++t,op:=none }) hd rfl H12)
  |false=>
   have hne:o'.s≠3*o'.last.length:=by
    intro h;rw[beq_eq_false_iff_ne] at hc2;exact hc2 (by omega)
   refine r_vf ?_
   have H11:Holds w6 (blk b tX (cellsX { x with out:=x.out++t } rb ub (pt q) v')::OB tB v' (x.out++t)::Rb.RdR rb x.B x.d x.at_::U22.UsR ub x.u::OpR q o'::L):=by
    have h1:Holds w6 (OpL q o' ib pb sb++(blk b tX (cellsX { x with out:=x.out++t } rb ub (pt q) v')::OB tB v' (x.out++t)::Rb.RdR rb x.B x.d x.at_::U22.UsR ub x.u::L)):=by
     have h_:=Holds.ord 8 [4,5,6,7,0,1,2,3] H10 rfl;exact h_
    have h2:=Zm3 ho' h1;have h_:=Holds.ord 5 [1,2,3,4,0] h2 rfl;exact h_
   have hst:=ho'.st
   refine k { x with out:=x.out++t,op:=some o' } w6 ⟨hx.wi,hx.hd,hx2.ou,(λe=>by rw[show ({ x with out:=x.out++t,op:=some o' }:Xz).dn=x.dn from rfl,hd] at e;cases e),(λo2 h2=>by cases h2;omega),Nat.le_succ_of_le hx.st,hx.hs,hx.es,hx.w0,ci,cm,c1,c2,c3,by
    show g+1+(3*o'.last.length - o'.s)<=ci+27*x.u.unit*cm+(if x.dn=true then 1 else 0);rw[hla,hs']
    omega⟩ hol rfl ⟨rfl,rfl,rfl,rfl⟩ S (Zgz (x:={ x with out:=x.out++t,op:=some o' }) hd rfl H11)
theorem read_spec {x:Xz}{g:Nat}(H:Holds w (XzR b x::L)) (hx:XzOk x g) (hd:x.dn=false) (ho:x.op=none)
  (k:∀ x' c w',XzOk x' (g+(if c=true then 1 else 0))->x'.out=x.out->x'.st=x.st->SmX x x'->(c=false->x'.sh=true/\x'.op=none)->Same w w'->Holds w' (XzR b x'::L)->K (.bool c) w'):Cl prog 241 #[pt b] w K:=by
 refine Tz241 ?_;unfold Vz241;obtain⟨ci,cm,c1,c2,c3,c4⟩:=hx.ct;have hcn:=c1 hd
 have hrem:rem x=0:=by unfold rem;rw[ho]
 rw[hd,if_neg (by decide),hrem] at c4;obtain⟨rb,ub,ov,H1⟩:=Zk3 hd ho H;have hrd0:=(Rb.Zaf (by have h_:=Holds.front H1 2 rfl;exact h_)).1;refine Za1 (λy w'=>∃ c:Bool,y=.bool c/\Same w w'/\Holds w' (blk b tX (cellsX x rb ub (.pointer none) ov)::OB tB ov x.out::Rb.RdR rb x.B x.d x.at_::U22.UsR ub x.u::L)) ?_ ?_
 rotate_left
 ·refine r_nc (r_fo0 (r_ld 0 H1 rfl rfl ?_))
  cases x.en with
  |false=>exact r_vf (r_ke ⟨false,rfl,.refl _,H1⟩)
  |true=>
   refine r_vt (r_nc (r_fo0 (r_ld 0 H1 rfl rfl ?_)));refine U22.Zmu (by have h_:=Holds.front H1 3 rfl;exact h_) ?_
   cases x.u.mayEnd with
   |false=>exact r_vf (r_ke ⟨false,rfl,.refl _,H1⟩)
   |true=>
    refine r_vt (r_nc (r_fo0 (r_ld 0 H1 rfl rfl ?_)));refine Rb.Zez (by have h_:=Holds.front H1 2 rfl;exact h_) λw2 S2 H2=>?_;refine r_eql (r_ke ⟨_,rfl,S2,?_⟩);have h_:=Holds.ord 4 [1,2,0,3] H2 rfl;exact h_
 rintro _ _ w1 ⟨c,rfl,S1,H2⟩;clear H1
 cases c with
 |true=>
  refine r_vt ?_;refine Zel (by have h_:=Holds.dropAt (Holds.dropAt H2 2) 2;exact h_) λw2 S2 H3=>?_;exact k _ true w2 (hx.fail hd) rfl rfl ⟨rfl,rfl,rfl,rfl⟩ (λe=>by cases e) (S1.trans S2) H3
 |false=>
  refine r_vf (r_dr H2 λw2 S2 H3=>?_);refine r_nc (r_fo0 (r_ld 0 H3 rfl rfl (r_nc (r_fo0 (r_ld 0 H3 rfl rfl ?_)))));have hu:=(U22.Zbt (by have h_:=Holds.front H3 3 rfl;exact h_)).1
  have H4:Holds w2 (U22.UsR ub x.u::Rb.RdR rb x.B x.d x.at_::blk b tX (cellsX x rb ub (.pointer none) ov)::OB tB ov x.out::L):=by
   have h_:=Holds.ord 4 [3,2,0,1] H3 rfl;exact h_
  refine U22.Step_spec H4 λwt e w3 S3 hA=>?_;refine Za3 (Za4 ?_);have S:=S1.trans (S2.trans S3);clear H3 H4 S1 S2 S3 H2 H
  have go:∀ (R:HProp) (p:Nat),Holds w3 (R::Rb.RdR rb x.B x.d p::blk b tX (cellsX x rb ub (.pointer none) ov)::OB tB ov x.out::L)->
    (∀ w5,Same w w5->(x.d<=p/8/\p<=8*x.B.length)->Holds w5 (blk b tX (cellsX x rb ub (.pointer none) ov)::OB tB ov x.out::Rb.RdR rb x.B (p/8) p::R::L)->
     VJoin 1 (λ_ x_15 w6=>Vif x_15 (Nc (pt b) <| Fo 6 (pt b) λx_16=>St x_16 (.bool true) w6 λw7=>K (.bool false) w7) (
      Bp .eql (iv e) (.int .i64 3) λx_17=>Vif x_17 (Cl prog 243 #[pt b,(.int .i64 24)] w6 λx_18 w8=>K (.bool true) w8) (
      Bp .neq (iv e) (.int .i64 0) λx_19=>Vif x_19 (Cl prog 243 #[pt b,iv e] w6 λx_20 w9=>K (.bool true) w9) (
      Bp .eql (iv wt) (.int .i64 1) λx_21=>Vif x_21 (Nc (pt b) <| Fo 4 (pt b) λx_22=>Ld x_22 w6 λx_23=>Cl prog 250 #[x_23] w6 λx_24 w10=>Cl prog 249 #[x_24] w10 λx_25 w11=>
       Nc (pt b) <| Fo 5 (pt b) λx_26=>St x_26 x_25 w11 λw12=>K (.bool true) w12) (K (.bool true) w6)))))
      (λJ27=>Bp .eql (iv e) (.int .i64 3) λx_28=>Vif x_28 (Nc (pt b) <| Fo 2 (pt b) λx_29=>Ld x_29 w5 λx_30=>Up .not x_30 λx_31=>KE [pt b,iv wt,iv e] [pt b,iv wt,iv e] <| J27 x_31 w5) (KE [pt b,iv wt,iv e] [pt b,iv wt,iv e] <| J27 (.bool false) w5)))->
    (Nc (pt b) <| Fo 3 (pt b) λx_12=>Ld x_12 w3 λx_13=>Cl prog 248 #[x_13] w3 λx_14 w5=>
     VJoin 1 (λ_ x_15 w6=>Vif x_15 (Nc (pt b) <| Fo 6 (pt b) λx_16=>St x_16 (.bool true) w6 λw7=>K (.bool false) w7) (
      Bp .eql (iv e) (.int .i64 3) λx_17=>Vif x_17 (Cl prog 243 #[pt b,(.int .i64 24)] w6 λx_18 w8=>K (.bool true) w8) (
      Bp .neq (iv e) (.int .i64 0) λx_19=>Vif x_19 (Cl prog 243 #[pt b,iv e] w6 λx_20 w9=>K (.bool true) w9) (
      Bp .eql (iv wt) (.int .i64 1) λx_21=>Vif x_21 (Nc (pt b) <| Fo 4 (pt b) λx_22=>Ld x_22 w6 λx_23=>Cl prog 250 #[x_23] w6 λx_24 w10=>Cl prog 249 #[x_24] w10 λx_25 w11=>
       Nc (pt b) <| Fo 5 (pt b) λx_26=>St x_26 x_25 w11 λw12=>K (.bool true) w12) (K (.bool true) w6)))))
      (λJ27=>Bp .eql (iv e) (.int .i64 3) λx_28=>Vif x_28 (Nc (pt b) <| Fo 2 (pt b) λx_29=>Ld x_29 w5 λx_30=>Up .not x_30 λx_31=>KE [pt b,iv wt,iv e] [pt b,iv wt,iv e] <| J27 x_31 w5) (KE [pt b,iv wt,iv e] [pt b,iv wt,iv e] <| J27 (.bool false) w5))):=by
   intro R p H5 kk;refine r_nc (r_fo0 (r_ld 2 H5 rfl rfl ?_));have hp:=(Rb.Zaf H5.swap).1;refine Rb.Ztm H5.swap λw5 v S5 H6=>?_;have hh:=hx.hd;refine kk w5 (S.trans S5) ⟨by omega,hp.2.1⟩ ?_;have h_:=Holds.ord 4 [2,3,0,1] H6 rfl;exact h_
  have hx5:∀ p,(x.d<=p/8/\p<=8*x.B.length)->(x.dn=false->Cnt x.u p ci cm)->XzOk { x with d:=p/8,at_:=p } g:=by
   intro p hp hc;have hhd:=hx.hd;refine⟨hx.wi,by show x.B.length - p/8<=x.win;omega,hx.ou,hx.od,hx.os,hx.st,(λe=>by have:=hx.hs e;show x.B.length - p/8<=60;omega),hx.es,hx.w0,ci,cm,hc,c2,c3,?_⟩;show g+rem { x with d:=p/8,at_:=p }<=ci+27*x.u.unit*cm+(if x.dn=true then 1 else 0);rw[show rem { x with d:=p/8,at_:=p }=rem x from rfl,hrem];omega
  cases hy:ustep x.u (rest x.B x.at_) with
  |short=>
   rw[hy] at hA;obtain⟨rfl,rfl,H5⟩:=hA;refine go _ _ H5 λw5 S5 hdp H6=>?_;refine Za1 (λy w'=>w5=w'/\y=.bool (!x.en)) ?_ ?_
   rotate_left
   ·refine r_eql (r_vtE rfl (r_nc (r_fo0 (r_ld 0 H6 rfl rfl (r_not (r_ke ⟨rfl,rfl⟩))))))
   rintro _ _ _ ⟨rfl,rfl⟩
   cases hen:x.en with
   |false=>
    refine r_vt (r_nc (r_fo0 (r_st 0 H6 rfl (by simp[cellsX]) rfl λw6 S6 H7=>?_)));have hsl:=Zmm hu hy;rw[Zba] at hsl;have hhd:=hx.hd
    refine k { x with d:=x.at_/8,at_:=x.at_,sh:=true } false w6 ⟨hx.wi,by show x.B.length - x.at_/8<=x.win;omega,hx.ou,hx.od,hx.os,hx.st,λ_=>by show x.B.length - x.at_/8<=60;omega,(λe=>by have e':x.en=true:=e;rw[hen] at e';cases e'),hx.w0,ci,cm,c1,c2,c3,by
     show g+0+rem { x with d:=x.at_/8,at_:=x.at_,sh:=true }<=ci+27*x.u.unit*cm+(if x.dn=true then 1 else 0);rw[show rem { x with d:=x.at_/8,at_:=x.at_,sh:=true }=rem x from rfl,hrem]
     omega⟩ rfl rfl ⟨rfl,rfl,rfl,rfl⟩ (λ_=>⟨rfl,ho⟩) (S5.trans S6) ?_
    exact Zdf (x:={ x with d:=x.at_/8,at_:=x.at_,sh:=true }) hd ho H7
   |true=>
    refine r_vf (r_eql (r_vtE rfl ?_));refine Zel (x:={ x with d:=x.at_/8,at_:=x.at_ }) (by have h_:=Holds.dropAt (Holds.dropAt H6 2) 2;exact h_) λw6 S6 H7=>?_;exact k _ true w6 (XzOk.fail (x:={ x with d:=x.at_/8,at_:=x.at_ }) (hx5 x.at_ hdp c1) hd) rfl rfl ⟨rfl,rfl,rfl,rfl⟩ (λe=>by cases e) (S5.trans S6) H7
  |bad c=>
   have hcb:=Zl5 hu hy;rw[hy] at hA;obtain⟨rfl,rfl,p,H5⟩:=hA;refine go _ _ H5 λw5 S5 hdp H6=>?_;refine Za1 (λy w'=>w5=w'/\y=.bool false) ?_ ?_
   rotate_left
   ·exact r_eql (r_vfE (by omega) (r_ke ⟨rfl,rfl⟩))
   rintro _ _ _ ⟨rfl,rfl⟩;refine r_vf (r_eql (r_vfE (by omega) (r_neq (r_vtN (by omega) ?_))));refine Zel (x:={ x with d:=p/8,at_:=p }) (by have h_:=Holds.dropAt (Holds.dropAt H6 2) 2;exact h_) λw6 S6 H7=>?_
   have hxf:XzOk { x with d:=p/8,at_:=p,dn:=true,wr:=(c:Int),op:=none } (g+1):=by
    have hhd:=hx.hd;refine⟨hx.wi,by show x.B.length - p/8<=x.win;omega,hx.ou,λ_=>rfl,(λo ho=>by cases ho),Nat.le_succ_of_le hx.st,(λe=>by have:=hx.hs e;show x.B.length - p/8<=60;omega),hx.es,(λe=>by cases e),ci,cm,(λe=>by cases e),c2,c3,?_⟩;show g+1+0<=ci+27*x.u.unit*cm+1;omega
   exact k _ true w6 hxf rfl rfl ⟨rfl,rfl,rfl,rfl⟩ (λe=>by cases e) (S5.trans S6) H7
  |ok y n=>
   obtain⟨u',wt'⟩:=y;rw[hy] at hA;obtain⟨rfl,rfl,H5⟩:=hA;refine go _ _ H5 λw5 S5 hdp H6=>?_;have hu':=(Zdv hu hy).1;have hun:=(Zdv hu hy).2;have hcn':=Zsx hu hcn hy;have hb1:=hcn'.bits;have hb2:=hcn'.steps;have hb3:=Ya2 hu';rw[hun] at hb2 hb3;have hhd:=hx.hd;refine Za1 (λy w'=>w5=w'/\y=.bool false) ?_ ?_
   rotate_left
   ·exact r_eql (r_vfE (by decide) (r_ke ⟨rfl,rfl⟩))
   rintro _ _ _ ⟨rfl,rfl⟩;refine r_vf (r_eql (r_vfE (by decide) (r_neq (r_vfN rfl (r_eql (r_ifE (λh1=>?_) λh1=>?_))))))
   ·obtain rfl:wt'=1:=by omega
    refine r_nc (r_fo0 (r_ld 0 H6 rfl rfl ?_));refine U22.Zv8 (by have h_:=Holds.front H6 3 rfl;exact h_) λw6 S6 H7=>?_;refine Zhu H7 (Zlg hu hy) hu'.last hu'.sum λq o w7 hla hs0 S7 H8=>?_;have hlt:=Zlg hu hy;refine r_nc (r_fo0 (r_st 2 H8 rfl (by simp[cellsX]) rfl λw8 S8 H9=>?_));have hla9:=Zqs hu hy;rw[if_pos rfl] at hcn' hb1 hb2
    refine k { x with d:=(x.at_+n)/8,at_:=x.at_+n,u:=u',op:=some o } true w8 ⟨hx.wi,by show x.B.length - (x.at_+n)/8<=x.win;omega,hx.ou,(λe=>by rw[show ({ x with d:=(x.at_+n)/8,at_:=x.at_+n,u:=u',op:=some o }:Xz).dn=x.dn from rfl,hd] at e;cases e),(λo2 h2=>by cases h2;rw[hs0,hla];omega),Nat.le_succ_of_le hx.st,(λe=>by have:=hx.hs e;show x.B.length - (x.at_+n)/8<=60;omega),hx.es,hx.w0,ci+1,cm+1,λ_=>hcn',by show 160*(cm+1)<=8*x.B.length;omega,by
      show ci+1<=8*x.B.length+9*u'.unit*(cm+1)+9*u'.unit;rw[hun]
      omega,by
      show g+1+(3*o.last.length - o.s)<=ci+1+27*u'.unit*(cm+1)+(if x.dn=true then 1 else 0);rw[hun,hs0,hla,Nat.mul_add (27*x.u.unit),Nat.mul_one]
      omega⟩ rfl rfl ⟨rfl,rfl,rfl,hun⟩ (λe=>by cases e) (S5.trans (S6.trans (S7.trans S8))) ?_
    refine Zgz (x:={ x with d:=(x.at_+n)/8,at_:=x.at_+n,u:=u',op:=some o }) (rb:=rb) (ub:=ub) (q:=q) (ov:=ov) hd rfl ?_;have h_:=Holds.ord 5 [2,3,4,1,0] H9 rfl;exact h_
   ·have e0:cm+(if wt'=1 then 1 else 0)=cm:=by rw[if_neg (by omega)];rfl
    rw[e0] at hcn' hb1 hb2
    refine k { x with d:=(x.at_+n)/8,at_:=x.at_+n,u:=u' } true w5 ⟨hx.wi,by show x.B.length - (x.at_+n)/8<=x.win;omega,hx.ou,hx.od,hx.os,Nat.le_succ_of_le hx.st,(λe=>by have:=hx.hs e;show x.B.length - (x.at_+n)/8<=60;omega),hx.es,hx.w0,ci+1,cm,λ_=>hcn',c2,by
      show ci+1<=8*x.B.length+9*u'.unit*cm+9*u'.unit;rw[hun]
      omega,by
      show g+1+rem { x with d:=(x.at_+n)/8,at_:=x.at_+n,u:=u' }<=ci+1+27*u'.unit*cm+(if x.dn=true then 1 else 0);rw[show rem { x with d:=(x.at_+n)/8,at_:=x.at_+n,u:=u' }=rem x from rfl,hrem,hun]
      omega⟩ rfl rfl ⟨rfl,rfl,rfl,hun⟩ (λe=>by cases e) S5 ?_
    exact Zdf (x:={ x with d:=(x.at_+n)/8,at_:=x.at_+n,u:=u' }) hd ho H6
theorem Step_spec {x:Xz}{g q:Nat}(H:Holds w (XzR b x::L)) (hx:XzOk x g) (hq:q<=1000000) (hg:g<=1000000000000)
  (k:∀ x' m w',m<=q->XzOk x' (g+m)->x'.st=x.st+m->SmX x x'->x'.out.length<=x.out.length+251*m->(m=0->stpX x=false->1<=q->x'.op=none/\x'.sh=true)->(m=q\/stpX x'=true)->Same w w'->Holds w' (XzR b x'::L)->K (nv m) w'):Cl prog 233 #[pt b,nv q] w K:=by
 refine Tz233 ?_;unfold Vz233;have hgl:=hx.st;refine Zdo (λj y w'=>∃ m x',j=2*(q - m)+(if stpX x'=true then 0 else 1)/\m<=q/\y=nv m/\XzOk x' (g+m)/\x'.st=x.st/\SmX x x'/\x'.out.length<=x.out.length+251*m/\(m=0->x'=x\/x'.op=none/\x'.sh=true)/\Same w w'/\Holds w' (XzR b x'::L)) (2*q+(if stpX x=true then 0 else 1)) ⟨0,x,rfl,hE _,rfl,hx,rfl,.refl x,by omega,λ_=>.inl rfl,.refl _,H⟩ ?_;clear H;rintro _ j _ w1 _ ⟨m,x1,rfl,hm,rfl,hx1,hst1,hsm,hou,h0,S1,H1⟩ hgo;refine Za1 (λy w'=>∃ c:Bool,y=.bool c/\(c=decide (m < q/\stpX x1=false))/\Same w w'/\Holds w' (XzR b x1::L)) ?_ ?_
 rotate_left
 ·refine r_lss (r_ifD (λh=>?_) λh=>?_)
  ·refine Stopped_spec H1 λw2 S2 H2=>r_not (r_ke ⟨!stpX x1,rfl,?_,S1.trans S2,H2⟩)
   cases stpX x1 with
   |true=>rw[decide_eq_false (λe=>by cases e.2)];rfl
   |false=>rw[decide_eq_true ⟨by omega,rfl⟩];rfl
  ·exact r_ke ⟨false,rfl,by rw[decide_eq_false (λe=>h (by omega))],S1,H1⟩
 rintro _ _ w2 ⟨c,rfl,hc,S2,H2⟩
 cases c with
 |true=>
  obtain⟨hlt,hst⟩:=of_decide_eq_true hc.symm;have hst':=hst;unfold stpX at hst';obtain⟨hd,hs2⟩:=Bool.or_eq_false_iff.1 hst';refine r_vt ?_
  cases ho:x1.op with
  |some o=>
   obtain⟨rb,ub,q',ov,H3⟩:=Zk0 hd ho H2;refine r_nc (r_fo0 (r_ld 0 H3 rfl rfl (Zao (r_vt ?_))));rw[if_neg (by rw[ho];simp)] at hs2
   have hol:x1.out.length < 4096:=by
    have:=of_decide_eq_false hs2;omega
   refine Zry H2 hx1 hd ho hol λx' w3 h1 h2 h3 h3m S3 H4=>?_;refine Za0 (by omega) (r_ke (hgo (2*(q - (m+1))+(if stpX x'=true then 0 else 1)) _ _ ?_ ⟨m+1,x',rfl,hlt,rfl,h1,h3.trans hst1,hsm.trans h3m,(by rw[Nat.mul_succ,<-hG_];exact Nat.le_trans h2 (Nat.add_le_add_right hou 251)),(λe=>absurd e (Nat.succ_ne_zero m)),S2.trans S3,H4⟩));rw[if_neg (show ¬ stpX x1=true by rw[hst];decide)]
   split <;> omega
  |none=>
   obtain⟨rb,ub,ov,H3⟩:=Zk3 hd ho H2;refine r_nc (r_fo0 (r_ld 0 H3 rfl rfl (Zuf (r_vf ?_))));refine read_spec H2 hx1 hd ho λx' c w3 h1 h2 h3 h3m h4 S3 H4=>?_
   cases c with
   |true=>
    refine Zah (r_vf ?_);refine Za0 (by omega) (r_ke (hgo (2*(q - (m+1))+(if stpX x'=true then 0 else 1)) _ _ ?_ ⟨m+1,x',rfl,hlt,rfl,h1,h3.trans hst1,hsm.trans h3m,by rw[h2];omega,(λe=>absurd e (Nat.succ_ne_zero m)),S2.trans S3,H4⟩));rw[if_neg (show ¬ stpX x1=true by rw[hst];decide)]
    split <;> omega
   |false=>
    refine Zbm (r_vt ?_);obtain⟨h5,h6⟩:=h4 rfl;have hx':XzOk x' (g+m):=h1
    have hsx:stpX x'=true:=by
     unfold stpX;rw[if_pos h6,h5,Bool.or_true]
    refine r_ke (hgo (2*(q - m)+(if stpX x'=true then 0 else 1)) _ _ ?_ ⟨m,x',rfl,hm,rfl,hx',h3.trans hst1,hsm.trans h3m,by rw[h2];exact hou,λ_=>.inr ⟨h6,h5⟩,S2.trans S3,H4⟩);rw[if_neg (show ¬ stpX x1=true by rw[hst];decide),if_pos hsx];omega
 |false=>
  have hnc:=of_decide_eq_false hc.symm;refine r_vf (Zao (r_vt ?_));obtain⟨rb,ub,qv,ov,L',H3,back,_⟩:=Zbv H2;refine r_nc (r_fo0 (r_ld 0 H3 rfl rfl (Za9 (by omega) ?_)));refine r_nc (r_fo0 (r_st 0 H3 rfl (by simp[cellsX]) rfl λw4 S4 H4=>?_))
  have hfin:m=q\/stpX x1=true:=by
   cases hs:stpX x1 with
   |true=>exact .inr rfl
   |false=>exact .inl (by have:¬ m < q:=λe=>hnc ⟨e,hs⟩;omega)
  refine k { x1 with st:=x1.st+m } m w4 hm ⟨hx1.wi,hx1.hd,hx1.ou,hx1.od,hx1.os,?_,hx1.hs,hx1.es,hx1.w0,hx1.ct⟩ (by show x1.st+m=_;rw[hst1]) ⟨hsm.en,hsm.wn,hsm.bb,hsm.un⟩ hou (λe1 e2 e3=>?_) hfin (S2.trans S4) (back { x1 with st:=x1.st+m } w4 ov ⟨rfl,rfl,rfl,rfl,rfl,rfl⟩ H4)
  ·show x1.st+m<=g+m;omega
  ·subst e1;rcases h0 rfl with rfl|h
   ·exact absurd ⟨by omega,e2⟩ hnc
   ·exact h
end K24
namespace K25
open Go.M01 Go.Mb Go.M02 Go.M03 P20 K24
variable {w:World}{L:List HProp}{K:KT}{b:Nat}
abbrev tTs:Nat:=92
theorem bv_nat {n:Nat}(h:n < 256):(.int .u8 (n:Int):Value)=bv (UInt8.ofNat n):=by
 show _=Value.int .u8 ((UInt8.ofNat n).toNat:Int);rw[UInt8.toNat_ofNat',Nat.mod_eq_of_lt h]
theorem Zmv:∀ (d n:Nat){w:World}{L:List HProp}{K:KT},d<=15->n < 10^(d+1)->Holds w L->(∀ (t:List UInt8) w',t.length<=d+1->Same w w'->Holds w' L->K (S_ t) w')->Cl prog 328 #[nv n] w K:=by
 intro d
 induction d with
 |zero=>
  intro n w L K hd hn H k;refine Tz328 ?_;unfold Vz328;have h10:n < 10:=hn;refine r_lss (r_vtD (by omega) (r_max ?_));rw[show max (n:Int) 0=(n:Int) by omega];refine Za9 (a:=48) (b:=n) (by omega) (Zh7 (by omega) (by omega) ?_);rw[bv_nat (n:=48+n) (by omega)];refine q_str H _ λw1 S1 H1=>?_;exact k _ w1 (by simp) S1 H1
 |succ d ih=>
  intro n w L K hd hn H k;have hp:(10:Nat)^(d+1+1)<=10^16:=Nat.pow_le_pow_right (by decide) (by omega)
  have hp2:(10:Nat)^16=10000000000000000:=by decide
  rw[Nat.pow_succ] at hn
  have hn2:n < 10000000000000000:=by rw[Nat.pow_succ] at hp;omega
  clear hp hp2;refine Tz328 ?_;unfold Vz328;refine r_lss (r_ifD (λh=>?_) λh=>?_)
  ·refine r_max ?_;rw[show max (n:Int) 0=(n:Int) by omega];refine Za9 (a:=48) (b:=n) (by omega) (Zh7 (by omega) (by omega) ?_);rw[bv_nat (n:=48+n) (by omega)];refine q_str H _ λw1 S1 H1=>?_;exact k _ w1 (by simp) S1 H1
  ·have hdv:n/10 < 10^(d+1):=Nat.div_lt_of_lt_mul (by rw[Nat.mul_comm];exact hn);clear hn;refine r_dr H λw1 S1 H1=>?_;refine r_quo (by omega) (by decide) (by omega) (r_rem (by omega) (by decide) ?_);rw[show (n:Int)/10=((n/10:Nat):Int) by omega,show (n:Int)%10=((n%10:Nat):Int) by omega];refine Za9 (a:=48) (b:=n%10) (by omega) (Zh7 (by omega) (by omega) ⟨?_,?_⟩)
   ·refine ih (n/10) (by omega) hdv H1 λt w2 ht S2 H2=>?_;rw[bv_nat (n:=48+n%10) (by omega)];refine r_bs1 H2 rfl λb3 w3 S3 H3=>?_;refine B20.r_cvb (sp:=[]) (xs:=[UInt8.ofNat (48+n%10)]) (oa:=some ⟨b3,0,none⟩) ((H3.imp λh hh=>(⟨rfl,rfl,hh⟩:(slb bv tB (some ⟨b3,0,none⟩) [UInt8.ofNat (48+n%10)] []) h))) 0 rfl rfl ?_;refine Zeg (by rw[gQ];omega) ?_;exact k _ w3 (by rw[gD,gQ];omega) (S1.trans (S2.trans S3)) H3.drop
   ·rw[bv_nat (n:=48+n%10) (by omega)];refine r_bs1 H1 rfl λb2 w2 S2 H2=>?_;have H3:Holds w2 (slb bv tB (some ⟨b2,0,none⟩) [UInt8.ofNat (48+n%10)] []::L):=H2.imp λh hh=>(⟨rfl,rfl,hh⟩:(slb bv tB (some ⟨b2,0,none⟩) [UInt8.ofNat (48+n%10)] []) h);refine B20.r_cvb (sp:=[]) (xs:=[UInt8.ofNat (48+n%10)]) H3 0 rfl rfl ?_;refine ih (n/10) (by omega) hdv H3 λt w3 ht S3 H4=>?_;refine r_rk (B20.r_cvb (sp:=[]) (xs:=[UInt8.ofNat (48+n%10)]) H4 0 rfl rfl rfl) ?_;refine Zeg (by rw[gQ];omega) ?_;exact k _ w3 (by rw[gD,gQ];omega) (S1.trans (S2.trans S3)) H4.drop
structure Tz where
 c:Nat
 ans:List UInt8
 told:Bool
 x:Xz
structure TzOk (t:Tz) (g:Nat):Prop where
 x:XzOk t.x g
 c:t.c+t.x.out.length<=251*g
 a:t.ans.length<=16
 o:t.x.out.length < 4096
def TzR (b:Nat) (t:Tz):HProp:=λh=>∃ bx,Sat [blk b tTs [pt bx,nv t.c,S_ t.ans,.bool t.told],XzR bx t.x] h
theorem TzR_open {t:Tz}(H:Holds w (TzR b t::L)):∃ bx,Holds w (blk b tTs [pt bx,nv t.c,S_ t.ans,.bool t.told]::XzR bx t.x::L):=by
 obtain⟨bx,H⟩:=Holds.ex H;exact⟨bx,Holds.unpack (A:=[_,_]) H⟩
theorem TzR_close {t:Tz}{bx:Nat}(H:Holds w (blk b tTs [pt bx,nv t.c,S_ t.ans,.bool t.told]::XzR bx t.x::L)):Holds w (TzR b t::L):=
 Holds.imp (Holds.pack (A:=[_,_]) H) λh hh=>⟨bx,hh⟩
theorem Done_spec {t:Tz}(H:Holds w (TzR b t::L)) (k:K (.bool t.x.dn) w):Cl prog 316 #[pt b] w K:=by
 refine Tz316 ?_;unfold Vz316;obtain⟨bx,H1⟩:=TzR_open H;exact Zao (r_vt (r_nc (r_fo0 (r_fo0 (r_ld 0 H1 rfl rfl (K24.Done_spec H1.swap k))))))
theorem Err_spec {t:Tz}(H:Holds w (TzR b t::L)) (k:K (iv t.x.wr) w):Cl prog 318 #[pt b] w K:=by
 refine Tz318 ?_;unfold Vz318;obtain⟨bx,H1⟩:=TzR_open H;exact Za6 (r_vf (r_nc (r_fo0 (r_fo0 (r_ld 0 H1 rfl rfl (K24.Err_spec H1.swap k))))))
theorem Steps_spec {t:Tz}(H:Holds w (TzR b t::L)) (k:K (nv t.x.st) w):Cl prog 322 #[pt b] w K:=by
 refine Tz322 ?_;unfold Vz322;obtain⟨bx,H1⟩:=TzR_open H;exact Za6 (r_vf (r_nc (r_fo0 (r_fo0 (r_ld 0 H1 rfl rfl (K24.Steps_spec H1.swap k))))))
theorem Waiting_spec {t:Tz}(H:Holds w (TzR b t::L)) (k:K (nv t.ans.length) w):Cl prog 325 #[pt b] w K:=by
 refine Tz325 ?_;unfold Vz325;obtain⟨bx,H1⟩:=TzR_open H;exact Za6 (r_vf (r_nc (r_fo0 (r_ld 0 H1 rfl rfl (q_len k)))))
theorem Take_spec {t:Tz}{q:Nat}(H:Holds w (TzR b t::L)) (hq:t.ans.length<=q) (hq1:1<=q) (k:∀ w',Same w w'->Holds w' (TzR b { t with ans:=[] }::L)->K (S_ t.ans) w'):Cl prog 324 #[pt b,nv q] w K:=by
 refine Tz324 ?_;unfold Vz324;obtain⟨bx,H1⟩:=TzR_open H;refine Za1 (λy w'=>w=w'/\y=.bool false) ?_ ?_
 rotate_left
 ·refine Za6 (r_vf (r_lss (r_ke ⟨rfl,?_⟩)));rw[decide_eq_false (by omega)]
 rintro _ _ _ ⟨rfl,rfl⟩;refine r_vf (r_nc (r_fo0 (r_ld 0 H1 rfl rfl (q_len (r_min ?_)))));rw[show min ((q:Nat):Int) ((t.ans.length:Nat):Int)=((t.ans.length:Nat):Int) by omega];refine r_nc (r_fo0 (r_ld 0 H1 rfl rfl (q_T (Nat.le_refl _) ?_)));refine r_nc (r_fo0 (r_ld 0 H1 rfl rfl (q_D (Nat.le_refl _) ?_)));rw[hF_,drop_length];refine r_nc (r_fo0 (r_st 0 H1 rfl (by simp) rfl λw2 S2 H2=>?_));exact k w2 S2 (TzR_close (t:={ t with ans:=[] }) (bx:=bx) H2)
theorem Feed_spec {t:Tz}{g:Nat}{s:List UInt8}(H:Holds w (TzR b t::L)) (ht:TzOk t g) (hs:s.length<=1000000) (hf:t.x.B.length<=100000000)
  (k:∀ n sh w',n=(if (t.x.en||t.x.dn)=true then 0 else min s.length (t.x.win - (t.x.B.length - t.x.d)))->(0 < n->sh=false)->(n=0->sh=t.x.sh)->TzOk { t with x:={ t.x with B:=t.x.B++s.take n,sh:=sh } } g->Same w w'->Holds w' (TzR b { t with x:={ t.x with B:=t.x.B++s.take n,sh:=sh } }::L)->K (nv n) w'):Cl prog 319 #[pt b,S_ s] w K:=by
 refine Tz319 ?_;unfold Vz319;obtain⟨bx,H1⟩:=TzR_open H;refine Za6 (r_vf (r_nc (r_fo0 (r_fo0 (r_ld 0 H1 rfl rfl ?_)))));refine K24.Feed_spec H1.swap ht.x hs hf λn sh w2 h1 h2 h3 h4 S2 H2=>?_;exact k n sh w2 h1 h2 h3 ⟨h4,ht.c,ht.a,ht.o⟩ S2 (TzR_close (t:={ t with x:={ t.x with B:=t.x.B++s.take n,sh:=sh } }) H2.swap)
theorem End_spec {t:Tz}{g:Nat}(H:Holds w (TzR b t::L)) (ht:TzOk t g) (k:∀ v sh w',(t.x.en=true->sh=t.x.sh)->(t.x.en=false->sh=false)->TzOk { t with x:={ t.x with en:=true,sh:=sh } } g->Same w w'->Holds w' (TzR b { t with x:={ t.x with en:=true,sh:=sh } }::L)->K v w'):Cl prog 317 #[pt b] w K:=by
 refine Tz317 ?_;unfold Vz317;obtain⟨bx,H1⟩:=TzR_open H;refine Za6 (r_vf (r_nc (r_fo0 (r_fo0 (r_ld 0 H1 rfl rfl ?_)))));refine K24.End_spec H1.swap ht.x λv sh w2 h1 h2 h4 S2 H2=>?_;exact k v sh w2 h1 h2 ⟨h4,ht.c,ht.a,ht.o⟩ S2 (TzR_close (t:={ t with x:={ t.x with en:=true,sh:=sh } }) H2.swap)
theorem Stopped_spec {t:Tz}(H:Holds w (TzR b t::L)) (k:∀ w',Same w w'->Holds w' (TzR b t::L)->K (.bool (stpX t.x)) w'):Cl prog 323 #[pt b] w K:=by
 refine Tz323 ?_;unfold Vz323;obtain⟨bx,H1⟩:=TzR_open H;refine Za6 (r_vf (r_nc (r_fo0 (r_fo0 (r_ld 0 H1 rfl rfl ?_)))));exact K24.Stopped_spec H1.swap λw2 S2 H2=>k w2 S2 (TzR_close H2.swap)
theorem Zne {t:Tz}(H:Holds w (TzR b t::L)) (h2:t.c+t.x.out.length<=100000000000) (k:∀ w',Same w w'->Holds w' (TzR b { t with c:=t.c+t.x.out.length,x:={ t.x with out:=[] } }::L)->K (.tuple #[]) w'):Cl prog 327 #[pt b] w K:=by
 refine Tz327 ?_;unfold Vz327;obtain⟨bx,H1⟩:=TzR_open H;refine r_dr H1 λw2 S2 H2=>?_;refine r_nc (r_fo0 (r_ld 0 H2 rfl rfl (r_nc (r_fo0 (r_ld 0 H2 rfl rfl (r_nc (r_fo0 (r_ld 0 H2 rfl rfl ?_))))))));refine K24.Waiting_spec H2.swap ?_;refine r_rk (r_ld 0 H2 rfl rfl rfl) (r_rk (r_ld 0 H2 rfl rfl rfl) ?_);refine K24.Take_spec H2.swap (Nat.le_refl _) λw3 S3 H3=>?_;refine r_rk (r_ld 1 H3 rfl rfl rfl) (q_len (Za9 (by omega) ?_));refine r_nc (r_fo0 (r_st 1 H3 rfl (by simp) rfl λw4 S4 H4=>?_));exact k w4 (S2.trans (S3.trans S4)) (TzR_close (t:={ t with c:=t.c+t.x.out.length,x:={ t.x with out:=[] } }) (bx:=bx) H4.swap)
theorem Ztp {t:Tz}{g:Nat}(H:Holds w (TzR b t::L)) (ht:TzOk t g) (hg:g<=1000000000) (k:∀ t' w',t'.x=t.x->TzOk t' g->Same w w'->Holds w' (TzR b t'::L)->K (.tuple #[]) w'):Cl prog 326 #[pt b] w K:=by
 refine Tz326 ?_;unfold Vz326;obtain⟨bx,H1⟩:=TzR_open H;have h2:=ht.c;refine Za1 (λy w'=>w=w'/\∃ c:Bool,y=.bool c) ?_ ?_
 rotate_left
 ·refine r_nc (r_fo0 (r_fo0 (r_ld 0 H1 rfl rfl ?_)));refine K24.Done_spec H1.swap ?_
  cases t.x.dn with
  |false=>exact r_vf (r_ke ⟨rfl,_,rfl⟩)
  |true=>
   refine r_vt (r_nc (r_fo0 (r_fo0 (r_ld 0 H1 rfl rfl ?_))));refine K24.Err_spec H1.swap (r_eql ?_)
   cases (t.x.wr==0) with
   |false=>exact r_vf (r_ke ⟨rfl,_,rfl⟩)
   |true=>exact r_vt (r_nc (r_fo0 (r_ld 0 H1 rfl rfl (r_not (r_ke ⟨rfl,_,rfl⟩)))))
 rintro _ _ _ ⟨rfl,c,rfl⟩
 cases c with
 |false=>exact r_vf (k t w rfl ht (.refl _) H)
 |true=>
  refine r_vt (r_nc (r_fo0 (r_st 0 H1 rfl (by simp) rfl λw2 S2 H2=>?_)));refine r_nc (r_fo0 (r_fo0 (r_ld 0 H2 rfl rfl ?_)));refine Zmv 14 t.c (by decide) (by have:(10:Nat)^(14+1)=1000000000000000:=(by decide);omega) H2 λa w3 ha S3 H3=>?_;refine r_nc (r_fo0 (r_st 0 H3 rfl (by simp) rfl λw4 S4 H4=>?_));exact k { t with ans:=a,told:=true } w4 rfl ⟨ht.x,ht.c,Nat.le_trans ha (by decide),ht.o⟩ (S2.trans (S3.trans S4)) (TzR_close (t:={ t with ans:=a,told:=true }) (bx:=bx) H4)
theorem Step_spec {t:Tz}{g q:Nat}(H:Holds w (TzR b t::L)) (ht:TzOk t g) (hq:q<=1000000) (hg:g<=100000000)
  (k:∀ t' m w',m<=q->TzOk t' (g+m)->t'.x.st=t.x.st+m->SmX t.x t'.x->(m=q\/stpX t'.x=true)->Same w w'->Holds w' (TzR b t'::L)->K (nv m) w'):Cl prog 321 #[pt b,nv q] w K:=by
 refine Tz321 ?_;unfold Vz321;refine Za6 (r_vf ?_);refine Zdo (λj y w'=>∃ m t',j=2*(q - m)+(if stpX t'.x=true then 0 else 1)/\m<=q/\y=nv m/\TzOk t' (g+m)/\t'.x.st=t.x.st+m/\SmX t.x t'.x/\Same w w'/\Holds w' (TzR b t'::L)) (2*q+(if stpX t.x=true then 0 else 1)) ⟨0,t,rfl,hE _,rfl,ht,rfl,.refl _,.refl _,H⟩ ?_;clear H ht;rintro _ j _ w1 _ ⟨m,t1,rfl,hm,rfl,ht1,hst1,hsm,S1,H1⟩ hgo;refine Za1 (λy w'=>∃ c:Bool,y=.bool c/\(c=decide (m < q/\stpX t1.x=false))/\Same w w'/\Holds w' (TzR b t1::L)) ?_ ?_
 rotate_left
 ·refine r_lss (r_ifD (λh=>?_) λh=>?_)
  ·refine Stopped_spec H1 λw2 S2 H2=>r_not (r_ke ⟨!stpX t1.x,rfl,?_,S1.trans S2,H2⟩)
   cases stpX t1.x with
   |true=>rw[decide_eq_false (λe=>by cases e.2)];rfl
   |false=>rw[decide_eq_true ⟨by omega,rfl⟩];rfl
  ·exact r_ke ⟨false,rfl,by rw[decide_eq_false (λe=>h (by omega))],S1,H1⟩
 rintro _ _ w2 ⟨c,rfl,hc,S2,H2⟩
 cases c with
 |false=>
  have hnc:=of_decide_eq_false hc.symm;refine r_vf ?_
  have hfin:m=q\/stpX t1.x=true:=by
   cases hs:stpX t1.x with
   |true=>exact .inr rfl
   |false=>exact .inl (by have:¬ m < q:=λe=>hnc ⟨e,hs⟩;omega)
  refine Ztp H2 ht1 (by omega) λt' w3 h1 h2 S3 H3=>?_;exact k t' m w3 hm h2 (by rw[h1];exact hst1) (by rw[h1];exact hsm) (by rw[h1];exact hfin) (S2.trans S3) H3
 |true=>
  obtain⟨hlt,hst⟩:=of_decide_eq_true hc.symm;obtain⟨bx,H3⟩:=TzR_open H2;refine r_vt (r_nc (r_fo0 (r_fo0 (r_ld 0 H3 rfl rfl (r_sub (by omega) (by omega) ?_)))));rw[show (q:Int) - (m:Int)=((q - m:Nat):Int) by omega];refine K24.Step_spec H3.swap ht1.x (by omega) (by omega) λx' r w3 hr hx' hst' hsm' hou h0 _ S3 H4=>?_;refine Za9 (by omega) ?_;rw[hG_] at hx'
  have hcc:t1.c+x'.out.length<=251*(g+(m+r)):=by
   have h3:=ht1.c;rw[<-hG_ g,Nat.mul_add];omega
  have hj:∀ x2:Xz,(r=0->stpX x2=true)->2*(q - (m+r))+(if stpX x2=true then 0 else 1) < 2*(q - m)+(if stpX t1.x=true then 0 else 1):=by
   intro x2 h2;rw[if_neg (show ¬ stpX t1.x=true by rw[hst];decide)]
   by_cases hr0:r=0
   ·rw[if_pos (h2 hr0),hr0];omega
   ·split <;> omega
  have hs0:∀ x2:Xz,x2.op=x'.op->x2.sh=x'.sh->r=0->stpX x2=true:=by
   intro x2 e1 e2 e4;obtain⟨h5,h6⟩:=h0 e4 hst (by omega);unfold stpX;rw[e1,if_pos h5,e2,h6,Bool.or_true]
  have H5:Holds w3 (TzR b { t1 with x:=x' }::L):=TzR_close (t:={ t1 with x:=x' }) (bx:=bx) H4.swap
  have hst2:x'.st=t.x.st+(m+r):=by rw[hst',hst1,hG_]
  refine Za1 (λy w'=>w3=w'/\∃ c:Bool,y=.bool c/\(c=false->x'.out.length < 4096)) ?_ ?_
  ·rintro _ _ _ ⟨rfl,c,rfl,hc4⟩
   cases c with
   |false=>exact r_vf (r_ke (hgo _ _ _ (hj x' (hs0 x' rfl rfl)) ⟨m+r,{ t1 with x:=x' },rfl,by omega,rfl,⟨hx',hcc,ht1.a,hc4 rfl⟩,hst2,hsm.trans hsm',S2.trans S3,H5⟩))
   |true=>
    refine r_vt (r_nc (r_fo0 ?_));refine Zne H5 (by show t1.c+x'.out.length<=_;omega) λw4 S4 H6=>?_;refine r_ke (hgo _ _ _ (hj { x' with out:=[] } (hs0 _ rfl rfl)) ⟨m+r,{ t1 with c:=t1.c+x'.out.length,x:={ x' with out:=[] } },rfl,by omega,rfl,?_,hst2,⟨hsm'.en.trans hsm.en,hsm'.wn.trans hsm.wn,hsm'.bb.trans hsm.bb,hsm'.un.trans hsm.un⟩,S2.trans (S3.trans S4),H6⟩);exact⟨⟨hx'.wi,hx'.hd,hE _,hx'.od,hx'.os,hx'.st,hx'.hs,hx'.es,hx'.w0,hx'.ct⟩,hcc,ht1.a,by show 0 < 4096;decide⟩
  ·obtain⟨bx2,H6⟩:=TzR_open H5;refine r_nc (r_fo0 (r_fo0 (r_ld 0 H6 rfl rfl ?_)));refine K24.Waiting_spec H6.swap (r_geq (r_ifD (λh=>?_) λh=>?_))
   ·exact r_ke ⟨rfl,true,rfl,λe=>by cases e⟩
   ·refine r_nc (r_fo0 (r_fo0 (r_ld 0 H6 rfl rfl ?_)));refine K24.Done_spec H6.swap (r_ke ⟨rfl,_,rfl,λ_=>?_⟩);show x'.out.length < 4096;have h':¬ ((4096:Int)<=((x'.out.length:Nat):Int)):=h;omega
end K25
namespace U38
open Go.M01 Go.M02 W01 W02
variable {w:World}{L:List HProp}{K:KT}{b:Nat}
theorem room_spec {level unit:Int}(h1:1<=level) (h2:level<=9) (h3:24<=unit) (h4:unit<=100000) (post:∀ r:Nat,5<=r->r<=900000->(r:Int)=level*unit - 19->K (.tuple #[nv r,iv 0]) w) :
  Cl prog 21 #[iv level,iv unit] w K:=by
 refine Tz21 ?_;unfold Vz21;refine Za1 (λx w'=>w=w'/\x=.bool false) ?_ ?_
 ·rintro _ _ _ ⟨rfl,rfl⟩;have h5:1*24<=level*unit:=Int.mul_le_mul h1 h3 (by omega) (by omega);have h6:level*unit<=9*100000:=Int.mul_le_mul h2 h4 (by omega) (by omega);refine r_vf ?_;refine r_mul (by omega) (by omega) ?_;refine r_sub (by omega) (by omega) ?_;have:=post (level*unit - 19).toNat (by omega) (by omega) (by omega);rw[show nv (level*unit - 19).toNat=iv (level*unit - 19) by unfold nv iv;congr 1;omega] at this;exact this
 ·repeat (first|refine r_ke ?_|refine r_lss ?_|refine r_gtr ?_|((with_reducible refine r_vfD ?h ?_);(case h=>omega)))
  exact⟨rfl,by rw[decide_eq_false (by omega)]⟩
abbrev tPress:Nat:=78
abbrev tSplit:Nat:=105
abbrev tSum:Nat:=124
abbrev tPack:Nat:=128
abbrev tStream:Nat:=110
theorem Zmy (H:Holds w L) (post:∀ b w',Same w w'->Holds w' (blk b tSum (tabL.map uv++[uv 4294967295])::L)->K (.pointer (some ⟨b,0,none⟩)) w'):Cl prog 47 #[] w K:=by
 refine Tz47 ?_;unfold Vz47;refine Zhz H λw2 S2 H2=>?_;refine r_bd (v:=.agg (tabL.map uv++[uv 4294967295]).toArray) (by kernel_rfl) ?_;refine r_new H2 λb w3 S3 H3=>?_;exact post b _ (S2.trans S3) H3
theorem Zna (H:Holds w L) (post:∀ b w',Same w w'->Holds w' (blk b tPack [.int .u8 0,nv 0]::L)->K (.pointer (some ⟨b,0,none⟩)) w'):Cl prog 48 #[] w K:=by
 refine Tz48 ?_;unfold Vz48;refine r_bd (v:=.agg #[.int .u8 0,nv 0]) (by kernel_rfl) ?_;refine r_new H λb w3 S3 H3=>?_;exact post b _ S3 H3
def SplR0 (b:Nat) (room:Nat):HProp:=λh=>∃ b1 b2,Sat [blk b tSplit [.slice none 0 0,.pointer (some ⟨b1,0,none⟩),nv 0,nv room,.pointer (some ⟨b2,0,none⟩)],blk b1 tSum (tabL.map uv++[uv 4294967295]),blk b2 tPack [.int .u8 0,nv 0]] h
theorem Zqv {r:Nat}(H:Holds w (SplR0 b r::L)):∃ b1 b2,Holds w (blk b tSplit [.slice none 0 0,.pointer (some ⟨b1,0,none⟩),nv 0,nv r,.pointer (some ⟨b2,0,none⟩)]::blk b1 tSum (tabL.map uv++[uv 4294967295])::blk b2 tPack [.int .u8 0,nv 0]::L):=by
 obtain⟨b1,H⟩:=Holds.ex H;obtain⟨b2,H⟩:=Holds.ex H;exact⟨b1,b2,Holds.unpack H⟩
theorem Zml {r b1 b2:Nat}(H:Holds w (blk b tSplit [.slice none 0 0,.pointer (some ⟨b1,0,none⟩),nv 0,nv r,.pointer (some ⟨b2,0,none⟩)]::blk b1 tSum (tabL.map uv++[uv 4294967295])::blk b2 tPack [.int .u8 0,nv 0]::L)):Holds w (SplR0 b r::L):=
 Holds.imp (Holds.pack (A:=[_,_,_]) H) λh hh=>⟨b1,b2,hh⟩
theorem Zjv {r:Nat}(H:Holds w L) (h1:5<=r) (h2:r<=900000) (post:∀ b w',Same w w'->Holds w' (SplR0 b r::L)->K (.tuple #[.pointer (some ⟨b,0,none⟩),iv 0]) w') :
  Cl prog 38 #[nv r] w K:=by
 refine Tz38 ?_;unfold Vz38;refine Za1 (λx w'=>w=w'/\x=.bool false) ?_ ?_
 ·rintro _ _ _ ⟨rfl,rfl⟩;refine r_vf ?_;refine Zmy H λb1 w1 S1 H1=>?_;refine r_bd (v:=.agg #[.slice none 0 0,.pointer (some ⟨b1,0,none⟩),nv 0]) (by kernel_rfl) ?_;refine Zna H1 λb2 w2 S2 H2=>?_;refine r_bd (v:=.agg #[.slice none 0 0,.pointer (some ⟨b1,0,none⟩),nv 0,nv r,.pointer (some ⟨b2,0,none⟩)]) (by kernel_rfl) ?_;refine r_new H2 λb w3 S3 H3=>?_;replace H3:Holds w3 (blk b tSplit [.slice none 0 0,.pointer (some ⟨b1,0,none⟩),nv 0,nv r,.pointer (some ⟨b2,0,none⟩)]::blk b2 tPack [.int .u8 0,nv 0]::blk b1 tSum (tabL.map uv++[uv 4294967295])::L):=H3;exact post b _ ((S1.trans S2).trans S3) (Zml ((H3.front 2 rfl).swap))
 ·repeat (first|refine r_ke ?_|refine r_lss ?_|refine r_gtr ?_|((with_reducible refine r_vfD ?h ?_);(case h=>omega)))
  exact⟨rfl,by rw[decide_eq_false (by omega)]⟩
def bzh:ByteArray:=⟨#[66,90,104]⟩
def hdB:Nat->List Bool
 |0=>[]
 |i+1=>hdB i++bitsOf (bzh.data.toList.getD i 0).toNat 8
theorem Zn9:∀ i,(hdB i).length=8*i
 |0=>rfl
 |i+1=>by rw[hdB,gD,Zn9 i,Za5];omega
def headB (level:Nat):List Bool:=hdB 3++bitsOf (48+level) 8
theorem headB_len (l:Nat):(headB l).length=32:=by rw[headB,gD,Zn9,Za5]
theorem Zht {level:Nat}(H:Holds w L) (h1:1<=level) (h2:level<=9) (post:∀ b bw w',Same w w'->Holds w' (blk b tStream [.pointer (some ⟨bw,0,none⟩),.int .u32 0,.bool false]::WrR bw (headB level) 0::L)->K (.tuple #[.pointer (some ⟨b,0,none⟩),iv 0]) w') :
  Cl prog 39 #[nv level] w K:=by
 refine Tz39 ?_;unfold Vz39;refine Za1 (λx w'=>w=w'/\x=.bool false) ?_ ?_
 ·rintro _ _ _ ⟨rfl,rfl⟩;refine r_vf ?_;refine Ze2 H λbw w1 S1 H1=>?_;refine r_bd (v:=.agg #[.pointer (some ⟨bw,0,none⟩),.int .u32 0,.bool false]) (by kernel_rfl) ?_;refine r_new H1 λb w2 S2 H2=>?_;replace H2:Holds w2 (blk b tStream [.pointer (some ⟨bw,0,none⟩),.int .u32 0,.bool false]::WrR bw (hdB 0) 0::L):=H2;refine Za7 (λx w'=>∃ i:Nat,i<=3/\x=nv i/\Same w w'/\Holds w' (blk b tStream [.pointer (some ⟨bw,0,none⟩),.int .u32 0,.bool false]::WrR bw (hdB i) 0::L)) (λx _=>3 - (intOf x).toNat) ⟨0,by omega,rfl,S1.trans S2,H2⟩ ?_;clear H H1 H2 S1 S2;rintro _ _ w3 ⟨i,hi,rfl,S,H⟩;have hhl:=Zn9 i
  repeat (refine r_lss ?_)
  refine r_ifD (λh=>?_) λh=>?_
  ·have hsz:bzh.size=3:=rfl;have hby:(bzh.data.toList.getD i 0).toNat < 256:=UInt8.toNat_lt _
   repeat (first|refine Zcb (s:=bzh) (by omega) ?_|refine r_nc ?_|refine r_fo0 ?_|(refine Zb4 (by omega) (by omega) ?_)|(refine r_dr H ?_;clear H;intro _ S_ H;replace S:=S.trans S_;clear S_)|refine r_ld 0 H rfl rfl ?_)
   refine Put_spec (n:=8) H.swap (by omega) (by omega) (by omega) (by omega) λw4 S4 H4=>?_
   repeat (first|refine r_ke ?_|(refine Za0 (by omega) ?_))
   refine⟨⟨i+1,by omega,rfl,S.trans S4,H4.swap⟩,?_⟩;simp[nv,intOf];omega
  ·obtain rfl:i=3:=by omega
   repeat (first|refine r_nc ?_|refine r_fo0 ?_|(refine Zb4 (by omega) (by omega) ?_)|(refine r_add (by omega) (by omega) ?_)|refine r_ld 0 H rfl rfl ?_)
   rw[show (48:Int)+(level:Int)=((48+level:Nat):Int) by omega];refine Put_spec (n:=8) H.swap (by omega) (by omega) (by omega) (by omega) λw4 S4 H4=>?_;exact post b bw _ (S.trans S4) H4.swap
 ·repeat (first|refine r_ke ?_|refine r_lss ?_|refine r_gtr ?_|((with_reducible refine r_vfD ?h ?_);(case h=>omega)))
  exact⟨rfl,by rw[decide_eq_false (by omega)]⟩
theorem Zhh {bw k:Nat}{bs:List Bool}{r:List Value}(H:Holds w (blk b tStream (.pointer (some ⟨bw,0,none⟩)::r)::WrR bw bs k::L))
  (post:∀ w',Same w w'->Holds w' (blk b tStream (.pointer (some ⟨bw,0,none⟩)::r)::WrR bw bs (bs.length/8)::L)->K (.string ⟨((wholeB bs).drop k).toArray⟩) w') :
  Cl prog 40 #[.pointer (some ⟨b,0,none⟩)] w K:=by
 refine Tz40 ?_;unfold Vz40
 repeat (first|refine r_nc ?_|refine r_fo0 ?_|(with_reducible first|refine Za6 ?_|refine r_vf ?_)|refine r_ld 0 H rfl rfl ?_)
 refine W01.Take_spec H.swap λw2 S2 H2=>?_;exact post _ S2 H2.swap
def PrR0 (b:Nat) (window room level:Nat) (inp:ByteArray):HProp:=λh=>∃ bs bt bw,Sat [blk b tPress [nv window,.string inp,.bool false,.pointer (some ⟨bs,0,none⟩),.bool false,.slice none 0 0,.pointer none,nv 0,.pointer (some ⟨bt,0,none⟩),.string ⟨(wholeB (headB level)).toArray⟩,.bool false,nv 0],
 SplR0 bs room,blk bt tStream [.pointer (some ⟨bw,0,none⟩),.int .u32 0,.bool false],WrR bw (headB level) 4] h
theorem Zsi {window room level:Nat}{inp:ByteArray}(H:Holds w (PrR0 b window room level inp::L)):∃ bs bt bw,Holds w (blk b tPress [nv window,.string inp,.bool false,.pointer (some ⟨bs,0,none⟩),.bool false,.slice none 0 0,.pointer none,nv 0,.pointer (some ⟨bt,0,none⟩),.string ⟨(wholeB (headB level)).toArray⟩,.bool false,nv 0] ::
 SplR0 bs room::blk bt tStream [.pointer (some ⟨bw,0,none⟩),.int .u32 0,.bool false]::WrR bw (headB level) 4::L):=by
 obtain⟨bs,H⟩:=Holds.ex H;obtain⟨bt,H⟩:=Holds.ex H;obtain⟨bw,H⟩:=Holds.ex H;exact⟨bs,bt,bw,Holds.unpack H⟩
theorem Zq6 {window room level bs bt bw:Nat}{inp:ByteArray}(H:Holds w (blk b tPress [nv window,.string inp,.bool false,.pointer (some ⟨bs,0,none⟩),.bool false,.slice none 0 0,.pointer none,nv 0,.pointer (some ⟨bt,0,none⟩),.string ⟨(wholeB (headB level)).toArray⟩,.bool false,nv 0] ::
 SplR0 bs room::blk bt tStream [.pointer (some ⟨bw,0,none⟩),.int .u32 0,.bool false]::WrR bw (headB level) 4::L)):Holds w (PrR0 b window room level inp::L):=
 Holds.imp (Holds.pack (A:=[_,_,_,_]) H) λh hh=>⟨bs,bt,bw,hh⟩
theorem Zkc {level unit window:Nat}(H:Holds w L) (h1:1<=level) (h2:level<=9) (h3:24<=unit) (h4:unit<=100000) (h5:64<=window) (h6:window<=1048576)
  (post:∀ b w',Same w w'->Holds w' (PrR0 b window (level*unit - 19) level ⟨#[]⟩::L)->K (.tuple #[.pointer (some ⟨b,0,none⟩),iv 0]) w') :
  Cl prog 30 #[nv level,nv unit,nv window] w K:=by
 refine Tz30 ?_;unfold Vz30;refine room_spec (by omega) (by omega) (by omega) (by omega) λr g1 g2 g3=>?_
 have hr:r=level*unit - 19:=by
  have:((level*unit:Nat):Int)=(level:Int)*(unit:Int):=by simp
  omega
 repeat (first|(with_reducible first|refine Za3 ?_|refine Za4 ?_))
 refine Za1 (λx w'=>w=w'/\x=.bool false) ?_ ?_
 ·rintro _ _ _ ⟨rfl,rfl⟩;refine r_vf ?_;refine Zjv H g1 g2 λbs w1 S1 H1=>?_
  repeat (first|(with_reducible first|refine Za3 ?_|refine Za4 ?_))
  refine Zht H1 h1 h2 λbt bw w2 S2 H2=>?_
  repeat (first|(with_reducible first|refine Za3 ?_|refine Za4 ?_))
  refine Zhh H2 λw3 S3 H3=>?_;rw[headB_len,List.drop_zero] at *;refine r_bd (v:=.agg #[nv window,.string ⟨#[]⟩,.bool false,.pointer (some ⟨bs,0,none⟩),.bool false,.slice none 0 0,.pointer none,nv 0,.pointer (some ⟨bt,0,none⟩),.string ⟨(wholeB (headB level)).toArray⟩,.bool false,nv 0]) (by kernel_rfl) ?_;refine r_new H3 λb w4 S4 H4=>?_;replace H4:Holds w4 (blk b tPress [nv window,.string ⟨#[]⟩,.bool false,.pointer (some ⟨bs,0,none⟩),.bool false,.slice none 0 0,.pointer none,nv 0,.pointer (some ⟨bt,0,none⟩),.string ⟨(wholeB (headB level)).toArray⟩,.bool false,nv 0]::blk bt tStream [.pointer (some ⟨bw,0,none⟩),.int .u32 0,.bool false]::WrR bw (headB level) 4::SplR0 bs r::L):=H4;rw[hr] at H4;exact post b _ (((S1.trans S2).trans S3).trans S4) (Zq6 ((H4.front 3 rfl).swap))
 ·repeat (first|refine r_neq ?_|((with_reducible refine r_vfN ?h ?_);(case h=>omega)))
  refine Tz37 ?_;unfold Vz37
  repeat (first|refine r_ke ?_|refine r_leq ?_|refine r_geq ?_|refine r_not ?_|((with_reducible refine r_vtD ?h ?_);(case h=>omega)))
  exact⟨rfl,by rw[decide_eq_true (by omega)];rfl⟩
end U38
namespace K45
open Go.M01 Go.Mb Go.M02 Go.M03 P20
variable {w:World}{L:List HProp}{K:KT}{b j:Nat}
abbrev tPp:Nat:=57
abbrev tXp:Nat:=60
abbrev tTp:Nat:=63
abbrev tJob:Nat:=51
def e1 (e:Bool):Nat:=if e=true then 1 else 0
theorem e1_le (e:Bool):e1 e<=1:=by unfold e1;split <;> omega
def sl (z:P23.Pz):Bool:=P23.wrt z||decide (z.bls=[]/\z.inp=[])
structure PP (z:P23.Pz) (g f n r:Nat) (e:Bool):Prop where
 ok:P23.PzOk z g
 ef:P23.Ef z
 sg:z.st=g
 fd:P23.fed z=f
 fn:f<=n
 nn:n<=150
 en:z.en=e
 ee:e=true->f=n
 wn:z.win=64
 rm:z.room=r
def PA (b n r i f:Nat) (e:Bool):HProp:=λh=>∃ (z:P23.Pz) (g F:Nat),(PP z g f n r e/\z.dn=false/\F*100000<=g/\i<=F+P23.Wr z+f+e1 e+e1 (sl z)/\(z.out=[]\/i=0))/\P23.PzR b z h
def PB (b n r i f:Nat) (e:Bool):HProp:=λh=>∃ (z:P23.Pz) (g F:Nat),(PP z g f n r e/\z.dn=false/\F*100000<=g/\(i<=F+P23.Wr z+f+e1 e\/(i<=F+P23.Wr z+f+e1 e+1/\P23.wrt z=true/\z.out=[])\/(i<=F+P23.Wr z+f+e1 e+1/\f=n/\e=false)))/\P23.PzR b z h
def PC (b n r i f:Nat) (e:Bool):HProp:=λh=>∃ (z:P23.Pz) (g F:Nat),(PP z g f n r e/\F*100000<=g/\(z.dn=false->i+1<=F+P23.Wr z+f+e1 e+e1 (sl z)))/\P23.PzR b z h
def PD (b N:Nat):HProp:=λh=>∃ z:P23.Pz,(z.dn=true/\z.out=[]/\z.st<=N)/\P23.PzR b z h
theorem Zn1 {n r i f:Nat}{e:Bool}(H:Holds w (PA b n r i f e::L)):∃ (z:P23.Pz) (g F:Nat),PP z g f n r e/\z.dn=false/\F*100000<=g/\i<=F+P23.Wr z+f+e1 e+e1 (sl z)/\(z.out=[]\/i=0)/\Holds w (P23.PzR b z::L):=by
 obtain⟨z,H⟩:=Holds.ex H;obtain⟨g,H⟩:=Holds.ex H;obtain⟨F,H⟩:=Holds.ex H;obtain⟨h,H⟩:=Holds.pure H;exact⟨z,g,F,h.1,h.2.1,h.2.2.1,h.2.2.2.1,h.2.2.2.2,H⟩
theorem Zv0 {n r i f:Nat}{e:Bool}(H:Holds w (PB b n r i f e::L)):∃ (z:P23.Pz) (g F:Nat),PP z g f n r e/\z.dn=false/\F*100000<=g/\(i<=F+P23.Wr z+f+e1 e\/(i<=F+P23.Wr z+f+e1 e+1/\P23.wrt z=true/\z.out=[])\/(i<=F+P23.Wr z+f+e1 e+1/\f=n/\e=false))/\Holds w (P23.PzR b z::L):=by
 obtain⟨z,H⟩:=Holds.ex H;obtain⟨g,H⟩:=Holds.ex H;obtain⟨F,H⟩:=Holds.ex H;obtain⟨h,H⟩:=Holds.pure H;exact⟨z,g,F,h.1,h.2.1,h.2.2.1,h.2.2.2,H⟩
theorem Zyd {n r i f:Nat}{e:Bool}(H:Holds w (PC b n r i f e::L)):∃ (z:P23.Pz) (g F:Nat),PP z g f n r e/\F*100000<=g/\(z.dn=false->i+1<=F+P23.Wr z+f+e1 e+e1 (sl z))/\Holds w (P23.PzR b z::L):=by
 obtain⟨z,H⟩:=Holds.ex H;obtain⟨g,H⟩:=Holds.ex H;obtain⟨F,H⟩:=Holds.ex H;obtain⟨h,H⟩:=Holds.pure H;exact⟨z,g,F,h.1,h.2.1,h.2.2,H⟩
theorem Zms {N:Nat}(H:Holds w (PD b N::L)):∃ z:P23.Pz,z.dn=true/\z.out=[]/\z.st<=N/\Holds w (P23.PzR b z::L):=by
 obtain⟨z,H⟩:=Holds.ex H;obtain⟨h,H⟩:=Holds.pure H;exact⟨z,h.1,h.2.1,h.2.2,H⟩
theorem PP.le {z:P23.Pz}{g f n r:Nat}{e:Bool}(hp:PP z g f n r e) (H1:Holds w (P23.PzR b z::L)):g<=120000000/\z.cnt<=64:=by
 have hk:=P23.cnt_le H1 hp.ok;have hgs:=hp.ok.gs;have hck:=hp.ok.ck;have hfd:=hp.fd;unfold P23.fed at hfd;have hfn:=hp.fn;have hnn:=hp.nn;have hrm:=hp.ok.rm;have h3:z.k*6<=z.k*(z.room+1):=Nat.mul_le_mul_left _ (by omega)
 have h4:(if z.fl=true then 1 else 0)<=1:=by split <;> omega
 have h8:(if z.dn=true then 1 else 0)<=1:=by split <;> omega
 have hms:=Kp.Zfd hrm.2
 have hMM:P23.MM z.room<=1686000:=by unfold P23.MM;omega
 have hcm:z.cnt*P23.MM z.room<=64*1686000:=Nat.mul_le_mul (by omega) hMM
 have hcp:P23.cur z+z.paid<=1700000:=by
  cases ht:z.tu with
  |none=>
   have hcu:P23.cur z=0:=by unfold P23.cur;rw[ht]
   have hpd:z.paid<=3000:=by
    by_cases hb:z.bls=[]
    ·rw[hp.ok.p0 hb];omega
    ·have:=P23.Zi8 hp.ok hb;omega
   omega
  |some t=>
   have hb:=hp.ok.tn (by rw[ht];simp);have h5:=P23.Zi8 hp.ok hb;obtain⟨sp,bv,tb,wt,wb,H2⟩:=P23.Zdt ht H1;have h6:=S17.Zxf (by have h_:=Holds.front H2 5 rfl;exact h_);have h7:=Kp.Zfd h5.2.1
   have hcu:P23.cur z=t.cnt:=by unfold P23.cur;rw[ht]
   omega
 omega
theorem PFeed {n r i f:Nat}{e:Bool}{s:List UInt8}(H:Holds w (PA b n r i f e::L)) (hs:s.length+f=n) (k:∀ m w',m<=s.length->Same w w'->Holds w' (PB b n r i (f+m) e::L)->K (nv m) w'):Cl prog 81 #[pt b,S_ s] w K:=by
 obtain⟨z,g,F,hp,hd,hF,hi,ho,H1⟩:=Zn1 H;have hnn:=hp.nn;refine P23.Feed_spec H1 hp.ok (by omega) λm z' w2 hm hz' hok S2 H2=>?_;have hen:=hp.en;have hwn:=hp.wn
 have hml:m<=s.length:=by
  rw[hm];split
  ·exact hE _
  ·exact Nat.min_le_left _ _
 have hfd:P23.fed z'=f+m:=by
  have:=hp.fd;rw[hz'];unfold P23.fed at this ⊢;show z.c+(z.inp++s.take m).length=_;rw[gD,gN,Nat.min_eq_left hml];omega
 have hWr:P23.Wr z'=P23.Wr z:=by rw[hz'];rfl
 have hwr:P23.wrt z'=P23.wrt z:=by rw[hz'];rfl
 have hout:z'.out=z.out:=by rw[hz']
 have hef:P23.Ef z':=by
  rw[hz'];intro q1 q2;have q1':z.en=true:=q1;have:z.inp=[]:=(List.append_eq_nil_iff.1 q2).1;exact hp.ef q1' this
 have hm0:e=true->m=0:=λq=>by rw[hm,if_pos (by rw[hen];exact q)]
 refine k m w2 hml S2 (Holds.imp H2 λ_ hh=>⟨z',g,F,⟨⟨hok,hef,by rw[hz'];exact hp.sg,hfd,by omega,hp.nn,by rw[hz'];exact hen,λq=>by rw[hm0 q,hp.ee q];rfl,by rw[hz'];exact hwn,by rw[hz'];exact hp.rm⟩,by rw[hz'];exact hd,hF,?_⟩,hh⟩);rw[hWr,hwr,hout];rcases Nat.eq_zero_or_pos i with h0|h0
 ·exact .inl (by omega)
 have ho':z.out=[]:=by
  rcases ho with h|h
  ·exact h
  ·omega
 cases hsl:sl z with
 |false=>
  rw[hsl] at hi;exact .inl (by show i<=_;have:e1 false=0:=rfl;omega)
 |true=>
  rw[hsl] at hi;have he1:e1 true=1:=rfl
  cases hw:P23.wrt z with
  |true=>exact .inr (.inl ⟨by omega,rfl,ho'⟩)
  |false=>
   unfold sl at hsl;rw[hw,Bool.false_or] at hsl;obtain⟨q1,q2⟩:=of_decide_eq_true hsl
   have hfl:z.fl=false:=by
    unfold P23.wrt at hw;rw[if_pos q1] at hw;exact hw
   cases he:e with
   |true=>
    have:=hp.ef (hen.trans he) q2;rw[this] at hfl;cases hfl
   |false=>
    rw[he] at hi;rw[hen,he,if_neg (by decide),hwn,q2,length_nil] at hm;rcases Nat.eq_zero_or_pos s.length with q|q
    ·exact .inr (.inr ⟨by omega,by omega,rfl⟩)
    ·exact .inl (by omega)
theorem PEnd {n r i:Nat}{e:Bool}(H:Holds w (PB b n r i n e::L)) (k:∀ v w',Same w w'->Holds w' (PB b n r i n true::L)->K v w'):Cl prog 80 #[pt b] w K:=by
 obtain⟨z,g,F,hp,hd,hF,hi,H1⟩:=Zv0 H;refine P23.End_spec H1 hp.ok hp.ef λv z' w2 hok hef hen hsame _ hk S2 H2=>?_
 have hWr:P23.Wr z'=P23.Wr z:=by
  unfold P23.Wr;rw[hk.2.2.2.2.2.2.1,hk.2.1]
 have he1:e1 true=1:=rfl;have he0:e1 false=0:=rfl;refine k v w2 S2 (Holds.imp H2 λ_ hh=>⟨z',g,F,⟨⟨hok,hef,hk.2.2.1.trans hp.sg,hk.2.2.2.1.trans hp.fd,hp.fn,hp.nn,hen,λ_=>rfl,hk.2.2.2.2.2.1.trans hp.wn,hk.2.2.2.2.1.trans hp.rm⟩,hk.2.1.trans hd,hF,?_⟩,hh⟩);rw[hWr]
 cases he:e with
 |true=>
  have hz:=hsame (hp.en.trans he);rw[he] at hi;rcases hi with h|⟨h,q1,q2⟩|⟨_,_,q⟩
  ·exact .inl h
  ·exact .inr (.inl ⟨h,by rw[hz];exact q1,by rw[hz];exact q2⟩)
  ·cases q
 |false=>
  rw[he] at hi;refine .inl ?_
  rcases hi with h|⟨h,_⟩|⟨h,_⟩ <;> omega
theorem PStep [T12.Bnds] {n r i f:Nat}{e:Bool}(hB:T12.BndOk L) (H:Holds w (PB b n r i f e::L)) (hfe:f=n->e=true) (k:∀ v w',Same w w'->Holds w' (PC b n r i f e::L)->K v w'):Cl prog 83 #[pt b,nv 100000] w K:=by
 obtain⟨z,g,F,hp,hd,hF,hi,H1⟩:=Zv0 H;have hfd:=hp.fd;have hfn:=hp.fn;have hnn:=hp.nn;refine P23.Step_spec H1 hp.ok hp.ef hB (by omega) (by omega) (by have:=(hp.le H1).1;omega) λz' m w2 hm hok hef hst hfd' hrm hwn hen hW hW2 hstop S2 H2=>?_;have hpp:PP z' (g+m) f n r e:=⟨hok,hef,by rw[hst,hp.sg],hfd'.trans hfd,hfn,hnn,hen.trans hp.en,hp.ee,hwn.trans hp.wn,hrm.trans hp.rm⟩
 have hi2:i<=F+P23.Wr z'+f+e1 e:=by
  rcases hi with h|⟨h,q1,q2⟩|⟨_,q1,q2⟩
  ·omega
  ·have hs:P23.stp z=false:=by
    unfold P23.stp;rw[hd,if_pos q1,q2];rfl
   have:=hW2 q1 hs (by omega);omega
  ·rw[hfe q1] at q2;cases q2
 rcases hstop with hs|hs
 ·have hF2:(F+1)*100000<=g+m:=by
   rw[hs,Nat.add_mul,Nat.one_mul];exact Nat.add_le_add_right hF _
  have hi3:i+1<=F+1+P23.Wr z'+f+e1 e+e1 (sl z'):=by
   clear hs hF2;omega
  exact k _ w2 S2 (Holds.imp H2 λ_ hh=>⟨z',g+m,F+1,⟨hpp,hF2,λ_=>hi3⟩,hh⟩)
 ·refine k _ w2 S2 (Holds.imp H2 λ_ hh=>⟨z',_,F,⟨hpp,by omega,λhd'=>?_⟩,hh⟩)
  have hsl:sl z'=true:=by
   unfold P23.stp at hs;rw[hd',Bool.false_or] at hs;unfold sl
   cases hw:P23.wrt z' with
   |true=>rfl
   |false=>
    rw[if_neg (by rw[hw];decide)] at hs;rw[hs];rfl
  rw[hsl];show i+1<=_+1;omega
theorem PTake {n r i f:Nat}{e:Bool}(H:Holds w (PC b n r i f e::L)) (k:∀ v w',Same w w'->(Holds w' (PA b n r (i+1) f e::L)\/Holds w' (PD b (Kp.NC r n)::L))->K v w'):Cl prog 86 #[pt b,nv 100000] w K:=by
 obtain⟨z,g,F,hp,hF,hi,H1⟩:=Zyd H;have hou:=hp.ok.ou;have hk:=P23.cnt_le H1 hp.ok;refine P23.Take_spec H1 (by omega) (by omega) λw2 S2 H2=>?_;refine k _ w2 S2 ?_;have hok:P23.PzOk { z with out:=[] } g:=⟨hp.ok.wi,hp.ok.ip,hp.ok.rm,hp.ok.bl,hp.ok.ln,hp.ok.tn,hp.ok.pd,hp.ok.p0,hp.ok.tt,hp.ok.bi,hp.ok.tk,hp.ok.fe,hp.ok.db,hE _,hp.ok.ck,hp.ok.gl,hp.ok.gs⟩
 cases hd:z.dn with
 |false=>exact .inl (Holds.imp H2 λ_ hh=>⟨{ z with out:=[] },g,F,⟨⟨hok,hp.ef,hp.sg,hp.fd,hp.fn,hp.nn,hp.en,hp.ee,hp.wn,hp.rm⟩,hd,hF,hi hd,.inl rfl⟩,hh⟩)
 |true=>
  refine .inr (Holds.imp H2 λ_ hh=>⟨{ z with out:=[] },⟨hd,rfl,?_⟩,hh⟩);obtain⟨hfl,hb⟩:=hp.ok.db hd;have hgs:=hp.ok.gs;have hck:=hp.ok.ck;have hp0:=hp.ok.p0 hb
  have ht:z.tu=none:=by
   cases ht:z.tu with
   |none=>rfl
   |some t=>exact absurd hb (hp.ok.tn (by rw[ht];simp))
  have hcu:P23.cur z=0:=by unfold P23.cur;rw[ht]
  have hfd:=hp.fd;unfold P23.fed at hfd;have hfn:=hp.fn;rw[hb,length_nil,if_pos hfl] at hck;rw[hd,if_pos rfl,hcu,hp0] at hgs;rw[hp.rm] at hk hgs
  have hkk:z.k<=5*n/(2*(r+1)):=by
   rw[Nat.le_div_iff_mul_le (by omega)]
   have:z.k*(2*(r+1))=2*(z.k*(r+1)):=by rw[Nat.mul_left_comm]
   omega
  have hmm:z.cnt*P23.MM r<=(5*n/(2*(r+1))+1)*(M45.mostS r+r+r):=Nat.mul_le_mul (by omega) (Nat.le_refl _);show z.st<=Kp.NC r n;rw[hp.sg];unfold Kp.NC;omega
theorem PBound {n r i f:Nat}{e:Bool}(H:Holds w (PA b n r i f e::L)):i<=19000:=by
 obtain⟨z,g,F,hp,hd,hF,hi,_,H1⟩:=Zn1 H;obtain⟨h1,h2⟩:=hp.le H1;have hfn:=hp.fn;have hnn:=hp.nn
 have hW:P23.Wr z=z.cnt:=by unfold P23.Wr;rw[hd];rfl
 have q1:=e1_le e;have q2:=e1_le (sl z);omega
open K24
structure XP (x:Xz) (g f n u:Nat) (e:Bool):Prop where
 ok:XzOk x g
 sg:x.st=g
 fd:x.B.length=f
 fn:f<=n
 nn:n<=150
 en:x.en=e
 ee:e=true->f=n
 wn:x.win=64
 un:x.u.unit=u
 u2:u<=200
theorem XP.le {x:Xz}{g f n u:Nat}{e:Bool}(h:XP x g f n u e):g<=Kp.NE u n:=by
 obtain⟨i,m,_,c2,c3,c4⟩:=h.ok.ct;have hfd:=h.fd;have hfn:=h.fn
 have h1:(if x.dn=true then 1 else 0)<=1:=by split <;> omega
 rw[h.un] at c3 c4
 have hm:m<=n/20:=by omega
 have h2:36*u*m<=36*u*(n/20):=Nat.mul_le_mul_left _ hm
 have h3:9*u*m+27*u*m=36*u*m:=by rw[<-Nat.add_mul];congr 1;omega
 unfold Kp.NE;omega
def xA (i F f:Nat) (e sh:Bool):Prop:=i<=F+f+e1 e+e1 sh
def xB (i F f n:Nat) (e:Bool):Prop:=i<=F+f+e1 e\/(i<=F+f+e1 e+1/\f=n/\e=false)
theorem XP.feed {x:Xz}{g f n u i F m:Nat}{e sh:Bool}{s:List UInt8}(hp:XP x g f n u e) (hd:x.dn=false) (hs:s.length+f=n) (hm:m=(if (x.en||x.dn)=true then 0 else min s.length (x.win - (x.B.length - x.d)))) (hok:XzOk { x with B:=x.B++s.take m,sh:=sh } g) (hi:xA i F f e x.sh) :
  m<=s.length/\XP { x with B:=x.B++s.take m,sh:=sh } g (f+m) n u e/\xB i F (f+m) n e:=by
 have hwn:=hp.wn;have hen:=hp.en
 have hml:m<=s.length:=by
  rw[hm];split
  ·exact hE _
  ·exact Nat.min_le_left _ _
 have hm0:e=true->m=0:=λq=>by rw[hm,if_pos (by rw[hen,q];rfl)]
 have hfd:=hp.fd;refine⟨hml,⟨hok,hp.sg,by show (x.B++s.take m).length=_;rw[gD,gN,Nat.min_eq_left hml,hfd],by omega,hp.nn,hen,λq=>by rw[hm0 q,hp.ee q];rfl,hwn,hp.un,hp.u2⟩,?_⟩;unfold xA at hi;unfold xB
 cases hsh:x.sh with
 |false=>
  rw[hsh] at hi;exact .inl (by have:e1 false=0:=rfl;omega)
 |true=>
  rw[hsh] at hi;have he1:e1 true=1:=rfl;have hh:=hp.ok.hs hsh
  cases he:e with
  |true=>
   have:=hp.ok.es (hen.trans he);rw[hsh] at this;cases this
  |false=>
   rw[he] at hi;rw[hen,he,hd,if_neg (by decide),hwn] at hm;rcases Nat.eq_zero_or_pos s.length with q|q
   ·exact .inr ⟨by omega,by omega,rfl⟩
   ·exact .inl (by omega)
theorem xB.ended {i F n:Nat}{e:Bool}(h:xB i F n n e):xB i F n n true:=by
 unfold xB at h ⊢;have he1:e1 true=1:=rfl;have he0:e1 false=0:=rfl
 cases e with
 |true=>exact h
 |false=>
  refine .inl ?_
  rcases h with h|⟨h,_⟩ <;> omega
theorem XP.bound {x:Xz}{g f n u i F:Nat}{e:Bool}(hp:XP x g f n u e) (hF:F*16<=g) (hi:xA i F f e x.sh):i<=19000:=by
 have h1:=hp.le;have hu:=hp.u2;have hn:=hp.nn;have hfn:=hp.fn;have h2:36*u*(n/20)<=7200*7:=Nat.mul_le_mul (by omega) (by omega);unfold Kp.NE at h1;unfold xA at hi;have q1:=e1_le e;have q2:=e1_le x.sh;omega
def XA (b n u i f:Nat) (e:Bool):HProp:=λh=>∃ (x:Xz) (g F:Nat),(XP x g f n u e/\x.dn=false/\F*16<=g/\xA i F f e x.sh/\x.out=[])/\XzR b x h
def XB (b n u i f:Nat) (e:Bool):HProp:=λh=>∃ (x:Xz) (g F:Nat),(XP x g f n u e/\x.dn=false/\F*16<=g/\xB i F f n e/\x.out=[])/\XzR b x h
def XC (b n u i f:Nat) (e:Bool):HProp:=λh=>∃ (x:Xz) (g F:Nat),(XP x g f n u e/\F*16<=g/\(x.dn=false->xA (i+1) F f e x.sh))/\XzR b x h
def XD (b N:Nat):HProp:=λh=>∃ x:Xz,(x.dn=true/\(x.wr≠0\/x.out=[])/\x.st<=N)/\XzR b x h
theorem Znb {n u i f:Nat}{e:Bool}(H:Holds w (XA b n u i f e::L)):∃ (x:Xz) (g F:Nat),XP x g f n u e/\x.dn=false/\F*16<=g/\xA i F f e x.sh/\x.out=[]/\Holds w (XzR b x::L):=by
 obtain⟨x,H⟩:=Holds.ex H;obtain⟨g,H⟩:=Holds.ex H;obtain⟨F,H⟩:=Holds.ex H;obtain⟨h,H⟩:=Holds.pure H;exact⟨x,g,F,h.1,h.2.1,h.2.2.1,h.2.2.2.1,h.2.2.2.2,H⟩
theorem Zrn {n u i f:Nat}{e:Bool}(H:Holds w (XB b n u i f e::L)):∃ (x:Xz) (g F:Nat),XP x g f n u e/\x.dn=false/\F*16<=g/\xB i F f n e/\x.out=[]/\Holds w (XzR b x::L):=by
 obtain⟨x,H⟩:=Holds.ex H;obtain⟨g,H⟩:=Holds.ex H;obtain⟨F,H⟩:=Holds.ex H;obtain⟨h,H⟩:=Holds.pure H;exact⟨x,g,F,h.1,h.2.1,h.2.2.1,h.2.2.2.1,h.2.2.2.2,H⟩
theorem Zyf {n u i f:Nat}{e:Bool}(H:Holds w (XC b n u i f e::L)):∃ (x:Xz) (g F:Nat),XP x g f n u e/\F*16<=g/\(x.dn=false->xA (i+1) F f e x.sh)/\Holds w (XzR b x::L):=by
 obtain⟨x,H⟩:=Holds.ex H;obtain⟨g,H⟩:=Holds.ex H;obtain⟨F,H⟩:=Holds.ex H;obtain⟨h,H⟩:=Holds.pure H;exact⟨x,g,F,h.1,h.2.1,h.2.2,H⟩
theorem Znj {N:Nat}(H:Holds w (XD b N::L)):∃ x:Xz,x.dn=true/\(x.wr≠0\/x.out=[])/\x.st<=N/\Holds w (XzR b x::L):=by
 obtain⟨x,H⟩:=Holds.ex H;obtain⟨h,H⟩:=Holds.pure H;exact⟨x,h.1,h.2.1,h.2.2,H⟩
theorem XFeed {n u i f:Nat}{e:Bool}{s:List UInt8}(H:Holds w (XA b n u i f e::L)) (hs:s.length+f=n) (k:∀ m w',m<=s.length->Same w w'->Holds w' (XB b n u i (f+m) e::L)->K (nv m) w'):Cl prog 231 #[pt b,S_ s] w K:=by
 obtain⟨x,g,F,hp,hd,hF,hi,ho,H1⟩:=Znb H;have hnn:=hp.nn;have hfd:=hp.fd;refine K24.Feed_spec H1 hp.ok (by omega) (by omega) λm sh w2 hm _ _ hok S2 H2=>?_;obtain⟨h1,h2,h3⟩:=hp.feed hd hs hm hok hi;exact k m w2 h1 S2 (Holds.imp H2 λ_ hh=>⟨_,g,F,⟨h2,hd,hF,h3,ho⟩,hh⟩)
theorem XEnd {n u i:Nat}{e:Bool}(H:Holds w (XB b n u i n e::L)) (k:∀ v w',Same w w'->Holds w' (XB b n u i n true::L)->K v w'):Cl prog 229 #[pt b] w K:=by
 obtain⟨x,g,F,hp,hd,hF,hi,ho,H1⟩:=Zrn H;refine K24.End_spec H1 hp.ok λv sh w2 _ _ hok S2 H2=>?_;exact k v w2 S2 (Holds.imp H2 λ_ hh=>⟨_,g,F,⟨⟨hok,hp.sg,hp.fd,hp.fn,hp.nn,rfl,λ_=>rfl,hp.wn,hp.un,hp.u2⟩,hd,hF,hi.ended,ho⟩,hh⟩)
theorem XStep {n u i f:Nat}{e:Bool}(H:Holds w (XB b n u i f e::L)) (hfe:f=n->e=true) (k:∀ v w',Same w w'->Holds w' (XC b n u i f e::L)->K v w'):Cl prog 233 #[pt b,nv 100000] w K:=by
 obtain⟨x,g,F,hp,hd,hF,hi,ho,H1⟩:=Zrn H;have hle:=hp.le;have hu:=hp.u2;have hn:=hp.nn;have h2:36*u*(n/20)<=7200*7:=Nat.mul_le_mul (by omega) (by omega);unfold Kp.NE at hle;refine K24.Step_spec H1 hp.ok (by omega) (by omega) λx' m w2 hm hok hst hsm hou _ hstop S2 H2=>?_;have hpp:XP x' (g+m) f n u e:=⟨hok,by rw[hst,hp.sg],by rw[hsm.bb];exact hp.fd,hp.fn,hn,hsm.en.trans hp.en,hp.ee,hsm.wn.trans hp.wn,hsm.un.trans hp.un,hu⟩
 have hi2:i<=F+f+e1 e:=by
  rcases hi with h|⟨_,q1,q2⟩
  ·exact h
  ·rw[hfe q1] at q2;cases q2
 rw[ho,length_nil] at hou;refine k _ w2 S2 ?_
 by_cases hm16:16<=m
 ·exact Holds.imp H2 λ_ hh=>⟨x',_,F+1,⟨hpp,by omega,λ_=>by unfold xA;omega⟩,hh⟩
 ·refine Holds.imp H2 λ_ hh=>⟨x',_,F,⟨hpp,by omega,λhd'=>?_⟩,hh⟩;rcases hstop with h|h
  ·omega
  ·unfold stpX at h;rw[hd',Bool.false_or] at h
   by_cases hop:x'.op=none
   ·rw[if_pos hop] at h;unfold xA;rw[h];have he1:e1 true=1:=rfl;omega
   ·rw[if_neg hop] at h;have:=of_decide_eq_true h;omega
open K25
def TA (b n u i f:Nat) (e:Bool):HProp:=λh=>∃ (t:Tz) (g F:Nat),(TzOk t g/\XP t.x g f n u e/\t.x.dn=false/\F*16<=g/\xA i F f e t.x.sh)/\TzR b t h
def TB (b n u i f:Nat) (e:Bool):HProp:=λh=>∃ (t:Tz) (g F:Nat),(TzOk t g/\XP t.x g f n u e/\t.x.dn=false/\F*16<=g/\xB i F f n e)/\TzR b t h
def TC (b n u i f:Nat) (e:Bool):HProp:=λh=>∃ (t:Tz) (g F:Nat),(TzOk t g/\XP t.x g f n u e/\F*16<=g/\(t.x.dn=false->xA (i+1) F f e t.x.sh))/\TzR b t h
def TD (b N:Nat):HProp:=λh=>∃ t:Tz,(t.x.dn=true/\(t.x.wr≠0\/t.ans=[])/\t.x.st<=N)/\TzR b t h
theorem Zn5 {n u i f:Nat}{e:Bool}(H:Holds w (TA b n u i f e::L)):∃ (t:Tz) (g F:Nat),TzOk t g/\XP t.x g f n u e/\t.x.dn=false/\F*16<=g/\xA i F f e t.x.sh/\Holds w (TzR b t::L):=by
 obtain⟨x,H⟩:=Holds.ex H;obtain⟨g,H⟩:=Holds.ex H;obtain⟨F,H⟩:=Holds.ex H;obtain⟨h,H⟩:=Holds.pure H;exact⟨x,g,F,h.1,h.2.1,h.2.2.1,h.2.2.2.1,h.2.2.2.2,H⟩
theorem Zrl {n u i f:Nat}{e:Bool}(H:Holds w (TB b n u i f e::L)):∃ (t:Tz) (g F:Nat),TzOk t g/\XP t.x g f n u e/\t.x.dn=false/\F*16<=g/\xB i F f n e/\Holds w (TzR b t::L):=by
 obtain⟨x,H⟩:=Holds.ex H;obtain⟨g,H⟩:=Holds.ex H;obtain⟨F,H⟩:=Holds.ex H;obtain⟨h,H⟩:=Holds.pure H;exact⟨x,g,F,h.1,h.2.1,h.2.2.1,h.2.2.2.1,h.2.2.2.2,H⟩
theorem Zzb {n u i f:Nat}{e:Bool}(H:Holds w (TC b n u i f e::L)):∃ (t:Tz) (g F:Nat),TzOk t g/\XP t.x g f n u e/\F*16<=g/\(t.x.dn=false->xA (i+1) F f e t.x.sh)/\Holds w (TzR b t::L):=by
 obtain⟨x,H⟩:=Holds.ex H;obtain⟨g,H⟩:=Holds.ex H;obtain⟨F,H⟩:=Holds.ex H;obtain⟨h,H⟩:=Holds.pure H;exact⟨x,g,F,h.1,h.2.1,h.2.2.1,h.2.2.2,H⟩
theorem Zn8 {N:Nat}(H:Holds w (TD b N::L)):∃ t:Tz,t.x.dn=true/\(t.x.wr≠0\/t.ans=[])/\t.x.st<=N/\Holds w (TzR b t::L):=by
 obtain⟨x,H⟩:=Holds.ex H;obtain⟨h,H⟩:=Holds.pure H;exact⟨x,h.1,h.2.1,h.2.2,H⟩
theorem TFeed {n u i f:Nat}{e:Bool}{s:List UInt8}(H:Holds w (TA b n u i f e::L)) (hs:s.length+f=n) (k:∀ m w',m<=s.length->Same w w'->Holds w' (TB b n u i (f+m) e::L)->K (nv m) w'):Cl prog 319 #[pt b,S_ s] w K:=by
 obtain⟨t,g,F,ht,hp,hd,hF,hi,H1⟩:=Zn5 H;have hnn:=hp.nn;have hfd:=hp.fd;refine K25.Feed_spec H1 ht (by omega) (by omega) λm sh w2 hm _ _ hok S2 H2=>?_;obtain⟨h1,h2,h3⟩:=hp.feed hd hs hm hok.x hi;exact k m w2 h1 S2 (Holds.imp H2 λ_ hh=>⟨_,g,F,⟨hok,h2,hd,hF,h3⟩,hh⟩)
theorem TEnd {n u i:Nat}{e:Bool}(H:Holds w (TB b n u i n e::L)) (k:∀ v w',Same w w'->Holds w' (TB b n u i n true::L)->K v w'):Cl prog 317 #[pt b] w K:=by
 obtain⟨t,g,F,ht,hp,hd,hF,hi,H1⟩:=Zrl H;refine K25.End_spec H1 ht λv sh w2 _ _ hok S2 H2=>?_;exact k v w2 S2 (Holds.imp H2 λ_ hh=>⟨_,g,F,⟨hok,⟨hok.x,hp.sg,hp.fd,hp.fn,hp.nn,rfl,λ_=>rfl,hp.wn,hp.un,hp.u2⟩,hd,hF,hi.ended⟩,hh⟩)
theorem TStep {n u i f:Nat}{e:Bool}(H:Holds w (TB b n u i f e::L)) (hfe:f=n->e=true) (k:∀ v w',Same w w'->Holds w' (TC b n u i f e::L)->K v w'):Cl prog 321 #[pt b,nv 100000] w K:=by
 obtain⟨t,g,F,ht,hp,hd,hF,hi,H1⟩:=Zrl H;have hle:=hp.le;have hu:=hp.u2;have hn:=hp.nn;have h2:36*u*(n/20)<=7200*7:=Nat.mul_le_mul (by omega) (by omega);unfold Kp.NE at hle;refine K25.Step_spec H1 ht (by omega) (by omega) λt' m w2 hm hok hst hsm hstop S2 H2=>?_;have hpp:XP t'.x (g+m) f n u e:=⟨hok.x,by rw[hst,hp.sg],by rw[hsm.bb];exact hp.fd,hp.fn,hn,hsm.en.trans hp.en,hp.ee,hsm.wn.trans hp.wn,hsm.un.trans hp.un,hu⟩
 have hi2:i<=F+f+e1 e:=by
  rcases hi with h|⟨_,q1,q2⟩
  ·exact h
  ·rw[hfe q1] at q2;cases q2
 refine k _ w2 S2 ?_
 by_cases hm16:16<=m
 ·exact Holds.imp H2 λ_ hh=>⟨t',_,F+1,⟨hok,hpp,by omega,λ_=>by unfold xA;omega⟩,hh⟩
 ·refine Holds.imp H2 λ_ hh=>⟨t',_,F,⟨hok,hpp,by omega,λhd'=>?_⟩,hh⟩;rcases hstop with h|h
  ·omega
  ·have ho:=hok.o;unfold stpX at h;rw[hd',Bool.false_or] at h
   by_cases hop:t'.x.op=none
   ·rw[if_pos hop] at h;unfold xA;rw[h];have he1:e1 true=1:=rfl;omega
   ·rw[if_neg hop] at h;have:=of_decide_eq_true h;omega
end K45
namespace K45
open Go.M01 Go.Mb Go.M02 Go.M03 P20
variable {w:World}{L:List HProp}{K:KT}{b j k n p i f N:Nat}{e:Bool}
def tM (k:Nat):Nat:=if k=1 then tPp else if k=2 then tXp else tTp
def Kd (k:Nat):Prop:=k=1\/k=2\/k=3
def Jb (k j:Nat) (X:Nat->HProp):HProp:=λh=>∃ bm,Sat [blk j tJob [nv k,.iface (tM k) (pt bm)],X bm] h
theorem Zbp {X:Nat->HProp}(H:Holds w (Jb k j X::L)):∃ bm,Holds w (X bm::blk j tJob [nv k,.iface (tM k) (pt bm)]::L):=by
 obtain⟨bm,H⟩:=Holds.ex H;exact⟨bm,(Holds.unpack (A:=[_,_]) H).swap⟩
theorem Zac {X:Nat->HProp}{bm:Nat}(H:Holds w (X bm::blk j tJob [nv k,.iface (tM k) (pt bm)]::L)):Holds w (Jb k j X::L):=
 Holds.imp (Holds.pack (A:=[_,_]) H.swap) λh hh=>⟨bm,hh⟩
def MA (k n p i f:Nat) (e:Bool) (b:Nat):HProp:=if k=1 then PA b n p i f e else if k=2 then XA b n p i f e else TA b n p i f e
def MB (k n p i f:Nat) (e:Bool) (b:Nat):HProp:=if k=1 then PB b n p i f e else if k=2 then XB b n p i f e else TB b n p i f e
def MC (k n p i f:Nat) (e:Bool) (b:Nat):HProp:=if k=1 then PC b n p i f e else if k=2 then XC b n p i f e else TC b n p i f e
def NN (k n p:Nat):Nat:=if k=1 then Kp.NC p n else Kp.NE p n
def MD (k n p b:Nat):HProp:=if k=1 then PD b (NN k n p) else if k=2 then XD b (NN k n p) else TD b (NN k n p)
theorem JDoneA (hk:Kd k) (H:Holds w (Jb k j (MA k n p i f e)::L)) (post:K (.bool false) w):Cl prog 18 #[pt j] w K:=by
 refine Tz18 ?_;unfold Vz18;obtain⟨bm,H0⟩:=Zbp H;refine Zao (r_vt (r_nc (r_fo0 (r_ld 1 H0 rfl rfl ?_))));rcases hk with rfl|rfl|rfl
 ·refine r_inv (f:=79) (args:=#[pt bm]) (by kernel_rfl) ?_;obtain⟨z,g,F,hp,hd,_,_,_,H1⟩:=Zn1 H0;refine P23.Done_spec H1 ?_;rw[hd];exact post
 ·refine r_inv (f:=228) (args:=#[pt bm]) (by kernel_rfl) ?_;obtain⟨x,g,F,hp,hd,_,_,_,H1⟩:=Znb H0;refine K24.Done_spec H1 ?_;rw[hd];exact post
 ·refine r_inv (f:=316) (args:=#[pt bm]) (by kernel_rfl) ?_;obtain⟨t,g,F,ht,hp,hd,_,_,H1⟩:=Zn5 H0;refine K25.Done_spec H1 ?_;rw[hd];exact post
theorem JDoneD (hk:Kd k) (H:Holds w (Jb k j (MD k n p)::L)) (post:K (.bool true) w):Cl prog 18 #[pt j] w K:=by
 refine Tz18 ?_;unfold Vz18;obtain⟨bm,H0⟩:=Zbp H;refine Zao (r_vt (r_nc (r_fo0 (r_ld 1 H0 rfl rfl ?_))));rcases hk with rfl|rfl|rfl
 ·refine r_inv (f:=79) (args:=#[pt bm]) (by kernel_rfl) ?_;obtain⟨z,hd,_,_,H1⟩:=Zms H0;refine P23.Done_spec H1 ?_;rw[hd];exact post
 ·refine r_inv (f:=228) (args:=#[pt bm]) (by kernel_rfl) ?_;obtain⟨x,hd,_,_,H1⟩:=Znj H0;refine K24.Done_spec H1 ?_;rw[hd];exact post
 ·refine r_inv (f:=316) (args:=#[pt bm]) (by kernel_rfl) ?_;obtain⟨t,hd,_,_,H1⟩:=Zn8 H0;refine K25.Done_spec H1 ?_;rw[hd];exact post
theorem JFinA (hk:Kd k) (H:Holds w (Jb k j (MA k n p i f e)::L)) (post:K (.bool false) w):Cl prog 7 #[pt j] w K:=by
 refine Tz7 ?_;unfold Vz7;exact JDoneA hk H (r_vf post)
theorem JErr1 {X:Nat->HProp}(H:Holds w (Jb 1 j X::L)) (post:K (.bool false) w):Cl prog 20 #[pt j] w K:=by
 refine Tz20 ?_;unfold Vz20;refine Tz33 ?_;unfold Vz33;obtain⟨bm,H0⟩:=Zbp H;refine Za6 (r_vf (r_nc (r_fo0 (r_ld 1 H0 rfl rfl ?_))));refine Ya5 (z:=.nilIface) (i:=t57) underlying94 (by kernel_rfl) (by decide +kernel) (λw=>by kernel_rfl) ?_;exact Za3 (Za4 (r_vf (r_neq post)))
theorem JErr2 {x:K24.Xz}(H:Holds w (Jb 2 j (λb=>K24.XzR b x)::L)) (post:K (.bool (x.wr != 0)) w):Cl prog 20 #[pt j] w K:=by
 refine Tz20 ?_;unfold Vz20;refine Tz33 ?_;unfold Vz33;obtain⟨bm,H0⟩:=Zbp H;refine Za6 (r_vf (r_nc (r_fo0 (r_ld 1 H0 rfl rfl ?_))));refine r_ta (.tuple #[.iface tXp (pt bm),.bool true]) (by kernel_rfl) ?_;refine Za3 (Za4 (r_vt ?_));refine r_inv (f:=230) (args:=#[pt bm]) (by kernel_rfl) ?_;exact K24.Err_spec H0 (r_neq post)
theorem JErr3 {t:K25.Tz}(H:Holds w (Jb 3 j (λb=>K25.TzR b t)::L)) (post:K (.bool (t.x.wr != 0)) w):Cl prog 20 #[pt j] w K:=by
 refine Tz20 ?_;unfold Vz20;refine Tz33 ?_;unfold Vz33;obtain⟨bm,H0⟩:=Zbp H;refine Za6 (r_vf (r_nc (r_fo0 (r_ld 1 H0 rfl rfl ?_))));refine r_ta (.tuple #[.iface tTp (pt bm),.bool true]) (by kernel_rfl) ?_;refine Za3 (Za4 (r_vt ?_));refine r_inv (f:=318) (args:=#[pt bm]) (by kernel_rfl) ?_;exact K25.Err_spec H0 (r_neq post)
theorem JFinD (hk:Kd k) (H:Holds w (Jb k j (MD k n p)::L)) (post:K (.bool true) w):Cl prog 7 #[pt j] w K:=by
 refine Tz7 ?_;unfold Vz7;refine JDoneD hk H (r_vt ?_);refine Tz19 ?_;unfold Vz19;obtain⟨bm,H0⟩:=Zbp H;rcases hk with rfl|rfl|rfl
 ·obtain⟨z,hd,ho,_,H1⟩:=Zms H0;have H2:Holds w (Jb 1 j (λb=>P23.PzR b z)::L):=Zac (X:=λb=>P23.PzR b z) H1;refine Za1 (λx w'=>w=w'/\x=.bool false) ?_ ?_
  rotate_left
  ·exact Za6 (r_vf (JErr1 H2 (r_ke ⟨rfl,rfl⟩)))
  rintro _ _ _ ⟨rfl,rfl⟩;refine r_vf (r_nc (r_fo0 (r_ld 1 H1 rfl rfl ?_)));refine r_inv (f:=87) (args:=#[pt bm]) (by kernel_rfl) ?_;refine P23.Waiting_spec H1 ?_;rw[ho];exact r_eql post
 ·obtain⟨x,hd,ho,_,H1⟩:=Znj H0;have H2:Holds w (Jb 2 j (λb=>K24.XzR b x)::L):=Zac (X:=λb=>K24.XzR b x) H1;refine Za1 (λy w'=>w=w'/\y=.bool (x.wr != 0)) ?_ ?_
  rotate_left
  ·exact Za6 (r_vf (JErr2 H2 (r_ke ⟨rfl,rfl⟩)))
  rintro _ _ _ ⟨rfl,rfl⟩
  cases hw:(x.wr != 0) with
  |true=>exact r_vt (r_eql post)
  |false=>
   refine r_vf (r_nc (r_fo0 (r_ld 1 H1 rfl rfl ?_)));refine r_inv (f:=237) (args:=#[pt bm]) (by kernel_rfl) ?_;refine K24.Waiting_spec H1 ?_
   have ho':x.out=[]:=by
    rcases ho with h|h
    ·rw[bne_eq_false_iff_eq] at hw;exact absurd hw h
    ·exact h
   rw[ho'];exact r_eql post
 ·obtain⟨t,hd,ho,_,H1⟩:=Zn8 H0;have H2:Holds w (Jb 3 j (λb=>K25.TzR b t)::L):=Zac (X:=λb=>K25.TzR b t) H1;refine Za1 (λy w'=>w=w'/\y=.bool (t.x.wr != 0)) ?_ ?_
  rotate_left
  ·exact Za6 (r_vf (JErr3 H2 (r_ke ⟨rfl,rfl⟩)))
  rintro _ _ _ ⟨rfl,rfl⟩
  cases hw:(t.x.wr != 0) with
  |true=>exact r_vt (r_eql post)
  |false=>
   refine r_vf (r_nc (r_fo0 (r_ld 1 H1 rfl rfl ?_)));refine r_inv (f:=325) (args:=#[pt bm]) (by kernel_rfl) ?_;refine K25.Waiting_spec H1 ?_
   have ho':t.ans=[]:=by
    rcases ho with h|h
    ·rw[bne_eq_false_iff_eq] at hw;exact absurd hw h
    ·exact h
   rw[ho'];exact r_eql post
theorem JStepsD (hk:Kd k) (H:Holds w (Jb k j (MD k n p)::L)) (post:∀ st,st<=NN k n p->K (nv st) w):Cl prog 13 #[pt j] w K:=by
 refine Tz13 ?_;unfold Vz13;obtain⟨bm,H0⟩:=Zbp H;refine Za6 (r_vf (r_nc (r_fo0 (r_ld 1 H0 rfl rfl ?_))));rcases hk with rfl|rfl|rfl
 ·refine r_inv (f:=84) (args:=#[pt bm]) (by kernel_rfl) ?_;obtain⟨z,_,_,hs,H1⟩:=Zms H0;exact P23.Steps_spec H1 (post _ hs)
 ·refine r_inv (f:=234) (args:=#[pt bm]) (by kernel_rfl) ?_;obtain⟨x,_,_,hs,H1⟩:=Znj H0;exact K24.Steps_spec H1 (post _ hs)
 ·refine r_inv (f:=322) (args:=#[pt bm]) (by kernel_rfl) ?_;obtain⟨t,_,_,hs,H1⟩:=Zn8 H0;exact K25.Steps_spec H1 (post _ hs)
theorem JFeed {s:List UInt8}(hk:Kd k) (H:Holds w (Jb k j (MA k n p i f e)::L)) (hs:s.length+f=n) (post:∀ m w',m<=s.length->Same w w'->Holds w' (Jb k j (MB k n p i (f+m) e)::L)->K (nv m) w'):Cl prog 8 #[pt j,S_ s] w K:=by
 refine Tz8 ?_;unfold Vz8;refine Za1 (λx w'=>w=w'/\x=.bool false) ?_ ?_
 rotate_left
 ·exact Za6 (r_vf (JDoneA hk H (r_ke ⟨rfl,rfl⟩)))
 rintro _ _ _ ⟨rfl,rfl⟩;obtain⟨bm,H0⟩:=Zbp H;refine r_vf (r_nc (r_fo0 (r_ld 1 H0 rfl rfl ?_)));rcases hk with rfl|rfl|rfl
 ·refine r_inv (f:=81) (args:=#[pt bm,S_ s]) (by kernel_rfl) ?_;exact PFeed H0 hs λm w2 hm S2 H2=>post m w2 hm S2 (Zac (X:=MB 1 n p i (f+m) e) H2)
 ·refine r_inv (f:=231) (args:=#[pt bm,S_ s]) (by kernel_rfl) ?_;exact XFeed H0 hs λm w2 hm S2 H2=>post m w2 hm S2 (Zac (X:=MB 2 n p i (f+m) e) H2)
 ·refine r_inv (f:=319) (args:=#[pt bm,S_ s]) (by kernel_rfl) ?_;exact TFeed H0 hs λm w2 hm S2 H2=>post m w2 hm S2 (Zac (X:=MB 3 n p i (f+m) e) H2)
theorem JEnd (hk:Kd k) (H:Holds w (Jb k j (MB k n p i n e)::L)) (post:∀ v w',Same w w'->Holds w' (Jb k j (MB k n p i n true)::L)->K v w'):Cl prog 9 #[pt j] w K:=by
 refine Tz9 ?_;unfold Vz9;obtain⟨bm,H0⟩:=Zbp H;refine Za6 (r_vf (r_nc (r_fo0 (r_ld 1 H0 rfl rfl ?_))));rcases hk with rfl|rfl|rfl
 ·refine r_inv (f:=80) (args:=#[pt bm]) (by kernel_rfl) ?_;exact PEnd H0 λv w2 S2 H2=>post v w2 S2 (Zac (X:=MB 1 n p i n true) H2)
 ·refine r_inv (f:=229) (args:=#[pt bm]) (by kernel_rfl) ?_;exact XEnd H0 λv w2 S2 H2=>post v w2 S2 (Zac (X:=MB 2 n p i n true) H2)
 ·refine r_inv (f:=317) (args:=#[pt bm]) (by kernel_rfl) ?_;exact TEnd H0 λv w2 S2 H2=>post v w2 S2 (Zac (X:=MB 3 n p i n true) H2)
theorem JBound (hk:Kd k) (H:Holds w (Jb k j (MA k n p i f e)::L)):i<=19000:=by
 obtain⟨bm,H0⟩:=Zbp H;rcases hk with rfl|rfl|rfl
 ·exact PBound H0
 ·obtain⟨x,g,F,hp,hd,hF,hi,_,H1⟩:=Znb H0;exact hp.bound hF hi
 ·obtain⟨t,g,F,ht,hp,hd,hF,hi,H1⟩:=Zn5 H0;exact hp.bound hF hi
theorem JStep [T12.Bnds] (hk:Kd k) (hB:T12.BndOk L) (H:Holds w (Jb k j (MB k n p i f e)::L)) (hfe:f=n->e=true) (post:∀ v w',Same w w'->Holds w' (Jb k j (MC k n p i f e)::L)->K v w'):Cl prog 10 #[pt j,nv 100000] w K:=by
 refine Tz10 ?_;unfold Vz10;obtain⟨bm,H0⟩:=Zbp H;refine Za6 (r_vf (r_nc (r_fo0 (r_ld 1 H0 rfl rfl ?_))));rcases hk with rfl|rfl|rfl
 ·refine r_inv (f:=83) (args:=#[pt bm,nv 100000]) (by kernel_rfl) ?_;exact PStep hB.up H0 hfe λv w2 S2 H2=>post v w2 S2 (Zac (X:=MC 1 n p i f e) H2)
 ·refine r_inv (f:=233) (args:=#[pt bm,nv 100000]) (by kernel_rfl) ?_;exact XStep H0 hfe λv w2 S2 H2=>post v w2 S2 (Zac (X:=MC 2 n p i f e) H2)
 ·refine r_inv (f:=321) (args:=#[pt bm,nv 100000]) (by kernel_rfl) ?_;exact TStep H0 hfe λv w2 S2 H2=>post v w2 S2 (Zac (X:=MC 3 n p i f e) H2)
theorem JTake (hk:Kd k) (H:Holds w (Jb k j (MC k n p i f e)::L)) (post:∀ v w',Same w w'->(Holds w' (Jb k j (MA k n p (i+1) f e)::L)\/Holds w' (Jb k j (MD k n p)::L))->K v w'):Cl prog 11 #[pt j,nv 100000] w K:=by
 refine Tz11 ?_;unfold Vz11;obtain⟨bm,H0⟩:=Zbp H;rcases hk with rfl|rfl|rfl
 ·refine Za1 (λx w'=>w=w'/\x=.bool false) ?_ ?_
  rotate_left
  ·exact Za6 (r_vf (JErr1 H (r_ke ⟨rfl,rfl⟩)))
  rintro _ _ _ ⟨rfl,rfl⟩;refine r_vf (r_nc (r_fo0 (r_ld 1 H0 rfl rfl ?_)));refine r_inv (f:=86) (args:=#[pt bm,nv 100000]) (by kernel_rfl) ?_;refine PTake H0 λv w2 S2 h=>post v w2 S2 ?_;rcases h with h|h
  ·exact .inl (Zac (X:=MA 1 n p (i+1) f e) h)
  ·exact .inr (Zac (X:=MD 1 n p) h)
 ·obtain⟨x,g,FF,hp,hF,hi,H1⟩:=Zyf H0;have H2:Holds w (Jb 2 j (λb=>K24.XzR b x)::L):=Zac (X:=λb=>K24.XzR b x) H1
  have hsN:x.st<=NN 2 n p:=by rw[hp.sg];exact hp.le
  refine Za1 (λy w'=>w=w'/\y=.bool (x.wr != 0)) ?_ ?_
  rotate_left
  ·exact Za6 (r_vf (JErr2 H2 (r_ke ⟨rfl,rfl⟩)))
  rintro _ _ _ ⟨rfl,rfl⟩
  cases hw:(x.wr != 0) with
  |true=>
   have hw':x.wr≠0:=by simpa using hw
   have hd:x.dn=true:=by
    cases hd:x.dn with
    |true=>rfl
    |false=>exact absurd (hp.ok.w0 hd) hw'
   exact r_vt (post _ w (.refl _) (.inr (Zac (X:=MD 2 n p) (Holds.imp H1 λ_ hh=>⟨x,⟨hd,.inl hw',hsN⟩,hh⟩))))
  |false=>
   have hou:=hp.ok.ou;refine r_vf (r_nc (r_fo0 (r_ld 1 H1 rfl rfl ?_)));refine r_inv (f:=236) (args:=#[pt bm,nv 100000]) (by kernel_rfl) ?_;refine K24.Take_spec H1 (by omega) λw2 S2 H3=>?_;refine post _ w2 S2 ?_
   cases hd:x.dn with
   |true=>exact .inr (Zac (X:=MD 2 n p) (Holds.imp H3 λ_ hh=>⟨{ x with out:=[] },⟨hd,.inr rfl,hsN⟩,hh⟩))
   |false=>
    refine .inl (Zac (X:=MA 2 n p (i+1) f e) (Holds.imp H3 λ_ hh=>⟨{ x with out:=[] },g,FF,⟨⟨⟨hp.ok.wi,hp.ok.hd,hE _,hp.ok.od,hp.ok.os,hp.ok.st,hp.ok.hs,hp.ok.es,hp.ok.w0,hp.ok.ct⟩,hp.sg,hp.fd,hp.fn,hp.nn,hp.en,hp.ee,hp.wn,hp.un,hp.u2⟩,hd,hF,hi hd,rfl⟩,hh⟩))
 ·obtain⟨t,g,FF,ht,hp,hF,hi,H1⟩:=Zzb H0;have H2:Holds w (Jb 3 j (λb=>K25.TzR b t)::L):=Zac (X:=λb=>K25.TzR b t) H1
  have hsN:t.x.st<=NN 3 n p:=by rw[hp.sg];exact hp.le
  refine Za1 (λy w'=>w=w'/\y=.bool (t.x.wr != 0)) ?_ ?_
  rotate_left
  ·exact Za6 (r_vf (JErr3 H2 (r_ke ⟨rfl,rfl⟩)))
  rintro _ _ _ ⟨rfl,rfl⟩
  cases hw:(t.x.wr != 0) with
  |true=>
   have hw':t.x.wr≠0:=by simpa using hw
   have hd:t.x.dn=true:=by
    cases hd:t.x.dn with
    |true=>rfl
    |false=>exact absurd (hp.ok.w0 hd) hw'
   exact r_vt (post _ w (.refl _) (.inr (Zac (X:=MD 3 n p) (Holds.imp H1 λ_ hh=>⟨t,⟨hd,.inl hw',hsN⟩,hh⟩))))
  |false=>
   have hou:=ht.a;refine r_vf (r_nc (r_fo0 (r_ld 1 H1 rfl rfl ?_)));refine r_inv (f:=324) (args:=#[pt bm,nv 100000]) (by kernel_rfl) ?_;refine K25.Take_spec H1 (by omega) (by omega) λw2 S2 H3=>?_;refine post _ w2 S2 ?_
   cases hd:t.x.dn with
   |true=>exact .inr (Zac (X:=MD 3 n p) (Holds.imp H3 λ_ hh=>⟨{ t with ans:=[] },⟨hd,.inr rfl,hsN⟩,hh⟩))
   |false=>exact .inl (Zac (X:=MA 3 n p (i+1) f e) (Holds.imp H3 λ_ hh=>⟨{ t with ans:=[] },g,FF,⟨⟨ht.x,ht.c,hE _,ht.o⟩,hp,hd,hF,hi hd⟩,hh⟩))
theorem Zsl {lv unit:Nat}(H:Holds w L) (hn:n<=150) (h1:1<=lv) (h2:lv<=9) (h3:24<=unit) (h4:unit<=200)
  (post:∀ b w',Same w w'->Holds w' (PA b n (lv*unit - 19) 0 0 false::L)->K (.tuple #[pt b,iv 0]) w'):Cl prog 30 #[nv lv,nv unit,nv 64] w K:=by
 refine U38.Zkc H h1 h2 h3 (by omega) (by decide) (by decide) λb w1 S1 H1=>?_;obtain⟨bs,bt,bw,H2⟩:=U38.Zsi H1;obtain⟨b1,b2,H3⟩:=U38.Zqv (Holds.front H2 1 rfl);have hm1:1*24<=lv*unit:=Nat.mul_le_mul h1 h3;have hm2:lv*unit<=9*200:=Nat.mul_le_mul h2 h4
 have H4:Holds w1 (R3b.SumR b1 (crcF 4294967295 [])::blk bs tSp (spC (.slice none 0 0) b1 0 (lv*unit - 19) b2)::blk b2 tPk (Fpc (0,0))::(blk b P23.tPr (P23.cellsPz ⟨64,[],false,lv*unit - 19,false,[],none,0,0,U38.headB lv,4,wholeB (U38.headB lv),false,0,0,0,0⟩ bs (.slice none 0 0) (.pointer none) bt)::blk bt P23.tSt (P23.stC bw 0 false)::W01.WrR bw (U38.headB lv) 4::L)):=
  R3b.Zdx (by decide) (by have h_:=Holds.ord 6 [1,0,2,3,4,5] H3 rfl;exact h_)
 have H5:Holds w1 (SpL bs (.slice none 0 0) b1 b2 (lv*unit - 19) [] [] (0,0) (blk b P23.tPr (P23.cellsPz ⟨64,[],false,lv*unit - 19,false,[],none,0,0,U38.headB lv,4,wholeB (U38.headB lv),false,0,0,0,0⟩ bs (.slice none 0 0) (.pointer none) bt)::blk bt P23.tSt (P23.stC bw 0 false)::W01.WrR bw (U38.headB lv) 4::L)):=by
  have h_:=Holds.ord 4 [2,0,1,3] (H4.nilSL bv tB) rfl;exact h_
 have H6:=Zch (kk:=0) (c:=0) (x:=(0,0)) ⟨hE _,hE _,by decide,0,by show 0*_+0<=2*0;omega,by decide⟩ H5;have H7:=H6.nilRO Fsb 3 tSb;have hl8:(U38.headB lv).length=32:=U38.headB_len _
 have hz:P23.PzOk ⟨64,[],false,lv*unit - 19,false,[],none,0,0,U38.headB lv,4,wholeB (U38.headB lv),false,0,0,0,0⟩ 0:=by
  refine⟨by show 64<=1048576;decide,hE _,⟨by show 5<=lv*unit - 19;omega,by show lv*unit - 19<=3000;omega⟩,(λx hx=>by cases hx),⟨hE _,λ_=>hE _⟩,(λh=>absurd rfl h),(λx r h=>by cases h),λ_=>rfl,by show 0 < 4294967296;decide,?_,?_,(λh=>by cases h),(λh=>by cases h),?_,hE _,hE _,hE _⟩
  ·show (U38.headB lv).length<=1000+300000*0+0;omega
  ·show 4=(U38.headB lv).length/8;omega
  ·show (wholeB (U38.headB lv)).length<=40000;rw[Zcv];omega
 refine post b w1 S1 (Holds.imp (P23.Zco (z:=⟨64,[],false,lv*unit - 19,false,[],none,0,0,U38.headB lv,4,wholeB (U38.headB lv),false,0,0,0,0⟩) (sp:=bs) (bv:=.slice none 0 0) (wt:=bt) (wb:=bw) rfl ?_) λ_ hh=>⟨_,0,0,⟨⟨hz,(λq=>by cases q),rfl,rfl,hE _,hn,rfl,(λq=>by cases q),rfl,rfl⟩,rfl,hE _,hE _,.inr rfl⟩,hh⟩);have h_:=Holds.ord 5 [2,1,0,3,4] H7 rfl;exact h_
theorem Zlt {unit:Nat}(H:Holds w L) (hn:n<=150) (h3:24<=unit) (h4:unit<=200)
  (post:∀ b x w',XP x 0 0 n unit false->x.dn=false->x.out=[]->Same w w'->Holds w' (K24.XzR b x::L)->K (.tuple #[pt b,iv 0]) w'):Cl prog 31 #[nv unit,nv 64,iv 4096] w K:=by
 refine Tz31 ?_;unfold Vz31;refine U22.New_spec H h3 (by omega) λub w1 S1 H1=>?_;refine Za3 (Za4 ?_);refine Za1 (λx w'=>w1=w'/\x=.bool false) ?_ ?_
 rotate_left
 ·repeat (first|refine r_neq ?_|((with_reducible refine r_vfN ?h ?_);(case h=>omega)))
  refine Tz42 ?_;unfold Vz42
  repeat (first|refine r_ke ?_|refine r_leq ?_|refine r_geq ?_|refine r_not ?_|((with_reducible refine r_vtD ?h ?_);(case h=>omega)))
  exact⟨rfl,rfl⟩
 rintro _ _ _ ⟨rfl,rfl⟩;refine r_vf ?_;refine Rb.NewReader_spec (B:=[]) H1 (hE _) λrb w2 S2 H2=>?_;refine r_bd (v:=.agg (K24.cellsX ⟨64,false,[],0,0,Go.Q24.u0 unit,none,false,[],false,0,0⟩ rb ub (.pointer none) (.slice none 0 0)).toArray) (by kernel_rfl) ?_;refine r_new H2 λb w3 S3 H3=>?_;have H4:=H3.nilOB tB;refine post b ⟨64,false,[],0,0,Go.Q24.u0 unit,none,false,[],false,0,0⟩ w3 ⟨⟨by show 64<=1048576;decide,hE _,hE _,(λh=>by cases h),(λo h=>by cases h),hE _,(λh=>by cases h),(λh=>by cases h),λ_=>rfl,0,0,λ_=>Go.Q25.cnt0 unit,hE _,hE _,hE _⟩,rfl,rfl,hE _,hn,rfl,(λq=>by cases q),rfl,rfl,h4⟩ rfl rfl (S1.trans (S2.trans S3)) (K24.Zdf (rb:=rb) (ub:=ub) (ov:=.slice none 0 0) rfl rfl ?_);exact H4.swap
theorem Zs5 {unit:Nat}(H:Holds w L) (hn:n<=150) (h3:24<=unit) (h4:unit<=200)
  (post:∀ b w',Same w w'->Holds w' (TA b n unit 0 0 false::L)->K (.tuple #[pt b,iv 0]) w'):Cl prog 32 #[nv unit,nv 64] w K:=by
 refine Tz32 ?_;unfold Vz32;refine Zlt H hn h3 h4 λbx x w1 hx hd ho S1 H1=>?_;refine Za3 (Za4 (r_neq (r_vfN rfl ?_)));refine r_bd (v:=.agg #[pt bx,iv 0]) (by kernel_rfl) ?_;refine r_bd (v:=.agg #[pt bx,iv 0,S_ [],.bool false]) (by kernel_rfl) ?_;refine r_new H1 λb w3 S3 H3=>?_;refine post b _ (S1.trans S3) (Holds.imp (K25.TzR_close (t:=⟨0,[],false,x⟩) (bx:=bx) H3) λ_ hh=>⟨_,0,0,⟨⟨hx.ok,by show 0+x.out.length<=251*0;rw[ho];decide,hE _,by show x.out.length < 4096;rw[ho];decide⟩,hx,hd,hE _,hE _⟩,hh⟩)
theorem Zux {lv unit:Nat}(H:Holds w L) (hn:n<=150) (hk:k=1/\1<=lv/\lv<=9/\p=lv*unit - 19\/(k=2\/k=3)/\p=unit) (h3:24<=unit) (h4:unit<=200){lvv:Value}(hl:k=1->lvv=nv lv)
  (post:∀ j w',Same w w'->Holds w' (Jb k j (MA k n p 0 0 false)::L)->K (.tuple #[pt j,iv 0]) w'):Cl prog 6 #[nv k,lvv,nv unit,nv 64] w K:=by
 refine Tz6 ?_;unfold Vz6
 have fin:∀ bm w',Same w w'->Holds w' (MA k n p 0 0 false bm::L)->Bd prog tJob #[(0,nv k),(1,.iface (tM k) (pt bm))] w' λx_5=>New x_5 tJob w' λx_6 w2=>K (.tuple #[x_6,iv 0]) w2:=by
  intro bm w' S' H';refine r_bd (v:=.agg #[nv k,.iface (tM k) (pt bm)]) (by kernel_rfl) ?_;refine r_new H' λb w2 S2 H2=>?_;exact post b _ (S'.trans S2) (Zac (X:=MA k n p 0 0 false) H2.swap)
 refine Tz17 ?_;unfold Vz17;rcases hk with⟨rfl,h1,h2,rfl⟩|⟨rfl|rfl,rfl⟩
 ·obtain rfl:=hl rfl;refine r_eql (r_vtE rfl ?_);refine Zsl H hn h1 h2 h3 h4 λbm w1 S1 H1=>?_;refine Za3 (Za4 (Za3 (Za4 (r_neq (r_vfN rfl ?_)))));exact fin bm w1 S1 H1
 ·refine r_eql (r_vfE (by decide) (r_eql (r_vtE rfl ?_)));refine Zlt H hn h3 h4 λbm x w1 hx hd ho S1 H1=>?_;refine Za3 (Za4 (Za3 (Za4 (r_neq (r_vfN rfl ?_)))));exact fin bm w1 S1 (Holds.imp H1 λ_ hh=>⟨x,0,0,⟨hx,hd,hE _,hE _,ho⟩,hh⟩)
 ·refine r_eql (r_vfE (by decide) (r_eql (r_vfE (by decide) (r_eql (r_vtE rfl ?_)))));refine Zs5 H hn h3 h4 λbm w1 S1 H1=>?_;refine Za3 (Za4 (Za3 (Za4 (r_neq (r_vfN rfl ?_)))));exact fin bm w1 S1 H1
end K45
namespace Kw
theorem Zhr {P:Program}{w:World}{g:Nat}{t:TypeId}{zero:Array Value}{k:IntKind}{ts:List TypeId}(h:w.ShapedOpen P) (hg:g < P.globals.size)
  (h0:((begin P (λ_ _=>0) default).world.heap[g]?).bind Obj.row?=some (zero,t)) (hb:P.buildable t=true) (hc:P.cellTypes P.depth t=some ts) (hu:∀ x∈ts,P.underlying x=some (.int k)) :
  ∃ (l:List Int) (e:TypeId) (z:Nat × Nat),l.length=zero.size/\w.heap[g]?=some (.cells (l.map (Value.int k)).toArray e z):=by
 obtain⟨cs,hh,hs,hr⟩:=h.1 g zero t hg h0;obtain⟨ts',hts,_,hall⟩:=hr hb;rw[hc] at hts;cases hts
 have each:∀ (i:Nat) (v:Value),cs[i]?=some v->∃ n:Int,v=Value.int k n:=by
  intro i v hv;obtain⟨u,hu1,hok⟩:=hall i v hv;have h1:=hu u (List.mem_of_getElem? hu1);unfold Cell.ok at hok;rw[h1] at hok
  cases v <;> simp at hok
  case int k' n=>exact⟨n,by rw[hok.1]⟩
 refine⟨cs.toList.map λv:Value=>match v with|Value.int _ n=>n|_=>0,t,(0,0),by simpa using hs,?_⟩;rw[hh]
 congr 2
 apply Array.ext
 ·simp
 ·intro i h1 h2;obtain⟨n,hn⟩:=each i cs[i] (Array.getElem?_eq_getElem h1);simp[hn]
def BndG (L:List HProp):Prop:=∃ l:List Int,l.length=4/\∀ w',Holds w' L->∃ e z,w'.heap[3]?=some (.cells (l.map iv).toArray e z)
theorem BndG.up {L:List HProp}{Q:HProp}(h:BndG L):BndG (Q::L):=let ⟨l,h1,h2⟩:=h;⟨l,h1,λw' H=>h2 w' H.drop⟩
theorem bnd_whole {W:World}(h:W.ShapedOpen prog):BndG [whole W]:=by
 have go:∃ (l:List Int) (e:TypeId) (z:Nat × Nat),l.length=4/\W.heap[3]?=some (.cells (l.map iv).toArray e z):=by
  have hlt:3 < prog.globals.size:=of_decide_eq_true (by kernel_rfl)
  exact Zhr (t:=277) (zero:=#[.int .i64 0,.int .i64 0,.int .i64 0,.int .i64 0]) (ts:=[3,3,3,3]) h hlt (by kernel_rfl) (by kernel_rfl) (by kernel_rfl) (λx hx=>by
     simp only[mem_cons,List.not_mem_nil,or_false,or_self] at hx;rw[hx]
     exact underlying3)
 obtain⟨l,e,z,hl,hh⟩:=go;refine⟨l,hl,?_⟩;intro w' H';obtain⟨g,hg,hgs,_⟩:=H';exact⟨e,z,hgs _ _ (hg _ _ hh)⟩
section
variable {H:Type}{enc:TypeId × Value->H}
theorem handed_shaped {a:Assume}{C:Checked}{os:Os}{f:FuncId}{fn:Func}{s:ChangeSpec}{conds:List PathCond}{apart fresh handsOn again:Bool}{X:World->Array Value->Prop}
  (hX:∀ (w w':World) (args:Array Value),w.heap=w'.heap->X w args->X w' args)
  (own:ownKnob C.prog.godebug=none) (started:os.Started) (noInit:C.prog.inits.idxOf? f=none) (hfn:C.prog.funcs[f]?=some fn)
  (witness:∃ (w:World) (tape:Tape) (i:Input),w.os=os/\(w.forCall tape i).Shaped C.prog/\i.vars=[]/\Input.okWide C.prog (w.forCall tape i) .any w.heap.size f i/\
   ((s.pre enc C.prog fn conds apart (w.forCall tape i).memory i.args/\X (w.forCall tape i).memory i.args)/\sizedMet enc C.prog fn (OpenSpec.ofChange s) apart (w.forCall tape i).memory i.args)/\a.holds C.prog (lone (Frame.enter C.prog f i.args .normal) [] (w.forCall tape i)))
  (contract:∀ (W:World) (base:Nat) (args:Array Value) (ds gs:List (DataW H)) (before:List MemPlace),
   (∀ (j:Nat) t v,fn.params[j]?=some t->args[j]?=some v->Value.okWide C.prog W .any base t v)->
   DataW.Whole enc C.prog fn.params.toList s.vars apart W args.toList ds gs before->
   conds.all (PathCond.test C.prog ⟨fn.params.toList,ds,s.plain.varTypes C.prog,gs⟩)=true->
   W.ShapedOpen C.prog->X W args->
   a.holds C.prog (lone (Frame.enter C.prog f args .normal) [] W)->
   Calls C.prog f args W λe W'=>∃ v,e=.returned v/\s.post enc C.prog fn apart fresh handsOn again W args v W') :
  ReturnsInHanded a C os f .any (λw args=>(s.pre enc C.prog fn conds apart w args/\X w args)/\sizedMet enc C.prog fn (OpenSpec.ofChange s) apart w args) (s.post enc C.prog fn apart fresh handsOn again):=by
 refine returnsInHanded_of_calls own started noInit witness ?_;intro w tape i _ hsh _ hok hpre hholds;obtain⟨_,_,_,fn',hfn',_,_,_,_,hval⟩:=hok;have e:fn'=fn:=Option.some.inj (hfn'.symm.trans hfn);subst e;obtain⟨⟨⟨ds,gs,before,hw,hc⟩,hx⟩,hz⟩:=hpre;have hw':=DataW.Whole.of_heap (w':=w.forCall tape i) (by rfl) hw;refine (contract (w.forCall tape i) w.heap.size i.args ds gs before hval hw' hc hsh (hX _ _ _ (by rfl) hx) hholds).mono λe W' ⟨v,he,hp⟩=>?_;subst he;exact ChangeSpec.post_blind hp
end
end Kw
namespace K38
variable {w:World}{L:List HProp}{K:KT}
theorem Level_spec {n:Int}(k:K (.bool (decide (1<=n/\n<=9))) w):Cl prog 24 #[iv n] w K:=by
 refine Tz24 ?_;unfold Vz24;refine r_geq (r_ifD (λh=>r_leq ?_) λh=>?_)
 ·rw[show decide (n<=9)=decide (1<=n/\n<=9) from decide_eq_decide.2 ⟨λe=>⟨h,e⟩,λe=>e.2⟩];exact k
 ·rw[decide_eq_false (λe=>h e.1)] at k;exact k
theorem Unit_spec {n:Int}(k:K (.bool (decide (24<=n/\n<=100000))) w):Cl prog 25 #[iv n] w K:=by
 refine Tz25 ?_;unfold Vz25;refine r_geq (r_ifD (λh=>r_leq ?_) λh=>?_)
 ·rw[show decide (n<=100000)=decide (24<=n/\n<=100000) from decide_eq_decide.2 ⟨λe=>⟨h,e⟩,λe=>e.2⟩];exact k
 ·rw[decide_eq_false (λe=>h e.1)] at k;exact k
theorem Zii {u n:Int}(k:K (.bool (decide ((24<=u/\u<=100000)/\64<=n/\n<=1048576))) w):Cl prog 15 #[iv u,iv n,iv 4096] w K:=by
 refine Tz15 ?_;unfold Vz15;refine Unit_spec (r_ifD (λh1=>r_geq (r_ifD (λh2=>r_leq (r_ifD (λh3=>?_) λh3=>?_)) λh2=>?_)) λh1=>?_)
 ·rw[decide_eq_true ⟨h1,h2,h3⟩] at k;exact r_geq (r_vtD (by decide) (r_leq k))
 ·rw[decide_eq_false (λe=>h3 e.2.2)] at k;exact k
 ·rw[decide_eq_false (λe=>h2 e.2.1)] at k;exact k
 ·rw[decide_eq_false (λe=>h1 e.1)] at k;exact k
theorem Zqw {l u n:Int}(k:K (.bool (decide ((1<=l/\l<=9)/\(24<=u/\u<=100000)/\64<=n/\n<=1048576))) w):Cl prog 14 #[iv l,iv u,iv n] w K:=by
 refine Tz14 ?_;unfold Vz14;refine Level_spec (r_ifD (λh0=>?_) λh0=>?_)
 ·refine Unit_spec (r_ifD (λh1=>r_geq (r_ifD (λh2=>r_leq ?_) λh2=>?_)) λh1=>?_)
  ·rw[show decide (n<=1048576)=decide ((1<=l/\l<=9)/\(24<=u/\u<=100000)/\64<=n/\n<=1048576) from decide_eq_decide.2 ⟨λe=>⟨h0,h1,h2,e⟩,λe=>e.2.2.2⟩];exact k
  ·rw[decide_eq_false (λe=>h2 e.2.2.1)] at k;exact k
  ·rw[decide_eq_false (λe=>h1 e.2.1)] at k;exact k
 ·rw[decide_eq_false (λe=>h0 e.1)] at k;exact k
def MayP (k l u n:Int):Prop:=(k=1/\1<=l/\l<=9\/k=2\/k=3)/\(24<=u/\u<=100000)/\64<=n/\n<=1048576
theorem Zw0 {k l u n:Int}(post:∀ c:Bool,(c=true->MayP k l u n)->K (.bool c) w):Cl prog 4 #[iv k,iv l,iv u,iv n] w K:=by
 refine Tz4 ?_;unfold Vz4;refine r_eql (r_ifE (λh1=>?_) λh1=>r_eql (r_ifE (λh2=>?_) λh2=>r_eql (r_ifE (λh3=>?_) λh3=>?_)))
 ·refine Zqw (post _ λe=>?_);have:=of_decide_eq_true e;exact⟨.inl ⟨h1,this.1⟩,this.2⟩
 ·refine Zii (post _ λe=>?_);exact⟨.inr (.inl h2),of_decide_eq_true e⟩
 ·refine Zii (post _ λe=>?_);exact⟨.inr (.inr h3),of_decide_eq_true e⟩
 ·exact post false λe=>by cases e
end K38
end Go.Proofs.YtpmjeiliblgajaaGreatDoor
set_option maxRecDepth 1000000
namespace Go.Proofs.YtpmjeiliblgajaaGreatDoor
open Go Go.Vc Go.Proofs.Tryz
attribute [local irreducible] Vc.Nc Vc.Ld Vc.LdA Vc.St Vc.StA Vc.Fo Vc.Iaa Vc.Ias Vc.Ixs Vc.Ixa Vc.Fd Vc.FdA Vc.Bp Vc.Bb Vc.Bn Vc.Up Vc.Ci Vc.Lns Vc.Lnl Vc.Ex Vc.Sst Vc.Ssl Vc.New Vc.Vif Vc.VJoin Vc.VLoop Vc.KE Vc.Dr Vc.Rk Vc.Cl Vc.Cx Vc.Inv Vc.Be Vc.Cv Vc.Cw Vc.Mf Vc.Sl Vc.Lk Vc.Bd Vc.Bs Vc.Ms Vc.Mm Vc.Mu Vc.Me Vc.Es Vc.Rg Vc.Nx Vc.Ta Vc.Ap Vc.Usd Vc.Ust Vc.Cp Vc.Ln Vc.Bc Vc.Bmin Vc.Bmax Vc.Bdel Vc.Bclr Vc.Pk
namespace D45
open Go.M45
abbrev tI:Nat:=3
abbrev tT:Nat:=41
abbrev tC:Nat:=45
variable {w:World}{L:List HProp}{K:KT}
theorem Zl4 {n by_:Int}(hn:0<=n) (hb:0 < by_) (hn2:n<=1000000000000000) (hb2:by_<=1000000000000000) (post:K (iv ((n+by_ - 1)/by_)) w) :
  Cl prog 29 #[iv n,iv by_] w K:=by
 refine Tz29 ?_;unfold Vz29
 repeat (first|(refine r_add (by omega) (by omega) ?_)|(refine r_sub (by omega) (by omega) ?_))
 refine r_quo (by omega) hb (by omega) ?_;exact post
theorem sum_spec {v:Value}{xs:List Int}(H:Holds w (SL iv tI v xs::L)) (hl:xs.length<=1000) (hx:∀ x∈xs,0<=x/\x<=1000000000000000)
  (post:∀ w',Same w w'->Holds w' L->K (iv (sumG 0 xs)) w'):Cl prog 27 #[v] w K:=by
 refine Tz27 ?_;unfold Vz27;obtain⟨oa,sp,rfl,H⟩:=H.open 0 rfl;rw[gJ] at H
 repeat (refine r_lnl ?_)
 refine Zaa (λa x w'=>∃ (i:Nat) (n:Int),i<=xs.length/\x=nv i/\a=iv n/\0<=n/\n<=1099511627776/\sumG n (xs.drop i)=sumG 0 xs/\Same w w'/\Holds w' (slb iv tI oa xs sp::L))
  (λ_ x _=>xs.length - (intOf x).toNat) ⟨0,0,by omega,rfl,rfl,by omega,by omega,rfl,.refl w,H⟩ ?_
 clear H;rintro _ _ _ w2 ⟨i,n,hi,rfl,rfl,hn0,hn1,hinv,S,H⟩
 repeat (refine r_lss ?_)
 refine r_ifD (λh=>?_) λh=>?_
 ·have hlt:i < xs.length:=by omega
  obtain⟨x,hxi⟩:∃ x,xs[i]?=some x:=⟨_,gA hlt⟩;have hxm:=hx x (List.mem_of_getElem? hxi)
  have hdrop:xs.drop i=x::xs.drop (i+1):=by
   rw[List.drop_eq_getElem_cons hlt];obtain⟨_,h4⟩:=gH.1 hxi;rw[h4]
  refine Zhi 0 H rfl hlt (Nat.le_refl _) ?_;rintro b2 rfl;refine Zl8 0 H rfl hxi ?_;refine r_min ?_
  repeat (refine r_add (by omega) (by omega) ?_)
  refine r_min ?_
  repeat (first|refine r_ke ?_|(refine Za0 (by omega) ?_))
  refine⟨⟨i+1,_,by omega,rfl,rfl,by omega,by omega,?_,S,H⟩,?_⟩
  ·rw[<-hinv,hdrop];rfl
  ·simp[nv,intOf];omega
 ·have e:i=xs.length:=by omega
  subst e;rw[drop_length] at hinv;have:=post _ S H.drop;rw[<-hinv] at this;exact this
theorem Zis {v:Value}{xs:List Int}(H:Holds w (SL iv tI v xs::L)) (hl:xs.length<=1000) (hx:∀ x∈xs,1<=x/\x<=1000000000000000)
  (post:∀ w',Same w w'->Holds w' L->K (iv (timG 1 xs)) w'):Cl prog 28 #[v] w K:=by
 refine Tz28 ?_;unfold Vz28;obtain⟨oa,sp,rfl,H⟩:=H.open 0 rfl;rw[gJ] at H
 repeat (refine r_lnl ?_)
 refine Zaa (λa x w'=>∃ (i:Nat) (n:Int),i<=xs.length/\x=nv i/\a=iv n/\1<=n/\n<=1099511627776/\timG n (xs.drop i)=timG 1 xs/\Same w w'/\Holds w' (slb iv tI oa xs sp::L))
  (λ_ x _=>xs.length - (intOf x).toNat) ⟨0,1,by omega,rfl,rfl,by omega,by omega,rfl,.refl w,H⟩ ?_
 clear H;rintro _ _ _ w2 ⟨i,n,hi,rfl,rfl,hn0,hn1,hinv,S,H⟩
 repeat (refine r_lss ?_)
 refine r_ifD (λh=>?_) λh=>?_
 ·have hlt:i < xs.length:=by omega
  obtain⟨x,hxi⟩:∃ x,xs[i]?=some x:=⟨_,gA hlt⟩;have hxm:=hx x (List.mem_of_getElem? hxi)
  have hdrop:xs.drop i=x::xs.drop (i+1):=by
   rw[List.drop_eq_getElem_cons hlt];obtain⟨_,h4⟩:=gH.1 hxi;rw[h4]
  rw[hdrop] at hinv;refine Zhi 0 H rfl hlt (Nat.le_refl _) ?_;rintro b2 rfl;refine Zl8 0 H rfl hxi ?_;refine r_quo (by omega) (by omega) (by omega) ?_;refine r_gtr ?_;refine r_ifD (λh2=>?_) λh2=>?_
  ·have:=post _ S H.drop;rw[<-hinv,timG,if_pos h2] at this;exact this
  ·have h3:¬ ((1099511627776:Int) < x*n):=λe=>h2 ((Zh5 x n (by omega)).2 e);have h4:x*n=n*x:=Int.mul_comm x n;have h5:0 < n*x:=Int.mul_pos (by omega) (by omega);refine r_mul (by omega) (by omega) ?_
   repeat (first|refine r_ke ?_|(refine Za0 (by omega) ?_))
   refine⟨⟨i+1,_,by omega,rfl,rfl,by omega,by omega,?_,S,H⟩,?_⟩
   ·rw[<-hinv,timG,if_neg h2]
   ·simp[nv,intOf];omega
 ·have e:i=xs.length:=by omega
  subst e;rw[drop_length] at hinv;have:=post _ S H.drop;rw[<-hinv] at this;exact this
theorem Zd6 {a b:Int}(H:Holds w L) (ha:0<=a) (hb:0<=b) (ha2:a<=1099511627776) (hb2:b<=1099511627776)
  (post:∀ w',Same w w'->Holds w' L->K (iv (addP a b)) w'):Bs prog 67 2 #[(0,iv a),(1,iv b)] w λx w2=>Cl prog 27 #[x] w2 K:=by
 refine r_bsK [iv a,iv b] H (e:=tI) (by kernel_rfl) λb1 w1 S1 H1=>?_;have H2:=Zeo 0 (f:=iv) [a,b] H1 rfl;refine sum_spec H2 (by simp) (λx hx=>?_) λw2 S2 H2=>?_
 ·rcases mem_cons.1 hx with rfl|hx
  ·omega
  ·rcases mem_cons.1 hx with rfl|hx
   ·omega
   ·cases hx
 ·rw[sum2 a b ha hb ha2 hb2];exact post _ (S1.trans S2) H2
theorem Zh4 {a b:Int}(H:Holds w L) (ha:0 < a) (hb:0 < b) (ha2:a<=1099511627776) (hb2:b<=1099511627776)
  (post:∀ w',Same w w'->Holds w' L->K (iv (mulP a b)) w'):Bs prog 67 2 #[(0,iv a),(1,iv b)] w λx w2=>Cl prog 28 #[x] w2 K:=by
 refine r_bsK [iv a,iv b] H (e:=tI) (by kernel_rfl) λb1 w1 S1 H1=>?_;have H2:=Zeo 0 (f:=iv) [a,b] H1 rfl;refine Zis H2 (by simp) (λx hx=>?_) λw2 S2 H2=>?_
 ·rcases mem_cons.1 hx with rfl|hx
  ·omega
  ·rcases mem_cons.1 hx with rfl|hx
   ·omega
   ·cases hx
 ·rw[tim2 a b ha hb ha2];exact post _ (S1.trans S2) H2
theorem Zmc {m:Nat}(h2:2<=m) (hm:m<=1048576) (post:K (nv (mostS m)) w):Cl prog 44 #[nv m] w K:=by
 refine Tz44 ?_;unfold Vz44
 repeat (first|refine r_lss ?_|((with_reducible refine r_vfD ?h ?_);(case h=>omega)))
 have hlg:=lg_le m 20 hm;refine Za7 (λx w'=>w=w'/\∃ b:Nat,b<=lg m/\x=nv b) (λx _=>20 - (intOf x).toNat) ⟨rfl,0,by omega,rfl⟩ ?_;rintro _ _ _ ⟨rfl,b,hb,rfl⟩;refine Zxk (by omega) ?_;refine r_min ?_;refine r_lss ?_;obtain⟨hs1,hs2⟩:=Ze3 m;refine r_ifD (λh=>?_) λh=>?_
 ·have hlt:b < lg m:=by
   rcases hU_ b (lg m) with h1|h1
   ·exact h1
   ·have:b=lg m:=by omega
    subst this;omega
  repeat (first|refine r_ke ?_|(refine Za0 (by omega) ?_))
  refine⟨⟨rfl,b+1,by omega,rfl⟩,?_⟩;simp[nv,intOf];omega
 ·have hbe:b=lg m:=Zz0 m b (λj hj=>hs1 j (by omega)) (by omega)
  have he:(4+3*(b:Int))*((b:Int)+2)=((each m:Nat):Int):=by
   unfold each;rw[<-hbe];simp
  have hel:=Ztx m hm;have heg:=Zyl m;have hms:=Zg7 m hm
  have hmm:((mostS m:Nat):Int)=(m:Int)*((each m:Nat):Int):=by unfold mostS;simp
  repeat (first|refine Zb8 _ he (by omega) (by omega) ?_|refine r_quo (by omega) (by omega) (by omega) ?_|refine r_gtr ?_|(refine r_add (by omega) (by omega) ?_)|(refine r_mul (by omega) (by omega) ?_))
  refine r_ifD (λh3=>?_) λh3=>?_
  ·have:=(Zh5 (m:Int) ((each m:Nat):Int) (by omega)).1 h3;omega
  ·refine Zb8 _ hmm.symm (by omega) (by omega) ?_;exact post
theorem Zm1 {m:Nat}(h2:2<=m) (hm:m<=1048576) (post:K (nv (mostS m+m)) w):Cl prog 34 #[nv m] w K:=by
 refine Tz34 ?_;unfold Vz34;have hms:=Zg7 m hm
 repeat (first|refine r_lss ?_|((with_reducible refine r_vfD ?h ?_);(case h=>omega)))
 refine Zmc h2 hm ?_;refine r_min ?_;refine Yad ((mostS m+m:Nat):Int) (by omega) (by omega) (by omega) ?_;refine r_min ?_;rw[show min (((mostS m+m:Nat):Int)) 1099511627776=((mostS m+m:Nat):Int) by omega];exact post
theorem room_spec {level unit:Int}(h1:1<=level) (h2:level<=9) (h3:24<=unit) (h4:unit<=100000) (post:∀ r:Nat,5<=r->r<=900000->(r:Int)=level*unit - 19->K (.tuple #[nv r,iv 0]) w) :
  Cl prog 21 #[iv level,iv unit] w K:=by
 refine Tz21 ?_;unfold Vz21;refine Za1 (λx w'=>w=w'/\x=.bool false) ?_ ?_
 ·rintro _ _ _ ⟨rfl,rfl⟩;have h5:1*24<=level*unit:=Int.mul_le_mul h1 h3 (by omega) (by omega);have h6:level*unit<=9*100000:=Int.mul_le_mul h2 h4 (by omega) (by omega);refine r_vf ?_;refine r_mul (by omega) (by omega) ?_;refine r_sub (by omega) (by omega) ?_;have:=post (level*unit - 19).toNat (by omega) (by omega) (by omega);rw[show nv (level*unit - 19).toNat=iv (level*unit - 19) by unfold nv iv;congr 1;omega] at this;exact this
 ·repeat (first|refine r_ke ?_|refine r_lss ?_|refine r_gtr ?_|((with_reducible refine r_vfD ?h ?_);(case h=>omega)))
  exact⟨rfl,by rw[decide_eq_false (by omega)]⟩
theorem Zpk {level unit:Int}(h:¬ (1<=level/\level<=9/\24<=unit/\unit<=100000)) (post:K (.tuple #[iv 0,iv 1]) w) :
  Cl prog 21 #[iv level,iv unit] w K:=by
 refine Tz21 ?_;unfold Vz21;refine Za1 (λx w'=>w=w'/\x=.bool true) ?_ ?_
 ·rintro _ _ _ ⟨rfl,rfl⟩;exact r_vt post
 ·repeat (refine r_lss ?_)
  refine r_ifD (λh1=>r_ke ⟨rfl,rfl⟩) λh1=>?_
  repeat (refine r_gtr ?_)
  refine r_ifD (λh2=>r_ke ⟨rfl,rfl⟩) λh2=>?_
  repeat (refine r_lss ?_)
  refine r_ifD (λh3=>r_ke ⟨rfl,rfl⟩) λh3=>?_
  repeat (first|refine r_ke ?_|refine r_gtr ?_)
  exact⟨rfl,by rw[decide_eq_true (by omega)]⟩
theorem Unit_spec {u:Int}(post:K (.bool (decide (24<=u/\u<=100000))) w):Cl prog 25 #[iv u] w K:=by
 refine Tz25 ?_;unfold Vz25
 repeat (refine r_geq ?_)
 refine r_ifD (λh=>?_) λh=>?_
 ·repeat (refine r_leq ?_)
  rw[show decide (u<=100000)=decide (24<=u/\u<=100000) by rw[Bool.eq_iff_iff,decide_eq_true_iff,decide_eq_true_iff];omega];exact post
 ·rw[decide_eq_false (by omega)] at post;exact post
theorem Level_spec {u:Int}(post:K (.bool (decide (1<=u/\u<=9))) w):Cl prog 24 #[iv u] w K:=by
 refine Tz24 ?_;unfold Vz24
 repeat (refine r_geq ?_)
 refine r_ifD (λh=>?_) λh=>?_
 ·repeat (refine r_leq ?_)
  rw[show decide (u<=9)=decide (1<=u/\u<=9) by rw[Bool.eq_iff_iff,decide_eq_true_iff,decide_eq_true_iff];omega];exact post
 ·rw[decide_eq_false (by omega)] at post;exact post
theorem Zln {r n:Nat}(H:Holds w L) (h1:5<=r) (h2:r<=900000) (h3:n<=1048576) (post:∀ w',Same w w'->Holds w' L->K (iv (pressP r n)) w') :
  Cl prog 22 #[nv r,nv n] w K:=by
 refine Tz22 ?_;unfold Vz22;have hms:=Zg7 r (by omega)
 repeat (refine r_mul (by omega) (by omega) ?_)
 refine Zl4 (by omega) (by omega) (by omega) (by omega) ?_
 have e:(5*(n:Int)+2*(r:Int) - 1)/(2*(r:Int))=(((5*n+2*r - 1)/(2*r):Nat):Int):=by
  have:(5*(n:Int)+2*(r:Int) - 1)=((5*n+2*r - 1:Nat):Int):=by omega
  rw[this];simp
 rw[e];have hk:(5*n+2*r - 1)/(2*r)<=5*n+2*r - 1:=Nat.div_le_self _ _;unfold pressP at post;generalize (5*n+2*r - 1)/(2*r)=k at *;refine r_add (by omega) (by omega) ?_;refine r_add (by omega) (by omega) ?_;refine Zm1 (by omega) (by omega) ?_;refine Zd6 H (by omega) (by omega) (by omega) (by omega) λw2 S2 H2=>?_;rw[Zss _ _ (by omega)];rw[show (((mostS r+r:Nat):Int)+(r:Int))=(mostS r:Nat)+r+r by omega];refine Zh4 H2 (by omega) (by omega) (by omega) (by omega) λw3 S3 H3=>?_;have hle:=Zs1 ((k:Int)+2) ((mostS r:Nat)+r+r:Int) (by omega);have hpo:=Zpp ((k:Int)+2) ((mostS r:Nat)+r+r:Int) (by omega) (by omega);refine Zd6 H3 (by omega) (by omega) (by omega) (by omega) λw4 S4 H4=>?_;exact post _ ((S2.trans S3).trans S4) H4
theorem Zk4 {u n:Nat}(H:Holds w L) (h1:24<=u) (h2:u<=100000) (h3:n<=1048576) (post:∀ w',Same w w'->Holds w' L->K (iv (expP u n)) w') :
  Cl prog 23 #[nv u,nv n] w K:=by
 refine Tz23 ?_;unfold Vz23
 have e:(n:Int)/16=((n/16:Nat):Int):=by simp
 have hk:n/16<=n:=Nat.div_le_self _ _
 repeat (first|refine r_quo (by omega) (by omega) (by omega) ?_|(refine r_add (by omega) (by omega) ?_)|(refine r_mul (by omega) (by omega) ?_))
 rw[e];unfold expP at post;generalize n/16=k at *;refine Zh4 H (by omega) (by omega) (by omega) (by omega) λw3 S3 H3=>?_;have hle:=Zs1 ((k:Int)+1) (36*(u:Int)) (by omega);have hpo:=Zpp ((k:Int)+1) (36*(u:Int)) (by omega) (by omega);refine Zd6 H3 (by omega) (by omega) (by omega) (by omega) λw4 S4 H4=>?_;exact post _ (S3.trans S4) H4
def mayP (kind level unit n:Int):Prop:=24<=unit/\unit<=100000/\0<=n/\n<=1048576/\(kind=2\/kind=3\/kind=1/\1<=level/\level<=9)
instance (kind level unit n:Int):Decidable (mayP kind level unit n):=by unfold mayP;infer_instance
def stepsP (kind level unit n:Int):Int:=if kind=1 then pressP (level*unit - 19).toNat n.toNat else expP unit.toNat n.toNat
theorem Steps_spec {kind level unit n:Int}(H:Holds w L)
  (p1:¬ mayP kind level unit n->∀ w',Same w w'->Holds w' L->K (.tuple #[iv 0,iv 1]) w')
  (p2:mayP kind level unit n->∀ w',Same w w'->Holds w' L->K (.tuple #[iv (stepsP kind level unit n),iv 0]) w') :
  Cl prog 12 #[iv kind,iv level,iv unit,iv n] w K:=by
 refine Tz12 ?_;unfold Vz12;refine Za1 (λx w'=>w=w'/\x=.bool (decide (n < 0\/1048576 < n))) ?_ ?_
 ·rintro _ _ _ ⟨rfl,rfl⟩;refine r_ifD (λh=>p1 (λh2=>by unfold mayP at h2;omega) _ (.refl _) H) λh=>?_;obtain⟨m,rfl⟩:∃ m:Nat,n=m:=⟨n.toNat,by omega⟩
  repeat (refine r_eql ?_)
  refine r_ifE (λhk=>?_) λhk=>?_
  ·subst hk
   by_cases hr:1<=level/\level<=9/\24<=unit/\unit<=100000
   ·refine room_spec hr.1 hr.2.1 hr.2.2.1 hr.2.2.2 λr h5 h6 h7=>?_
    repeat (first|refine r_neq ?_|(with_reducible first|refine Za3 ?_|refine Za4 ?_)|((with_reducible refine r_vfN ?h ?_);(case h=>omega)))
    refine Zln H h5 h6 (by omega) λw2 S2 H2=>?_;have:=p2 (by unfold mayP;omega) _ S2 H2;unfold stepsP at this;rw[if_pos rfl,<-h7] at this;simpa using this
   ·refine Zpk hr ?_
    repeat (first|refine r_neq ?_|(with_reducible first|refine Za3 ?_|refine Za4 ?_)|((with_reducible refine r_vtN ?h ?_);(case h=>omega)))
    exact p1 (λh2=>hr (by unfold mayP at h2;omega)) _ (.refl _) H
  ·refine Za1 (λx w'=>w=w'/\x=.bool (decide (kind=2\/kind=3))) ?_ ?_
   ·rintro _ _ _ ⟨rfl,rfl⟩;refine r_ifD (λh8=>?_) λh8=>?_
    ·by_cases hr:24<=unit/\unit<=100000
     ·refine room_spec (by omega) (by omega) hr.1 hr.2 λr h5 h6 h7=>?_;obtain⟨u,rfl⟩:∃ u:Nat,unit=u:=⟨unit.toNat,by omega⟩
      repeat (first|refine r_neq ?_|(with_reducible first|refine Za3 ?_|refine Za4 ?_)|((with_reducible refine r_vfN ?h ?_);(case h=>omega)))
      refine Zk4 H (by omega) (by omega) (by omega) λw2 S2 H2=>?_;have:=p2 (by unfold mayP;omega) _ S2 H2;unfold stepsP at this;rw[if_neg hk] at this;simpa using this
     ·refine Zpk (by omega) ?_
      repeat (first|refine r_neq ?_|(with_reducible first|refine Za3 ?_|refine Za4 ?_)|((with_reducible refine r_vtN ?h ?_);(case h=>omega)))
      exact p1 (λh2=>hr (by unfold mayP at h2;omega)) _ (.refl _) H
    ·exact p1 (λh2=>by unfold mayP at h2;omega) _ (.refl _) H
   ·repeat (refine r_eql ?_)
    refine r_ifE (λh8=>?_) λh8=>?_
    ·repeat (refine r_ke ?_)
     exact⟨rfl,by rw[beq_iff_eq.2 h8,decide_eq_true (by omega)]⟩
    ·repeat (first|refine r_ke ?_|refine r_eql ?_)
     refine⟨rfl,?_⟩
     congr 1
     rw[Bool.eq_iff_iff,beq_iff_eq,decide_eq_true_iff];omega
 ·repeat (refine r_lss ?_)
  refine r_ifD (λh=>r_ke ⟨rfl,by rw[decide_eq_true (by omega)]⟩) λh=>?_
  repeat (first|refine r_ke ?_|refine r_gtr ?_)
  refine⟨rfl,?_⟩
  congr 1
  rw[Bool.eq_iff_iff,decide_eq_true_iff,decide_eq_true_iff];omega
theorem may_spec {c:Int}(h1:97<=c) (h2:c<=122) (post:K (.bool true) w):Cl prog 59 #[iv c] w K:=by
 refine Tz59 ?_;unfold Vz59
 repeat (first|refine r_neq ?_|refine r_lss ?_|refine r_gtr ?_|((with_reducible refine r_vtD ?h ?_);(case h=>omega))|((with_reducible refine r_vtN ?h ?_);(case h=>omega)))
 rw[show (c != 35)=true by rw[bne_iff_ne];omega];exact post
theorem told_spec {s:ByteArray}{p:Int}{c:Nat}(h2:c<=122) (post:K (nv c) w):Cl prog 58 #[.string s,iv p,.int .i32 (c:Int)] w K:=by
 refine Tz58 ?_;unfold Vz58
 repeat (first|refine r_eql ?_|(refine Zde (by omega) (by omega) ?_)|((with_reducible refine r_vfE ?h ?_);(case h=>omega)))
 exact post
theorem dec1 (c:UInt8) (h:c.toNat<=122):Utf8.decode ⟨#[c]⟩ 0=(c.toNat,1):=by
 have:=decode_ascii ⟨#[c]⟩ 0 (by simp[ByteArray.size]) (by show c.toNat < 128;omega);rw[this];rfl
theorem Zr9 {c:UInt8}(H:Holds w L) (h1:97<=c.toNat) (h2:c.toNat<=122) (post:∀ w',Same w w'->Holds w' L->K (.tuple #[iv 0,iv (-1)]) w'):Cl prog 56 #[.string ⟨#[c]⟩] w K:=by
 refine Tz56 ?_;unfold Vz56;refine r_rg (by kernel_rfl) H λb w1 S1 H1=>?_;refine Zka (λw'=>∃ p:Nat,p<=1/\Same w w'/\Holds w' (blkO b (.stringIter ⟨#[c]⟩ p)::L)) (λw'=>1 - itPos w' b) ⟨0,by omega,S1,H1⟩ ?_;clear H H1 S1;rintro _ w2 ⟨p,hp,S,H⟩;have hit:=Zok H 0 rfl;have hsz:(⟨#[c]⟩:ByteArray).size=1:=rfl
 by_cases h0:p=0
 ·subst h0;refine r_nxT H 0 rfl (by omega) λw3 S3 H3=>?_;rw[dec1 c h2] at H3 ⊢
  repeat (first|(with_reducible first|refine Zle ?_|refine Zph ?_|refine Zpe ?_|refine r_vt ?_))
  refine told_spec h2 ?_;refine may_spec (by omega) (by omega) ?_
  repeat (first|refine r_ke ?_|(with_reducible first|refine Zah ?_|refine r_vf ?_))
  refine⟨⟨1,by omega,S.trans S3,H3⟩,?_⟩;have hit3:=Zok H3 0 rfl;omega
 ·refine r_nxE H 0 rfl (by omega) ?_;refine Zx5 ?_
  repeat (with_reducible refine r_vf ?_)
  exact post _ S H.drop
theorem Zx0 {c:UInt8}(H:Holds w L) (h2:c.toNat<=122) (post:∀ w',Same w w'->Holds w' L->K (iv 1) w'):Cl prog 57 #[.string ⟨#[c]⟩] w K:=by
 refine Tz57 ?_;unfold Vz57;refine r_rg (by kernel_rfl) H λb w1 S1 H1=>?_;refine Za7 (λx w'=>∃ p:Nat,p<=1/\x=nv p/\Same w w'/\Holds w' (blkO b (.stringIter ⟨#[c]⟩ p)::L)) (λx _=>1 - (intOf x).toNat) ⟨0,by omega,rfl,S1,H1⟩ ?_;clear H H1 S1;rintro _ _ w2 ⟨p,hp,rfl,S,H⟩;have hsz:(⟨#[c]⟩:ByteArray).size=1:=rfl
 by_cases h0:p=0
 ·subst h0;refine r_nxT H 0 rfl (by omega) λw3 S3 H3=>?_;rw[dec1 c h2] at H3 ⊢
  repeat (first|refine Zle ?_|refine r_ke ?_|(with_reducible refine r_vt ?_)|(refine Za0 (by omega) ?_))
  refine⟨⟨1,by omega,rfl,S.trans S3,H3⟩,?_⟩;simp[nv,intOf]
 ·obtain rfl:p=1:=by omega
  refine r_nxE H 0 rfl (by omega) ?_;refine Zx5 ?_
  repeat (with_reducible refine r_vf ?_)
  exact post _ S H.drop
theorem Is_spec {c:UInt8}(H:Holds w L) (h1:97<=c.toNat) (h2:c.toNat<=122) (post:∀ w',Same w w'->Holds w' L->K (.bool true) w'):Cl prog 52 #[.string ⟨#[c]⟩] w K:=by
 refine Tz52 ?_;unfold Vz52;refine Zr9 H h1 h2 λw2 S2 H2=>?_
 repeat (first|refine r_lss ?_|refine Zor ?_|(with_reducible first|refine Za3 ?_|refine Za4 ?_)|((with_reducible refine r_vtD ?h ?_);(case h=>omega)))
 refine r_vtD (by show ¬ (1:Nat)=0;omega) ?_;refine Zx0 H2 h2 λw3 S3 H3=>?_
 repeat (refine r_leq ?_)
 exact post _ (S2.trans S3) H3
theorem between_spec {n a b:Int}(h1:a<=n) (h2:n<=b) (post:K (.bool true) w):Cl prog 36 #[iv n,iv a,iv b] w K:=by
 refine Tz36 ?_;unfold Vz36
 repeat (first|refine r_leq ?_|refine r_geq ?_|((with_reducible refine r_vtD ?h ?_);(case h=>omega)))
 rw[decide_eq_true (by omega)];exact post
abbrev tn0:List Value:=[.string ⟨#[97]⟩,.string ⟨#[98]⟩,iv 0,iv 1,iv 30]
abbrev tn1:List Value:=[.string ⟨#[99]⟩,.string ⟨#[100]⟩,iv 0,iv 1,iv 30]
theorem Zkr {a b:UInt8}(H:Holds w L) (a1:97<=a.toNat) (a2:a.toNat<=122) (b1:97<=b.toNat) (b2:b.toNat<=122) (post:∀ w',Same w w'->Holds w' L->K (.bool true) w') :
  Cl prog 45 #[.agg #[.string ⟨#[a]⟩,.string ⟨#[b]⟩,iv 0,iv 1,iv 30]] w K:=by
 refine Tz45 ?_;unfold Vz45;refine r_new H λbt w1 S1 H1=>?_;replace H1:Holds w1 (blk bt tT [.string ⟨#[a]⟩,.string ⟨#[b]⟩,iv 0,iv 1,iv 30]::L):=H1;have S:=S1;clear H S1;have H:=H1;clear H1
 repeat (first|refine r_fo0 ?_|refine r_ld 0 H rfl rfl ?_)
 refine Is_spec H a1 a2 λw2 S2 H2=>?_;replace S:=S.trans S2;clear H S2;have H:=H2;clear H2
 repeat (first|refine r_fo0 ?_|(with_reducible refine r_vt ?_)|refine r_ld 0 H rfl rfl ?_)
 refine Is_spec H b1 b2 λw2 S2 H2=>?_;replace S:=S.trans S2;clear H S2;have H:=H2;clear H2
 repeat (first|refine between_spec (by omega) (by omega) ?_|refine r_fo0 ?_|(with_reducible refine r_vt ?_)|refine r_ld 0 H rfl rfl ?_)
 exact post _ S H.drop
theorem Znv {l:Option Addr}{c:Nat}{t:Array Value}(H:Holds w L) (post:∀ w',Same w w'->Holds w' L->K (.bool false) w') :
  Cl prog 46 #[.slice l 0 c,.agg t] w K:=by
 refine Tz46 ?_;unfold Vz46;refine r_new H λbt w1 S1 H1=>?_
 repeat (refine r_lnl ?_)
 refine Za7 (λx w'=>w1=w'/\x=iv 0) (λ_ _=>0) ⟨rfl,rfl⟩ ?_;rintro _ _ _ ⟨rfl,rfl⟩
 repeat (first|refine r_lss ?_|((with_reducible refine r_vfD ?h ?_);(case h=>omega)))
 exact post _ S1 H1.drop
theorem Zng {bt c:Nat}(H:Holds w (blk bt tT (tn0++tn1)::L)) (post:∀ w',Same w w'->Holds w' (blk bt tT (tn0++tn1)::L)->K (.bool false) w') :
  Cl prog 46 #[.slice (some ⟨bt,0,none⟩) 1 c,.agg tn1.toArray] w K:=by
 refine Tz46 ?_;unfold Vz46;refine r_new H λb1 w1 S1 H1=>?_;replace H1:Holds w1 (blk b1 tT tn1::blk bt tT (tn0++tn1)::L):=H1
 repeat (refine r_lnl ?_)
 refine Za7 (λx w'=>∃ i:Nat,i<=1/\x=nv i/\Same w w'/\Holds w' (blk b1 tT tn1::blk bt tT (tn0++tn1)::L)) (λx _=>1 - (intOf x).toNat) ⟨0,by omega,rfl,S1,H1⟩ ?_;clear H H1 S1;rintro _ _ w2 ⟨i,hi,rfl,S,H⟩
 repeat (refine r_lss ?_)
 refine r_ifD (λh=>?_) λh=>?_
 ·obtain rfl:i=0:=by omega
  refine Zj0 (by omega) ?_;refine r_ldA 1 H tn0 rfl rfl rfl ?_;refine r_new H λb2 w3 S3 H3=>?_
  have hz:(zeroP prog tT).cells.toList=[.string ⟨#[]⟩,.string ⟨#[]⟩,iv 0,iv 0,iv 0]:=by kernel_rfl
  rw[hz] at H3;refine r_stA 0 H3 (vs:=tn0) rfl (by decide) rfl rfl λw4 S4 H4=>?_;replace H4:Holds w4 (blk b2 tT tn0::blk b1 tT tn1::blk bt tT (tn0++tn1)::L):=H4;have S:=(S.trans S3).trans S4;clear H H3 S3 S4;have H:=H4;clear H4;refine Za1 (λx w'=>w4=w'/\x=.bool false) ?_ ?_
  ·rintro _ _ _ ⟨rfl,rfl⟩
   repeat (first|refine r_ke ?_|(with_reducible refine r_vf ?_)|(refine Za0 (by omega) ?_))
   refine⟨⟨1,by omega,rfl,S,H.drop⟩,?_⟩;simp[nv,intOf]
  ·repeat (first|refine r_fo0 ?_|refine r_seq ?_|refine r_ld 0 H rfl rfl ?_|refine r_ld 1 H rfl rfl ?_)
   refine r_vfD (by decide) ?_
   repeat (first|refine r_fo0 ?_|refine r_ke ?_|refine r_seq ?_|refine r_ld 0 H rfl rfl ?_|refine r_ld 1 H rfl rfl ?_)
   exact⟨rfl,by rw[decide_eq_false (by decide)]⟩
 ·exact post _ S H.drop
theorem Zqu {bt:Nat}(H:Holds w (blk bt tT (tn0++tn1)::L)) (post:∀ w',Same w w'->Holds w' (blk bt tT (tn0++tn1)::L)->K (.tuple #[iv (-1),iv 0]) w') :
  Cl prog 35 #[.slice (some ⟨bt,0,none⟩) 2 2] w K:=by
 refine Tz35 ?_;unfold Vz35
 have hz:(zeroP prog tT).cells.toList=[.string ⟨#[]⟩,.string ⟨#[]⟩,iv 0,iv 0,iv 0]:=by kernel_rfl
 repeat (first|refine r_lnl ?_|refine r_eql ?_|refine r_gtr ?_|((with_reducible refine r_vfD ?h ?_);(case h=>omega))|((with_reducible refine r_vfE ?h ?_);(case h=>omega)))
 refine Za7 (λx w'=>∃ i:Nat,i<=2/\x=nv i/\Same w w'/\Holds w' (blk bt tT (tn0++tn1)::L)) (λx _=>2 - (intOf x).toNat) ⟨0,by omega,rfl,.refl w,H⟩ ?_;clear H;rintro _ _ w2 ⟨i,hi,rfl,S,H⟩
 repeat (refine r_lss ?_)
 refine r_ifD (λh=>?_) λh=>?_
 ·refine Zj0 (by omega) ?_;rcases (by omega:i=0\/i=1) with rfl|rfl
  ·refine r_ldA 0 H tn0 rfl rfl rfl ?_;refine r_new H λb2 w3 S3 H3=>?_;rw[hz] at H3;refine r_stA 0 H3 (vs:=tn0) rfl (by decide) rfl rfl λw4 S4 H4=>?_;replace H4:Holds w4 (blk b2 tT tn0::blk bt tT (tn0++tn1)::L):=H4;refine r_ldA 0 H4 tn0 rfl rfl rfl ?_;refine Zkr H4 (by decide) (by decide) (by decide) (by decide) λw5 S5 H5=>?_;have S:=((S.trans S3).trans S4).trans S5;clear H H3 S3 S4 H4 S5;have H:=H5;clear H5
   repeat (first|refine Zfq (by omega) ?_|refine r_ldA 0 H tn0 rfl rfl rfl ?_|(with_reducible first|refine Zah ?_|refine r_vf ?_)|(refine r_dr H ?_;clear H;intro _ S_ H;replace S:=S.trans S_;clear S_))
   refine Znv H λw6 S6 H6=>?_
   repeat (first|refine r_ke ?_|(with_reducible refine r_vf ?_)|(refine Za0 (by omega) ?_))
   refine⟨⟨1,by omega,rfl,S.trans S6,H6.drop⟩,?_⟩;simp[nv,intOf]
  ·refine r_ldA 0 H tn1 rfl rfl rfl ?_;refine r_new H λb2 w3 S3 H3=>?_;rw[hz] at H3;refine r_stA 0 H3 (vs:=tn1) rfl (by decide) rfl rfl λw4 S4 H4=>?_;replace H4:Holds w4 (blk b2 tT tn1::blk bt tT (tn0++tn1)::L):=H4;refine r_ldA 0 H4 tn1 rfl rfl rfl ?_;refine Zkr H4 (by decide) (by decide) (by decide) (by decide) λw5 S5 H5=>?_;have S:=((S.trans S3).trans S4).trans S5;clear H H3 S3 S4 H4 S5;have H:=H5;clear H5
   repeat (first|refine Zfq (by omega) ?_|refine r_ldA 0 H tn1 rfl rfl rfl ?_|(with_reducible first|refine Zah ?_|refine r_vf ?_)|(refine r_dr H ?_;clear H;intro _ S_ H;replace S:=S.trans S_;clear S_))
   refine Zng H.swap λw6 S6 H6=>?_
   repeat (first|refine r_ke ?_|(with_reducible refine r_vf ?_)|(refine Za0 (by omega) ?_))
   refine⟨⟨2,by omega,rfl,S.trans S6,H6.swap.drop⟩,?_⟩;simp[nv,intOf]
 ·exact post _ S H
abbrev cfg (bt:Nat):List Value:=[.slice (some ⟨bt,0,none⟩) 2 2,iv 24,iv 64,iv 50,iv 1,iv 2,iv 1]
theorem Znu {bt:Nat}(H:Holds w (blk bt tT (tn0++tn1)::L)) (post:∀ w',Same w w'->Holds w' (blk bt tT (tn0++tn1)::L)->K (iv 0) w') :
  Cl prog 26 #[.agg (cfg bt).toArray] w K:=by
 refine Tz26 ?_;unfold Vz26;refine r_new H λbc w1 S1 H1=>?_;replace H1:Holds w1 (blk bc tC (cfg bt)::blk bt tT (tn0++tn1)::L):=H1;have S:=S1;clear H S1;have H:=H1;clear H1
 repeat (first|refine r_fo0 ?_|refine r_ld 0 H rfl rfl ?_)
 refine Zqu H.swap λw2 S2 H2=>?_;replace S:=S.trans S2;clear H S2;have H:=H2.swap;clear H2
 repeat (first|refine between_spec (by omega) (by omega) ?_|refine r_fo0 ?_|refine r_neq ?_|(with_reducible first|refine Za3 ?_|refine Za4 ?_|refine r_vt ?_)|refine r_ld 0 H rfl rfl ?_|((with_reducible refine r_vfN ?h ?_);(case h=>omega)))
 exact post _ S H.drop
theorem Zqh {bt:Nat}(H:Holds w (blk bt tT (tn0++tn1)::L)) (post:∀ w',Same w w'->Holds w' L->K (.tuple #[iv 82,iv 0]) w') :
  Cl prog 16 #[.agg (cfg bt).toArray,iv 10] w K:=by
 refine Tz16 ?_;unfold Vz16
 have hz:(zeroP prog tT).cells.toList=[.string ⟨#[]⟩,.string ⟨#[]⟩,iv 0,iv 0,iv 0]:=by kernel_rfl
 refine r_new H λbc w1 S1 H1=>?_;replace H1:Holds w1 (blk bc tC (cfg bt)::blk bt tT (tn0++tn1)::L):=H1;refine r_ldA 0 H1 (cfg bt) rfl rfl rfl ?_;refine Znu H1.swap λw2 S2 H2=>?_;have S:=S1.trans S2;clear H S1 S2 H1;have H:=H2.swap;clear H2
 repeat (first|refine r_neq ?_|((with_reducible refine r_vfN ?h ?_);(case h=>omega)))
 refine Za1 (λx w'=>w2=w'/\x=.bool false) ?_ ?_
 ·rintro _ _ _ ⟨rfl,rfl⟩
  repeat (first|refine r_fo0 ?_|refine r_lnl ?_|(with_reducible refine r_vf ?_)|refine r_ld 0 H rfl rfl ?_)
  refine Zaa (λq x w'=>∃ i:Nat,i<=2/\x=nv i/\q=iv (30*i)/\Same w w'/\Holds w' (blk bc tC (cfg bt)::blk bt tT (tn0++tn1)::L)) (λ_ x _=>2 - (intOf x).toNat) ⟨0,by omega,rfl,rfl,S,H⟩ ?_;clear H S;rintro _ _ _ w2 ⟨i,hi,rfl,rfl,S,H⟩
  repeat (refine r_lss ?_)
  refine r_ifD (λh=>?_) λh=>?_
  ·refine Zj0 (by omega) ?_
   have hld:∃ t:List Value,(((tn0++tn1).drop (i*5)).take 5=t)/\t.length=5/\t[4]?=some (iv 30)/\t.all sg=true:=by
    rcases (by omega:i=0\/i=1) with rfl|rfl
    ·exact⟨tn0,rfl,rfl,rfl,rfl⟩
    ·exact⟨tn1,rfl,rfl,rfl,rfl⟩
   obtain⟨t,ht,htl,ht4,hts⟩:=hld;refine r_ldA 1 H t rfl ht htl ?_;refine r_new H λb2 w3 S3 H3=>?_;rw[hz] at H3;refine r_stA 0 H3 (vs:=t) rfl (by simp) htl hts λw4 S4 H4=>?_
   have hset:setL [.string ⟨#[]⟩,.string ⟨#[]⟩,iv 0,iv 0,iv 0] 0 t=t:=by
    match t,htl with
    |[a,b,c,d,e],_=>rfl
   rw[hset,gJ] at H4;refine r_fo0 ?_;refine r_ld 0 H4 rfl ht4 ?_;refine Zd6 H4 (by omega) (by omega) (by omega) (by omega) λw5 S5 H5=>?_;rw[Zss _ _ (by omega)]
   repeat (first|refine r_ke ?_|(refine Za0 (by omega) ?_))
   refine⟨⟨i+1,by omega,rfl,?_,((S.trans S3).trans S4).trans S5,H5.drop⟩,?_⟩
   ·unfold iv;congr 1;try omega
   ·simp[nv,intOf];omega
  ·obtain rfl:i=2:=by omega
   repeat (first|refine Zl4 (by omega) (by omega) (by omega) (by omega) ?_|refine r_fo0 ?_|(refine r_dr H ?_;clear H;intro _ S_ H;replace S:=S.trans S_;clear S_)|refine r_ld 0 H rfl rfl ?_)
   refine r_rk (r_ld 0 H rfl rfl rfl) ?_;refine r_bsK [iv 10,iv 2,iv 2,iv 2] H (e:=tI) (by kernel_rfl) λb1 w4 S4 H4=>?_;have H5:=Zeo 0 (f:=iv) [10,2,2,2] H4 rfl;refine Zis H5 (by decide) (by decide) λw5 S5 H6=>?_;rw[show timG 1 [10,2,2,2]=80 by decide];refine Zd6 H6 (by omega) (by omega) (by omega) (by omega) λw6 S6 H7=>?_;rw[show addP 80 2=82 by decide];exact post _ (((S.trans S4).trans S5).trans S6) H7.drop.drop
 ·repeat (first|refine r_ke ?_|refine r_lss ?_|refine r_gtr ?_|((with_reducible refine r_vfD ?h ?_);(case h=>omega)))
  exact⟨rfl,by rw[decide_eq_false (by decide)]⟩
theorem Zoy (H:Holds w L) (post:∀ w',Same w w'->Holds w' L->K (.bool true) w'):Cl prog 5 #[] w K:=by
 refine Tz5 ?_;unfold Vz5
 have hz:(zeroP prog tT).cells.toList=[.string ⟨#[]⟩,.string ⟨#[]⟩,iv 0,iv 0,iv 0]:=by kernel_rfl
 refine r_bd (v:=.agg tn0.toArray) (by kernel_rfl) ?_;refine r_new H λb1 w1 S1 H1=>?_;rw[hz] at H1;refine r_stA 0 H1 (vs:=tn0) rfl (by decide) rfl rfl λw2 S2 H2=>?_;replace H2:Holds w2 (blk b1 tT tn0::L):=H2;refine r_bd (v:=.agg tn1.toArray) (by kernel_rfl) ?_;refine r_new H2 λb2 w3 S3 H3=>?_;rw[hz] at H3;refine r_stA 0 H3 (vs:=tn1) rfl (by decide) rfl rfl λw4 S4 H4=>?_;replace H4:Holds w4 (blk b2 tT tn1::blk b1 tT tn0::L):=H4;refine r_ldA 1 H4 tn0 rfl rfl rfl ?_;refine r_ldA 0 H4 tn1 rfl rfl rfl ?_;refine r_bsK (tn0++tn1) H4 (e:=tT) (by kernel_rfl) λbt w5 S5 H5=>?_;refine r_bd (v:=.agg (cfg bt).toArray) (by kernel_rfl) ?_;refine Zqh H5 λw6 S6 H6=>?_;have S:=((((S1.trans S2).trans S3).trans S4).trans S5).trans S6
 repeat (first|(with_reducible first|refine Za3 ?_|refine Za4 ?_))
 refine Steps_spec H6 (λh=>absurd (by unfold mayP;omega) h) λh w7 S7 H7=>?_;rw[show stepsP 3 0 24 0=880 by decide]
 repeat (first|refine r_eql ?_|(with_reducible first|refine Za3 ?_|refine Za4 ?_|refine r_pkB ?_)|((with_reducible refine r_vtE ?h ?_);(case h=>omega)))
 exact post _ (S.trans S7) H7.drop.drop
theorem setup_open {H:Type}{enc:TypeId × Value->H}{W:World}{base:Nat}{v:Value}{d:DataW H}{ps:List MemPlace}(hval:Value.okWide prog W .any base 24 v)
  (h:DataW.Trod enc prog W 0 (λ_=>true) true 24 v d ps):∃ k l u:Int,v=.agg #[iv k,iv l,iv u]/\True:=by
 obtain⟨v0,v1,v2,y0,y1,y2,n,rfl,_,_,h0,h1,h2⟩:=Joins.open_agg3 underlying24 (by kernel_rfl) (by kernel_rfl) hval h;obtain⟨n0,e0,_⟩:=DataW.trod_int underlying22 h0;obtain⟨n1,e1,_⟩:=DataW.trod_int underlying3 h1;obtain⟨n2,e2,_⟩:=DataW.trod_int underlying3 h2
 have f0:v0=iv n0:=by simpa using e0
 have f1:v1=iv n1:=by simpa using e1
 have f2:v2=iv n2:=by simpa using e2
 exact⟨n0,n1,n2,by rw[f0,f1,f2],trivial⟩
end D45
end Go.Proofs.YtpmjeiliblgajaaGreatDoor
set_option maxRecDepth 1000000
namespace Go.Proofs.YtpmjeiliblgajaaGreatDoor
open Go Go.Vc Go.Proofs.Tryz
attribute [local irreducible] Vc.Nc Vc.Ld Vc.LdA Vc.St Vc.StA Vc.Fo Vc.Iaa Vc.Ias Vc.Ixs Vc.Ixa Vc.Fd Vc.FdA Vc.Bp Vc.Bb Vc.Bn Vc.Up Vc.Ci Vc.Lns Vc.Lnl Vc.Ex Vc.Sst Vc.Ssl Vc.New Vc.Vif Vc.VJoin Vc.VLoop Vc.KE Vc.Dr Vc.Rk Vc.Cl Vc.Cx Vc.Inv Vc.Be Vc.Cv Vc.Cw Vc.Mf Vc.Sl Vc.Lk Vc.Bd Vc.Bs Vc.Ms Vc.Mm Vc.Mu Vc.Me Vc.Es Vc.Rg Vc.Nx Vc.Ta Vc.Ap Vc.Usd Vc.Ust Vc.Cp Vc.Ln Vc.Bc Vc.Bmin Vc.Bmax Vc.Bdel Vc.Bclr Vc.Pk
namespace K45
open P20
variable {w:World}{L:List HProp}{K:KT}
abbrev tSu:Nat:=24
theorem tab_triv {W:World}(h:laidMetH prog Rows.boundJobsRow.laid W):True:=trivial
theorem i_nat {k:Int}(h:0<=k):iv k=nv k.toNat:=by
 show Value.int .i64 k=.int .i64 ((k.toNat:Nat):Int)
 congr 1
 omega
def pp (k l u:Int):Nat:=if k=1 then l.toNat*u.toNat - 19 else u.toNat
theorem NN_le {k l u:Int}{n:Nat}(hk:k=1/\1<=l/\l<=9\/k=2\/k=3) (h3:24<=u) (h4:u<=200) (hn:n<=150):((NN k.toNat n (pp k l u):Nat):Int)<=D45.stepsP k l u (n:Int):=by
 unfold D45.stepsP NN pp;rw[gC];rcases hk with⟨rfl,h1,h2⟩|hk
 ·rw[if_pos (by rfl),if_pos rfl,if_pos rfl];obtain⟨a,rfl⟩:∃ a:Nat,l=a:=⟨l.toNat,by omega⟩;obtain⟨c,rfl⟩:∃ c:Nat,u=c:=⟨u.toNat,by omega⟩;rw[gC,gC];have hm1:1*24<=a*c:=Nat.mul_le_mul (by omega) (by omega);have hm2:a*c<=9*200:=Nat.mul_le_mul (by omega) (by omega)
  have e:((a:Int)*(c:Int) - 19).toNat=a*c - 19:=by
   rw[<-Int.natCast_mul];omega
  rw[e];exact Kp.NC_le ⟨by omega,by omega⟩ hn
 ·rw[if_neg (by omega),if_neg (by omega),if_neg (by omega)];exact Kp.NE_le (by omega) hn
theorem BoundJobs_spec (H:Holds w L) (k l u:Int) (s:ByteArray) (_:True) (_:s.size<=maxLen) (hU:True/\Kw.BndG L) (post:∀ w',Same w w'->Holds w' L->K (.bool true) w') :
  Cl prog 3 #[.agg #[iv k,iv l,iv u],.string s] w K:=by
 refine Tz3 ?_;unfold Vz3;obtain⟨T,rfl⟩:∃ T:List UInt8,s=⟨T.toArray⟩:=⟨_,Zyg s⟩;obtain⟨bl,hbl,hbw⟩:=hU.2
 letI:T12.Bnds:=⟨bl,hbl⟩
 have hB:T12.BndOk L:=hbw;refine r_new H λsb w1 S1 H1=>?_;replace H1:Holds w1 (blk sb tSu [iv k,iv l,iv u]::L):=H1;refine Za1 (λx w'=>w1=w'/\∃ c:Bool,x=.bool c/\(c=false->T.length<=150/\u<=200/\K38.MayP k l u 64)) ?_ ?_
 rotate_left
 ·refine q_len (r_gtr (r_ifD (λh=>?_) λh=>?_))
  ·exact r_ke ⟨rfl,true,rfl,λe=>by cases e⟩
  ·refine r_fo0 (r_ld 0 H1 rfl rfl (r_gtr (r_ifD (λh2=>?_) λh2=>?_)))
   ·exact r_ke ⟨rfl,true,rfl,λe=>by cases e⟩
   ·refine r_fo0 (r_ld 0 H1 rfl rfl (r_fo0 (r_ld 0 H1 rfl rfl (r_fo0 (r_ld 0 H1 rfl rfl ?_)))));refine K38.Zw0 λc hc=>r_not (r_ke ⟨rfl,!c,rfl,λe=>⟨by omega,by omega,hc (by simpa using e)⟩⟩)
 rintro _ _ _ ⟨rfl,c,rfl,hc⟩
 cases c with
 |true=>exact r_vt (D45.Zoy H1 λw2 S2 H2=>post w2 (S1.trans S2) H2.drop)
 |false=>
  obtain⟨hn,h4,hk,⟨h3,_⟩,_⟩:=hc rfl;refine r_vf (r_fo0 (r_ld 0 H1 rfl rfl (r_fo0 (r_ld 0 H1 rfl rfl (r_fo0 (r_ld 0 H1 rfl rfl ?_))))))
  have hkd:Kd k.toNat:=by unfold Kd;omega
  show Cl prog 6 #[iv k,iv l,iv u,nv 64] w1 _;rw[i_nat (k:=k) (by omega),i_nat (k:=u) (by omega)];refine Zux (k:=k.toNat) (n:=T.length) (p:=pp k l u) (lv:=l.toNat) (unit:=u.toNat) H1 hn ?_ (by omega) (by omega) (λe=>i_nat (by omega)) λj w2 S2 H2=>?_
  ·unfold pp;rcases hk with⟨rfl,a1,a2⟩|hk
   ·exact .inl ⟨rfl,by omega,by omega,by rw[if_pos rfl]⟩
   ·exact .inr ⟨by omega,by rw[if_neg (by omega)]⟩
  refine Za3 (Za4 ?_);have S12:=S1.trans S2;clear H H1 S1 S2;refine Zay (λw'=>Same w w'/\Holds w' (Jb k.toNat j (MD k.toNat T.length (pp k l u))::blk sb tSu [iv k,iv l,iv u]::L)) ?_ ?_
  ·rintro _ w3 ⟨S3,H3⟩;refine r_fo0 (r_ld 1 H3 rfl rfl (r_fo0 (r_ld 1 H3 rfl rfl (r_fo0 (r_ld 1 H3 rfl rfl (q_len ?_))))));refine D45.Steps_spec H3 (λh=>absurd (by unfold D45.mayP;omega) h) λ_ w4 S4 H4=>?_;refine Za3 (Za4 (r_eql (r_vtE rfl (r_eql (r_vtE rfl ?_)))));refine JFinD hkd H4 (r_vt ?_);refine JStepsD hkd H4 λst hst=>?_;refine r_leq (r_vtD ?_ ?_)
   ·have:=NN_le (k:=k) (l:=l) (u:=u) (n:=T.length) hk h3 h4 hn;omega
   ·exact D45.Zoy H4 λw5 S5 H5=>post w5 (S3.trans (S4.trans S5)) H5.drop.drop
  ·refine Zaa (λx y w'=>∃ (i f:Nat) (e:Bool),x=nv f/\y=nv i/\f<=T.length/\Same w w'/\(Holds w' (Jb k.toNat j (MA k.toNat T.length (pp k l u) i f e)::blk sb tSu [iv k,iv l,iv u]::L)\/(i<=19001/\Holds w' (Jb k.toNat j (MD k.toNat T.length (pp k l u))::blk sb tSu [iv k,iv l,iv u]::L))))
    (λ_ y _=>20001 - (intOf y).toNat) ⟨0,0,false,rfl,rfl,hE _,S12,.inl H2⟩ ?_
   clear H2 S12;rintro _ _ _ w3 ⟨i,f,e,rfl,rfl,hf,S3,hh⟩
   have hi:i<=19001:=by
    rcases hh with h|h
    ·have:=JBound hkd h;omega
    ·exact h.1
   refine r_lss (r_vtD (by omega) ?_);rcases hh with H3|⟨_,H3⟩
   rotate_left
   ·exact JFinD hkd H3 (r_vt (r_ke ⟨S3,H3⟩))
   refine JFinA hkd H3 (r_vf ?_);refine q_D hf ?_;have hl:(T.drop f).length=T.length - f:=gS ..;refine JFeed hkd H3 (by omega) λm w4 hm S4 H4=>?_;refine Za9 (by omega) ?_;refine Zay (λw'=>∃ e':Bool,(f+m=T.length->e'=true)/\Same w w'/\Holds w' (Jb k.toNat j (MB k.toNat T.length (pp k l u) i (f+m) e')::blk sb tSu [iv k,iv l,iv u]::L)) ?_ ?_
   ·rintro _ w5 ⟨e',he',S5,H5⟩;refine JStep hkd hB.up H5 he' λv w6 S6 H6=>?_;refine JTake hkd H6 λv2 w7 S7 h7=>?_;refine Za0 (by omega) (r_ke ⟨⟨i+1,f+m,e',rfl,rfl,by omega,S5.trans (S6.trans S7),?_⟩,?_⟩)
    ·rcases h7 with h|h
     ·exact .inl h
     ·refine .inr ⟨?_,h⟩;have:=JBound hkd H3;omega
    ·simp only[nv,intOf,gC];omega
   ·refine q_len (r_eql (r_ifE (λh=>?_) λh=>?_))
    ·have hfm:f+m=T.length:=by omega
     rw[hfm] at H4;refine JEnd hkd H4 λv w5 S5 H5=>?_;refine r_ke ⟨true,λ_=>rfl,S3.trans (S4.trans S5),?_⟩;rw[hfm];exact H5
    ·exact r_ke ⟨e,λq=>absurd (by rw[q]) h,S3.trans S4,H4⟩
end K45
end Go.Proofs.YtpmjeiliblgajaaGreatDoor
