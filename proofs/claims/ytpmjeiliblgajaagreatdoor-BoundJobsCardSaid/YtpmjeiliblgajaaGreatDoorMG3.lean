/- Several texts in one: M03, Me, Q23, Sw, Sh, Mf, Mg, Kr, Q24, Qs, Q25, Kv, Q2s, Kp, Ka, U18, P20, B20, B21, R3b, Rc, Rd, U22, W2s, Pc, W2p, W2q, W2x, W2h, Kb, Kd. -/
import Derived.Test.YtpmjeiliblgajaaGreatDoorMG2
import Derived.Test.YtpmjeiliblgajaaGreatDoorMG1
import Derived.Test.YtpmjeiliblgajaaGreatDoorMG0
import Derived.Deep.AppendSrc
import Derived.Deep.Upon
import Derived.Lib.UnsafeStr
import Derived.Shelf.Lays
import Derived.Shelf.Unicode.DecodeAny
import Derived.Ground.NamesProg
import Derived.Test.YtpmjeiliblgajaaGreatDoorProg
import Derived.Test.YtpmjeiliblgajaaGreatDoorFm
import Derived.Shelf.Strings.Repeat
set_option linter.unusedVariables false
set_option linter.unusedSimpArgs false
set_option linter.unusedSectionVars false
open Go.RowKit (intOf)
open List (drop_drop drop_zero eraseIdx_cons_succ eraseIdx_set_eq length_cons length_nil map_append set_append set_set)
namespace Go.M02
theorem Zyq {p q k:Nat}(hp:p<=1) (hq:q<=1):(p ^^^ q)*k=p*k ^^^ q*k:=by
 have h1:p=0\/p=1:=by omega
 have h2:q=0\/q=1:=by omega
 rcases h1 with rfl|rfl <;> rcases h2 with rfl|rfl <;> simp
theorem xor4 (w x y z:Nat):(w ^^^ x) ^^^ (y ^^^ z)=(w ^^^ y) ^^^ (x ^^^ z):=by
 rw[Nat.xor_assoc,Nat.xor_assoc];refine congrArg (λq=>w ^^^ q) ?_;rw[<-Nat.xor_assoc,Nat.xor_comm x y,Nat.xor_assoc]
theorem Zo3 {a b:Nat}(ha:a < 4294967296) (hb:b < 4294967296):crcStep (a ^^^ b)=crcStep a ^^^ crcStep b:=by
 have h1:(a ^^^ b)*2%4294967296=(a*2%4294967296) ^^^ (b*2%4294967296):=by
  have e1:(a ^^^ b)*2=(a*2) ^^^ (b*2):=by
   have:=Nat.shiftLeft_xor_distrib (i:=1) (a:=a) (b:=b);simpa [Nat.shiftLeft_eq] using this
  rw[e1];exact Nat.xor_mod_two_pow (n:=32)
 have h2:(a ^^^ b)/2147483648=(a/2147483648) ^^^ (b/2147483648):=Nat.xor_div_two_pow (n:=31);unfold crcStep;rw[h1,h2,Zyq (by omega) (by omega)];exact xor4 _ _ _ _
theorem Zog {a b:Nat}(ha:a < 4294967296) (hb:b < 4294967296):∀ k,crcN (a ^^^ b) k=crcN a k ^^^ crcN b k
 |0=>rfl
 |k+1=>by rw[crcN,Zog ha hb k,Zo3 (Zfo a ha k) (Zfo b hb k)];rfl
theorem Zop {a:Nat}(ha:a < 16777216):∀ k,k<=8->crcN a k=a*2^k
 |0,_=>by simp[crcN]
 |k+1,hk=>by
  have h2:2^k<=2^7:=Nat.pow_le_pow_right (by decide) (by omega);have h3:a*2^k<=16777215*128:=Nat.mul_le_mul (by omega) h2;rw[crcN,Zop ha k (by omega),Nat.pow_succ,<-Nat.mul_assoc];generalize a*2^k=y at *;unfold crcStep;rw[Nat.div_eq_of_lt (by omega),Nat.zero_mul,Nat.xor_zero,Nat.mod_eq_of_lt (by omega)]
theorem split24 (x:Nat):x=(x%16777216) ^^^ (x/16777216*16777216):=by
 apply Nat.eq_of_testBit_eq;intro i;rw[Nat.testBit_xor];have h1:(x%16777216).testBit i=(decide (i < 24)&&x.testBit i):=Nat.testBit_mod_two_pow x 24 i
 have h2:(x/16777216*16777216).testBit i=(decide (24<=i)&&x.testBit i):=by
  have h3:x/16777216*16777216=(x >>> 24) <<< 24:=by rw[Nat.shiftLeft_eq,Nat.shiftRight_eq_div_pow]
  rw[h3,Nat.testBit_shiftLeft,Nat.testBit_shiftRight]
  by_cases h:24<=i
  ·simp[h]
  ·simp[h]
 rw[h1,h2]
 by_cases h:i < 24
 ·simp[h,show ¬ 24<=i by omega]
 ·simp[h,show 24<=i by omega]
def crcB (s:Nat) (c:UInt8):Nat:=crcN (s ^^^ c.toNat*16777216) 8
theorem Zz8 {s:Nat}(h:s < 4294967296) (c:UInt8):crcB s c < 4294967296:=by
 have hc:=c.toNat_lt;exact Zfo _ (Nat.xor_lt_two_pow (n:=32) (by omega) (by omega)) 8
theorem Zvb {s:Nat}(h:s < 4294967296) (c:UInt8):(s*2^8%4294967296) ^^^ crcTab (s/16777216 ^^^ c.toNat)=crcB s c:=by
 have hc:=c.toNat_lt;have hx:s ^^^ c.toNat*16777216 < 4294967296:=Nat.xor_lt_two_pow (n:=32) (by omega) (by omega)
 have hlo:(s ^^^ c.toNat*16777216)%16777216=s%16777216:=by
  have:=Nat.xor_mod_two_pow (a:=s) (b:=c.toNat*16777216) (n:=24);rw[show (2:Nat)^24=16777216 from rfl] at this;rw[this,Nat.mul_mod_left,Nat.xor_zero]
 have hhi:(s ^^^ c.toNat*16777216)/16777216=s/16777216 ^^^ c.toNat:=by
  have:=Nat.xor_div_two_pow (a:=s) (b:=c.toNat*16777216) (n:=24);rw[show (2:Nat)^24=16777216 from rfl] at this;rw[this,Nat.mul_div_cancel _ (by decide)]
 have hh:s/16777216 ^^^ c.toNat < 256:=Nat.xor_lt_two_pow (n:=8) (by omega) (by omega);unfold crcB;rw[split24 (s ^^^ c.toNat*16777216),hlo,hhi,Zog (by omega) (by omega),Zop (by omega) 8 (by omega),crcTab];refine congrArg (λq=>q ^^^ crcN ((s/16777216 ^^^ c.toNat)*16777216) 8) ?_;omega
def crcF (s:Nat) (l:List UInt8):Nat:=l.foldl crcB s
theorem Zuq (s:Nat) (l:List UInt8) (c:UInt8):crcF s (l++[c])=crcB (crcF s l) c:=by simp[crcF]
def crcOf (l:List UInt8):Nat:=4294967295 - crcF 4294967295 l
theorem Zpq (l:List UInt8):crcOf l < 4294967296:=by unfold crcOf;omega
def comb (t b:Nat):Nat:=(t*2%4294967296) ^^^ (t/2147483648) ^^^ b
theorem comb_lt {t b:Nat}(ht:t < 4294967296) (hb:b < 4294967296):comb t b < 4294967296:=by
 unfold comb;exact Nat.xor_lt_two_pow (n:=32) (Nat.xor_lt_two_pow (n:=32) (by omega) (by omega)) (by omega)
end Go.M02
namespace Go.M03
def rleA:List UInt8->Nat->UInt8->List UInt8->Option (List UInt8)
 |out,run,p,[]=>if run=4 then none else some out
 |out,run,p,c::s=>
  if run=4 then
   if 251 < c.toNat then none else rleA (out++List.replicate c.toNat p) 0 c s
  else if 0 < run/\c=p then rleA (out++[c]) (run+1) c s
  else rleA (out++[c]) 1 c s
def rle (s:List UInt8):Option (List UInt8):=rleA [] 0 0 s
end Go.M03
namespace Go.Me
open Go.M01 Go.Mb Go.M03 Go.Mx
def pieceB (x:UInt8 × Nat):List UInt8:=List.replicate (min x.2 4) x.1++if 4<=x.2 then [UInt8.ofNat (x.2 - 4)] else []
theorem Zqn (x:UInt8 × Nat):(pieceB x).length<=5:=by
 unfold pieceB;rw[gD,gP];split
 ·simp;omega
 ·simp;omega
end Go.Me
namespace Go.Q23
open Go.M01 Go.Mb Go.Mp Go.M10 Go.Mc Go.Mz Go.Mk Go.Q21
theorem Ztu {p p':PS}{l:List Bool}{n:Nat}(h:pstep p l=.ok p' n):1<=n:=by
 unfold pstep at h
 repeat' split at h
 all_goals first
  |(cases h;omega)
  |cases h
theorem Zv4 {p p':DS}{l:List Bool}{n:Nat}(h:dstep p l=.ok p' n):1<=n:=by
 unfold dstep turn at h
 repeat' split at h
 all_goals first
  |(cases h;omega)
  |cases h
theorem Zgj {c c':CS}{l:List Bool}{o:Option Nat}{n:Nat}(hc:c.Ok) (h:cstep c l=.ok (c',o) n):1<=n:=by
 unfold cstep at h;split at h
 ·unfold withPicks at h;split at h
  ·cases h
  ·cases h
  ·rename_i p k hp;cases h;exact Ztu hp
 ·rename_i hd;split at h
  ·unfold withLens at h;split at h
   ·cases h
   ·cases h
   ·rename_i d k hdl
    repeat' split at h
    all_goals first
     |(cases h;exact Zv4 hdl)
     |cases h
  ·rename_i hlt;split at h
   ·cases h
   ·rename_i hg;unfold withSymbol at h;split at h
    ·cases h
    ·rename_i s k hs;cases h;obtain⟨x,h1,h2,h3,h4,h5⟩:=Zjq hc (by simpa using hd) hlt hg;exact (Zou h4 hs).2.2.1
theorem Zkm {l:List Bool}{T:Nat->Bool}{n:Nat}(h:uread l=.ok T n):1<=n/\n<=l.length/\listed T≠[]:=by
 unfold uread at h;split at h
 ·cases h
 ·split at h
  ·cases h
  ·split at h
   ·cases h
   ·cases h;exact⟨by omega,by omega,by assumption⟩
theorem Zdi {b b':BS}{k k':Nat}(h:bend b k=.ok b' k'):k'=k/\b'.last=b.last/\b'.room=b.room:=by
 unfold bend at h
 repeat' split at h
 all_goals first
  |(cases h;exact⟨rfl,rfl,rfl⟩)
  |cases h
theorem Zfp {b b':BS}{l:List Bool}{n:Nat}(hb:b.Ok) (h:bstep b l=.ok b' n):b'.room=b.room/\((1<=n/\b'.last=b.last)\/(n=0/\b'.last.length=b.last.length+1)):=by
 unfold bstep at h;split at h
 ·unfold bhead at h;split at h
  ·cases h
  ·split at h
   ·cases h
   ·have:=Zdi h;exact⟨this.2.2,.inl ⟨by omega,this.2.1⟩⟩
 ·split at h
  ·unfold buse at h;split at h
   ·cases h
   ·cases h
   ·rename_i T k hu;have:=Zdi h;exact⟨this.2.2,.inl ⟨by have:=Zkm hu;omega,this.2.1⟩⟩
  ·rename_i r hr;split at h
   ·unfold bnext at h;have:=Zdi h;exact⟨this.2.2,.inr ⟨this.1,by rw[this.2.1];simp⟩⟩
   ·unfold bsym at h;have hco:=(hb.some_ r hr).2.1.code;split at h
    ·cases h
    ·cases h
    ·rename_i c k hc;have:=Zdi h;exact⟨this.2.2,.inl ⟨by have:=Zgj hco hc;omega,this.2.1⟩⟩
    ·rename_i c s k hc;unfold btold at h;split at h
     ·cases h
     ·have:=Zdi h;exact⟨this.2.2,.inl ⟨by have:=Zgj hco hc;omega,this.2.1⟩⟩
theorem Zem {b:BS}(hb:b.Ok):b.last.length<=b.room:=by
 cases hr:b.row with
 |none=>rw[(hb.none_ hr).1];exact hE _
 |some r=>
  obtain⟨h1,h2,h3,h4,h5⟩:=hb.some_ r hr;have:=h2.zeros.sum;omega
section
variable {room:Nat}{l:List Bool}
end
end Go.Q23
namespace Go.Vc
section
variable {P:Program}{w:World}{L:List HProp}
theorem Zfx:∀ (us cs:List Value) (o:Nat),o+us.length<=cs.length->setL cs o us=cs.take o++us++cs.drop (o+us.length)
 |[],cs,o,h=>by simp[setL]
 |u::us,cs,o,h=>by
  simp only[length_cons] at h;rw[setL,Zfx us (cs.set o u) (o+1) (by rw[hX_];omega)]
  have h1:(cs.set o u).take (o+1)=cs.take o++[u]:=by
   rw[gO,List.getElem?_set_self (by omega)];simp only[Option.toList_some]
   congr 1
   exact List.take_set_of_le (Nat.le_refl o)
  have h2:(cs.set o u).drop (o+1+us.length)=cs.drop (o+(us.length+1)):=by
   rw[show o+1+us.length=o+(us.length+1) by omega];exact List.drop_set_of_lt (by omega)
  rw[h1,h2];simp
theorem Zd5 (b:Nat):∀ (vs:List Value) (w:World) (o:Nat),w.setCells b o vs=Vc.setCells w ⟨b,0,none⟩ vs o
 |[],w,o=>rfl
 |v::r,w,o=>by
  rw[World.setCells,Vc.setCells,Zd5 b r]
  have e1:(⟨b,0,none⟩:Addr).add o=⟨b,o,none⟩:=by
   unfold Addr.add;split
   ·rename_i h;rw[h]
   ·simp
  rw[e1]
theorem Zza {t e tx:TypeId}{z:Value} [hr:Row P t e z] (hk:P.underlying tx=some .string) (H:Holds w L) (i:Nat){v:Value}{xs ys:List UInt8}{ty:TypeId}{K:KT}
  (hi:L[i]?=some (SL bv e v xs)) (hn:xs.length+ys.length<=1099511627776)
  (h:∀ v' w',Same w w'->Holds w' (L.set i (SL bv e v' (xs++ys)))->K v' w'):Ap P #[t,tx] ty #[v,.string ⟨ys.toArray⟩] w K:=by
 obtain⟨inf,hinf,hsz,hby,hzz⟩:=hr.inf
 have hb:byteCells ⟨ys.toArray⟩=ys.map bv:=by
  unfold byteCells;simp
 have hsrc:∀ w,Src P inf.size tx (.string ⟨ys.toArray⟩) ys.length (ys.map bv) w:=λw=>by
  have:=Src.ofString (P:=P) w hk ⟨ys.toArray⟩;rw[hb] at this;rw[hsz]
  have e:(⟨ys.toArray⟩:ByteArray).size=ys.length:=by show ys.toArray.size=_;simp
  rw[e] at this;exact this
 obtain⟨oa,sp,rfl,H1⟩:=H.open i hi;have hil:i < L.length:=(gH.1 hi).1
 by_cases hy:ys=[]
 ·subst hy;refine⟨_,_,run_append_nothing w t tx ty e inf hr.und hinf oa xs.length (xs.length+sp.length) (by omega) _ (hsrc w),h _ _ (.refl _) ?_⟩
  rw[gU,show L.set i (SL bv e (.slice oa xs.length (xs.length+sp.length)) xs)=L from by
   have e1:L[i]=_:=(gH.1 hi).2
   rw[<-e1,List.set_getElem_self]]
  exact H
 have hy0:0 < ys.length:=gZ.2 hy;have hmul:(xs.length+ys.length)*inf.bytes<=140737488355328:=Nat.le_trans (Nat.mul_le_mul_left _ hby) (by omega)
 have hold:(Builtin.firstCells inf.size xs.length (.slice oa xs.length (xs.length+sp.length))).run P w.drew=.ok (xs.map bv).toArray w.drew:=by
  cases oa with
  |none=>
   obtain⟨g,⟨h2,h3⟩,_⟩:=H1.front i (Za2 hi);subst h2;exact run_firstCells_none w.drew inf.size 0 0 _
  |some a=>
   obtain⟨g,⟨h2,h3,_⟩,_⟩:=H1.front i (Za2 hi);obtain⟨b,o,s⟩:=a;simp only at h2 h3;subst h2;subst h3;have Hb:=H1.slb i (Za2 hi);refine run_firstCells_some w.drew inf.size xs.length ⟨b,0,none⟩ xs.length _ (xs.map bv) (by simp[hsz]) ?_;intro k u hu
   have e1:(⟨b,0,none⟩:Addr).add k=⟨b,k,none⟩:=by
    unfold Addr.add;split
    ·rename_i h;rw[h]
    ·simp
   rw[set_set] at Hb;have hc:=Hb.cell i (Za2 hi) k;rw[gM (by simpa using (gH.1 hu).1),hu] at hc;rw[e1];exact hc
 rcases hU_ sp.length ys.length with hg|hg
 ·have hrun:=run_append_grow_src (P:=P) w t tx ty e inf z hr.und hinf hzz oa xs.length (xs.length+sp.length) (xs.map bv) hold _ ys.length _ (hsrc w) (by omega) (by omega) (growslice_fits (by omega) hmul);refine⟨_,_,hrun,?_⟩;have hcap:=grownCap_ge w (xs.length+ys.length) (xs.length+sp.length) e;generalize grownCap w (xs.length+ys.length) (xs.length+sp.length) e=cap at hcap ⊢
  have hz2:Builtin.zeroCells z.cells (cap - (xs.length+ys.length))=(List.replicate (cap - (xs.length+ys.length)) z).toArray:=by
   rw[hr.one];apply Array.ext
   ·simp[Builtin.zeroCells]
   ·intro j h1 h2;simp[Builtin.zeroCells,Nat.mod_one]
  have hcells:((xs.map bv++ys.map bv).toArray++Builtin.zeroCells z.cells (cap - (xs.length+ys.length)))=((xs++ys).map bv++List.replicate (cap - (xs.length+ys.length)) z).toArray:=by
   rw[hz2];simp
  rw[hcells];have H2:=(H.same (w':=w.drew) rfl).alloc (.cells ((xs++ys).map bv++List.replicate (cap - (xs.length+ys.length)) z).toArray e);have H4:=(Holds.imp H2 (Q:=slb bv e (some ⟨w.heap.size,0,none⟩) (xs++ys) (List.replicate (cap - (xs.length+ys.length)) z)) λg hg=>⟨rfl,rfl,hg⟩);have H5:=H4.dropAt (i+1);rw[eraseIdx_cons_succ] at H5;have H6:Holds _ (L.set i (slb bv e (some ⟨w.heap.size,0,none⟩) (xs++ys) (List.replicate (cap - (xs.length+ys.length)) z))):=Sat.push i hi H5;have H7:=H6.close i (Za2 hi);rw[set_set] at H7
  have hc2:(xs++ys).length+(List.replicate (cap - (xs.length+ys.length)) z).length=cap:=by simp;omega
  have hl2:(xs++ys).length=xs.length+ys.length:=gD;rw[hc2,hl2] at H7;exact h _ _ ((Same.drew w).trans (.alloc _ _)) H7
 ·cases oa with
  |none=>
   obtain⟨g,⟨h2,h3⟩,_⟩:=H1.front i (Za2 hi);subst h3;simp at hg;exact absurd hg hy
  |some a=>
   obtain⟨g,⟨h2,h3,_⟩,_⟩:=H1.front i (Za2 hi);obtain⟨b,o,s⟩:=a;simp only at h2 h3;subst h2;subst h3;have Hb:=H1.slb i (Za2 hi);rw[set_set] at Hb;have hgi:=Za2 (Q:=blk b e (xs.map bv++sp)) hi
   have hrun:=run_append_room_src (P:=P) w t tx ty e inf hr.und hinf b 0 xs.length (xs.length+sp.length) _ ys.length _ (hsrc w) (by omega)
    (λj hj=>by
     rw[hS_] at hj
     rw[Hb.cell i hgi,hsz,Nat.mul_one,Nat.zero_add,gA (by rw[gD,hS_];omega)];rfl)
    (λj hj=>Hb.frozen i hgi _)
   refine⟨_,_,hrun,?_⟩;rw[Zd5,hsz,Nat.mul_one,Nat.zero_add];have H3:=Holds.setCells (o:=0) i (ys.map bv) xs.length Hb hgi;rw[set_set,Zfx _ _ _ (by simp;omega)] at H3
   have e2:(xs.map bv++sp).take (0+xs.length)++ys.map bv++(xs.map bv++sp).drop (0+xs.length+(ys.map bv).length)=(xs++ys).map bv++sp.drop ys.length:=by
    simp[List.take_append,List.drop_append]
   rw[e2] at H3;have H4:=Holds.slb' (f:=bv) (e:=e) (b:=b) (xs:=xs++ys) (sp:=sp.drop ys.length) H3 i (Za2 hi);rw[set_set] at H4;have H5:=H4.close i (Za2 hi);rw[set_set] at H5
   have hl:(xs++ys).length+(sp.drop ys.length).length=xs.length+sp.length:=by simp;omega
   have hl2:(xs++ys).length=xs.length+ys.length:=gD;rw[hl,hl2] at H5;exact h _ _ (Same.setCells _ _ _ _) H5
end
end Go.Vc
/-
 DERIVED: THE SHELF's CONTRACTS AT THIS DUMP,IN PLAIN WORDS (tools/lay-plain.mjs out of 'YtpmjeiliblgajaaGreatDoorShx.lean',which tools/lay-shelf.mjs wrote): THE SAME DECLARATIONS UNDER THE SAME NAMES: 'import','namespace','open','def','theorem' AND NOTHING ELSE: no command of the shelf's: FOR A HAND-IN. Each laying: the table of numbers ('.._ren') and one theorem,a field a fact of the dump's own or the kernel's comparison;each contract: ONE APPLICATION.
-/
namespace Go.Proofs
open Go.Shelf
def Tryz.lays105_ren:Go.Shelf.Ren:=⟨fun|105=>155|212=>172|99=>173|165=>174|166=>175|170=>176|169=>177|263=>196|264=>197|206=>198|240=>199|241=>200|276=>210|277=>211|n=>n,fun|9=>9|3=>3|4=>4|20=>20|0=>0|46=>135|109=>244|5=>5|72=>249|76=>253|51=>108|146=>264|53=>136|148=>266|70=>247|37=>86|75=>252|127=>152|164=>274|80=>74|n=>n,fun|n=>n⟩
theorem Tryz.lays105:Go.Proofs.Lays.n105 Tryz.prog Tryz.lays105_ren:={
 mixed:=by kernel_rfl
 f99:=Tryz.func173.trans (congrArg some (by kernel_rfl))
 f105:=Tryz.func155.trans (congrArg some (by kernel_rfl))
 f165:=Tryz.func174.trans (congrArg some (by kernel_rfl))
 f166:=Tryz.func175.trans (congrArg some (by kernel_rfl))
 f169:=Tryz.func177.trans (congrArg some (by kernel_rfl))
 f170:=Tryz.func176.trans (congrArg some (by kernel_rfl))
 f206:=Tryz.func198.trans (congrArg some (by kernel_rfl))
 f212:=Tryz.func172.trans (congrArg some (by kernel_rfl))
 f240:=Tryz.func199.trans (congrArg some (by kernel_rfl))
 f241:=Tryz.func200.trans (congrArg some (by kernel_rfl))
 f263:=Tryz.func196.trans (congrArg some (by kernel_rfl))
 f264:=Tryz.func197.trans (congrArg some (by kernel_rfl))
 f276:=Tryz.func210.trans (congrArg some (by kernel_rfl))
 f277:=Tryz.func211.trans (congrArg some (by kernel_rfl))
 t0:=Tryz.underlying0
 a0:=Tryz.isAgg0
 z0:=Tryz.sizeOf0
 v0:=Tryz.zeroValue0
 t3:=Tryz.underlying3
 a3:=Tryz.isAgg3
 z3:=Tryz.sizeOf3
 v3:=Tryz.zeroValue3
 t4:=Tryz.underlying4
 a4:=Tryz.isAgg4
 z4:=Tryz.sizeOf4
 v4:=Tryz.zeroValue4
 t5:=Tryz.underlying5
 a5:=Tryz.isAgg5
 z5:=Tryz.sizeOf5
 v5:=Tryz.zeroValue5
 t9:=Tryz.underlying9
 a9:=Tryz.isAgg9
 z9:=Tryz.sizeOf9
 v9:=Tryz.zeroValue9
 t20:=Tryz.underlying20
 a20:=Tryz.isAgg20
 z20:=Tryz.sizeOf20
 v20:=Tryz.zeroValue20
 t37:=Tryz.underlying86
 a37:=Tryz.isAgg86
 z37:=Tryz.sizeOf86
 v37:=Tryz.zeroValue86
 t46:=Tryz.underlying135
 a46:=Tryz.isAgg135
 z46:=Tryz.sizeOf135
 v46:=Tryz.zeroValue135
 t51:=Tryz.underlying108
 a51:=Tryz.isAgg108
 z51:=Tryz.sizeOf108
 v51:=Tryz.zeroValue108
 t53:=Tryz.underlying136
 a53:=Tryz.isAgg136
 z53:=Tryz.sizeOf136
 v53:=Tryz.zeroValue136
 t70:=Tryz.underlying247
 a70:=Tryz.isAgg247
 z70:=Tryz.sizeOf247
 v70:=Tryz.zeroValue247
 t72:=Tryz.underlying249
 a72:=Tryz.isAgg249
 z72:=Tryz.sizeOf249
 v72:=Tryz.zeroValue249
 t75:=Tryz.underlying252
 a75:=Tryz.isAgg252
 z75:=Tryz.sizeOf252
 v75:=Tryz.zeroValue252
 t76:=Tryz.underlying253
 a76:=Tryz.isAgg253
 z76:=Tryz.sizeOf253
 v76:=Tryz.zeroValue253
 t109:=Tryz.underlying244
 a109:=Tryz.isAgg244
 z109:=Tryz.sizeOf244
 v109:=Tryz.zeroValue244
 t127:=Tryz.underlying152
 a127:=Tryz.isAgg152
 z127:=Tryz.sizeOf152
 v127:=Tryz.zeroValue152
 t146:=Tryz.underlying264
 a146:=Tryz.isAgg264
 z146:=Tryz.sizeOf264
 v146:=Tryz.zeroValue264
 t148:=Tryz.underlying266
 a148:=Tryz.isAgg266
 z148:=Tryz.sizeOf266
 v148:=Tryz.zeroValue266
 t164:=Tryz.underlying274
 a164:=Tryz.isAgg274
 z164:=Tryz.sizeOf274
 v164:=Tryz.zeroValue274 }
end Go.Proofs
namespace Go.Me
open Go.M01 Go.Mb Go.M03 Go.Mx
abbrev Bl:Type:=List UInt8 × List UInt8
def BlOk (room:Nat) (b:Bl):Prop:=b.1≠[]/\b.1.length<=room/\Go.M03.rle b.1=some b.2
end Go.Me
namespace Go.Me
open Go.M01 Go.Mb Go.M03 Go.Mx
theorem Zdj (x:UInt8 × Nat):(pieceB x).length<=5*x.2/\(pieceB x).length<=5:=by
 unfold pieceB
 split <;> simp <;> omega
variable {room:Nat}{s body tx:List UInt8}{bs:List Bl}{x:UInt8 × Nat}{c d:UInt8}
end Go.Me
namespace Go.Vc
section
variable {α:Type}{P:Program}{w:World}{L:List HProp}{F:α->List Value}{k:Nat}{e:TypeId}{v:Value}{xs:List α}
def RO (F:α->List Value) (k:Nat) (e:TypeId) (v:Value) (xs:List α):HProp:=λh=>
 (xs=[]/\v=.slice none 0 0)\/∃ (b:Nat) (pre:List Value) (m:Nat) (sp:List Value),v=.slice (some ⟨b,pre.length,none⟩) xs.length (xs.length+m)/\m*k<=sp.length/\blk b e (pre++flatL F xs++sp) h
theorem Holds.openRO (H:Holds w L) (i:Nat) (hi:L[i]?=some (RO F k e v xs)):(xs=[]/\v=.slice none 0 0)\/∃ (b:Nat) (pre:List Value) (m:Nat) (sp:List Value),v=.slice (some ⟨b,pre.length,none⟩) xs.length (xs.length+m)/\m*k<=sp.length/\Holds w (L.set i (blk b e (pre++flatL F xs++sp))):=by
 obtain⟨g,hg,hs,hL⟩:=H.front i hi;rcases hg with⟨h1,h2⟩|⟨b,pre,m,sp,hv,hm,hg⟩
 ·exact .inl ⟨h1,h2⟩
 ·exact .inr ⟨b,pre,m,sp,hv,hm,Sat.push i hi ⟨g,hg,hs,hL⟩⟩
theorem Holds.sgRO (H:Holds w L) (i:Nat) (hi:L[i]?=some (RO F k e v xs)):sg v=true:=by
 rcases H.openRO i hi with⟨_,rfl⟩|⟨_,_,_,_,rfl,_,_⟩ <;> rfl
theorem Holds.toRO (H:Holds w L) (i:Nat) (hi:L[i]?=some (RW F k e v xs)):Holds w (L.set i (RO F k e v xs)):=H.at i hi λg hg=>by
 obtain⟨oa,m,sp,hv,hg⟩:=hg;subst hv
 cases oa with
 |none=>
  obtain⟨h1,h2⟩:=hg;subst h1;subst h2;exact .inl ⟨rfl,rfl⟩
 |some a=>
  obtain⟨b,o,s⟩:=a;obtain⟨h1,h2,h3,h4⟩:=hg;simp only at h1 h2;subst h1;subst h2;exact .inr ⟨b,[],m,sp,rfl,by omega,h4⟩
theorem Holds.nilRO (H:Holds w L) (F:α->List Value) (k:Nat) (e:TypeId):Holds w (RO F k e (.slice none 0 0) []::L):=Holds.toRO (H.nilRW F k e) 0 rfl
theorem Zd3 (b o n:Nat):(⟨b,o,none⟩:Addr).add n=⟨b,o+n,none⟩:=by
 unfold Addr.add;split
 ·rename_i h;rw[h];rfl
 ·rfl
theorem Zrb (hF:∀ x,(F x).length=k){q j:Nat}{x:α}{u:Value}(hx:xs[q]?=some x) (hu:(F x)[j]?=some u):(flatL F xs)[q*k+j]?=some u:=by
 have hj:j < k:=by have:=(gH.1 hu).1;rw[hF] at this;exact this
 have h:=congrArg (λl=>l[j]?) (Zdb hF xs q x hx);simp only[hI_ hj,hH_] at h;rw[h,hu]
theorem r_lnO (i:Nat) (H:Holds w L){K:Value->Prop}(hi:L[i]?=some (RO F k e v xs)) (h:K (nv xs.length)):Lnl v K:=by
 rcases H.openRO i hi with⟨rfl,rfl⟩|⟨b,pre,m,sp,rfl,_,_⟩
 ·exact r_lnl h
 ·exact r_lnl h
theorem Zx7 (i:Nat) (H:Holds w L){K:Value->Prop}(hi:L[i]?=some (RO F k e v xs)) (hF:∀ x,(F x).length=k){q j:Nat}{kk:IntKind}{x:α}{u:Value}(hx:xs[q]?=some x) (hu:(F x)[j]?=some u) (h:K u) :
  Ias k v (.int kk (q:Int)) λy=>Fo j y λz=>Ld z w K:=by
 rcases H.openRO i hi with⟨rfl,rfl⟩|⟨b,pre,m,sp,rfl,_,Hb⟩
 ·cases hx
 ·have hq:=(gH.1 hx).1;refine Zxo hq ?_;rw[Zd3];refine r_fo (r_ld i Hb (Za2 hi) ?_ h);have hc:=Zrb hF hx hu;rw[gI,gT (by omega),gM (by have:=(gH.1 hc).1;omega),show pre.length+q*k+j - pre.length=q*k+j by omega];exact hc
theorem Zz9 (i:Nat) (H:Holds w L){x:α}{r:List α}{kk:IntKind}{K:Value->Prop}(hi:L[i]?=some (RO F k e v (x::r))) (hF:∀ x,(F x).length=k) (h:∀ v',Holds w (L.set i (RO F k e v' r))->K v') :
  Ssl k v (some (.int kk 1)) none K:=by
 rcases H.openRO i hi with⟨h1,_⟩|⟨b,pre,m,sp,rfl,hm,Hb⟩
 ·cases h1
 ·have hgi:(L.set i (blk b e (pre++flatL F (x::r)++sp)))[i]?=some _:=Za2 hi;show Ssl k _ (some (.int kk ((1:Nat):Int))) none K;refine⟨_,_,_,1,(x::r).length,rfl,⟨kk,rfl⟩,rfl,by rw[length_cons];omega,by rw[length_cons];omega,?_⟩
  by_cases hc:(x::r).length+m=1
  ·rw[if_pos hc];rw[length_cons] at hc;obtain rfl:r=[]:=List.eq_nil_of_length_eq_zero (by omega)
   obtain rfl:m=0:=by simp at hc;exact hc
   refine h _ ?_
   have:=Hb.at i hgi (Q:=RO F k e (.slice (some ⟨b,pre.length,none⟩) 0 0) []) λg hg=>.inr ⟨b,pre,0,flatL F [x]++sp,rfl,by omega,by
    have e1:pre++flatL F ([]:List α)++(flatL F [x]++sp)=pre++flatL F [x]++sp:=by simp[flatL]
    rw[e1];exact hg⟩
   rw[set_set] at this;exact this
  ·rw[if_neg hc];refine h _ ?_
   have e0:(some (⟨b,pre.length,none⟩:Addr)).map (·.add (1*k))=some ⟨b,(pre++F x).length,none⟩:=by
    rw[Option.map_some,Zd3,gD,hF,Nat.one_mul]
   rw[e0]
   have:=Hb.at i hgi (Q:=RO F k e (.slice (some ⟨b,(pre++F x).length,none⟩) ((x::r).length - 1) ((x::r).length+m - 1)) r) λg hg=>.inr ⟨b,pre++F x,m,sp,by rw[length_cons];congr 1;omega,hm,by
    have e1:pre++F x++flatL F r++sp=pre++flatL F (x::r)++sp:=by simp[flatL]
    rw[e1];exact hg⟩
   rw[set_set] at this;exact this
theorem Zxt {t:TypeId} [hr:RowN P t e k] (H:Holds w L) (i j:Nat){ys:List α}{m' c' b2:Nat}{cs:List Value}{ty:TypeId}{K:KT}
  (hi:L[i]?=some (RO F k e v xs)) (hj:L[j]?=some (blk b2 e cs)) (hij:j≠i) (hcs:cs.take (ys.length*k)=flatL F ys) (hm:m'=ys.length) (hF:∀ y,(F y).length=k) (hs:∀ y,∀ u∈F y,sg u=true)
  (hn:xs.length+ys.length<=68719476736) (hne:0 < ys.length)
  (h:∀ v' w',Same w w'->Holds w' (L.set i (RO F k e v' (xs++ys)))->K v' w') :
  Ap P #[t,t] ty #[v,.slice (some ⟨b2,0,none⟩) m' c'] w K:=by
 subst hm;obtain⟨inf,z,hinf,hsz,hby,hzz,hzk⟩:=hr.inf;have hlen:=Zcm (k:=k) hF
 have hsg:∀ u∈flatL F ys,u.oneCell'=true:=by
  intro u hu;clear hcs hne hn h
  induction ys with
  |nil=>simp[flatL] at hu
  |cons y r ih=>
   rw[flatL,hT_] at hu;rcases hu with hu|hu
   ·exact Zot (hs y u hu)
   ·exact ih hu
 have hnews:∀ q u,(flatL F ys)[q]?=some u->w.cell? ((⟨b2,0,none⟩:Addr).add q)=some u:=by
  intro q u hu;rw[Zd3,Nat.zero_add,H.cell j hj q]
  have hq:q < ys.length*k:=by have:=(gH.1 hu).1;rw[hlen] at this;exact this
  rw[<-hu,<-hcs,hI_ hq]
 have hsrc:Src P inf.size t (.slice (some ⟨b2,0,none⟩) ys.length c') ys.length (flatL F ys) w:=Src.ofSlice w hr.und ⟨b2,0,none⟩ ys.length c' (flatL F ys) (by rw[hlen,hsz]) hnews hsg;have hmul:(xs.length+ys.length)*inf.bytes<=140737488355328:=Nat.le_trans (Nat.mul_le_mul_left _ hby) (by omega)
 have fin:∀ (b' cap:Nat) (w':World) (pre sp':List Value),xs.length+ys.length<=cap->(cap - (xs.length+ys.length))*k<=sp'.length->Same w w'->
   Holds w' (blk b' e (pre++flatL F (xs++ys)++sp')::L.eraseIdx i)->K (.slice (some ⟨b',pre.length,none⟩) (xs.length+ys.length) cap) w':=by
  intro b' cap w' pre sp' hc hsp S' H'
  have H4:=Holds.imp H' (Q:=RO F k e (.slice (some ⟨b',pre.length,none⟩) (xs.length+ys.length) cap) (xs++ys)) λg hg=>.inr ⟨b',pre,cap - (xs.length+ys.length),sp',by
   rw[gD];congr 1;omega,hsp,hg⟩
  exact h _ _ S' (Sat.push i hi H4)
 rcases H.openRO i hi with⟨h1,h2⟩|⟨b,pre,m,sp,rfl,hmk,Hb⟩
 ·subst h1;subst h2;have hrun:=run_append_grow_src (P:=P) w t t ty e inf z hr.und hinf hzz none 0 0 [] (run_firstCells_none w.drew inf.size 0 0 0) _ ys.length _ hsrc (by omega) (by simp at hn;omega) (growslice_fits (by omega) (by simpa using hmul));refine⟨_,_,hrun,?_⟩;have hcap:=grownCap_ge w (0+ys.length) 0 e;generalize grownCap w (0+ys.length) 0 e=cap at hcap ⊢;have H2:=(H.same (w':=w.drew) rfl).alloc (.cells (([]++flatL F ys).toArray++Builtin.zeroCells z.cells (cap - (0+ys.length))) e);have H5:=H2.dropAt (i+1);rw[eraseIdx_cons_succ] at H5;refine fin _ cap _ [] (Builtin.zeroCells z.cells (cap - (0+ys.length))).toList hcap (Nat.le_of_eq (by rw[Zbu,hzk];rfl)) ((Same.drew w).trans (.alloc _ _)) ?_
  have hc:(([]++flatL F ys).toArray++Builtin.zeroCells z.cells (cap - (0+ys.length)))=([]++flatL F ([]++ys)++(Builtin.zeroCells z.cells (cap - (0+ys.length))).toList).toArray:=by simp
  rw[hc] at H5 ⊢;exact H5
 ·have hgi:(L.set i (blk b e (pre++flatL F xs++sp)))[i]?=some (blk b e (pre++flatL F xs++sp)):=Za2 hi
  have hold:∀ q u,(flatL F xs)[q]?=some u->w.cell? ((⟨b,pre.length,none⟩:Addr).add q)=some u:=by
   intro q u hu;rw[Zd3,Hb.cell i hgi,gI,gT (by omega),gM (by have:=(gH.1 hu).1;omega),show pre.length+q - pre.length=q by omega];exact hu
  rcases hU_ m ys.length with hg|hg
  ·have hrun:=run_append_grow_src (P:=P) w t t ty e inf z hr.und hinf hzz (some ⟨b,pre.length,none⟩) xs.length (xs.length+m) (flatL F xs) (run_firstCells_some w.drew inf.size xs.length ⟨b,pre.length,none⟩ xs.length (xs.length+m) (flatL F xs) (by rw[hlen,hsz]) (by simpa using hold)) _ ys.length _ hsrc (by omega) (by omega) (growslice_fits (by omega) hmul);refine⟨_,_,hrun,?_⟩;have hcap:=grownCap_ge w (xs.length+ys.length) (xs.length+m) e;generalize grownCap w (xs.length+ys.length) (xs.length+m) e=cap at hcap ⊢;have H2:=(Hb.same (w':=w.drew) rfl).alloc (.cells ((flatL F xs++flatL F ys).toArray++Builtin.zeroCells z.cells (cap - (xs.length+ys.length))) e);have H5:=H2.dropAt (i+1);rw[eraseIdx_cons_succ,eraseIdx_set_eq] at H5;refine fin _ cap _ [] (Builtin.zeroCells z.cells (cap - (xs.length+ys.length))).toList hcap (Nat.le_of_eq (by rw[Zbu,hzk])) ((Same.drew w).trans (.alloc _ _)) ?_
   have hc:((flatL F xs++flatL F ys).toArray++Builtin.zeroCells z.cells (cap - (xs.length+ys.length)))=([]++flatL F (xs++ys)++(Builtin.zeroCells z.cells (cap - (xs.length+ys.length))).toList).toArray:=by
    rw[Zcj];simp
   rw[hc] at H5 ⊢;exact H5
  ·have hroom:ys.length*k<=m*k:=Nat.mul_le_mul_right _ hg
   have hrun:=run_append_room_src (P:=P) w t t ty e inf hr.und hinf b pre.length xs.length (xs.length+m) _ ys.length _ hsrc (by omega)
    (λq hq=>by
     rw[hlen] at hq
     rw[Hb.cell i hgi,hsz,gA (by rw[gD,gD,hlen];omega)];rfl)
    (λq hq=>Hb.frozen i hgi _)
   refine⟨_,_,hrun,?_⟩;rw[Zd5,hsz];have H3:=Holds.setCells (o:=0) i (flatL F ys) (pre.length+xs.length*k) Hb hgi;rw[set_set,Zfx _ _ _ (by rw[gD,gD,hlen,hlen];omega)] at H3
   have e2:(pre++flatL F xs++sp).take (0+(pre.length+xs.length*k))++flatL F ys++(pre++flatL F xs++sp).drop (0+(pre.length+xs.length*k)+(flatL F ys).length)=pre++flatL F (xs++ys)++sp.drop (ys.length*k):=by
    have e3:(pre++flatL F xs).length=pre.length+xs.length*k:=by rw[gD,hlen]
    rw[Nat.zero_add,<-e3,List.take_left' rfl,Zcj,<-drop_drop,List.drop_left' rfl,hlen];simp
   rw[e2] at H3;have H6:=H3.front i (Za2 hi);rw[eraseIdx_set_eq] at H6;refine fin b (xs.length+m) _ pre (sp.drop (ys.length*k)) (by omega) ?_ (Same.setCells _ _ _ _) H6;rw[gS,show xs.length+m - (xs.length+ys.length)=m - ys.length by omega,Nat.sub_mul];omega
theorem Ztf {t:TypeId} [hr:RowN P t e k] (H:Holds w L) (i:Nat){b:Option Addr}{c:Nat}{ty:TypeId}{K:KT}(hi:L[i]?=some (RO F k e v xs)) (h:K v w):Ap P #[t,t] ty #[v,.slice b 0 c] w K:=by
 obtain⟨inf,z,hinf,hsz,hby,hzz,hzk⟩:=hr.inf
 have hsrc:Src P inf.size t (.slice b 0 c) 0 [] w:=by
  cases b with
  |none=>exact Src.ofNil w hr.und c
  |some p=>exact Src.ofSlice w hr.und p 0 c [] (by simp) (λj u hu=>by simp at hu) (λ_ h=>by cases h)
 rcases H.openRO i hi with⟨rfl,rfl⟩|⟨b',pre,m,sp,rfl,_,_⟩
 ·exact⟨_,_,run_append_nothing w t t ty e inf hr.und hinf none _ _ (by omega) _ hsrc,h⟩
 ·exact⟨_,_,run_append_nothing w t t ty e inf hr.und hinf _ _ _ (by omega) _ hsrc,h⟩
end
end Go.Vc
namespace Go.Q24
open Go.M01 Go.Mb Go.Mp Go.M10 Go.Mc Go.Mz Go.Mk Go.M02 Go.M03
structure US where
 unit:Nat
 due:Nat
 at_:Nat
 level:Nat
 blk:Option BS
 last:List UInt8
 frm:Nat
 sum:Nat
 total:Nat
 ended:Bool
def u0 (unit:Nat):US:=⟨unit,0,0,0,none,[],0,0,0,false⟩
def US.mayEnd (u:US):Bool:=u.ended&&decide (u.due=0)&&decide (u.at_=0)
def letters:List Nat:=[66,90,104]
def uletter (u:US) (l:List Bool):Res (US × Nat):=
 if l.length < 8 then .short
 else if u.at_ < 3 then
  if valB (l.take 8)=letters.getD u.at_ 0 then .ok (⟨u.unit,u.due,u.at_+1,u.level,u.blk,u.last,u.frm,u.sum,u.total,u.ended⟩,0) 8 else .bad 20
 else if valB (l.take 8) < 49\/57 < valB (l.take 8) then .bad 20
 else .ok (⟨u.unit,1,0,valB (l.take 8) - 48,u.blk,u.last,u.frm,u.sum,0,u.ended⟩,0) 8
def umagic (u:US) (l:List Bool):Res (US × Nat):=
 if l.length < 48 then .short
 else if valB (l.take 48)=54156738319193 then .ok (⟨u.unit,2,u.at_,u.level,some (b0 (u.level*u.unit)),u.last,u.frm,u.sum,u.total,u.ended⟩,0) 48
 else if valB (l.take 48)=25779555029136 then .ok (⟨u.unit,3,u.at_,u.level,u.blk,u.last,u.frm,u.sum,u.total,u.ended⟩,0) 48
 else .bad 20
def uwith (u:US):Res BS->Res (US × Nat)
 |.short=>.short
 |.bad e=>.bad e
 |.ok b n=>if b.done=true then .ok (⟨u.unit,1,u.at_,u.level,none,b.last,b.frm,b.sum,comb u.total b.sum,u.ended⟩,1) n
  else .ok (⟨u.unit,u.due,u.at_,u.level,some b,u.last,u.frm,u.sum,u.total,u.ended⟩,0) n
def ubody (u:US) (l:List Bool):Res (US × Nat):=match u.blk with
 |none=>.bad 7
 |some b=>uwith u (bstep b l)
def usum (u:US) (l:List Bool):Res (US × Nat):=
 if l.length < 32 then .short
 else if valB (l.take 32)=u.total then .ok (⟨u.unit,0,u.at_,u.level,u.blk,u.last,u.frm,u.sum,u.total,true⟩,2) (32+(l.length - 32)%8)
 else .bad 21
def ustep (u:US) (l:List Bool):Res (US × Nat):=
 if u.due=0 then uletter u l else if u.due=1 then umagic u l else if u.due=2 then ubody u l else usum u l
structure US.Ok (u:US):Prop where
 unit:24<=u.unit/\u.unit<=100000
 due:u.due<=3
 at_:u.at_<=3
 at0:u.due≠0->u.at_=0
 lev:u.level<=9
 lev1:u.due≠0->1<=u.level
 blk:∀ b,u.blk=some b->u.due=2/\b.Ok/\b.done=false/\b.room=u.level*u.unit
 body:u.due=2->u.blk≠none
 last:u.last.length<=900000
 frm:u.frm < 16777216
 sum:u.sum < 4294967296
 total:u.total < 4294967296
theorem u0_ok {unit:Nat}(h:24<=unit/\unit<=100000):(u0 unit).Ok:=
 ⟨h,by simp[u0],by simp[u0],λ_=>rfl,by simp[u0],λh=>absurd rfl h,λb h=>by simp[u0] at h,λh=>by simp[u0] at h,by simp[u0],by simp[u0],by simp[u0],by simp[u0]⟩
theorem US.Ok.none_ {u:US}(h:u.Ok) (hd:u.due≠2):u.blk=none:=by
 cases hb:u.blk with
 |none=>rfl
 |some b=>exact absurd (h.blk b hb).1 hd
theorem Zeq {b b':BS}{l:List Bool}{n:Nat}(hb:b.Ok) (hd:b.done=false) (h:bstep b l=.ok b' n):b'.Ok:=by
 unfold bstep at h;split at h
 ·rename_i hh;unfold bhead at h;split at h
  ·cases h
  ·split at h
   ·cases h
   ·have h1:=Zae l 32;have h2:=Zae (l.drop 33) 24;exact (Zfa (Zf0 hb hh (by omega) (by omega)).2 h).1
 ·rename_i hh;split at h
  ·rename_i hr;unfold buse at h;split at h
   ·cases h
   ·cases h
   ·rename_i T k hu;exact (Zfa (Zrv hb (by simpa using hh) hr (Q23.Zkm hu).2.2) h).1
  ·rename_i r hr;split at h
   ·rename_i hw;exact (Zfa (Zoj hb hd hr hw) h).1
   ·rename_i hw;unfold bsym at h;split at h
    ·cases h
    ·cases h
    ·rename_i c k hc;exact (Zfa (Zs0 hb hd hr hc) h).1
    ·rename_i c s k hc;unfold btold at h;split at h
     ·cases h
     ·rename_i z d p hz;exact (Zfa (Zo8 hb hd hr (by simpa using hw) hc hz) h).1
theorem Zdv {u u':US}{l:List Bool}{n w:Nat}(hu:u.Ok) (h:ustep u l=.ok (u',w) n):u'.Ok/\u'.unit=u.unit:=by
 have hun:=hu.unit;have hlev:=hu.lev;unfold ustep at h;split at h
 ·rename_i hd;have hbn:=hu.none_ (by omega);unfold uletter at h;split at h
  ·cases h
  ·split at h
   ·split at h
    ·cases h;exact⟨⟨hun,hu.due,by show u.at_+1<=3;omega,λh=>absurd hd h,hlev,hu.lev1,λb hb=>(by rw[hbn] at hb;cases hb),hu.body,hu.last,hu.frm,hu.sum,hu.total⟩,rfl⟩
    ·cases h
   ·split at h
    ·cases h
    ·cases h;exact⟨⟨hun,by show 1<=3;omega,hE _,λ_=>rfl,by show valB (l.take 8) - 48<=9;omega,λ_=>by show 1<=valB (l.take 8) - 48;omega,λb hb=>(by rw[hbn] at hb;cases hb),λh=>(by cases h),hu.last,hu.frm,hu.sum,by show 0 < 4294967296;omega⟩,rfl⟩
 ·rename_i hd0;have hat:=hu.at0 hd0;have hl1:=hu.lev1 hd0;split at h
  ·rename_i hd;have hbn:=hu.none_ (by omega);unfold umagic at h;split at h
   ·cases h
   ·split at h
    ·cases h;refine⟨⟨hun,by show 2<=3;omega,hu.at_,λ_=>hat,hlev,λ_=>hl1,λb hb=>?_,λ_ h=>(by cases h),hu.last,hu.frm,hu.sum,hu.total⟩,rfl⟩;cases hb;refine⟨rfl,b0_ok ?_,rfl,rfl⟩;exact Nat.le_trans (Nat.mul_le_mul hlev hun.2) (by omega)
    ·split at h
     ·cases h;exact⟨⟨hun,by show 3<=3;omega,hu.at_,λ_=>hat,hlev,λ_=>hl1,λb hb=>(by rw[hbn] at hb;cases hb),λh=>(by cases h),hu.last,hu.frm,hu.sum,hu.total⟩,rfl⟩
     ·cases h
  ·split at h
   ·rename_i hd;unfold ubody at h;split at h
    ·cases h
    ·rename_i b hb;obtain⟨_,hbo,hbd,hbr⟩:=hu.blk b hb;unfold uwith at h;split at h
     ·cases h
     ·cases h
     ·rename_i b' n' hs;have hok:=Zeq hbo hbd hs;have hrm:=(Q23.Zfp hbo hs).1;split at h
      ·cases h;have:=Q23.Zem hok;have:=hok.room;exact⟨⟨hun,by show 1<=3;omega,hu.at_,λ_=>hat,hlev,λ_=>hl1,λb hb=>(by cases hb),λh=>(by cases h),by show b'.last.length<=900000;omega,hok.frm,hok.sum,comb_lt hu.total hok.sum⟩,rfl⟩
      ·rename_i hnd;cases h;refine⟨⟨hun,hu.due,hu.at_,hu.at0,hlev,hu.lev1,λb2 hb2=>?_,λ_ h=>(by cases h),hu.last,hu.frm,hu.sum,hu.total⟩,rfl⟩;cases hb2;exact⟨hd,hok,by simpa using hnd,by rw[hrm];exact hbr⟩
   ·rename_i hd1 hd2
    have hd3:u.due=3:=by have:=hu.due;omega
    have hbn:=hu.none_ (by omega);unfold usum at h;split at h
    ·cases h
    ·split at h
     ·cases h;exact⟨⟨hun,hE _,hu.at_,λh=>absurd rfl h,hlev,λh=>absurd rfl h,λb hb=>(by rw[hbn] at hb;cases hb),λh=>(by cases h),hu.last,hu.frm,hu.sum,hu.total⟩,rfl⟩
     ·cases h
theorem Zl5 {u:US}{l:List Bool}{e:Nat}(hu:u.Ok) (h:ustep u l=.bad e):e=20\/e=21\/e=22\/e=23\/e=25:=by
 unfold ustep at h;split at h
 ·unfold uletter at h
  repeat' split at h
  all_goals first
   |(cases h;omega)
   |cases h
 ·split at h
  ·unfold umagic at h
   repeat' split at h
   all_goals first
    |(cases h;omega)
    |cases h
  ·split at h
   ·rename_i hd;unfold ubody at h;split at h
    ·rename_i hb;exact absurd hb (hu.body hd)
    ·unfold uwith at h;split at h
     ·cases h
     ·rename_i hb;cases h
      rcases Zh2 hb with h|h|h <;> omega
     ·split at h <;> cases h
   ·unfold usum at h
    repeat' split at h
    all_goals first
     |(cases h;omega)
     |cases h
def inB (unit level:Nat) (last:List UInt8) (frm sum total:Nat) (en:Bool) (b:BS):US:=⟨unit,2,0,level,some b,last,frm,sum,total,en⟩
section
variable {unit level frm sum total:Nat}{last t:List UInt8}{en:Bool}
end
theorem foldl_val (l:List Bool):∀ a:Nat,l.foldl (λa b=>2*a+b.toNat) a=a*2^l.length+valB l:=by
 induction l with
 |nil=>intro a;simp[valB]
 |cons x l ih=>
  intro a;have h0:=ih x.toNat
  have e:valB (x::l)=x.toNat*2^l.length+valB l:=by
   rw[<-h0];simp[valB]
  rw[e,List.foldl_cons,ih,length_cons,Nat.pow_succ,Nat.add_mul]
  have:2*a*2^l.length=a*(2^l.length*2):=by
   rw[Nat.mul_comm 2 a,Nat.mul_assoc,Nat.mul_comm 2]
  omega
theorem valB_cons (x:Bool) (l:List Bool):valB (x::l)=x.toNat*2^l.length+valB l:=by
 have:=foldl_val l x.toNat;rw[<-this];simp[valB]
theorem valB_inj:∀ {a b:List Bool},a.length=b.length->valB a=valB b->a=b
 |[],[],_,_=>rfl
 |[],_::_,h,_=>by simp at h
 |_::_,[],h,_=>by simp at h
 |x::a,y::b,h,hv=>by
  have hl:a.length=b.length:=by simpa using h
  rw[valB_cons,valB_cons,hl] at hv;have h1:=Zbg a;have h2:=Zbg b;rw[hl] at h1
  have hx:x=y/\valB a=valB b:=by
   cases x <;> cases y <;> simp only[Bool.toNat_true,Bool.toNat_false,Nat.one_mul,Nat.zero_mul,Nat.zero_add] at hv
   ·exact⟨rfl,hv⟩
   ·omega
   ·omega
   ·exact⟨rfl,by omega⟩
  rw[hx.1,valB_inj hl hx.2]
theorem valB_app (a b:List Bool):valB (a++b)=valB a*2^b.length+valB b:=by
 have:=foldl_val b (valB a);rw[<-this];simp[valB]
end Go.Q24
namespace Go.Qs
open Go.M01 Go.Mb Go.Mp Go.M10 Go.Mc Go.Mz Go.Mk Go.M02 Go.M03 Go.Q24
def magW:List Bool:=bitsOf 54156738319193 48
def endW:List Bool:=bitsOf 25779555029136 48
def headB (level:Nat):List Bool:=bitsOf 66 8++(bitsOf 90 8++(bitsOf 104 8++bitsOf (48+level) 8))
theorem headB_len (level:Nat):(headB level).length=32:=by unfold headB;simp only[gD,Za5]
variable {x0:US × List UInt8}{l rest:List Bool}{t:List UInt8}{k level:Nat}{u:US}
structure Mid (unit level total:Nat) (u:US):Prop where
 due:u.due=1
 at_:u.at_=0
 lev:u.level=level
 unit:u.unit=unit
 total:u.total=total
theorem comb_lt {a c:Nat}(ha:a < 4294967296) (hc:c < 4294967296):comb a c < 4294967296:=by
 unfold comb;exact Nat.xor_lt_two_pow (n:=32) (Nat.xor_lt_two_pow (n:=32) (by show _ < 2^32;omega) (by show _ < 2^32;omega)) hc
end Go.Qs
namespace Go.Q25
open Go.M01 Go.Mb Go.Mp Go.M10 Go.Mc Go.Mz Go.Mk Go.Q24
def ccost (c:CS):Nat:=(if 0 < c.picks.count then 18 else 0)+c.size*c.codes.length+c.lens.lens.length
def CJ (c:CS):Prop:=c.done=true->0 < c.picks.count/\2<=c.codes.length
theorem Zui {p p':PS}{l:List Bool}{n:Nat}(h:pstep p l=.ok p' n):(0 < p.count->0 < p'.count)/\(if 0 < p'.count then 18 else 0)<=(if 0 < p.count then 18 else 0)+n:=by
 unfold pstep at h;split at h
 ·rename_i h0;split at h
  ·cases h
  ·split at h
   ·cases h
   ·cases h;refine⟨λh=>by omega,?_⟩
    split <;> split <;> omega
 ·rename_i h0
  repeat' split at h
  all_goals first
   |(cases h;exact⟨λh=>h,Nat.le_add_right _ _⟩)
   |cases h
theorem Zsj {d d':DS}{l:List Bool}{n:Nat}(h:dstep d l=.ok d' n):d'.size=d.size/\d'.lens.length<=d.lens.length+1:=by
 unfold dstep turn at h
 repeat' split at h
 all_goals first
  |(cases h;refine⟨rfl,?_⟩;simp)
  |cases h
theorem Zlc {c c':CS}{l:List Bool}{o:Option Nat}{n:Nat}(hc:c.Ok) (hj:CJ c) (h:cstep c l=.ok (c',o) n):CJ c'/\ccost c'<=ccost c+n/\c'.size=c.size:=by
 have hpos:=Q23.Zgj hc h;unfold cstep at h;split at h
 ·unfold withPicks at h;split at h
  ·cases h
  ·cases h
  ·rename_i p k hp;cases h;have:=Zui hp;refine⟨λhd=>⟨this.1 (hj hd).1,(hj hd).2⟩,?_,rfl⟩;unfold ccost;simp only;omega
 ·rename_i hpd;split at h
  ·unfold withLens at h;split at h
   ·cases h
   ·cases h
   ·rename_i d k hd;have h1:=Zsj hd;have h2:=hc.ds;split at h
    ·rename_i hdn;split at h
     ·cases h;refine⟨λhd=>⟨(hj hd).1,?_⟩,?_,rfl⟩
      ·have:=(hj hd).2;simp only[gD,gQ];omega
      ·unfold ccost
       have hdl:d.lens.length=c.size:=by
        unfold DS.done at hdn;rw[decide_eq_true_eq] at hdn;omega
       simp only[gD,gQ,Nat.mul_add,Nat.mul_one,d0,length_nil];omega
     ·cases h
    ·cases h;refine⟨hj,?_,rfl⟩;unfold ccost;simp only;omega
  ·rename_i hlt;split at h
   ·cases h
   ·unfold withSymbol at h;split at h
    ·cases h
    ·cases h
     have hpd2:c.picks.done=true:=by simpa using hpd
     unfold PS.done at hpd2;rw[decide_eq_true_eq] at hpd2;have:=hc.pk.tbl hpd2.1;refine⟨λ_=>⟨hpd2.1,by show 2<=c.codes.length;omega⟩,?_,rfl⟩;unfold ccost;simp only;omega
def bcost (b:BS):Nat:=(if b.head=true then 57 else 0)+match b.row with
 |none=>0
 |some r=>32+ccost r.code
def BJ (b:BS):Prop:=∀ r,b.row=some r->CJ r.code
theorem Zep {b b':BS}{k n:Nat}(h:bend b k=.ok b' n):n=k/\b'.row=b.row/\b'.head=b.head/\(b'.done=true->b.done=true\/∃ r,b.row=some r/\r.code.done=true):=by
 unfold bend at h;split at h
 ·cases h;exact⟨rfl,rfl,rfl,λh=>.inl h⟩
 ·rename_i r hr;split at h
  ·cases h;exact⟨rfl,rfl,rfl,λh=>.inl h⟩
  ·rename_i hn;split at h
   ·cases h
   ·cases h;refine⟨rfl,rfl,rfl,λ_=>.inr ⟨r,hr,?_⟩⟩
    cases hd:r.code.done with
    |true=>rfl
    |false=>exact absurd (.inl hd) hn
theorem Zuv (l:List Bool):usedT [] l=λ_=>false:=by
 funext b;rfl
theorem Zwi {l:List Bool}{T:Nat->Bool}{n:Nat}(h:uread l=.ok T n):32<=n:=by
 unfold uread at h;split at h
 ·cases h
 ·split at h
  ·cases h
  ·split at h
   ·cases h
   ·rename_i hne;cases h;rcases hm:marksL (l.take 16) with _|⟨a,t⟩
    ·rw[hm] at hne;exfalso;apply hne;unfold listed;rw[Zuv];simp
    ·simp only[length_cons];omega
theorem Ztv {b b':BS}{l:List Bool}{n:Nat}(hb:b.Ok) (hj:BJ b) (hd:b.done=false) (h:bstep b l=.ok b' n) :
  BJ b'/\bcost b'<=bcost b+n/\(b'.done=true->112<=bcost b'):=by
 have hok:=Zeq hb hd h
 have fin:(BJ b'/\bcost b'<=bcost b+n/\(b'.done=true->∃ r,b'.row=some r/\r.code.done=true))->BJ b'/\bcost b'<=bcost b+n/\(b'.done=true->112<=bcost b'):=by
  rintro⟨h1,h2,h3⟩;refine⟨h1,h2,λhdn=>?_⟩;obtain⟨r,hr,hrd⟩:=h3 hdn;obtain⟨g1,g2,_⟩:=hok.some_ r hr;have:=h1 r hr hrd;have hs:=g2.code.s1;unfold bcost ccost;rw[g1,hr,if_pos rfl];simp only[if_pos this.1];have:3*2<=r.code.size*r.code.codes.length:=Nat.mul_le_mul hs this.2;omega
 apply fin;unfold bstep at h;split at h
 ·rename_i hh;unfold bhead at h;split at h
  ·cases h
  ·split at h
   ·cases h
   ·have hrn:=(Zf0 (s:=0) (f:=0) hb hh (by omega) (by omega)).1;obtain⟨rfl,h1,h2,h3⟩:=Zep h;simp only at h1 h2 h3;refine⟨λr hr=>(by rw[h1,hrn] at hr;cases hr),?_,λhdn=>?_⟩
    ·unfold bcost;rw[h1,h2,hrn,hh];simp
    ·rcases h3 hdn with h|⟨r,hr,_⟩
     ·rw[hd] at h;cases h
     ·rw[hrn] at hr;cases hr
 ·rename_i hh
  have hh2:b.head=true:=by simpa using hh
  split at h
  ·rename_i hrn;unfold buse at h;split at h
   ·cases h
   ·cases h
   ·rename_i T k hu;obtain⟨rfl,h1,h2,h3⟩:=Zep h;simp only at h1 h2 h3;have h32:=Zwi hu;refine⟨λr hr=>?_,?_,λhdn=>?_⟩
    ·rw[h1] at hr;cases hr;intro hx;cases hx
    ·unfold bcost;rw[h1,h2,hrn,hh2];simp only[rowOf,ccost,c0,p0,d0,length_nil,Nat.mul_zero,Nat.lt_irrefl,if_false,if_true];omega
    ·rcases h3 hdn with h|⟨r,hr,hx⟩
     ·rw[hd] at h;cases h
     ·cases hr;cases hx
  ·rename_i r hr;have hjr:=hj r hr;split at h
   ·unfold bnext at h;obtain⟨rfl,h1,h2,h3⟩:=Zep h;simp only at h1 h2 h3;refine⟨λr' hr'=>?_,?_,λhdn=>?_⟩
    ·rw[h1] at hr';cases hr';exact hjr
    ·unfold bcost;rw[h1,h2,hr];simp only[RS.next];omega
    ·rcases h3 hdn with h|⟨r',hr',hx⟩
     ·rw[hd] at h;cases h
     ·exact⟨r',by rw[h1];exact hr',hx⟩
   ·have hco:=(hb.some_ r hr).2.1.code;unfold bsym at h;split at h
    ·cases h
    ·cases h
    ·rename_i c k hc;have hcc:=Zlc hco hjr hc;obtain⟨rfl,h1,h2,h3⟩:=Zep h;simp only at h1 h2 h3;refine⟨λr' hr'=>?_,?_,λhdn=>?_⟩
     ·rw[h1] at hr';cases hr';exact hcc.1
     ·unfold bcost;rw[h1,h2,hr];simp only;omega
     ·rcases h3 hdn with h|⟨r',hr',hx⟩
      ·rw[hd] at h;cases h
      ·exact⟨r',by rw[h1];exact hr',hx⟩
    ·rename_i c s k hc;have hcc:=Zlc hco hjr hc;unfold btold at h;split at h
     ·cases h
     ·rename_i z d p hz;obtain⟨rfl,h1,h2,h3⟩:=Zep h;simp only at h1 h2 h3;refine⟨λr' hr'=>?_,?_,λhdn=>?_⟩
      ·rw[h1] at hr';cases hr';exact hcc.1
      ·unfold bcost;rw[h1,h2,hr];simp only;omega
      ·rcases h3 hdn with h|⟨r',hr',hx⟩
       ·rw[hd] at h;cases h
       ·exact⟨r',by rw[h1];exact hr',hx⟩
def bkL:Option BS->Nat
 |none=>0
 |some b=>b.last.length
def bkC:Option BS->Nat
 |none=>0
 |some b=>48+bcost b
structure Cnt (u:US) (q i m:Nat):Prop where
 bits:bkC u.blk+160*m<=q
 steps:i<=q+9*u.unit*m+bkL u.blk
 bj:∀ b,u.blk=some b->BJ b
theorem cnt0 (unit:Nat):Cnt (u0 unit) 0 0 0:=⟨by simp[u0,bkC],by simp,λb h=>by simp[u0] at h⟩
theorem Zsx {u u':US}{l:List Bool}{n w q i m:Nat}(hu:u.Ok) (hc:Cnt u q i m) (h:ustep u l=.ok (u',w) n):Cnt u' (q+n) (i+1) (m+if w=1 then 1 else 0):=by
 have hlev:=hu.lev;have h1:=hc.bits;have h2:=hc.steps;unfold ustep at h;split at h
 ·rename_i hd;have hbn:=hu.none_ (by omega);rw[hbn] at h1 h2;unfold uletter at h
  repeat' split at h
  all_goals first
   |(cases h;exact⟨by show bkC u.blk+160*m<=q+8;rw[hbn];omega,by show i+1<=q+8+9*u.unit*m+bkL u.blk;rw[hbn];omega,λb hb=>(by rw[hbn] at hb;cases hb)⟩)
   |cases h
 ·split at h
  ·rename_i hd;have hbn:=hu.none_ (by omega);rw[hbn] at h1 h2;simp only[bkC,bkL] at h1 h2;unfold umagic at h;split at h
   ·cases h
   ·split at h
    ·cases h;refine⟨?_,?_,λb hb=>?_⟩
     ·show bkC (some (b0 (u.level*u.unit)))+160*m<=q+48;simp only[bkC,bcost,b0];simp;omega
     ·show i+1<=q+48+9*u.unit*m+bkL (some (b0 (u.level*u.unit)));omega
     ·cases hb;intro r hr;simp[b0] at hr
    ·split at h
     ·cases h;refine⟨?_,?_,λb hb=>(by rw[hbn] at hb;cases hb)⟩
      ·show bkC u.blk+160*m<=q+48;rw[hbn];simp only[bkC];omega
      ·show i+1<=q+48+9*u.unit*m+bkL u.blk;omega
     ·cases h
  ·split at h
   ·rename_i hd;unfold ubody at h;split at h
    ·cases h
    ·rename_i b hb;obtain⟨_,hbo,hbd,hbr⟩:=hu.blk b hb;rw[hb] at h1 h2;simp only[bkC,bkL] at h1 h2;unfold uwith at h;split at h
     ·cases h
     ·cases h
     ·rename_i b' n' hs;obtain⟨c1,c2,c3⟩:=Ztv hbo (hc.bj b hb) hbd hs;have hok:=Zeq hbo hbd hs;have hpg:=Q23.Zfp hbo hs;have hlr:=Q23.Zem hok;have hle:u.level*u.unit<=9*u.unit:=Nat.mul_le_mul_right _ hlev;split at h
      ·rename_i hdn;cases h;have:=c3 hdn;refine⟨?_,?_,λb hb=>(by cases hb)⟩
       ·show bkC none+160*(m+1)<=q+n;simp only[bkC];omega
       ·show i+1<=q+n+9*u.unit*(m+1)+bkL none;rw[Nat.mul_add,Nat.mul_one];simp only[bkL];rcases hpg.2 with⟨h3,h4⟩|⟨h3,h4⟩
        ·rw[h4] at hlr;omega
        ·omega
      ·cases h;refine⟨?_,?_,λb2 hb2=>(by cases hb2;exact c1)⟩
       ·show bkC (some b')+160*m<=q+n;simp only[bkC];omega
       ·show i+1<=q+n+9*u.unit*m+bkL (some b');simp only[bkL];rcases hpg.2 with⟨h3,h4⟩|⟨h3,h4⟩
        ·rw[h4];omega
        ·omega
   ·rename_i hd1 hd2;have hbn:=hu.none_ hd2;rw[hbn] at h1 h2;simp only[bkC,bkL] at h1 h2;unfold usum at h;split at h
    ·cases h
    ·split at h
     ·cases h;refine⟨?_,?_,λb hb=>(by rw[hbn] at hb;cases hb)⟩
      ·show bkC u.blk+160*m<=q+(32+(l.length - 32)%8);rw[hbn];simp only[bkC];omega
      ·show i+1<=q+(32+(l.length - 32)%8)+9*u.unit*m+bkL u.blk;omega
     ·cases h
theorem Ya2 {u:US}(hu:u.Ok):bkL u.blk<=9*u.unit:=by
 cases hb:u.blk with
 |none=>exact hE _
 |some b=>
  obtain⟨_,hbo,_,hbr⟩:=hu.blk b hb;have hlr:=Q23.Zem hbo;have hle:u.level*u.unit<=9*u.unit:=Nat.mul_le_mul_right _ hu.lev;show b.last.length<=_;omega
end Go.Q25
namespace Go.Vc
section
variable {P:Program}{w:World}{L:List HProp}{e:TypeId}{v:Value}{xs:List UInt8}
def OB (e:TypeId) (v:Value) (xs:List UInt8):HProp:=λh=>
 (xs=[]/\v=.slice none 0 0)\/∃ (b:Nat) (pre:List Value) (m:Nat) (sp:List Value),v=.slice (some ⟨b,pre.length,none⟩) xs.length (xs.length+m)/\m<=sp.length/\blk b e (pre++xs.map bv++sp) h
theorem Holds.openOB (H:Holds w L) (i:Nat) (hi:L[i]?=some (OB e v xs)):(xs=[]/\v=.slice none 0 0)\/∃ (b:Nat) (pre:List Value) (m:Nat) (sp:List Value),v=.slice (some ⟨b,pre.length,none⟩) xs.length (xs.length+m)/\m<=sp.length/\Holds w (L.set i (blk b e (pre++xs.map bv++sp))):=by
 obtain⟨g,hg,hs,hL⟩:=H.front i hi;rcases hg with⟨h1,h2⟩|⟨b,pre,m,sp,hv,hm,hg⟩
 ·exact .inl ⟨h1,h2⟩
 ·exact .inr ⟨b,pre,m,sp,hv,hm,Sat.push i hi ⟨g,hg,hs,hL⟩⟩
theorem Holds.sgOB (H:Holds w L) (i:Nat) (hi:L[i]?=some (OB e v xs)):sg v=true:=by
 rcases H.openOB i hi with⟨_,rfl⟩|⟨_,_,_,_,rfl,_,_⟩ <;> rfl
theorem Holds.nilOB (H:Holds w L) (e:TypeId):Holds w (OB e (.slice none 0 0) []::L):=Holds.imp (H.nilSL bv e) λ_ _=>.inl ⟨rfl,rfl⟩
theorem Zu2 (i:Nat) (H:Holds w L){K:Value->Prop}(hi:L[i]?=some (OB e v xs)) (h:K (nv xs.length)):Lnl v K:=by
 rcases H.openOB i hi with⟨rfl,rfl⟩|⟨b,pre,m,sp,rfl,_,_⟩
 ·exact r_lnl h
 ·exact r_lnl h
theorem Zw1 {t tx:TypeId}{z:Value} [hr:Row P t e z] (hk:P.underlying tx=some .string) (H:Holds w L) (i:Nat){ys:List UInt8}{ty:TypeId}{K:KT}
  (hi:L[i]?=some (OB e v xs)) (hn:xs.length+ys.length<=1099511627776)
  (h:∀ v' w',Same w w'->Holds w' (L.set i (OB e v' (xs++ys)))->K v' w'):Ap P #[t,tx] ty #[v,.string ⟨ys.toArray⟩] w K:=by
 obtain⟨inf,hinf,hsz,hby,hzz⟩:=hr.inf
 have hb:byteCells ⟨ys.toArray⟩=ys.map bv:=by
  unfold byteCells;simp
 have hsrc:Src P inf.size tx (.string ⟨ys.toArray⟩) ys.length (ys.map bv) w:=by
  have:=Src.ofString (P:=P) w hk ⟨ys.toArray⟩;rw[hb] at this;rw[hsz]
  have e:(⟨ys.toArray⟩:ByteArray).size=ys.length:=by show ys.toArray.size=_;simp
  rw[e] at this;exact this
 by_cases hy:ys=[]
 ·subst hy
  have e0:L.set i (OB e v (xs++[]))=L:=by
   rw[gU];have e1:L[i]'(gH.1 hi).1=_:=(gH.1 hi).2;rw[<-e1,List.set_getElem_self]
  rcases H.openOB i hi with⟨rfl,rfl⟩|⟨b,pre,m,sp,rfl,_,_⟩
  ·exact⟨_,_,run_append_nothing w t tx ty e inf hr.und hinf none _ _ (by omega) _ hsrc,h _ _ (.refl _) (by rw[e0];exact H)⟩
  ·exact⟨_,_,run_append_nothing w t tx ty e inf hr.und hinf _ _ _ (by omega) _ hsrc,h _ _ (.refl _) (by rw[e0];exact H)⟩
 have hy0:0 < ys.length:=gZ.2 hy;have hmul:(xs.length+ys.length)*inf.bytes<=140737488355328:=Nat.le_trans (Nat.mul_le_mul_left _ hby) (by omega)
 have fin:∀ (b' cap:Nat) (w':World) (pre sp':List Value),xs.length+ys.length<=cap->cap - (xs.length+ys.length)<=sp'.length->Same w w'->
   Holds w' (blk b' e (pre++(xs++ys).map bv++sp')::L.eraseIdx i)->K (.slice (some ⟨b',pre.length,none⟩) (xs.length+ys.length) cap) w':=by
  intro b' cap w' pre sp' hc hsp S' H'
  have H4:=Holds.imp H' (Q:=OB e (.slice (some ⟨b',pre.length,none⟩) (xs.length+ys.length) cap) (xs++ys)) λg hg=>.inr ⟨b',pre,cap - (xs.length+ys.length),sp',by
   rw[gD];congr 1;omega,hsp,hg⟩
  exact h _ _ S' (Sat.push i hi H4)
 have hz2:∀ n,Builtin.zeroCells z.cells n=(List.replicate n z).toArray:=by
  intro n;rw[hr.one];apply Array.ext
  ·simp[Builtin.zeroCells]
  ·intro j h1 h2;simp[Builtin.zeroCells,Nat.mod_one]
 rcases H.openOB i hi with⟨h1,h2⟩|⟨b,pre,m,sp,rfl,hmk,Hb⟩
 ·subst h1;subst h2;have hrun:=run_append_grow_src (P:=P) w t tx ty e inf z hr.und hinf hzz none 0 0 [] (run_firstCells_none w.drew inf.size 0 0 0) _ ys.length _ hsrc (by omega) (by simp at hn;omega) (growslice_fits (by omega) (by simpa using hmul));refine⟨_,_,hrun,?_⟩;have hcap:=grownCap_ge w (0+ys.length) 0 e;generalize grownCap w (0+ys.length) 0 e=cap at hcap ⊢;have H2:=(H.same (w':=w.drew) rfl).alloc (.cells (([]++ys.map bv).toArray++Builtin.zeroCells z.cells (cap - (0+ys.length))) e);have H5:=H2.dropAt (i+1);rw[eraseIdx_cons_succ] at H5;refine fin _ cap _ [] (List.replicate (cap - (0+ys.length)) z) hcap (Nat.le_of_eq (by rw[gP];rfl)) ((Same.drew w).trans (.alloc _ _)) ?_
  have hc:(([]++ys.map bv).toArray++Builtin.zeroCells z.cells (cap - (0+ys.length)))=([]++([]++ys).map bv++List.replicate (cap - (0+ys.length)) z).toArray:=by rw[hz2];simp
  rw[hc] at H5 ⊢;exact H5
 ·have hgi:(L.set i (blk b e (pre++xs.map bv++sp)))[i]?=some (blk b e (pre++xs.map bv++sp)):=Za2 hi;have hlen:(ys.map bv).length=ys.length:=hS_ ..;have hlex:(xs.map bv).length=xs.length:=hS_ ..
  have hold:∀ q u,(xs.map bv)[q]?=some u->w.cell? ((⟨b,pre.length,none⟩:Addr).add q)=some u:=by
   intro q u hu;rw[Zd3,Hb.cell i hgi,gI,gT (by omega),gM (by have:=(gH.1 hu).1;omega),show pre.length+q - pre.length=q by omega];exact hu
  rcases hU_ m ys.length with hg|hg
  ·have hrun:=run_append_grow_src (P:=P) w t tx ty e inf z hr.und hinf hzz (some ⟨b,pre.length,none⟩) xs.length (xs.length+m) (xs.map bv) (run_firstCells_some w.drew inf.size xs.length ⟨b,pre.length,none⟩ xs.length (xs.length+m) (xs.map bv) (by rw[hlex,hsz,Nat.mul_one]) (by simpa using hold)) _ ys.length _ hsrc (by omega) (by omega) (growslice_fits (by omega) hmul);refine⟨_,_,hrun,?_⟩;have hcap:=grownCap_ge w (xs.length+ys.length) (xs.length+m) e;generalize grownCap w (xs.length+ys.length) (xs.length+m) e=cap at hcap ⊢;have H2:=(Hb.same (w':=w.drew) rfl).alloc (.cells ((xs.map bv++ys.map bv).toArray++Builtin.zeroCells z.cells (cap - (xs.length+ys.length))) e);have H5:=H2.dropAt (i+1);rw[eraseIdx_cons_succ,eraseIdx_set_eq] at H5;refine fin _ cap _ [] (List.replicate (cap - (xs.length+ys.length)) z) hcap (Nat.le_of_eq (by rw[gP])) ((Same.drew w).trans (.alloc _ _)) ?_
   have hc:((xs.map bv++ys.map bv).toArray++Builtin.zeroCells z.cells (cap - (xs.length+ys.length)))=([]++(xs++ys).map bv++List.replicate (cap - (xs.length+ys.length)) z).toArray:=by rw[hz2];simp
   rw[hc] at H5 ⊢;exact H5
  ·have hrun:=run_append_room_src (P:=P) w t tx ty e inf hr.und hinf b pre.length xs.length (xs.length+m) _ ys.length _ hsrc (by omega)
    (λq hq=>by
     rw[hlen] at hq
     rw[Hb.cell i hgi,hsz,gA (by rw[gD,gD,hlex];omega)];rfl)
    (λq hq=>Hb.frozen i hgi _)
   refine⟨_,_,hrun,?_⟩;rw[Zd5,hsz];have H3:=Holds.setCells (o:=0) i (ys.map bv) (pre.length+xs.length*1) Hb hgi;rw[set_set,Zfx _ _ _ (by rw[gD,gD,hlen,hlex];omega)] at H3
   have e2:(pre++xs.map bv++sp).take (0+(pre.length+xs.length*1))++ys.map bv++(pre++xs.map bv++sp).drop (0+(pre.length+xs.length*1)+(ys.map bv).length)=pre++(xs++ys).map bv++sp.drop ys.length:=by
    have e3:(pre++xs.map bv).length=pre.length+xs.length*1:=by rw[gD,hlex,Nat.mul_one]
    rw[Nat.zero_add,<-e3,List.take_left' rfl,map_append,<-drop_drop,List.drop_left' rfl,hlen];simp
   rw[e2] at H3;have H6:=H3.front i (Za2 hi);rw[eraseIdx_set_eq] at H6;refine fin b (xs.length+m) _ pre (sp.drop ys.length) (by omega) ?_ (Same.setCells _ _ _ _) H6;rw[gS];omega
theorem Yac {t d:TypeId} [hr:Bytes P t e d] (i:Nat) (H:Holds w L){n:Nat}{kk:IntKind}{K:KT}(hi:L[i]?=some (OB e v xs)) (hn:n<=xs.length) (h:K (.string ⟨(xs.take n).toArray⟩) w) :
  Ssl 1 v none (some (.int kk (n:Int))) λy=>Cw P t d y w K:=by
 rcases H.openOB i hi with⟨rfl,rfl⟩|⟨b,pre,m,sp,rfl,hm,Hb⟩
 ·have hn0:n=0:=by simpa using hn
  subst hn0;refine Zfq (Nat.le_refl 0) ⟨.string ⟨[].toArray⟩,w,?_,h⟩;rw[run_convert_bytes_string (P:=P) w t d e none _ _ hr.und hr.el hr.str];rfl
 ·refine Zfq (by omega) ⟨_,w,?_,h⟩;rw[run_convert_bytes_string (P:=P) w t d e _ _ _ hr.und hr.el hr.str];have hgi:(L.set i (blk b e (pre++xs.map bv++sp)))[i]?=some (blk b e (pre++xs.map bv++sp)):=Za2 hi
  have htl:(xs.take n).length=n:=by rw[gN];omega
  have hload:(loadCells (⟨b,pre.length,none⟩:Addr) n).run P w=.ok (((xs.take n).map λc=>(c.toNat:Int)).map (Value.int .u8)).toArray w:=by
   have hcells:(((xs.take n).map λc=>(c.toNat:Int)).map (Value.int .u8))=(xs.take n).map bv:=by rw[List.map_map];rfl
   rw[hcells]
   have:=Zbr (P:=P) (w:=w) (a:=⟨b,pre.length,none⟩) (cs:=((xs.take n).map bv).toArray) (λj v hv=>by
    have hv':((xs.take n).map bv)[j]?=some v:=by simpa using hv
    have hj:j < n:=by have:=(gH.1 hv').1;rw[hS_,htl] at this;exact this
    rw[Zd3,Hb.cell i hgi,gI,gT (by omega),show pre.length+j - pre.length=j by omega,gM (by rw[hS_];omega)]
    rw[<-hv',List.map_take,hI_ hj])
   simpa [htl,Nat.min_eq_left hn] using this
  rw[run_bytesToString (P:=P) w _ n _ _ hload,Zi4];simp
theorem Zzn (i:Nat) (H:Holds w L){n:Nat}{kk:IntKind}{K:Value->Prop}(hi:L[i]?=some (OB e v xs)) (hn:n<=xs.length) (h:∀ v',Holds w (L.set i (OB e v' (xs.drop n)))->K v') :
  Ssl 1 v (some (.int kk (n:Int))) none K:=by
 rcases H.openOB i hi with⟨rfl,rfl⟩|⟨b,pre,m,sp,rfl,hm,Hb⟩
 ·have hn0:n=0:=by simpa using hn
  subst hn0;refine⟨_,_,_,0,0,rfl,⟨kk,rfl⟩,rfl,by omega,by omega,?_⟩;rw[if_pos rfl];refine h _ ?_
  have e0:L.set i (OB e (.slice none 0 0) (([]:List UInt8).drop 0))=L:=by
   have e1:L[i]'(gH.1 hi).1=_:=(gH.1 hi).2;rw[drop_zero,<-e1,List.set_getElem_self]
  have h_:Holds w (L.set i (OB e (.slice none 0 0) (([]:List UInt8).drop 0))):=by rw[e0];exact H
  exact h_
 ·have hgi:(L.set i (blk b e (pre++xs.map bv++sp)))[i]?=some _:=Za2 hi;refine⟨_,_,_,n,xs.length,rfl,⟨kk,rfl⟩,rfl,hn,by omega,?_⟩;have hl:(xs.drop n).length=xs.length - n:=gS ..
  by_cases hc:xs.length+m=n
  ·rw[if_pos hc]
   have hnx:n=xs.length:=by omega
   have hm0:m=0:=by omega
   subst hm0;refine h _ ?_
   have:=Hb.at i hgi (Q:=OB e (.slice (some ⟨b,pre.length,none⟩) (xs.length - n) (xs.length+0 - n)) (xs.drop n)) λg hg=>.inr ⟨b,pre,0,xs.map bv++sp,by rw[hl];congr 1,by omega,by
    have e1:pre++(xs.drop n).map bv++(xs.map bv++sp)=pre++xs.map bv++sp:=by rw[List.drop_of_length_le (by omega)];simp
    rw[e1];exact hg⟩
   rw[set_set] at this;exact this
  ·rw[if_neg hc];refine h _ ?_
   have e0:(some (⟨b,pre.length,none⟩:Addr)).map (·.add (n*1))=some ⟨b,(pre++(xs.take n).map bv).length,none⟩:=by
    rw[Option.map_some,Zd3,gD,hS_,gN,Nat.mul_one,Nat.min_eq_left hn]
   rw[e0]
   have:=Hb.at i hgi (Q:=OB e (.slice (some ⟨b,(pre++(xs.take n).map bv).length,none⟩) (xs.length - n) (xs.length+m - n)) (xs.drop n)) λg hg=>.inr ⟨b,pre++(xs.take n).map bv,m,sp,by rw[hl];congr 1;omega,hm,by
    have e1:pre++(xs.take n).map bv++(xs.drop n).map bv++sp=pre++xs.map bv++sp:=by rw[gI pre,<-map_append,hN_]
    rw[e1];exact hg⟩
   rw[set_set] at this;exact this
end
end Go.Vc
namespace Go.Q24
open Go.M01 Go.Mb Go.Mp Go.M10 Go.Mc Go.Mz Go.Mk Go.M02 Go.M03
theorem Zma {p:PS}{l:List Bool}(hp:p.Ok) (h:pstep p l=.short):l.length < 400:=by
 unfold pstep at h;split at h
 ·split at h
  ·omega
  ·split at h <;> cases h
 ·rename_i hc;have:=(hp.tbl (by omega)).2;split at h
  ·cases h
  ·split at h
   ·omega
   ·cases h
theorem Zsn {d:DS}{n:Int}{k:Nat}:turn d n k≠.short:=by
 unfold turn
 split <;> (intro h;cases h)
theorem Zmb {d:DS}{l:List Bool}(h:dstep d l=.short):l.length < 400:=by
 unfold dstep at h;split at h
 ·split at h
  ·omega
  ·exact absurd h Zsn
 ·split at h
  ·decide
  ·cases h
  ·decide
  ·exact absurd h Zsn
theorem Zmo {c:CS}{l:List Bool}(hc:c.Ok) (h:cstep c l=.short):l.length < 400:=by
 unfold cstep at h;split at h
 ·unfold withPicks at h;split at h
  ·rename_i hs;exact Zma hc.pk hs
  ·cases h
  ·cases h
 ·rename_i hd;split at h
  ·unfold withLens at h;split at h
   ·rename_i hs;exact Zmb hs
   ·cases h
   ·split at h
    ·split at h <;> cases h
    ·cases h
  ·rename_i hl;split at h
   ·cases h
   ·rename_i hg;unfold withSymbol at h;split at h
    ·rename_i hs;rcases hU_ l.length 20 with q|q
     ·omega
     ·obtain⟨x,_,_,_,hw,_⟩:=Zjq hc (by simpa using hd) hl hg;have h20:=Zxd hw q;unfold getC at hs;rw[Option.map_eq_none_iff,List.find?_eq_none] at hs;exact absurd h20 (hs 19 (List.mem_range.2 (by decide)))
    ·cases h
theorem Znz {l:List Bool}(h:uread l=.short):l.length < 400:=by
 unfold uread at h;have:=Zfl (l.take 16);split at h
 ·omega
 ·split at h
  ·omega
  ·split at h <;> cases h
theorem Zmw {b:BS}{l:List Bool}(hb:b.Ok) (h:bstep b l=.short):l.length < 400:=by
 unfold bstep at h;split at h
 ·unfold bhead at h;split at h
  ·omega
  ·split at h
   ·cases h
   ·exact absurd h Zcq
 ·split at h
  ·unfold buse at h;split at h
   ·rename_i hu;exact Znz hu
   ·cases h
   ·exact absurd h Zcq
  ·rename_i r hr;split at h
   ·exact absurd h Zcq
   ·unfold bsym at h;split at h
    ·rename_i hc;exact Zmo (hb.some_ r hr).2.1.code hc
    ·cases h
    ·exact absurd h Zcq
    ·unfold btold at h;split at h
     ·cases h
     ·exact absurd h Zcq
theorem Zmm {u:US}{l:List Bool}(hu:u.Ok) (h:ustep u l=.short):l.length < 400:=by
 unfold ustep at h;split at h
 ·unfold uletter at h
  repeat' split at h
  all_goals first
   |omega
   |cases h
 ·split at h
  ·unfold umagic at h
   repeat' split at h
   all_goals first
    |omega
    |cases h
  ·split at h
   ·unfold ubody at h;split at h
    ·cases h
    ·rename_i s hs;unfold uwith at h;split at h
     ·rename_i hb;exact Zmw (hu.blk s hs).2.1 hb
     ·cases h
     ·split at h <;> cases h
   ·unfold usum at h
    repeat' split at h
    all_goals first
     |omega
     |cases h
theorem Zqs {u u':US}{l:List Bool}{n:Nat}(hu:u.Ok) (h:ustep u l=.ok (u',1) n):u'.last.length<=9*u.unit:=by
 unfold ustep at h;split at h
 ·unfold uletter at h
  repeat' split at h
  all_goals cases h
 ·split at h
  ·unfold umagic at h
   repeat' split at h
   all_goals cases h
  ·split at h
   ·unfold ubody at h;split at h
    ·cases h
    ·rename_i s hs;obtain⟨_,hso,hsd,hsr⟩:=hu.blk s hs;unfold uwith at h;split at h
     ·cases h
     ·cases h
     ·rename_i s' k hb;split at h
      ·cases h;have h1:=Q23.Zem (Zeq hso hsd hb);have h2:=(Q23.Zfp hso hb).1;have hle:u.level*u.unit<=9*u.unit:=Nat.mul_le_mul_right _ hu.lev;show s'.last.length<=_;omega
      ·cases h
   ·unfold usum at h
    repeat' split at h
    all_goals cases h
end Go.Q24
namespace Go.Kp
open Go.M45
theorem mostS_mono {m n:Nat}(h:m<=n):mostS m<=mostS n:=by
 have h1:lg m<=lg n:=lg_le m _ (Nat.le_trans h (Ze3 n).2);unfold mostS each;exact Nat.mul_le_mul h (Nat.mul_le_mul (by omega) (by omega))
theorem Zfd {m:Nat}(h:m<=3000):mostS m<=1680000:=by
 have h1:lg m<=12:=lg_le m 12 (Nat.le_trans h (by decide));have h2:each m<=40*14:=Nat.mul_le_mul (show 4+3*lg m<=40 by omega) (show lg m+2<=14 by omega);have h3:mostS m<=3000*(40*14):=Nat.mul_le_mul h h2;exact h3
def NC (r n:Nat):Nat:=n+1+(5*n/(2*(r+1))+1)*(mostS r+r+r)
def NE (u n:Nat):Nat:=8*n+36*u*(n/20)+9*u+1
theorem Zt6 {a b:Int}{c:Int}(hc:c<=a+b) (h2:c<=1099511627776):c<=addP a b:=by
 unfold addP
 split <;> omega
theorem Zru {a b:Int}{c:Int}(hc:c<=a*b) (h2:c<=1099511627776):c<=mulP a b:=by
 unfold mulP
 split <;> omega
theorem NC_le {r n:Nat}(hr:5<=r/\r<=3000) (hn:n<=150):((NC r n:Nat):Int)<=pressP r n:=by
 have hm:=Zfd hr.2
 have hk:5*n/(2*(r+1))<=(5*n+2*r - 1)/(2*r):=by
  rw[Nat.le_div_iff_mul_le (by omega)];have h1:5*n/(2*(r+1))*(2*(r+1))<=5*n:=Nat.div_mul_le_self _ _;have h2:5*n/(2*(r+1))*(2*r)<=5*n/(2*(r+1))*(2*(r+1)):=Nat.mul_le_mul_left _ (by omega);omega
 have hk2:5*n/(2*(r+1))<=750:=Nat.le_trans (Nat.div_le_self _ _) (by omega);have hs:(5*n/(2*(r+1))+1)*(mostS r+r+r)<=751*1686000:=Nat.mul_le_mul (by omega) (by omega);have hle:(5*n/(2*(r+1))+1)*(mostS r+r+r)<=((5*n+2*r - 1)/(2*r)+2)*(mostS r+r+r):=Nat.mul_le_mul_right _ (by omega)
 have hmul:(((5*n/(2*(r+1))+1)*(mostS r+r+r):Nat):Int)<=mulP (((5*n+2*r - 1)/(2*r):Nat)+2:Int) ((mostS r:Nat)+r+r:Int):=by
  refine Zru ?_ (by omega)
  have e:(((5*n+2*r - 1)/(2*r):Nat)+2:Int)*((mostS r:Nat)+r+r:Int)=((((5*n+2*r - 1)/(2*r)+2)*(mostS r+r+r):Nat):Int):=by
   rw[Int.natCast_mul,Int.natCast_add,Int.natCast_add,Int.natCast_add];rfl
  rw[e];exact Int.ofNat_le.2 hle
 unfold NC pressP;refine Zt6 ?_ ?_
 ·omega
 ·omega
theorem NE_le {u n:Nat}(hu:u<=200) (hn:n<=150):((NE u n:Nat):Int)<=expP u n:=by
 have h1:36*u*(n/20)<=36*u*(n/16):=Nat.mul_le_mul_left _ (by omega);have h2:36*u*(n/20)<=7200*7:=Nat.mul_le_mul (by omega) (by omega)
 have hmul:((36*u*(n/16)+36*u:Nat):Int)<=mulP ((n/16:Nat)+1:Int) (36*(u:Int)):=by
  have h3:36*u*(n/16)<=7200*9:=Nat.mul_le_mul (by omega) (by omega);refine Zru ?_ (by omega)
  have e:((n/16:Nat)+1:Int)*(36*(u:Int))=((36*u*(n/16)+36*u:Nat):Int):=by
   have:36*u*(n/16)+36*u=(n/16+1)*(36*u):=by rw[Nat.add_mul,Nat.one_mul,Nat.mul_comm]
   rw[this,Int.natCast_mul,Int.natCast_add,Int.natCast_mul];rfl
  rw[e];exact Int.le_refl _
 unfold NE expP;refine Zt6 ?_ ?_
 ·omega
 ·omega
end Go.Kp
namespace Go.Proofs.YtpmjeiliblgajaaGreatDoor
open Go Go.Vc Go.Proofs.Tryz
attribute [local irreducible] Vc.Nc Vc.Ld Vc.LdA Vc.St Vc.StA Vc.Fo Vc.Iaa Vc.Ias Vc.Ixs Vc.Ixa Vc.Fd Vc.FdA Vc.Bp Vc.Bb Vc.Bn Vc.Up Vc.Ci Vc.Lns Vc.Lnl Vc.Ex Vc.Sst Vc.Ssl Vc.New Vc.Vif Vc.VJoin Vc.VLoop Vc.KE Vc.Dr Vc.Rk Vc.Cl Vc.Cx Vc.Inv Vc.Be Vc.Cv Vc.Cw Vc.Mf Vc.Sl Vc.Lk Vc.Bd Vc.Bs Vc.Ms Vc.Mm Vc.Mu Vc.Me Vc.Es Vc.Rg Vc.Nx Vc.Ta Vc.Ap Vc.Usd Vc.Ust Vc.Cp Vc.Ln Vc.Bc Vc.Bmin Vc.Bmax Vc.Bdel Vc.Bclr Vc.Pk
namespace S16
open Go.Mr Go.M18
variable {w:World}{L:List HProp}{K:KT}{b n q:Nat}{s:List UInt8}{x:SS}
def SoOk (s:List UInt8) (x:SS) (n:Nat):Prop:=n<=M45.mostS s.length/\(Fini s x\/(Inv s x/\x.reach<=2*s.length/\ldS s.length x<=4*(s.length*s.length)+s.length/\n+Fine.mu s.length x<=M45.mostS s.length))
theorem SoOk.start (h0:s≠[]) (hlen:s.length<=4000):SoOk s (startD s.length) 0:=by
 refine⟨hE _,?_⟩;rcases Zsc h0 hlen with h|⟨h1,h2,h3,_⟩
 ·exact .inl h
 ·refine .inr ⟨h1,h2,h3,?_⟩;have h5:=h1.bs.two
  have e:startD s.length=Go.Mr.start s.length:=by unfold startD;rw[decide_eq_false (by omega)];rfl
  rw[e,Nat.zero_add];exact Fine.mu_start h5
theorem Zi5 (H:Holds w (SoR b s x n::L)) (hx:SoOk s x n) (hlen:s.length<=4000) (hq:q<=1099511627776)
  (k:∀ y m w',SoOk s y (n+m)->m<=q->(y.done=true\/m=q)->(m=0->y=x)->(x.done=true->m=0)->Same w w'->Holds w' (SoR b s y (n+m)::L)->K (nv m) w'):Cl prog 104 #[pt b,nv q] w K:=by
 refine Tz104 ?_;unfold Vz104;have hms:=M45.Zg7 s.length (by omega);refine Za6 (r_vf ?_);obtain⟨ov,cv,av,kv,H0⟩:=Zal H;refine r_nc (r_fo0 (r_ld 0 H0 rfl rfl ?_));clear H0 ov cv av kv;refine Zjo (λj w'=>∃ (y:SS) (m:Nat),j=q - m/\m<=q/\(m=0->y=x)/\(x.done=true->m=0)/\Same w w'/\Holds w' (SoR b s y (n+m)::L)/\SoOk s y (n+m)) q ⟨x,0,rfl,hE _,λ_=>rfl,λ_=>rfl,.refl _,H,hx⟩ ?_;clear H hx;rintro _ j w1 _ ⟨y,m,rfl,hm,h0,hx0,S1,H1,hy⟩ hgo;obtain⟨ov,cv,av,kv,H2⟩:=Zal H1;have hyn:=hy.1;refine Za1 (λt w'=>w1=w'/\t=.bool (decide (y.done=false/\m < q))) ?_ ?_
 ·rintro _ _ _ ⟨rfl,rfl⟩;refine r_ifD (λh=>?_) λh=>?_
  ·obtain⟨hd,hlt⟩:=h;rcases hy.2 with hf|⟨hI,hr,hl,hmu⟩
   ·rw[hf.1] at hd;cases hd
   refine step_spec H1 hI hlen hr hl (by omega) λw2 S2 H3=>?_;obtain⟨h5,h6⟩:=Fine.step_ok hI;refine r_ke (hgo (q - (m+1)) _ (by omega) ⟨_,m+1,rfl,hlt,(λe=>absurd e (Nat.succ_ne_zero m)),(λe=>by have:=h0 (hx0 e);rw[this,e] at hd;cases hd),S1.trans S2,H3,?_⟩);rcases h6 with h6|h6
   ·exact⟨by omega,.inl h6⟩
   ·obtain⟨h7,h8⟩:=Zkg hI hl hr h6.bs.nd;exact⟨by omega,.inr ⟨h6,h8,h7,by omega⟩⟩
  ·refine r_nc (r_fo0 (r_ld 0 H2 rfl rfl ?_));refine r_sub (by omega) (by omega) ?_;rw[show (((n+m:Nat)):Int) - ((n:Nat):Int)=((m:Nat):Int) by omega];refine k y m _ hy hm ?_ h0 hx0 S1 H1
   cases hd:y.done with
   |true=>exact .inl rfl
   |false=>exact .inr (by have:¬ m < q:=λe=>h ⟨hd,e⟩;omega)
 ·refine r_nc (r_fo0 (r_ld 0 H2 rfl rfl ?_))
  cases hd:y.done with
  |true=>exact Zah (r_vf (r_ke ⟨rfl,by rw[decide_eq_false (λe=>by cases e.1)]⟩))
  |false=>
   refine Zbm (r_vt ?_);refine r_nc (r_fo0 (r_ld 0 H2 rfl rfl ?_));refine r_sub (by omega) (by omega) ?_;refine r_lss (r_ke ⟨rfl,?_⟩);rw[show decide ((((n+m:Nat)):Int) - ((n:Nat):Int) < ((q:Nat):Int))=decide (false=false/\m < q) from decide_eq_decide.2 ⟨λe=>⟨rfl,by omega⟩,λe=>by have:=e.2;omega⟩]
end S16
namespace S17
open Go.Mr Go.M18 S16
variable {w:World}{L:List HProp}{K:KT}{b q:Nat}{s:List UInt8}
inductive Tun where
 |sorts (n:Nat)
 |takes (n u:Nat)
def Tun.done (s:List UInt8):Tun->Bool
 |.sorts _=>false
 |.takes _ u=>decide (u=s.length)
def Tun.cnt:Tun->Nat
 |.sorts n=>n
 |.takes n u=>n+u
def Zer (s:List UInt8) (u o:Nat):Prop:=∀ oz,(sortP s s.length)[oz]?=some 0->oz < u->o=oz
def TuL (b:Nat) (s:List UInt8):Tun->(sb:Nat)->(y:SS)->(ov lv:Value)->(o:Nat)->List HProp
 |.sorts n,sb,y,ov,lv,o=>tuL b s sb (.slice none 0 0) (.slice none 0 0) o [] []++[SoR sb s y n]
 |.takes n u,sb,y,ov,lv,o=>tuL b s sb ov lv o (sortP s s.length) (((sortP s s.length).take u).map (aheadB s))++[SoR sb s y n]
def TuOk (s:List UInt8):Tun->SS->Value->Nat->Prop
 |.sorts n,y,ov,o=>SoOk s y n
 |.takes n u,y,ov,o=>Fini s y/\SoOk s y n/\u<=s.length/\Zer s u o/\∃ a l c,ov=.slice (some a) l c
theorem TuOk.le {t:Tun}{y:SS}{ov:Value}{o:Nat}(h:TuOk s t y ov o):t.cnt<=M45.mostS s.length+s.length:=by
 cases t with
 |sorts n=>exact Nat.le_trans h.1 (Nat.le_add_right _ _)
 |takes n u=>exact Nat.add_le_add h.2.1.1 h.2.2.1
def TuR (b:Nat) (s:List UInt8) (t:Tun):HProp:=λh=>∃ sb y ov lv o,TuOk s t y ov o/\Sat (TuL b s t sb y ov lv o) h
theorem Zg2 {t:Tun}(H:Holds w (TuR b s t::L)):∃ sb y ov lv o,TuOk s t y ov o/\Holds w (TuL b s t sb y ov lv o++L):=by
 obtain⟨sb,H⟩:=Holds.ex H;obtain⟨y,H⟩:=Holds.ex H;obtain⟨ov,H⟩:=Holds.ex H;obtain⟨lv,H⟩:=Holds.ex H;obtain⟨o,H⟩:=Holds.ex H;obtain⟨h,H⟩:=Holds.pure H;exact⟨sb,y,ov,lv,o,h,Holds.unpack H⟩
theorem Zcr {t:Tun}{sb:Nat}{y:SS}{ov lv:Value}{o:Nat}(h:TuOk s t y ov o) (H:Holds w (TuL b s t sb y ov lv o++L)):Holds w (TuR b s t::L):=
 Holds.imp (Holds.pack H) λg hg=>⟨sb,y,ov,lv,o,h,hg⟩
theorem Zxf {t:Tun}(H:Holds w (TuR b s t::L)):t.cnt<=M45.mostS s.length+s.length:=by
 obtain⟨sb,y,ov,lv,o,h,_⟩:=Zg2 H;exact h.le
theorem Ze4 {t:Tun}(h0:s≠[]) (H:Holds w (TuR b s t::L)) (k:∀ w',Same w w'->Holds w' (TuR b s t::L)->K (.bool (t.done s)) w'):Cl prog 94 #[pt b] w K:=by
 obtain⟨sb,y,ov,lv,o,ho,H1⟩:=Zg2 H;have hpos:=gZ.2 h0
 cases t with
 |sorts n=>
  refine Zf8 (L:=SoR sb s y n::L) H1 λw' S' H'=>?_;rw[decide_eq_false (show ¬ ([]:List UInt8).length=s.length by rw[length_nil];omega)];exact k w' S' (Zcr (t:=.sorts n) (ov:=ov) (lv:=lv) ho H')
 |takes n u=>
  have hu:=ho.2.2.1;refine Zf8 (L:=SoR sb s y n::L) H1 λw' S' H'=>?_
  have e:(((sortP s s.length).take u).map (aheadB s)).length=u:=by rw[hS_,gN,Zcp];omega
  rw[e];exact k w' S' (Zcr (t:=.takes n u) ho H')
theorem Znn {t:Tun}(H:Holds w (TuR b s t::L)) (h0:s≠[]) (hl:s.length<=4000) (hd:t.done s=false) (hq1:1<=q) (hq:q<=1099511627776)
  (k:∀ t' g w',1<=g->g<=q->t'.cnt=t.cnt+g->Same w w'->Holds w' (TuR b s t'::L)->K (nv g) w'):Cl prog 95 #[pt b,nv q] w K:=by
 refine Tz95 ?_;unfold Vz95;have hpos:=gZ.2 h0;have hlo:=Zcp s s.length;refine Za1 (λt w'=>w=w'/\t=.bool false) ?_ ?_
 rotate_left
 ·exact Za6 (r_vf (r_lss (r_ke ⟨rfl,by rw[decide_eq_false (by omega)]⟩)))
 rintro _ _ _ ⟨rfl,rfl⟩;refine r_vf ?_;obtain⟨sb,y,ov,lv,o,ho,H1⟩:=Zg2 H
 have mid:∀ (u m:Nat) (y':SS) (n':Nat) (ov' lv':Value) (o':Nat) (w1:World),TuOk s (.takes n' u) y' ov' o'->t.cnt+m=n'+u->m<=q->(m=0->u < s.length)->Same w w1->Holds w1 (TuL b s (.takes n' u) sb y' ov' lv' o'++L)->
   VLoop 1 [nv m] w1 λ_ next6 gone_5 w4=>
    VJoin 1 (λ_ x_7 w5=>
    Vif x_7 (
    Cl prog 107 #[pt b] w5 λx_8 w6=>
    Bp .add gone_5 (.int .i64 1) λx_9=>
    KE [pt b,nv q] [pt b,nv q] <| next6 x_9 w6) (
    K gone_5 w5))
    (λJ10=>
    Nc (pt b) <|
    Fo 1 (pt b) λx_11=>
    Ld x_11 w4 λx_12=>
    Cl prog 105 #[x_12] w4 λx_13 w7=>
    Vif x_13 (
    Bp .lss gone_5 (nv q) λx_14=>
    Vif x_14 (
    Cl prog 94 #[pt b] w7 λx_15 w8=>
    Up .not x_15 λx_16=>
    KE [pt b,nv q,gone_5] [pt b,nv q,gone_5] <| J10 x_16 w8) (
    KE [pt b,nv q,gone_5] [pt b,nv q,gone_5] <| J10 (.bool false) w7)) (
    KE [pt b,nv q,gone_5] [pt b,nv q,gone_5] <| J10 (.bool false) w7)):=by
  intro u0 m y' n' ov' lv' o' w1 ho hc0 hm h1 S1 H1;refine Za7 (λg w'=>∃ (u m' o'':Nat) (lv'':Value),g=nv m'/\t.cnt+m'=n'+u/\m'<=q/\(m'=0->u < s.length)/\TuOk s (.takes n' u) y' ov' o''/\Same w w'/\Holds w' (TuL b s (.takes n' u) sb y' ov' lv'' o''++L)) (λg _=>q - (intOf g).toNat) ⟨u0,m,o',lv',rfl,hc0,hm,h1,ho,S1,H1⟩ ?_;clear ho hm h1 S1 H1 hc0;rintro _ _ w2 ⟨u,m',o'',lv'',rfl,hc0,hm,h1,ho,S2,H2⟩;obtain⟨hf,hso,hu,hz,ha⟩:=ho
  have hlen:(((sortP s s.length).take u).map (aheadB s)).length=u:=by rw[hS_,gN,hlo];omega
  have H2':Holds w2 (tuL b s sb ov' lv'' o'' (sortP s s.length) (((sortP s s.length).take u).map (aheadB s))++(SoR sb s y' n'::L)):=H2;refine Za1 (λt w'=>Same w w'/\Holds w' (tuL b s sb ov' lv'' o'' (sortP s s.length) (((sortP s s.length).take u).map (aheadB s))++(SoR sb s y' n'::L))/\t=.bool (decide (m' < q/\¬ u=s.length))) ?_ ?_
  ·rintro _ _ w4 ⟨S4,H4,rfl⟩;refine r_ifD (λh=>?_) λh=>?_
   ·have hlt:u < s.length:=by omega
    have hg:(sortP s s.length)[u]?=some ((sortP s s.length).getD u 0):=Zaw (by rw[hlo];exact hlt);have ha':(sortP s s.length).getD u 0 < s.length:=(Zeu s s.length _).1 (Zbb (by rw[hlo];exact hlt))
    have htk:(sortP s s.length).take (u+1)=(sortP s s.length).take u++[(sortP s s.length).getD u 0]:=by rw[gO,hg];rfl
    refine take_spec H4 h0 hl (a:=(sortP s s.length).getD u 0) (by rw[hlen];exact hg) ha' (by rw[hlen];omega) λlv2 w5 S5 H5=>?_;refine Za0 (by omega) (r_ke ⟨⟨u+1,m'+1,(if (sortP s s.length).getD u 0=0 then (((sortP s s.length).take u).map (aheadB s)).length else o''),lv2,rfl,by omega,by omega,(λe=>absurd e (Nat.succ_ne_zero _)),⟨hf,hso,hlt,?_,ha⟩,S4.trans S5,?_⟩,?_⟩)
    ·intro oz hoz hlz;rw[hlen]
     by_cases e:(sortP s s.length).getD u 0=0
     ·rw[if_pos e];rw[e] at hg;exact Zsm hg hoz
     ·rw[if_neg e];refine hz oz hoz ?_;rcases hU_ oz u with g|g
      ·exact g
      ·have:oz=u:=by omega
       rw[this,hg] at hoz;exact absurd (Option.some.inj hoz) e
    ·show Holds w5 (tuL b s sb ov' lv2 _ (sortP s s.length) (((sortP s s.length).take (u+1)).map (aheadB s))++(SoR sb s y' n'::L));rw[htk,map_append];exact H5
    ·simp only[nv,intOf,gC];omega
   ·refine k (.takes n' u) m' w4 ?_ hm hc0.symm S4 (Zcr (t:=.takes n' u) ⟨hf,hso,hu,hz,ha⟩ H4);rcases Nat.eq_zero_or_pos m' with e|e
    ·have:=h1 e;omega
    ·exact e
  ·refine r_nc (r_fo0 (r_ld 0 H2' rfl rfl ?_))
   have H4:Holds w2 (SoR sb s y' n'::(tuL b s sb ov' lv'' o'' (sortP s s.length) (((sortP s s.length).take u).map (aheadB s))++L)):=by have h_:=Holds.ord 4 [3,0,1,2] H2' rfl;exact h_
   refine Done_spec H4 ?_;rw[hf.1];refine r_vt (r_lss (r_ifD (λh=>?_) λh=>?_))
   ·refine Zf8 H2' λw4 S4 H5=>?_;rw[hlen];refine r_not (r_ke ⟨S2.trans S4,H5,?_⟩);rw[<-decide_not,show decide (¬ u=s.length)=decide (m' < q/\¬ u=s.length) from decide_eq_decide.2 ⟨λe=>⟨by omega,e⟩,λe=>e.2⟩]
   ·refine r_ke ⟨S2,H2',?_⟩;rw[decide_eq_false (λe=>h (by have:=e.1;omega))]
 refine r_nc (r_fo0 ?_)
 cases t with
 |takes n u=>
  obtain⟨hf,hso,hu,hz,a,l,c,rfl⟩:=ho
  have hult:u < s.length:=by
   have:decide (u=s.length)=false:=hd;have:=of_decide_eq_false this;omega
  have H2:Holds w (tuL b s sb (.slice (some a) l c) lv o (sortP s s.length) (((sortP s s.length).take u).map (aheadB s))++(SoR sb s y n::L)):=H1;refine r_ld 0 H2 rfl rfl ?_
  have H3:Holds w (SoR sb s y n::(tuL b s sb (.slice (some a) l c) lv o (sortP s s.length) (((sortP s s.length).take u).map (aheadB s))++L)):=by have h_:=Holds.ord 4 [3,0,1,2] H2 rfl;exact h_
  refine Zi5 H3 hso hl hq λy' m w1 hso' hmq _ hm0 hxm S1 H4=>?_;obtain rfl:=hxm hf.1;obtain rfl:y=y':=(hm0 rfl).symm
  have H5:Holds w1 (tuL b s sb (.slice (some a) l c) lv o (sortP s s.length) (((sortP s s.length).take u).map (aheadB s))++(SoR sb s y n::L)):=by have h_:=Holds.ord 4 [1,2,3,0] H4 rfl;exact h_
  refine Zay (λw'=>w1=w') ?_ ?_
  rotate_left
  ·refine Za1 (λt w'=>w1=w'/\t=.bool false) ?_ ?_
   ·rintro _ _ _ ⟨rfl,rfl⟩;exact r_vf (r_ke rfl)
   ·refine r_nc (r_fo0 (r_ld 0 H5 rfl rfl ?_));exact r_be (v:=.bool false) (by kernel_rfl) (r_vf (r_ke ⟨rfl,rfl⟩))
  rintro _ _ rfl;exact mid u 0 y n _ lv o w1 ⟨hf,hso,hu,hz,a,l,c,rfl⟩ rfl (hE _) (λ_=>hult) S1 H5
 |sorts n=>
  have H2:Holds w (tuL b s sb (.slice none 0 0) (.slice none 0 0) o [] []++(SoR sb s y n::L)):=H1;refine r_ld 0 H2 rfl rfl ?_
  have H3:Holds w (SoR sb s y n::(tuL b s sb (.slice none 0 0) (.slice none 0 0) o [] []++L)):=by have h_:=Holds.ord 4 [3,0,1,2] H2 rfl;exact h_
  refine Zi5 H3 ho hl hq λy' m w1 hso' hmq hdm hm0 hxm S1 H4=>?_
  have H5:Holds w1 (tuL b s sb (.slice none 0 0) (.slice none 0 0) o [] []++(SoR sb s y' (n+m)::L)):=by have h_:=Holds.ord 4 [1,2,3,0] H4 rfl;exact h_
  cases hyd:y'.done with
  |false=>
   have hmq':m=q:=by
    rcases hdm with e|e
    ·rw[hyd] at e;cases e
    ·exact e
   refine Zay (λw'=>w1=w') ?_ ?_
   rotate_left
   ·refine Za1 (λt w'=>w1=w'/\t=.bool false) ?_ ?_
    ·rintro _ _ _ ⟨rfl,rfl⟩;exact r_vf (r_ke rfl)
    ·refine r_nc (r_fo0 (r_ld 0 H5 rfl rfl ?_));refine r_be (v:=.bool true) (by kernel_rfl) (r_vt ?_);refine r_nc (r_fo0 (r_ld 0 H5 rfl rfl ?_));refine Done_spec H4 ?_;exact r_ke ⟨rfl,by rw[hyd]⟩
   rintro _ _ rfl;refine Za7 (λg w'=>w1=w'/\g=nv m) (λ_ _=>0) ⟨rfl,rfl⟩ ?_;rintro _ _ _ ⟨rfl,rfl⟩;refine Za1 (λt w'=>w1=w'/\t=.bool false) ?_ ?_
   ·rintro _ _ _ ⟨rfl,rfl⟩;exact r_vf (k (.sorts (n+m)) m w1 (by omega) (by omega) rfl S1 (Zcr (t:=.sorts (n+m)) (ov:=.slice none 0 0) (lv:=.slice none 0 0) hso' H5))
   ·refine r_nc (r_fo0 (r_ld 0 H5 rfl rfl ?_));refine Done_spec H4 ?_;rw[hyd];exact r_vf (r_ke ⟨rfl,rfl⟩)
  |true=>
   have hf:Fini s y':=by
    rcases hso'.2 with e|e
    ·exact e
    ·rw[e.1.bs.nd] at hyd;cases hyd
   refine Zay (λw'=>∃ a l c,Same w w'/\Holds w' (tuL b s sb (.slice (some a) l c) (.slice none 0 0) o (sortP s s.length) []++(SoR sb s y' (n+m)::L))) ?_ ?_
   rotate_left
   ·refine Za1 (λt w'=>w1=w'/\t=.bool true) ?_ ?_
    ·rintro _ _ _ ⟨rfl,rfl⟩;refine r_vt ?_;refine r_nc (r_fo0 (r_ld 0 H5 rfl rfl ?_));refine Zqp H4 hf hl λov w2 S2 H6=>?_;obtain⟨oa,sp,rfl,H7⟩:=H6.open 0 rfl
     obtain⟨a,rfl⟩:∃ a,oa=some a:=by
      cases oa with
      |some a=>exact⟨a,rfl⟩
      |none=>
       obtain⟨g,⟨e,_⟩,_⟩:=H7;have:=congrArg List.length e;rw[hlo,length_nil] at this;omega
     refine r_nc (r_fo0 ?_);refine r_st 2 H6 rfl (by simp) rfl λw3 S3 H8=>?_;refine r_ke ⟨a,(sortP s s.length).length,(sortP s s.length).length+sp.length,S1.trans (S2.trans S3),?_⟩;have h_:=Holds.ord 5 [2,0,4,1] H8 rfl;exact h_
    ·refine r_nc (r_fo0 (r_ld 0 H5 rfl rfl ?_));refine r_be (v:=.bool true) (by kernel_rfl) (r_vt ?_);refine r_nc (r_fo0 (r_ld 0 H5 rfl rfl ?_));refine Done_spec H4 ?_;exact r_ke ⟨rfl,by rw[hyd]⟩
   rintro _ w2 ⟨a,l,c,S2,H6⟩;exact mid 0 m y' (n+m) _ _ o w2 ⟨hf,hso',hE _,(λoz _ e=>absurd e (Nat.not_lt_zero _)),a,l,c,rfl⟩ rfl hmq (λ_=>hpos) S2 H6
theorem Zjt {n:Nat}(H:Holds w (TuR b s (.takes n s.length)::L)) (h0:s≠[]) (k:∀ o w',(sortP s s.length)[o]?=some 0->Same w w'->Holds w' (TuR b s (.takes n s.length)::L)->K (.tuple #[St_ (lastL s),nv o]) w'):Cl prog 108 #[pt b] w K:=by
 refine Tz108 ?_;unfold Vz108;have hpos:=gZ.2 h0;have hlo:=Zcp s s.length;refine Ze4 h0 H λw1 S1 H1=>?_;rw[show Tun.done s (.takes n s.length)=true from decide_eq_true rfl];refine Zah (r_vf (r_dr H1 λw2 S2 H2=>?_));obtain⟨sb,y,ov,lv,o,ho,H3⟩:=Zg2 H2;have ho':=ho;obtain⟨hf,hso,hu,hz,ha⟩:=ho'
 obtain⟨oz,hoz⟩:∃ oz,(sortP s s.length)[oz]?=some 0:=by
  obtain⟨i,hi,e⟩:=List.getElem_of_mem ((Zeu s s.length 0).2 hpos);exact⟨i,by rw[gA hi,e]⟩
 have h1:oz < s.length:=by rw[<-hlo];exact (gH.1 hoz).1
 obtain rfl:=hz oz hoz h1
 have e1:((sortP s s.length).take s.length).map (aheadB s)=lastL s:=by
  rw[gK (by rw[hlo];exact Nat.le_refl _)];unfold lastL;exact List.map_congr_left λa ha=>Zri ((Zeu s s.length a).1 ha)
 have H4:Holds w2 (tuL b s sb ov lv o (sortP s s.length) (((sortP s s.length).take s.length).map (aheadB s))++(SoR sb s y n::L)):=H3;rw[e1] at H4;refine r_nc (r_fo0 (r_ld 0 H4 rfl rfl ?_));refine Zzt H4 2 rfl ?_;refine r_nc (r_fo0 (r_ld 0 H4 rfl rfl ?_));exact k o w2 hoz (S1.trans S2) (Zcr ho H3)
theorem Zr7 (H:Holds w L) (h0:s≠[]) (hl:s.length<=4000) (k:∀ b w',Same w w'->Holds w' (TuR b s (.sorts 0)::L)->K (.tuple #[pt b,iv 0]) w'):Cl prog 93 #[St_ s] w K:=by
 refine Tz93 ?_;unfold Vz93;have hpos:=gZ.2 h0
 have hsz:(⟨s.toArray⟩:ByteArray).size=s.length:=by simp[ByteArray.size]
 refine Zfv (r_vfD (by rw[hsz];omega) ?_);refine New_spec H h0 hl λsb w1 S1 H1=>?_;refine Za3 (Za4 (r_neq (r_vfN rfl ?_)));refine r_bd (v:=.agg #[St_ s,pt sb,.slice none 0 0,.slice none 0 0,nv 0]) (by kernel_rfl) ?_;refine r_new H1 λb w2 S2 H2=>?_;have H3:=(H2.nilSL nv tI).nilSL bv tB;refine k b w2 (S1.trans S2) (Zcr (t:=.sorts 0) (sb:=sb) (y:=startD s.length) (ov:=.slice none 0 0) (lv:=.slice none 0 0) (o:=0) (SoOk.start h0 hl) ?_);have h_:=Holds.ord 4 [2,1,0,3] H3 rfl;exact h_
end S17
instance:Row prog 67 3 (.int .i64 0):=⟨by kernel_rfl,⟨t3,by kernel_rfl,by kernel_rfl,by decide,by kernel_rfl⟩,rfl⟩
instance:Row prog 86 5 (.int .u8 0):=⟨by kernel_rfl,⟨t5,by kernel_rfl,by kernel_rfl,by decide,by kernel_rfl⟩,rfl⟩
instance:Bytes prog 86 5 9:=⟨by kernel_rfl,by kernel_rfl,by kernel_rfl⟩
namespace U18
open Go.M18
abbrev tI:Nat:=3
abbrev tB:Nat:=5
def invC (last:ByteArray) (next:List Nat) (links:Value) (at_:Nat) (out:Value) (steps:Nat):List Value:=
 .string last::(next.map nv++[links,nv at_,out,nv steps])
section
variable {last:ByteArray}{next:List Nat}{links out:Value}{at_ steps:Nat}(hn:next.length=256)
include hn
theorem c257:(invC last next links at_ out steps)[257]?=some links:=by simp[invC,hn]
theorem c258:(invC last next links at_ out steps)[258]?=some (nv at_):=by simp[invC,hn]
theorem c259:(invC last next links at_ out steps)[259]?=some out:=by simp[invC,hn]
theorem c260:(invC last next links at_ out steps)[260]?=some (nv steps):=by simp[invC,hn]
theorem cnx {j n:Nat}(h:next[j]?=some n):(invC last next links at_ out steps)[1+j]?=some (nv n):=by
 have hj:j < 256:=by rw[<-hn];exact (gH.1 h).1
 unfold invC;rw[Nat.add_comm 1 j,gF,gM (by simpa [hn] using hj),hV_,h];rfl
theorem clen:(invC last next links at_ out steps).length=261:=by simp[invC,hn]
theorem s258 (n:Nat):(invC last next links at_ out steps).set 258 (nv n)=invC last next links n out steps:=by simp[invC,hn,set_append]
theorem s259 (v:Value):(invC last next links at_ out steps).set 259 v=invC last next links at_ v steps:=by simp[invC,hn,set_append]
theorem s260 (n:Nat):(invC last next links at_ out steps).set 260 (nv n)=invC last next links at_ out n:=by simp[invC,hn,set_append]
theorem snx {j:Nat}(n:Nat) (hj:j < 256):(invC last next links at_ out steps).set (1+j) (nv n)=invC last (next.set j n) links at_ out steps:=by
 unfold invC;rw[Nat.add_comm 1 j,gW,List.set_append_left _ _ (by simpa [hn] using hj),List.map_set]
end
def InvR (b:Nat) (last:ByteArray) (o s k:Nat):HProp:=λh=>∃ t lv ov,Sat [blk b t (invC last (nxL last.data.toList s) lv (atK last.data.toList o (s - 2*last.size)) ov s),
 SL nv tI lv (lnS last.data.toList s),SL bv tB ov ((outK last.data.toList o (s - 2*last.size)).drop k)] h
theorem Zc6 {b:Nat}{last:ByteArray}{o s k:Nat}{w:World}{L:List HProp}(H:Holds w (InvR b last o s k::L)) :
  ∃ t lv ov,Holds w (blk b t (invC last (nxL last.data.toList s) lv (atK last.data.toList o (s - 2*last.size)) ov s)::SL nv tI lv (lnS last.data.toList s) ::
   SL bv tB ov ((outK last.data.toList o (s - 2*last.size)).drop k)::L):=by
 obtain⟨t,H⟩:=Holds.ex H;obtain⟨lv,H⟩:=Holds.ex H;obtain⟨ov,H⟩:=Holds.ex H;exact⟨t,lv,ov,Holds.unpack H⟩
theorem Zdz {b:Nat}{last:ByteArray}{o s k t:Nat}{lv ov:Value}{w:World}{L:List HProp}(H:Holds w (blk b t (invC last (nxL last.data.toList s) lv (atK last.data.toList o (s - 2*last.size)) ov s)::SL nv tI lv (lnS last.data.toList s) ::
   SL bv tB ov ((outK last.data.toList o (s - 2*last.size)).drop k)::L)):Holds w (InvR b last o s k::L):=
 Holds.imp (Holds.pack (A:=[_,_,_]) H) λh hh=>⟨t,lv,ov,hh⟩
variable {w:World}{L:List HProp}{K:KT}{b:Nat}
theorem Zwp {t:Nat}{last:ByteArray}{next:List Nat}{links out:Value}{at_ steps:Nat}(hn:next.length=256)
  (H:Holds w (blk b t (invC last next links at_ out steps)::L)) (hl:last.size<=1000000)
  (k:∀ w',Same w w'->Holds w' (blk b t (invC last next links at_ out steps)::L)->K (.bool ((steps:Int)==3*(last.size:Int))) w') :
  Cl prog 244 #[.pointer (some ⟨b,0,none⟩)] w K:=by
 refine Tz244 ?_;unfold Vz244;have S:=Same.refl w
 repeat (first|((with_reducible apply r_ld 0 H);(exact rfl);(with_reducible exact (c260 hn)))|refine r_nc ?_|refine r_fo0 ?_|refine r_lns ?_|refine r_eql ?_|(with_reducible first|refine Zao ?_|refine r_vt ?_)|(refine r_mul (by omega) (by omega) ?_)|(refine r_dr H ?_;clear H;intro _ S_ H;replace S:=S.trans S_;clear S_)|refine r_ld 0 H rfl rfl ?_)
 exact k _ S H
theorem Zql {t:Nat}{last:ByteArray}{next:List Nat}{links out:Value}{at_ steps:Nat}(hn:next.length=256)
  (H:Holds w (blk b t (invC last next links at_ out steps)::L)) (hb:∀ x∈next,x<=4000000)
  (k:∀ w',Same w w'->Holds w' (blk b t (invC last ((List.range 256).map (exB λj=>next.getD j 0)) links at_ out steps)::L)->K (.tuple #[]) w') :
  Cl prog 267 #[.pointer (some ⟨b,0,none⟩)] w K:=by
 refine Tz267 ?_;unfold Vz267;have S:=Same.refl w
 have hsub:((invC last next links at_ out steps).drop 1).take 256=next.map nv:=by
  unfold invC;rw[List.drop_succ_cons,drop_zero,List.take_append_of_le_length (by simp[hn]),gK (by simp[hn])]
 repeat (first|refine r_ldA 0 H _ rfl hsub (by simp[hn]) ?_|refine r_nc ?_|refine r_fo0 ?_)
 have hex:∀ j,j<=256->exB (λj=>next.getD j 0) j<=4000000*j:=by
  intro j
  induction j with
  |zero=>intro _;simp[exB]
  |succ j ih=>
   intro hj
   have hget:next[j]?=some (next.getD j 0):=by simp[List.getD,(by omega:j < next.length)]
   have h1:=hb (next.getD j 0) (List.mem_of_getElem? hget);have h2:=ih (by omega);simp only[exB];omega
 refine Zaa (λf x w'=>∃ j:Nat,j<=256/\x=nv j/\f=nv (exB (λj=>next.getD j 0) j)/\Same w w'/\
   Holds w' (blk b t (invC last ((List.range j).map (exB λj=>next.getD j 0)++next.drop j) links at_ out steps)::L))
  (λ_ x _=>256 - (intOf x).toNat) ⟨0,by omega,rfl,rfl,Same.refl w,by rw[List.range_zero,List.map_nil,hO_,drop_zero];exact H⟩ ?_
 rintro _ _ _ w1 ⟨j,hj,rfl,rfl,S,H⟩;have hx:=hex j hj
 have hlen:((List.range j).map (exB λj=>next.getD j 0)++next.drop j).length=256:=by simp[hn];omega
 repeat (refine r_lss ?_)
 refine r_vif (λh=>?_) λh=>?_
 ·have hlt:j < 256:=by have:=of_decide_eq_true h;omega
  obtain⟨x,hgd⟩:∃ x,next.getD j 0=x:=⟨_,rfl⟩
  have hget:next[j]?=some x:=by rw[<-hgd,gB,gA (by omega)];rfl
  have hb1:=hb _ (List.mem_of_getElem? hget)
  have hsucc:exB (λj=>next.getD j 0) (j+1)=exB (λj=>next.getD j 0) j+x:=by rw[exB,hgd]
  have h2:=snx (last:=last) (links:=links) (out:=out) (at_:=at_) (steps:=steps) hlen (exB (λj=>next.getD j 0) j) hlt;have h3:=set_mid (exB λj=>next.getD j 0) next j (by omega);rw[h3] at h2;generalize exB (λj=>next.getD j 0) j=y at *;refine Zkj (nv x) (by omega) (by omega) (by rw[gC,hV_,hget];rfl) ?_
  repeat (first|refine r_iaa (by omega) (by omega) ?_|refine r_nc ?_|refine r_fo0 ?_)
  refine r_st 0 H rfl (by rw[clen hlen];simp;omega) rfl λw2 S2 H2=>?_;have S3:=S.trans S2;rw[gC,Nat.mul_one,gJ,h2] at H2
  repeat (first|refine r_ke ?_|(refine Za0 (by omega) ?_)|(refine Za9 (by omega) ?_))
  refine⟨⟨j+1,by omega,by simp[nv],by rw[hsucc],S3,H2⟩,?_⟩;simp[nv,intOf]
  try omega
 ·have hge:j=256:=by have:=of_decide_eq_false h;omega
  subst hge;rw[List.drop_of_length_le (by omega),gU] at H;exact k _ S H
theorem step_spec {last:ByteArray}{o s k:Nat}(H:Holds w (InvR b last o s k::L)) (hs:s < 3*last.size) (hl:last.size<=1000000) (ho:o < last.size) (hk:k<=s - 2*last.size)
  (post:∀ w',Same w w'->Holds w' (InvR b last o (s+1) k::L)->K (.tuple #[]) w') :
  Cl prog 260 #[.pointer (some ⟨b,0,none⟩)] w K:=by
 refine Tz260 ?_;unfold Vz260;obtain⟨t,lv,ov,H⟩:=Zc6 H;have S:=Same.refl w
 have hll:last.data.toList.length=last.size:=by simp
 have hn:=Zav last.data.toList s;have hn':=Zav last.data.toList (s+1)
 obtain⟨q,r,hqr,hr,hq⟩:∃ q r,s=q*last.size+r/\r < last.size/\(q=0\/q=1\/q=2):=
  ⟨s/last.size,s%last.size,by rw[Nat.mul_comm];exact (Nat.div_add_mod s last.size).symm,Nat.mod_lt _ (by omega),by
   have:=Nat.div_lt_of_lt_mul (show s < last.size*3 by omega)
   generalize s/last.size=q at this;omega⟩
 have hQ:((s:Nat):Int).tdiv (last.size:Int)=(q:Int):=by
  rw[Int.tdiv_eq_ediv_of_nonneg (by omega),hqr]
  have:((q*last.size+r:Nat):Int)/(last.size:Int)=(((q*last.size+r)/last.size:Nat):Int):=by simp
  rw[this,Nat.add_comm,Nat.add_mul_div_right _ _ (by omega),Nat.div_eq_of_lt hr,Nat.zero_add]
 have hR:((s:Nat):Int).tmod (last.size:Int)=(r:Int):=by
  rw[Int.tmod_eq_emod_of_nonneg (by omega),hqr]
  have:((q*last.size+r:Nat):Int)%(last.size:Int)=(((q*last.size+r)%last.size:Nat):Int):=by simp
  rw[this,Nat.add_comm,Nat.add_mul_mod_self_right,Nat.mod_eq_of_lt hr]
 repeat (first|((with_reducible apply r_ld 0 H);(exact rfl);(with_reducible exact (c260 hn)))|refine Zgv hR (by omega) ?_|refine r_nc ?_|refine r_fo0 ?_|refine r_lns ?_|refine r_ld 0 H rfl rfl ?_)
 refine Zay (λw'=>∃ t lv ov,Same w w'/\Holds w' (blk b t (invC last (nxL last.data.toList (s+1)) lv (atK last.data.toList o (s+1 - 2*last.size)) ov s)::SL nv tI lv (lnS last.data.toList (s+1)) ::
   SL bv tB ov ((outK last.data.toList o (s+1 - 2*last.size)).drop k)::L)) ?_ ?_
 ·rintro _ w1 ⟨t,lv,ov,S,H⟩
  repeat (first|((with_reducible apply r_ld 0 H);(exact rfl);(with_reducible exact (c260 hn')))|refine r_nc ?_|refine r_fo0 ?_|(refine Za0 (by omega) ?_))
  refine r_st 0 H rfl (by rw[clen hn'];omega) rfl λw2 S2 H2=>?_;rw[s260 hn',gJ] at H2;exact post _ (S.trans S2) (Zdz H2)
 have hbt:=λi=>Zm7 last.data.toList i;have hnx:=λc=>nx_le last.data.toList s c
 repeat (first|((with_reducible apply r_ld 0 H);(exact rfl);(with_reducible exact (c260 hn)))|refine Zik hQ (by omega) (by omega) (by omega) ?_|refine r_nc ?_|refine r_fo0 ?_|refine r_eql ?_)
 rcases hq with rfl|rfl|rfl
 ·have hrs:r=s:=by omega
  subst hrs
  repeat (first|refine r_nc ?_|refine r_fo0 ?_|(refine Zcb (by omega) ?_)|(refine r_dr H ?_;clear H;intro _ S_ H;replace S:=S.trans S_;clear S_)|refine r_ld 0 H rfl rfl ?_|((with_reducible refine r_vtE ?h ?_);(case h=>omega)))
  have hc:=hbt r;have hnc:=hnx (last.data.toList.getD r 0).toNat
  repeat (first|((with_reducible apply r_ld 0 H);(exact rfl);(with_reducible exact (cnx hn (Zdg _ _ _ hc))))|refine r_nc ?_|refine r_fo0 ?_|(refine Za0 (by omega) ?_)|(refine Zak (by omega) ?_))
  refine r_st 0 H rfl (by rw[clen hn];omega) rfl λw2 S2 H2=>?_;rw[snx hn _ hc,gJ] at H2;clear H;have S:=S.trans S2
  repeat (first|refine r_eql ?_|(refine Zab (by omega) (by omega) ?_))
  refine r_vif (λh=>?_) λh=>?_
  ·have hlast:r+1=last.size:=by have:=of_decide_eq_true h;omega
   refine Zql (by rw[hX_];exact hn) H2 ?_ λw5 S5 H5=>?_
   ·intro x hx;rcases List.mem_or_eq_of_mem_set hx with h1|h1
    ·obtain⟨j,hj,hjx⟩:=List.getElem_of_mem h1;have:=nx_le last.data.toList r j;simp[nxL] at hjx;omega
    ·omega
   ·rw[Zu0 _ _ (by omega)] at H5;refine r_ke ⟨t,lv,ov,S.trans S5,?_⟩;rw[<-Ztt _ _ (by omega),show r+1 - 2*last.size=r - 2*last.size by omega];exact H5
  ·have hlast:¬ r+1=last.size:=by have:=of_decide_eq_false h;omega
   rw[Zv1 _ _ (by omega)] at H2;refine r_ke ⟨t,lv,ov,S,?_⟩;rw[<-Ztt _ _ (by omega),show r+1 - 2*last.size=r - 2*last.size by omega];exact H2
 ·have hrs:s - last.data.toList.length=r:=by omega
  repeat (first|refine r_nc ?_|refine r_fo0 ?_|refine r_eql ?_|(refine Zcb (by omega) ?_)|(refine r_dr H ?_;clear H;intro _ S_ H;replace S:=S.trans S_;clear S_)|refine r_ld 0 H rfl rfl ?_|((with_reducible refine r_vtE ?h ?_);(case h=>omega))|((with_reducible refine r_vfE ?h ?_);(case h=>omega)))
  have hc:=hbt r;have hnp:=Zzz last.data.toList s (by omega);have hlk:=Zwy last.data.toList s (by omega) (by omega);have hnl:=Zve last.data.toList s (by omega) (by omega);have hpl:=Zzf last.data.toList r (by omega);rw[hrs] at hnp hlk hnl;obtain⟨oa,sp,rfl,H⟩:=H.open 1 rfl;rw[gW,gJ] at H
  repeat (first|((with_reducible apply r_ld 0 H);(exact rfl);(with_reducible exact (cnx hn (Zdg _ _ _ hc))))|(refine Zak (by omega) ?_))
  rw[hnp];refine Zhi 1 H rfl (by rw[Zjc];exact hpl) (Nat.le_refl _) ?_;rintro b2 rfl;refine Zxz 1 H r rfl (by rw[Zjc];exact hpl) rfl rfl λw2 S2 H2=>?_;clear H;replace S:=S.trans S2;rw[gW,gJ,hlk] at H2;have H:=H2;clear H2
  repeat (first|((with_reducible apply r_ld 0 H);(exact rfl);(with_reducible exact (cnx hn (Zdg _ _ _ hc))))|refine r_nc ?_|refine r_fo0 ?_|(refine Za0 (by omega) ?_)|(refine Zak (by omega) ?_)|(refine r_dr H ?_;clear H;intro _ S_ H;replace S:=S.trans S_;clear S_))
  have hnc:=hnx (last.data.toList.getD r 0).toNat
  repeat (fail)
  refine r_st 0 H rfl (by rw[clen hn];omega) rfl λw3 S3 H3=>?_;rw[snx hn _ hc,gJ,hnl] at H3;have H4:=H3.close 1 rfl;rw[gW,gJ,Zjc] at H4;rw[Zjc] at H4;rw[show s+1 - 2*last.size=s - 2*last.size by omega];exact r_ke ⟨t,_,ov,S.trans S3,H4⟩
 ·have hlS:=Zpl last.data.toList s (by omega);have hlS':=Zpl last.data.toList (s+1) (by omega);have hnS:=Zwe last.data.toList s (by omega);obtain⟨m,hm⟩:∃ m,s - 2*last.size=m:=⟨_,rfl⟩
  have hm':s+1 - 2*last.size=m+1:=by omega
  rw[hm,hlS] at H;rw[hm] at hk;rw[hm',hlS',<-hnS];have ha:=Zxe last.data.toList o (by omega) m;have ha':=Zxe last.data.toList o (by omega) (m+1)
  have hll2:(links last.data.toList).length=last.size:=by rw[<-hll];exact Zv2 _ _
  obtain⟨oa,sp,rfl,H⟩:=H.open 1 rfl;rw[gW,gJ] at H
  repeat (first|((with_reducible apply r_ld 0 H);(exact rfl);(with_reducible exact (c257 hn)))|((with_reducible apply r_ld 0 H);(exact rfl);(with_reducible exact (c258 hn)))|refine r_nc ?_|refine r_fo0 ?_|refine r_eql ?_|(refine r_dr H ?_;clear H;intro _ S_ H;replace S:=S.trans S_;clear S_)|((with_reducible refine r_vfE ?h ?_);(case h=>omega)))
  refine Zhi 1 H rfl (by omega) (Nat.le_refl _) ?_;rintro b2 rfl
  have hat:(links last.data.toList)[atK last.data.toList o m]?=some (atK last.data.toList o (m+1)):=by
   rw[atK,gB,gA (by omega)];rfl
  refine Zl8 1 H rfl hat ?_
  repeat (first|refine r_nc ?_|refine r_fo0 ?_)
  refine r_st 0 H rfl (by rw[clen hn];omega) rfl λw2 S2 H2=>?_;rw[s258 hn,gJ] at H2;clear H;have H:=H2;clear H2;replace S:=S.trans S2;obtain⟨oa,sp,rfl,H⟩:=H.open 2 rfl;rw[gW,gW,gJ] at H
  repeat (first|((with_reducible apply r_ld 0 H);(exact rfl);(with_reducible exact (c258 hn)))|((with_reducible apply r_ld 0 H);(exact rfl);(with_reducible exact (c259 hn)))|refine r_nc ?_|refine r_fo0 ?_|(refine Zcb (by omega) ?_)|(refine r_dr H ?_;clear H;intro _ S_ H;replace S:=S.trans S_;clear S_)|refine r_ld 0 H rfl rfl ?_)
  have hol:(outK last.data.toList o m).length=m:=Zp7 _ _ _
  have hout:(outK last.data.toList o m).drop k++[last.data.toList.getD (atK last.data.toList o (m+1)) 0]=(outK last.data.toList o (m+1)).drop k:=by
   rw[outK,List.drop_append_of_le_length (by omega)]
  refine r_bs1 H rfl λb3 w3 S3 H3=>?_;replace S:=S.trans S3;refine r_rk (r_ld 1 H3 rfl (c259 hn) rfl) ?_;refine r_ap (f:=bv) (ys:=[last.data.toList.getD (atK last.data.toList o (m+1)) 0]) H3 3 0 rfl rfl rfl rfl rfl rfl (λ_=>rfl) (by simp;omega) (by simp) λoa' sp' w4 S4 H4=>?_;replace S:=S.trans S4;rw[hout,gW,gW,gW,gJ] at H4
  have hlen:((outK last.data.toList o m).drop k).length+[last.data.toList.getD (atK last.data.toList o (m+1)) 0].length=((outK last.data.toList o (m+1)).drop k).length:=by
   rw[<-hout,gD]
  rw[hlen];clear H H3;have H:=H4.drop;clear H4
  repeat (first|refine r_nc ?_|refine r_fo0 ?_)
  refine r_st 0 H rfl (by rw[clen hn];omega) rfl λw5 S5 H5=>?_;rw[s259 hn,gJ] at H5;have H6:=(H5.close 1 rfl);rw[gW,gJ] at H6;have H7:=(H6.close 2 rfl);rw[gW,gW,gJ] at H7;exact r_ke ⟨t,_,_,S.trans S5,H7⟩
theorem Done_spec {last:ByteArray}{o s k:Nat}(H:Holds w (InvR b last o s k::L)) (hl:last.size<=1000000)
  (post:∀ w',Same w w'->Holds w' (InvR b last o s k::L)->K (.bool ((s:Int)==3*(last.size:Int))) w') :
  Cl prog 244 #[.pointer (some ⟨b,0,none⟩)] w K:=by
 obtain⟨t,lv,ov,H⟩:=Zc6 H;exact Zwp (Zav _ _) H hl λw' S H=>post w' S (Zdz H)
theorem Zkh {last:ByteArray}{o s k:Nat}(H:Holds w (InvR b last o s k::L)):w.cell? ⟨b,260,none⟩=some (nv s):=by
 obtain⟨t,lv,ov,H⟩:=Zc6 H;exact (H.cell 0 rfl 260).trans (c260 (Zav _ _))
theorem Step_spec {last:ByteArray}{o s k:Nat}{budget:Int}(H:Holds w (InvR b last o s k::L)) (hs:s<=3*last.size) (hl:last.size<=1000000) (ho:o < last.size) (hk:k<=s - 2*last.size)
  (post:∀ w',Same w w'->Holds w' (InvR b last o (s+min budget.toNat (3*last.size - s)) k::L)->K (nv (min budget.toNat (3*last.size - s))) w') :
  Cl prog 251 #[.pointer (some ⟨b,0,none⟩),.int .i64 budget] w K:=by
 refine Tz251 ?_;unfold Vz251;have hn:=Zav last.data.toList s;have S:=Same.refl w;obtain⟨t,lv,ov,H0⟩:=Zc6 H;have H':=H;clear H;have H:=H0
 repeat (first|((with_reducible apply r_ld 0 H);(exact rfl);(with_reducible exact (c260 hn)))|refine r_nc ?_|refine r_fo0 ?_|(with_reducible first|refine Za6 ?_|refine r_vf ?_))
 clear H H0
 refine Zka (λw'=>∃ s',s<=s'/\s'<=3*last.size/\s' - s<=budget.toNat/\Same w w'/\Holds w' (InvR b last o s' k::L))
  (λw'=>match w'.cell? ⟨b,260,none⟩ with|some (.int _ n)=>3*last.size - n.toNat|_=>0) ⟨s,by omega,hs,by omega,S,H'⟩ ?_
 rintro _ w1 ⟨s',h1,h2,h3,S,H⟩;have hc:=Zkh H;refine Za1 (λx w'=>∃ c:Bool,x=.bool c/\(c=true↔s' < 3*last.size/\((s' - s:Nat):Int) < budget)/\Same w w'/\Holds w' (InvR b last o s' k::L)) ?_ ?_
 ·rintro _ _ w2 ⟨c,rfl,hc2,S,H⟩;refine r_vif (λh=>?_) λh=>?_
  ·have h4:=hc2.1 h;refine step_spec H h4.1 hl ho (by omega) λw3 S3 H3=>r_ke ⟨⟨s'+1,by omega,by omega,by omega,S.trans S3,H3⟩,?_⟩;rw[hc,Zkh H3];simp only[gC];omega
  ·have h4:¬ (s' < 3*last.size/\((s' - s:Nat):Int) < budget):=λh5=>by rw[hc2.2 h5] at h;cases h
   obtain⟨t,lv,ov,H0⟩:=Zc6 H;have H':=H;clear H;have H:=H0;have hn:=Zav last.data.toList s'
   repeat (first|((with_reducible apply r_ld 0 H);(exact rfl);(with_reducible exact (c260 hn)))|refine r_nc ?_|refine r_fo0 ?_|(refine r_sub (by omega) (by omega) ?_))
   have e:s' - s=min budget.toNat (3*last.size - s):=by omega
   have:=post w2 S (by rw[<-e,show s+(s' - s)=s' by omega];exact H');rw[<-e] at this;rw[show ((s':Int) - (s:Int))=((s' - s:Nat):Int) by omega];exact this
 ·refine Done_spec H hl λw3 S3 H3=>?_;replace S:=S.trans S3;clear H
  repeat (refine r_not ?_)
  refine Zzv (λh=>?_) λh=>?_
  ·obtain⟨t,lv,ov,H0⟩:=Zc6 H3;have H:=H0;have hn:=Zav last.data.toList s'
   repeat (first|((with_reducible apply r_ld 0 H);(exact rfl);(with_reducible exact (c260 hn)))|refine r_nc ?_|refine r_fo0 ?_|refine r_ke ?_|refine r_lss ?_|(refine r_sub (by omega) (by omega) ?_))
   refine⟨_,rfl,?_,S,H3⟩;rw[decide_eq_true_iff]
   constructor
   ·intro h;exact⟨by omega,by omega⟩
   ·intro h;omega
  ·refine r_ke ⟨false,rfl,?_,S,H3⟩
   constructor
   ·intro h;cases h
   ·intro h;omega
theorem New_spec {last:ByteArray}{origin:Int}(H:Holds w L)
  (p1:last.size=0->K (.tuple #[.pointer none,.int .i64 1]) w)
  (p2:900000 < last.size->K (.tuple #[.pointer none,.int .i64 2]) w)
  (p3:0 < last.size->last.size<=900000->(origin < 0\/(last.size:Int)<=origin)->K (.tuple #[.pointer none,.int .i64 23]) w)
  (p4:∀ (o:Nat) b w',origin=o->o < last.size->last.size<=900000->Same w w'->Holds w' (InvR b last o 0 0::L)->K (.tuple #[.pointer (some ⟨b,0,none⟩),.int .i64 0]) w') :
  Cl prog 258 #[.string last,.int .i64 origin] w K:=by
 refine Tz258 ?_;unfold Vz258;have S:=Same.refl w
 repeat (refine Zfv ?_)
 refine r_ifD p1 λh1=>?_
 repeat (first|refine r_lns ?_|refine r_gtr ?_)
 refine r_ifD (λh=>p2 (by omega)) λh2=>?_
 have hl:last.size<=900000:=by omega
 refine Za1 (λx w'=>w'=w/\∃ c:Bool,x=.bool c/\(c=true↔origin < 0\/(last.size:Int)<=origin)) ?_ ?_
 ·rintro _ _ _ ⟨rfl,c,rfl,hc⟩;refine r_vif (λh=>p3 (by omega) hl (hc.1 h)) λh=>?_
  have h3:¬ (origin < 0\/(last.size:Int)<=origin):=λh5=>by rw[hc.2 h5] at h;cases h
  obtain⟨o,rfl⟩:∃ o:Nat,origin=o:=⟨origin.toNat,by omega⟩
  repeat (refine r_lns ?_)
  refine r_ms H (f:=nv) (x:=0) rfl (by omega) (by omega) λb2 w2 S2 H2=>?_;rw[gC] at H2 ⊢;refine r_bd (v:=.agg (invC last (List.replicate 256 0) (.slice (some ⟨b2,0,none⟩) last.size last.size) o (.slice none 0 0) 0).toArray) (by kernel_rfl) ?_;refine r_new H2 λb w3 S3 H3=>?_;have H4:=H3.close 1 (f:=nv) (by rfl);rw[gW,gJ,gP,length_nil,Nat.add_zero] at H4;have H5:=((H4.nilSL bv tB).swap).front 2 rfl
  have hll:last.data.toList.length=last.size:=by simp
  refine p4 o b w3 rfl (by omega) hl (S2.trans S3) (Zdz (t:=303) (lv:=.slice (some ⟨b2,0,none⟩) last.size last.size) (ov:=.slice none 0 0) ?_)
  have e1:nxL last.data.toList 0=List.replicate 256 0:=by
   unfold nxL;rw[List.eq_replicate_iff];refine⟨by simp,λx hx=>?_⟩;obtain⟨y,_,rfl⟩:=List.mem_map.1 hx;rw[nx_lo (by omega)];simp[cntB]
  have e2:lnS last.data.toList 0=List.replicate last.size 0:=by
   unfold lnS;rw[show (0 - last.data.toList.length)=0 by omega,Nat.zero_min,lnk,hll]
  rw[e1,e2,show 0 - 2*last.size=0 by omega];exact H5.swap
 ·repeat (refine r_lss ?_)
  refine r_ifD (λh=>?_) λh=>?_
  ·exact r_ke ⟨rfl,true,rfl,by simp;omega⟩
  ·repeat (first|refine r_ke ?_|refine r_lns ?_|refine r_geq ?_)
   refine⟨rfl,_,rfl,?_⟩;rw[decide_eq_true_iff];omega
theorem Take_spec {last:ByteArray}{o s k:Nat}(H:Holds w (InvR b last o s k::L))
  (post:∀ w',Same w w'->Holds w' (InvR b last o s (s - 2*last.size)::L)->K (.string ⟨((outK last.data.toList o (s - 2*last.size)).drop k).toArray⟩) w') :
  Cl prog 252 #[.pointer (some ⟨b,0,none⟩)] w K:=by
 refine Tz252 ?_;unfold Vz252;obtain⟨t,lv,ov,H⟩:=Zc6 H;have S:=Same.refl w;have hn:=Zav last.data.toList s;obtain⟨oa,sp,rfl,H⟩:=H.open 2 rfl;rw[gW,gW,gJ] at H
 repeat (first|((with_reducible apply r_ld 0 H);(exact rfl);(with_reducible exact (c259 hn)))|refine r_cbs H 2 rfl rfl ?_|refine r_nc ?_|refine r_fo0 ?_|(with_reducible first|refine Za6 ?_|refine r_vf ?_))
 refine r_st 0 H rfl (by rw[clen hn];omega) rfl λw2 S2 H2=>?_;rw[s259 hn,gJ] at H2;refine post w2 S2 (Zdz (t:=t) (lv:=lv) (ov:=.slice none 0 0) ?_);rw[List.drop_of_length_le (Nat.le_of_eq (Zp7 _ _ _))];exact (((H2.dropAt 2).nilSL bv tB).front 2 rfl).front 2 rfl
end U18
namespace P20
open Go.M01 Go.Mb Go.Mp Go.M10 Go.Mc Go.Mz Go.Mk Go.Q21
abbrev S_ (B:List UInt8):Value:=.string ⟨B.toArray⟩
abbrev pt (b:Nat):Value:=.pointer (some ⟨b,0,none⟩)
abbrev tB:Nat:=5
abbrev tI:Nat:=3
variable {w:World}{L:List HProp}{K:KT}
theorem sz (t:List UInt8):(⟨t.toArray⟩:ByteArray).size=t.length:=by show t.toArray.size=_;simp
theorem dl (t:List UInt8):(⟨t.toArray⟩:ByteArray).data.toList=t:=by simp
theorem q_len {t:List UInt8}{K:Value->Prop}(h:K (nv t.length)):Lns (S_ t) K:=r_lns (by rw[sz];exact h)
theorem q_ix {t:List UInt8}{k:IntKind}{m:Nat}{K:Value->Prop}(h1:m < t.length) (h:K (bv (t.getD m 0))):Ixs (S_ t) (.int k (m:Int)) K:=Zcb (by rw[sz];exact h1) (by rw[dl];exact h)
theorem q_T {t:List UInt8}{k:IntKind}{m:Nat}{K:Value->Prop}(h1:m<=t.length) (h:K (S_ (t.take m))):Sst (S_ t) none (some (.int k (m:Int))) K:=Zzy (by rw[sz];exact h1) (by rw[dl];exact h)
theorem q_D {t:List UInt8}{k:IntKind}{m:Nat}{K:Value->Prop}(h1:m<=t.length) (h:K (S_ (t.drop m))):Sst (S_ t) (some (.int k (m:Int))) none K:=Zxm (by rw[sz];exact h1) (by rw[dl];exact h)
theorem q_str (H:Holds w L) (c:UInt8){t e d:TypeId}{z:Value} [hr:Row prog t e z] [hb:Bytes prog t e d] (h:∀ w',Same w w'->Holds w' L->K (S_ [c]) w'):Bs prog t 1 #[(0,bv c)] w λy w2=>Cw prog t d y w2 K:=by
 refine r_bs1 H (by rfl) λb w2 S2 H2=>?_;refine r_cbs (xs:=[c]) (sp:=[]) (oa:=some ⟨b,0,none⟩) ((H2.imp λh hh=>(⟨rfl,rfl,hh⟩:(slb bv e (some ⟨b,0,none⟩) [c] []) h))) 0 rfl rfl ?_;exact h w2 S2 H2.drop
theorem bv_nat {j:Nat}(h:j < 256):(Value.int .u8 (j:Int))=bv (UInt8.ofNat j):=by
 show _=Value.int .u8 ((UInt8.ofNat j).toNat:Int);rw[UInt8.toNat_ofNat_of_lt' (by simpa using h)]
end P20
namespace B20
open Go.M01 Go.Mb Go.Mp Go.M10 Go.Mc Go.Mz Go.Mk Rb
variable {w:World}{L:List HProp}{K:KT}{b rb cb zb mb r:Nat}{B:List UInt8}{d at_ n k:Nat}{s:BS}{x:RS}{lv:Value}
abbrev tBk:Nat:=316
abbrev tRw:Nat:=323
def bkC (rv lv:Value) (s:BS):List Value:=[rv,nv s.room,.bool s.head,uv s.sum,nv s.frm,lv,.bool s.done,iv 0]
def rwC (cb zb mb:Nat) (x:RS):List Value:=[pt cb,pt zb,pt mb,nv x.due,nv x.place]
def rawN (b:Nat) (s:BS) (lv:Value):List HProp:=[blk b tBk (bkC (.pointer none) lv s),SL bv tB lv s.last]
def rawS (b:Nat) (s:BS) (x:RS) (rb cb zb mb:Nat) (lv:Value):List HProp:=
 [blk b tBk (bkC (pt rb) lv s),SL bv tB lv s.last,blk rb tRw (rwC cb zb mb x),C14.CdR cb x.code,Z07.ZrR zb x.zeros,F06.MtR mb x.list]
def RawR (b:Nat) (s:BS):HProp:=match s.row with
 |none=>λh=>∃ lv,Sat (rawN b s lv) h
 |some x=>λh=>∃ rb cb zb mb lv,Sat (rawS b s x rb cb zb mb lv) h
def BkR (b:Nat) (s:BS):HProp:=λh=>s.Ok/\RawR b s h
theorem Zc7 (H:Holds w (BkR b s::L)):s.Ok/\Holds w (RawR b s::L):=Holds.pure H
theorem Zar (h:s.Ok) (H:Holds w (RawR b s::L)):Holds w (BkR b s::L):=Holds.imp H λ_ hh=>⟨h,hh⟩
theorem Raw_openN (hr:s.row=none) (H:Holds w (RawR b s::L)):∃ lv,Holds w (rawN b s lv++L):=by
 unfold RawR at H;rw[hr] at H;obtain⟨lv,H⟩:=Holds.ex H;exact⟨lv,Holds.unpack H⟩
theorem Raw_closeN (hr:s.row=none) (H:Holds w (rawN b s lv++L)):Holds w (RawR b s::L):=by
 unfold RawR;rw[hr];exact Holds.imp (Holds.pack H) λ_ hh=>⟨lv,hh⟩
theorem Raw_openS (hr:s.row=some x) (H:Holds w (RawR b s::L)):∃ rb cb zb mb lv,Holds w (rawS b s x rb cb zb mb lv++L):=by
 unfold RawR at H;rw[hr] at H;obtain⟨rb,H⟩:=Holds.ex H;obtain⟨cb,H⟩:=Holds.ex H;obtain⟨zb,H⟩:=Holds.ex H;obtain⟨mb,H⟩:=Holds.ex H;obtain⟨lv,H⟩:=Holds.ex H;exact⟨rb,cb,zb,mb,lv,Holds.unpack H⟩
theorem Raw_closeS (hr:s.row=some x) (H:Holds w (rawS b s x rb cb zb mb lv++L)):Holds w (RawR b s::L):=by
 unfold RawR;rw[hr];exact Holds.imp (Holds.pack H) λ_ hh=>⟨rb,cb,zb,mb,lv,hh⟩
def AfterB (y:Res BS) (b:Nat) (s:BS) (r:Nat) (B:List UInt8) (d at_:Nat) (L:List HProp) (e:Int) (w:World):Prop:=
 match y with
 |.short=>e=3/\Holds w (BkR b s::RdR r B d at_::L)
 |.bad c=>e=(c:Int)/\∃ q v1 v2 v3 v4 v5 v6,Holds w (blk b tBk [v1,v2,v3,v4,v5,v6,.bool false,iv 0]::RdR r B d q::L)
 |.ok s' n=>e=0/\Holds w (BkR b s'::RdR r B d (at_+n)::L)
theorem szT (T:Nat->Bool):(⟨(listed T).toArray⟩:ByteArray).size=(listed T).length:=by show (listed T).toArray.size=_;simp
theorem Zr8 {T:Nat->Bool}{room:Nat}(H:Holds w L) (hT:listed T≠[]) (hr:room<=900000)
  (k:∀ rb cb zb mb w',Same w w'->Holds w' (blk rb tRw (rwC cb zb mb (rowOf T room))::C14.CdR cb (rowOf T room).code::Z07.ZrR zb (rowOf T room).zeros::F06.MtR mb (rowOf T room).list::L)->K (pt rb) w'):Cl prog 283 #[S_ (listed T),nv room] w K:=by
 refine Tz283 ?_;unfold Vz283;have hl:=Zc3 T;have hl0:0 < (listed T).length:=gZ.2 hT;refine r_lns ?_;rw[szT];refine Za9 (b:=2) (by omega) ?_;refine C14.NewReader_spec H (by omega) (by omega) λcb w1 S1 H1=>?_;refine Za3 (Za4 (r_lns ?_));rw[szT];refine Z07.NewReader_spec H1 hl0 hl hr λzb w2 S2 H2=>?_;refine Za3 (Za4 ?_);refine F06.New_spec H2 hT λmb w3 S3 H3=>?_;refine Za3 (Za4 ?_);refine r_bd (v:=.agg #[pt cb,pt zb,pt mb,nv 0,nv 0]) (by kernel_rfl) ?_;refine r_new H3 λrb w4 S4 H4=>?_;replace H4:Holds w4 (blk rb tRw [pt cb,pt zb,pt mb,nv 0,nv 0]::F06.MtR mb (listed T)::Z07.ZrR zb (z0 (listed T).length room)::C14.CdR cb (c0 ((listed T).length+2))::L):=H4;exact k rb cb zb mb _ (((S1.trans S2).trans S3).trans S4) (by have h_:=Holds.ord 4 [0,3,2,1] H4 rfl;exact h_)
theorem Zin (H:Holds w L) (i:Nat) (hi:L[i]?=some (blk rb tRw (rwC cb zb mb x))) (k:K (.bool x.waits) w):Cl prog 278 #[pt rb] w K:=by
 refine Tz278 ?_;unfold Vz278;refine Zao (r_vt ?_);refine r_nc (r_fo0 ?_);refine r_ld i H hi rfl ?_;refine r_gtr (r_ifD (λh=>?_) λh=>?_)
 ·have e:x.waits=true:=by unfold RS.waits;simp;left;omega
  rw[e] at k;exact k
 ·refine r_nc (r_fo0 ?_);refine r_ld i H hi rfl ?_;refine r_gtr ?_
  have e:x.waits=decide ((0:Int) < (x.place:Int)):=by
   unfold RS.waits;rw[decide_eq_false (by omega),Bool.false_or,Bool.eq_iff_iff,decide_eq_true_iff,decide_eq_true_iff];omega
  rw[e] at k;exact k
theorem told_spec {c:CS}{sy:Nat}(H:Holds w (blk rb tRw (rwC cb zb mb x)::Z07.ZrR zb x.zeros::L)) (hs:sy<=x.zeros.n+1) (hd:x.zeros.done=false)
  (kb:zput x.zeros sy=none->∀ w',Same w w'->Holds w' L->K (iv 25) w')
  (k:∀ z d p,zput x.zeros sy=some (z,d,p)->∀ w',Same w w'->Holds w' (blk rb tRw (rwC cb zb mb ⟨c,z,x.list,d,p.toNat⟩)::Z07.ZrR zb z::L)->K (iv 0) w'):Cl prog 286 #[pt rb,nv sy] w K:=by
 refine Tz286 ?_;unfold Vz286;refine r_nc (r_fo0 (r_ld 0 H rfl rfl ?_));refine Z07.Put_spec H.swap hs hd (λhn e w2 he S2 H2=>?_) λz d p hz w2 S2 H2=>?_
 ·refine Zle (Zph (Zpe ?_));refine r_neq (r_vtN he ?_);exact kb hn _ S2 H2.drop
 ·refine Zle (Zph (Zpe ?_));refine r_neq (r_vfN rfl ?_);have S:=S2;have H:=H2.swap;clear H2 S2
  repeat (first|refine r_nc ?_|refine r_fo0 ?_)
  refine r_st 0 H rfl (by simp[rwC]) rfl λw3 S3 H3=>?_;replace H3:Holds w3 (blk rb tRw [pt cb,pt zb,pt mb,nv d,nv x.place]::Z07.ZrR zb z::L):=H3;refine r_max ?_;rw[show max p 0=((p.toNat:Nat):Int) by omega]
  repeat (first|refine r_nc ?_|refine r_fo0 ?_)
  refine r_st 0 H3 rfl (by simp) rfl λw4 S4 H4=>?_;exact k z d p hz _ ((S.trans S3).trans S4) H4
theorem Zu5 (H:Holds w (blk rb tRw (rwC cb zb mb x)::F06.MtR mb x.list::L)) (hat:x.at_ < x.list.length) (hdue:x.due<=900000)
  (k:∀ w',Same w w'->Holds w' (blk rb tRw (rwC cb zb mb x.next)::F06.MtR mb x.next.list::L)->K (bv x.byte) w'):Cl prog 279 #[pt rb] w K:=by
 refine Tz279 ?_;unfold Vz279;have S:=Same.refl w;refine Za1 (λy w'=>y=nv x.at_/\Same w w'/\Holds w' (blk rb tRw (rwC cb zb mb x.next)::F06.MtR mb x.list::L)) ?_ ?_
 ·clear H S;rintro _ _ w1 ⟨rfl,S,H⟩;refine r_nc (r_fo0 (r_ld 0 H rfl rfl ?_));refine F06.At_spec H.swap hat λw2 S2 H2=>?_;refine Za3 (Za4 ?_);exact k _ (S.trans S2) H2.swap
 ·refine r_nc (r_fo0 (r_ld 0 H rfl rfl ?_));refine r_gtr (r_ifD (λh=>?_) λh=>?_)
  ·refine r_nc (r_fo0 (r_ld 0 H rfl rfl ?_))
   repeat (first|refine r_nc ?_|refine r_fo0 ?_|(refine Zab (by omega) (by omega) ?_))
   refine r_st 0 H rfl (by simp[rwC]) rfl λw3 S3 H3=>?_
   repeat (refine r_ke ?_)
   have h0:0 < x.due:=by omega
   refine⟨by unfold RS.at_;rw[if_pos h0];rfl,S.trans S3,?_⟩;rw[rwC,RS.next,if_pos h0];exact H3
  ·refine r_nc (r_fo0 (r_ld 0 H rfl rfl ?_));refine r_nc (r_fo0 ?_);refine r_st 0 H rfl (by simp[rwC]) rfl λw3 S3 H3=>?_
   repeat (refine r_ke ?_)
   have h0:¬ 0 < x.due:=by omega
   refine⟨by unfold RS.at_;rw[if_neg h0],S.trans S3,?_⟩;rw[rwC,RS.next,if_neg h0,show x.due - 1=x.due by omega];exact H3
theorem NewReader_spec {room:Nat}(H:Holds w L) (h1:5<=room) (h2:room<=900000) (k:∀ b w',Same w w'->Holds w' (BkR b (b0 room)::L)->K (.tuple #[pt b,iv 0]) w'):Cl prog 269 #[nv room] w K:=by
 refine Tz269 ?_;unfold Vz269;refine Za1 (λx w'=>w=w'/\x=.bool false) ?_ ?_
 ·rintro _ _ _ ⟨rfl,rfl⟩;refine r_vf ?_;refine r_bd (v:=.agg #[.pointer none,nv room,.bool false,uv 0,nv 0,.slice none 0 0,.bool false,iv 0]) (by kernel_rfl) ?_;refine r_new H λb w2 S2 H2=>?_;refine k b _ S2 (Zar (b0_ok h2) (Raw_closeN (lv:=.slice none 0 0) rfl ?_));exact (H2.nilSL bv tB).swap
 ·repeat (first|refine r_ke ?_|refine r_lss ?_|refine r_gtr ?_|((with_reducible refine r_vfD ?h ?_);(case h=>omega)))
  exact⟨rfl,by rw[decide_eq_false (by omega)]⟩
theorem end_spec (H:Holds w (RawR b s::RdR r B d (at_+n)::L)) (hp:Pre s) (s0:BS) (post:∀ e w',Same w w'->AfterB (bend s n) b s0 r B d at_ L e w'->K (iv e) w'):Cl prog 281 #[pt b] w K:=by
 refine Tz281 ?_;unfold Vz281;have S:=Same.refl w;have hok:=λs' k' (h:bend s n=.ok s' k')=>(Zfa hp h).1
 cases hr:s.row with
 |none=>
  have e0:bend s n=.ok s n:=by unfold bend;rw[hr]
  rw[e0] at post hok;obtain⟨lv,H⟩:=Raw_openN hr H;refine Za1 (λy w'=>w=w'/\y=.bool true) ?_ ?_
  ·rintro _ _ _ ⟨rfl,rfl⟩;refine r_vt ?_;exact post 0 _ S ⟨rfl,Zar (hok _ _ rfl) (Raw_closeN hr H)⟩
  ·unfold rawN at H
   repeat (first|refine r_nc ?_|refine r_fo0 ?_|refine r_ke ?_|(with_reducible first|refine Zu8 ?_|refine r_vt ?_)|refine r_ld 0 H rfl rfl ?_)
   exact⟨rfl,rfl⟩
 |some x=>
  obtain⟨rb,cb,zb,mb,lv,H⟩:=Raw_openS hr H
  have e0:bend s n=if x.code.done=false\/x.waits=true then .ok s n else if s.last.length<=s.frm then .bad 23 else .ok ⟨s.room,s.head,s.sum,s.frm,s.row,s.last,true⟩ n:=by
   unfold bend;rw[hr]
  rw[e0] at post hok;unfold rawS at H;have hf:=hp.frm;refine Za1 (λy w'=>w=w'/\y=.bool (!x.code.done||x.waits)) ?_ ?_
  ·rintro _ _ _ ⟨rfl,rfl⟩
   by_cases hc:x.code.done=false\/x.waits=true
   ·rw[if_pos hc] at post hok
    have:(!x.code.done||x.waits)=true:=by
     rcases hc with h|h
     ·rw[h];rfl
     ·rw[h];simp
    rw[this];refine r_vt ?_;exact post 0 _ S ⟨rfl,Zar (hok _ _ rfl) (Raw_closeS hr H)⟩
   ·rw[if_neg hc] at post hok
    have:(!x.code.done||x.waits)=false:=by
     rw[Bool.or_eq_false_iff]
     constructor
     ·cases h:x.code.done with
      |false=>exact absurd (.inl h) hc
      |true=>rfl
     ·cases h:x.waits with
      |false=>rfl
      |true=>exact absurd (.inr h) hc
    rw[this];refine r_vf ?_
    repeat (first|refine r_nc ?_|refine r_fo0 ?_|(refine r_dr H ?_;clear H;intro _ S_ H;replace S:=S.trans S_;clear S_)|refine r_ld 0 H rfl rfl ?_)
    refine r_lnS 1 H rfl ?_
    repeat (refine r_geq ?_)
    refine r_ifD (λh=>?_) λh=>?_
    ·rw[if_pos (by omega)] at post;have H9:=(by have h_:=Holds.ord 7 [0,6] H rfl;exact h_);rw[bkC,hp.done] at H9;exact post 23 _ S ⟨rfl,at_+n,_,_,_,_,_,_,H9⟩
    ·rw[if_neg (by omega)] at post hok
     repeat (first|refine r_nc ?_|refine r_fo0 ?_)
     refine r_st 0 H rfl (by simp[bkC]) rfl λw3 S3 H3=>?_;exact post 0 _ (S.trans S3) ⟨rfl,Zar (hok _ _ rfl) (Raw_closeS (s:=⟨s.room,s.head,s.sum,s.frm,s.row,s.last,true⟩) hr H3)⟩
  ·repeat (first|refine r_nc ?_|refine r_fo0 ?_|(with_reducible first|refine Za6 ?_|refine r_vf ?_)|refine r_ld 0 H rfl rfl ?_|refine r_ld 2 H rfl rfl ?_)
   have H2:Holds w (C14.CdR cb x.code::blk b tBk (bkC (pt rb) lv s)::SL bv tB lv s.last::blk rb tRw (rwC cb zb mb x)::Z07.ZrR zb x.zeros::F06.MtR mb x.list::RdR r B d (at_+n)::L):=(by have h_:=Holds.ord 7 [3,0,1,2,4,5,6] H rfl;exact h_);refine C14.Done_spec H2 ?_
   cases hcd:x.code.done with
   |false=>
    refine Zbm (r_vt ?_)
    repeat (refine r_ke ?_)
    exact⟨rfl,rfl⟩
   |true=>
    refine Zah (r_vf ?_)
    repeat (first|refine r_nc ?_|refine r_fo0 ?_|refine r_ld 0 H rfl rfl ?_)
    refine Zin H 2 rfl ?_
    repeat (refine r_ke ?_)
    exact⟨rfl,by simp⟩
def Mid (y:Res BS) (b:Nat) (s:BS) (r:Nat) (B:List UInt8) (d at_:Nat) (L:List HProp) (v:Value) (w:World):Prop:=
 (∃ e:Int,v=iv e/\e≠0/\AfterB y b s r B d at_ L e w)\/(v=iv 0/\∃ s' n,y=bend s' n/\Pre s'/\Holds w (RawR b s'::RdR r B d (at_+n)::L))
theorem begin_spec (H:Holds w (BkR b s::RdR r B d at_::L)) (hh:s.head=false) (post:∀ v w',Same w w'->Mid (bstep s (rest B at_)) b s r B d at_ L v w'->K v w') :
  Cl prog 276 #[pt b,pt r] w K:=by
 refine Tz276 ?_;unfold Vz276;obtain⟨hs,H⟩:=Zc7 H;have hrow:=(Zf0 (s:=0) (f:=0) hs hh (by omega) (by omega)).1;obtain⟨lv,H⟩:=Raw_openN hrow H
 have e0:bstep s (rest B at_)=bhead s (rest B at_):=by unfold bstep;rw[if_pos hh]
 rw[e0] at post;have hrl:=Zba B at_;have H1:Holds w (RdR r B d at_::blk b tBk (bkC (.pointer none) lv s)::SL bv tB lv s.last::L):=(by have h_:=Holds.ord 3 [2,0,1] H rfl;exact h_);clear H;refine Zez H1 λw2 S2 H2=>?_;have S:=S2;have H:=H2;clear H1 H2 S2;refine r_lss (r_ifD (λh=>?_) λh=>?_)
 ·refine post _ _ S (.inl ⟨3,rfl,by decide,?_⟩);unfold bhead;rw[if_pos (by omega)];exact⟨rfl,Zar hs (Raw_closeN hrow (by have h_:=Holds.ord 3 [1,2,0] H rfl;exact h_))⟩
 ·have h57:¬ (rest B at_).length < 57:=by omega
  have h32:=Zba B (at_+32);have h33:=Zba B (at_+32+1);refine Get_spec (n:=32) H (by omega) (λhx=>absurd hx (by omega)) λ_ w3 S3 H3=>?_;refine Za3 (Za4 ?_);refine Zdn H3 (λhx=>?_) λc hc w4 S4 H4=>?_
  ·have:=(List.getElem?_eq_none_iff.1 hx);omega
  refine Za3 (Za4 ?_);refine Get_spec (n:=24) H4 (by omega) (λhx=>absurd hx (by omega)) λ_ w5 S5 H5=>?_;refine Za3 (Za4 ?_);replace S:=((S.trans S3).trans S4).trans S5;clear H H3 H4;have H:=H5;clear H5;have hv1:=Zae (rest B at_) 32;have hv2:=Zae (rest B (at_+32+1)) 24;have e1:(rest B at_).drop 33=rest B (at_+32+1):=Zc5 B at_ 33
  have e2:valB (((rest B at_).drop 32).take 1)=c.toNat:=by
   rw[Zc5,Zan (n:=0) hc,List.take_zero,hO_,Zjr]
  have eh:bhead s (rest B at_)=if c.toNat=1 then .bad 25 else bend ⟨s.room,true,valB ((rest B at_).take 32),valB ((rest B (at_+32+1)).take 24),s.row,s.last,s.done⟩ 57:=by
   unfold bhead;rw[if_neg h57,e1,e2]
  rw[eh] at post;have hpre:=(Zf0 (s:=valB ((rest B at_).take 32)) (f:=valB ((rest B (at_+32+1)).take 24)) hs hh (by omega) (by omega)).2;generalize valB ((rest B at_).take 32)=sm at *;generalize valB ((rest B (at_+32+1)).take 24)=fm at *;refine r_nc (r_fo0 ?_);refine r_st 1 H rfl (by simp[bkC]) rfl λw3 S3 H3=>?_;replace H3:Holds w3 (RdR r B d (at_+32+1+24)::blk b tBk [.pointer none,nv s.room,.bool true,uv s.sum,nv s.frm,lv,.bool s.done,iv 0]::SL bv tB lv s.last::L):=H3;refine r_nc (r_fo0 ?_);refine r_st 1 H3 rfl (by simp) rfl λw4 S4 H4=>?_;replace H4:Holds w4 (RdR r B d (at_+32+1+24)::blk b tBk [.pointer none,nv s.room,.bool true,uv sm,nv s.frm,lv,.bool s.done,iv 0]::SL bv tB lv s.last::L):=H4;refine Zde (by omega) (by omega) ?_;refine r_nc (r_fo0 ?_);refine r_st 1 H4 rfl (by simp) rfl λw5 S5 H5=>?_;replace H5:Holds w5 (RdR r B d (at_+32+1+24)::blk b tBk [.pointer none,nv s.room,.bool true,uv sm,nv fm,lv,.bool s.done,iv 0]::SL bv tB lv s.last::L):=H5;replace S:=((S.trans S3).trans S4).trans S5;refine r_eql (r_ifE (λh=>?_) λh=>?_)
  ·rw[if_pos (by omega)] at post;rw[(hs.none_ hrow).2] at H5;exact post _ _ S (.inl ⟨25,rfl,by decide,rfl,_,_,_,_,_,_,_,(by have h_:=Holds.ord 3 [1,0] H5 rfl;exact h_)⟩)
  ·rw[if_neg (by omega)] at post;exact post _ _ S (.inr ⟨rfl,_,_,rfl,hpre,Raw_closeN hrow (by have h_:=Holds.ord 3 [1,2,0] H5 rfl;exact h_)⟩)
theorem Zkt (H:Holds w (BkR b s::RdR r B d at_::L)) (hh:s.head=true) (hrow:s.row=none) (post:∀ v w',Same w w'->Mid (bstep s (rest B at_)) b s r B d at_ L v w'->K v w') :
  Cl prog 277 #[pt b,pt r] w K:=by
 refine Tz277 ?_;unfold Vz277;obtain⟨hs,H⟩:=Zc7 H;obtain⟨lv,H⟩:=Raw_openN hrow H
 have e0:bstep s (rest B at_)=buse s (uread (rest B at_)):=by unfold bstep;rw[if_neg (by rw[hh];decide),hrow]
 rw[e0] at post;have H1:Holds w (RdR r B d at_::blk b tBk (bkC (.pointer none) lv s)::SL bv tB lv s.last::L):=(by have h_:=Holds.ord 3 [2,0,1] H rfl;exact h_);clear H;have hroom:=hs.room;refine U05.Zrp H1 (λhx w2 S2 H2=>?_) (λhx w2 S2 H2=>?_) λT n hx hT w2 S2 H2=>?_
 ·rw[hx] at post;refine Za3 (Za4 (r_eql (r_vfE (by decide) ?_)));exact post _ _ S2 (.inl ⟨3,rfl,by decide,rfl,Zar hs (Raw_closeN hrow (by have h_:=Holds.ord 3 [1,2,0] H2 rfl;exact h_))⟩)
 ·rw[hx] at post;refine Za3 (Za4 (r_eql (r_vfE (by decide) ?_)));rw[bkC,(hs.none_ hrow).2] at H2;exact post _ _ S2 (.inl ⟨25,rfl,by decide,rfl,_,_,_,_,_,_,_,(by have h_:=Holds.ord 3 [1,0] H2 rfl;exact h_)⟩)
 ·rw[hx] at post;refine Za3 (Za4 (r_eql (r_vtE rfl ?_)));refine r_nc (r_fo0 (r_ld 1 H2 rfl rfl ?_));refine Zr8 H2 hT hroom λrb cb zb mb w3 S3 H3=>?_;refine r_nc (r_fo0 ?_);refine r_st 5 H3 rfl (by simp[bkC]) rfl λw4 S4 H4=>?_;replace H4:Holds w4 (blk rb tRw (rwC cb zb mb (rowOf T s.room))::C14.CdR cb (rowOf T s.room).code::Z07.ZrR zb (rowOf T s.room).zeros::F06.MtR mb (rowOf T s.room).list::RdR r B d (at_+n)::blk b tBk (bkC (pt rb) lv s)::SL bv tB lv s.last::L):=H4;refine post _ _ ((S2.trans S3).trans S4) (.inr ⟨rfl,_,_,rfl,Zrv hs hh hrow hT,Raw_closeS (rb:=rb) (cb:=cb) (zb:=zb) (mb:=mb) (lv:=lv) rfl ?_⟩);exact (by have h_:=Holds.ord 7 [5,6,0,1,2,3,4] H4 rfl;exact h_)
theorem symbol_spec (H:Holds w (BkR b s::RdR r B d at_::L)) (hd:s.done=false) (hh:s.head=true) (hrow:s.row=some x) (hw:x.waits=false) (post:∀ v w',Same w w'->Mid (bstep s (rest B at_)) b s r B d at_ L v w'->K v w') :
  Cl prog 280 #[pt b,pt r] w K:=by
 refine Tz280 ?_;unfold Vz280;obtain⟨hs,H⟩:=Zc7 H;obtain⟨rb,cb,zb,mb,lv,H⟩:=Raw_openS hrow H
 have e0:bstep s (rest B at_)=bsym s x (cstep x.code (rest B at_)):=by unfold bstep;rw[if_neg (by rw[hh];decide),hrow];simp only;rw[if_neg (by rw[hw];decide)]
 rw[e0] at post;have hcd:=Zv9 hs hd hrow hw;obtain⟨g1,g2,g3,g4,g5⟩:=hs.some_ x hrow;unfold rawS at H;refine r_nc (r_fo0 (r_ld 0 H rfl rfl ?_));refine r_nc (r_fo0 (r_ld 2 H rfl rfl ?_));have H1:Holds w (C14.CdR cb x.code::RdR r B d at_::blk b tBk (bkC (pt rb) lv s)::SL bv tB lv s.last::blk rb tRw (rwC cb zb mb x)::Z07.ZrR zb x.zeros::F06.MtR mb x.list::L):=(by have h_:=Holds.ord 7 [3,6,0,1,2,4,5] H rfl;exact h_);refine C14.Step_spec H1 hcd λv w2 S2 hA=>?_;clear H1 H
 cases hx:cstep x.code (rest B at_) with
 |short=>
  rw[hx] at hA post;obtain⟨rfl,H⟩:=hA;refine Za3 (Za4 ?_);refine Za1 (λy w'=>w2=w'/\y=.bool true) ?_ ?_
  ·rintro _ _ _ ⟨rfl,rfl⟩;refine r_vt ?_;exact post _ _ S2 (.inl ⟨3,rfl,by decide,rfl,Zar hs (Raw_closeS (rb:=rb) (cb:=cb) (zb:=zb) (mb:=mb) (lv:=lv) hrow (by have h_:=Holds.ord 7 [2,3,4,0,5,6,1] H rfl;exact h_))⟩)
  ·refine r_neq (r_vtN (by decide) ?_)
   repeat (refine r_ke ?_)
   exact⟨rfl,rfl⟩
 |bad c=>
  have hcb:=Zgw hx
  have hc0:(c:Int)≠0:=by omega
  rw[hx] at hA post;obtain⟨rfl,q,H⟩:=hA;refine Za3 (Za4 ?_);refine Za1 (λy w'=>w2=w'/\y=.bool true) ?_ ?_
  ·rintro _ _ _ ⟨rfl,rfl⟩;refine r_vt ?_;rw[bkC,hd] at H;exact post _ _ S2 (.inl ⟨c,rfl,hc0,rfl,q,_,_,_,_,_,_,(by have h_:=Holds.ord 6 [1,0] H rfl;exact h_)⟩)
  ·refine r_neq (r_vtN hc0 ?_)
   repeat (refine r_ke ?_)
   exact⟨rfl,rfl⟩
 |ok y k=>
  obtain⟨c,o⟩:=y;rw[hx] at hA post;obtain⟨rfl,H⟩:=hA;refine Za3 (Za4 ?_)
  cases o with
  |none=>
   refine Za1 (λy w'=>w2=w'/\y=.bool true) ?_ ?_
   ·rintro _ _ _ ⟨rfl,rfl⟩;refine r_vt ?_;refine post _ _ S2 (.inr ⟨rfl,_,_,rfl,Zs0 hs hd hrow hx,Raw_closeS (rb:=rb) (cb:=cb) (zb:=zb) (mb:=mb) (lv:=lv) rfl ?_⟩);exact (by have h_:=Holds.ord 7 [2,3,4,0,5,6,1] H rfl;exact h_)
   ·refine r_neq (r_vfN rfl ?_);refine r_lss (r_ke ?_);exact⟨rfl,rfl⟩
  |some sy=>
   have hsy:=(Zdw hx g2.code).2.2 sy rfl;have hsz:=g2.size;refine Za1 (λy w'=>w2=w'/\y=.bool false) ?_ ?_
   ·rintro _ _ _ ⟨rfl,rfl⟩;refine r_vf ?_;refine r_nc (r_fo0 (r_ld 2 H rfl rfl ?_));have H1:Holds w2 (blk rb tRw (rwC cb zb mb x)::Z07.ZrR zb x.zeros::C14.CdR cb c::RdR r B d (at_+k)::blk b tBk (bkC (pt rb) lv s)::SL bv tB lv s.last::F06.MtR mb x.list::L):=(by have h_:=Holds.ord 7 [4,5,0,1,2,3,6] H rfl;exact h_);refine told_spec (c:=c) H1 (by omega) (by rw[g2.zd];exact hcd) (λhn w3 S3 H3=>?_) λz dd p hz w3 S3 H3=>?_
    ·have e1:bsym s x (.ok (c,some sy) k)=.bad 25:=by show btold s x c sy k=_;unfold btold;rw[hn]
     rw[e1] at post;rw[bkC,hd] at H3;exact post _ _ (S2.trans S3) (.inl ⟨25,rfl,by decide,rfl,_,_,_,_,_,_,_,(by have h_:=Holds.ord 5 [2,1] H3 rfl;exact h_)⟩)
    ·refine post _ _ (S2.trans S3) (.inr ⟨rfl,⟨s.room,s.head,s.sum,s.frm,some ⟨c,z,x.list,dd,p.toNat⟩,s.last,s.done⟩,k,?_,Zo8 hs hd hrow hw hx hz,Raw_closeS (rb:=rb) (cb:=cb) (zb:=zb) (mb:=mb) (lv:=lv) rfl ?_⟩)
     ·show btold s x c sy k=_;unfold btold;rw[hz]
     ·exact (by have h_:=Holds.ord 7 [4,5,0,2,1,6,3] H3 rfl;exact h_)
   ·refine r_neq (r_vfN rfl ?_);refine r_lss (r_ke ?_);exact⟨rfl,by rw[decide_eq_false (by omega)]⟩
theorem step_spec (H:Holds w (BkR b s::RdR r B d at_::L)) (hd:s.done=false) (post:∀ e w',Same w w'->AfterB (bstep s (rest B at_)) b s r B d at_ L e w'->K (iv e) w') :
  Cl prog 275 #[pt b,pt r] w K:=by
 refine Tz275 ?_;unfold Vz275;refine Za1 (λv w'=>Same w w'/\Mid (bstep s (rest B at_)) b s r B d at_ L v w') ?_ ?_
 ·rintro _ v w1 ⟨S,⟨e,rfl,he,hA⟩|⟨rfl,s',n,hy,hp,H'⟩⟩
  ·refine r_neq (r_vtN he ?_);exact post e _ S hA
  ·refine r_neq (r_vfN rfl ?_);rw[hy] at post;exact end_spec H' hp s λe w' S' hA=>post e w' (S.trans S') hA
 clear post;have S:=Same.refl w;have hs:=(Zc7 H).1;have hraw:=(Zc7 H).2
 cases hh:s.head with
 |false=>
  have hrow:=(Zf0 (s:=0) (f:=0) hs hh (by omega) (by omega)).1;obtain⟨lv,H0⟩:=Raw_openN hrow hraw;refine r_nc (r_fo0 (r_ld 0 H0 rfl rfl ?_));rw[hh];refine Zbm (r_vt ?_);refine begin_spec H hh λv w' S' hA=>?_
  repeat (refine r_ke ?_)
  exact⟨S',hA⟩
 |true=>
  cases hrow:s.row with
  |none=>
   obtain⟨lv,H0⟩:=Raw_openN hrow hraw;refine r_nc (r_fo0 (r_ld 0 H0 rfl rfl ?_));rw[hh];refine Zah (r_vf ?_);refine r_nc (r_fo0 (r_ld 0 H0 rfl rfl ?_));refine Zu8 (r_vt ?_);refine Zkt H hh hrow λv w' S' hA=>?_
   repeat (refine r_ke ?_)
   exact⟨S',hA⟩
  |some x=>
   obtain⟨rb,cb,zb,mb,lv,H0⟩:=Raw_openS hrow hraw;refine r_nc (r_fo0 (r_ld 0 H0 rfl rfl ?_));rw[hh];refine Zah (r_vf ?_);refine r_nc (r_fo0 (r_ld 0 H0 rfl rfl ?_));refine Za6 (r_vf ?_);refine r_nc (r_fo0 (r_ld 0 H0 rfl rfl ?_));refine Zin H0 2 rfl ?_
   cases hw:x.waits with
   |false=>
    refine r_vf ?_;refine symbol_spec H hd hh hrow hw λv w' S' hA=>?_
    repeat (refine r_ke ?_)
    exact⟨S',hA⟩
   |true=>
    refine r_vt ?_;obtain⟨g1,g2,g3,g4,g5⟩:=hs.some_ x hrow;have hzs:=g2.zeros.sum;have hzm:=g2.zeros.most
    have hat:x.at_ < x.list.length:=by
     have:=g2.list;have:=g2.place;unfold RS.at_
     split <;> omega
    have hpre:=Zoj hs hd hrow hw
    have eb:bstep s (rest B at_)=bnext s x:=by unfold bstep;rw[if_neg (by rw[hh];decide),hrow];simp only;rw[if_pos hw]
    clear H hraw;have H:=H0;clear H0;unfold rawS at H
    repeat (first|refine r_nc ?_|refine r_fo0 ?_|(refine r_dr H ?_;clear H;intro _ S_ H;replace S:=S.trans S_;clear S_)|refine r_ld 0 H rfl rfl ?_)
    have H1:Holds _ (blk rb tRw (rwC cb zb mb x)::F06.MtR mb x.list::blk b tBk (bkC (pt rb) lv s)::SL bv tB lv s.last::C14.CdR cb x.code::Z07.ZrR zb x.zeros::RdR r B d at_::L):=(by have h_:=Holds.ord 7 [2,5,0,1,3,4,6] H rfl;exact h_);refine Zu5 H1 hat (by omega) λw3 S3 H3=>?_;refine r_rk (r_ld 2 H3 rfl rfl rfl) ?_;refine Znm H3 3 (f:=bv) (xs:=s.last) rfl x.byte (λ_=>rfl) (by omega) (λw' H'=>r_ld 2 H' rfl rfl rfl) λlv' w4 S4 H4=>?_;replace H4:Holds w4 (blk rb tRw (rwC cb zb mb x.next)::F06.MtR mb x.next.list::blk b tBk (bkC (pt rb) lv s)::SL bv tB lv' (s.last++[x.byte])::C14.CdR cb x.code::Z07.ZrR zb x.zeros::RdR r B d at_::L):=H4;refine r_nc (r_fo0 ?_);refine r_st 2 H4 rfl (by simp[bkC]) (SL_sg H4 3 rfl) λw5 S5 H5=>?_;replace H5:Holds w5 (blk rb tRw (rwC cb zb mb x.next)::F06.MtR mb x.next.list::blk b tBk (bkC (pt rb) lv' s)::SL bv tB lv' (s.last++[x.byte])::C14.CdR cb x.code::Z07.ZrR zb x.zeros::RdR r B d at_::L):=H5
    repeat (refine r_ke ?_)
    refine⟨((S.trans S3).trans S4).trans S5,.inr ⟨rfl,⟨s.room,s.head,s.sum,s.frm,some x.next,s.last++[x.byte],s.done⟩,0,by rw[eb];rfl,hpre,Raw_closeS (rb:=rb) (cb:=cb) (zb:=zb) (mb:=mb) (lv:=lv') rfl ?_⟩⟩;exact (by have h_:=Holds.ord 7 [2,3,0,4,5,1,6] H5 rfl;exact h_)
def BadB (b e:Nat):HProp:=λh=>∃ v1 v2 v3 v4 v5 v6,blk b tBk [v1,v2,v3,v4,v5,v6,.bool false,nv e] h
def AfterBS (y:Res BS) (b:Nat) (s:BS) (r:Nat) (B:List UInt8) (d at_:Nat) (L:List HProp) (e:Int) (w:World):Prop:=
 match y with
 |.short=>e=3/\Holds w (BkR b s::RdR r B d at_::L)
 |.bad c=>e=(c:Int)/\∃ q,Holds w (BadB b c::RdR r B d q::L)
 |.ok s' n=>e=0/\Holds w (BkR b s'::RdR r B d (at_+n)::L)
theorem Zhm (H:Holds w (BkR b s::L)):∃ rv lv L',Holds w (blk b tBk (bkC rv lv s)::L')/\∀ w' v,Holds w' (blk b tBk ((bkC rv lv s).set 7 v)::L')->v=iv 0->Holds w' (BkR b s::L):=by
 obtain⟨hs,H⟩:=Zc7 H
 cases hrow:s.row with
 |none=>
  obtain⟨lv,H⟩:=Raw_openN hrow H;exact⟨_,lv,_,H,λw' v H' hv=>by subst hv;exact Zar hs (Raw_closeN hrow H')⟩
 |some x=>
  obtain⟨rb,cb,zb,mb,lv,H⟩:=Raw_openS hrow H;exact⟨_,lv,_,H,λw' v H' hv=>by subst hv;exact Zar hs (Raw_closeS hrow H')⟩
theorem Step_spec (H:Holds w (BkR b s::RdR r B d at_::L)) (hd:s.done=false) (post:∀ e w',Same w w'->AfterBS (bstep s (rest B at_)) b s r B d at_ L e w'->K (iv e) w') :
  Cl prog 270 #[pt b,pt r] w K:=by
 refine Tz270 ?_;unfold Vz270;obtain⟨rv,lv,L',H0,hback⟩:=Zhm H;refine Za1 (λy w'=>w=w'/\y=.bool false) ?_ ?_
 ·rintro _ _ _ ⟨rfl,rfl⟩;refine r_vf ?_;refine r_nc (r_fo0 (r_ld 0 H0 rfl rfl ?_));refine r_neq (r_vfN rfl ?_);refine step_spec H hd λe w2 S2 hA=>?_
  cases hx:bstep s (rest B at_) with
  |short=>
   rw[hx] at hA post;obtain⟨rfl,H'⟩:=hA;refine r_neq (r_vfN rfl ?_);exact post _ _ S2 ⟨rfl,H'⟩
  |bad c=>
   have hcb:=Zh2 hx;rw[hx] at hA post;obtain⟨rfl,q,v1,v2,v3,v4,v5,v6,H'⟩:=hA;refine r_neq (r_vtN (by omega) ?_);refine r_nc (r_fo0 ?_);refine r_st 0 H' rfl (by simp) rfl λw5 S5 H5=>?_;exact post _ _ (S2.trans S5) ⟨rfl,q,Holds.imp H5 λ_ hh=>⟨v1,v2,v3,v4,v5,v6,hh⟩⟩
  |ok s' k=>
   rw[hx] at hA post;obtain⟨rfl,H'⟩:=hA;refine r_neq (r_vtN (by decide) ?_);obtain⟨rv,lv,L',H1,hback⟩:=Zhm H';refine r_nc (r_fo0 ?_);refine r_st 0 H1 rfl (by simp[bkC]) rfl λw5 S5 H5=>?_;exact post _ _ (S2.trans S5) ⟨rfl,hback _ _ H5 rfl⟩
 ·repeat (first|refine r_ld 0 H0 rfl rfl ?_|refine r_nc ?_|refine r_fo0 ?_|refine r_ke ?_|(with_reducible first|refine Za6 ?_|refine r_vf ?_))
  exact⟨rfl,by rw[hd]⟩
theorem Done_spec (H:Holds w (BkR b s::L)) (k:K (.bool s.done) w):Cl prog 271 #[pt b] w K:=by
 refine Tz271 ?_;unfold Vz271;obtain⟨rv,lv,L',H0,_⟩:=Zhm H
 repeat (first|refine r_ld 0 H0 rfl rfl ?_|refine r_nc ?_|refine r_fo0 ?_|(with_reducible first|refine Zao ?_|refine r_vt ?_))
 exact k
end B20
namespace B20
open Go.M01 Go.Mb Go.Mp Go.M10 Go.Mc Go.Mz Go.Mk Go.Q23 Rb
variable {w:World}{L:List HProp}{K:KT}{b rb cb zb mb r:Nat}{B:List UInt8}{d at_ n k:Nat}{s:BS}{x:RS}{lv:Value}
abbrev tGt:Nat:=115
abbrev gotV (t:List UInt8) (o u:Nat):List Value:=[S_ t,nv o,uv u]
theorem Zol:(zeroP prog tGt).cells.toList=gotV [] 0 0:=by kernel_rfl
theorem r_cvb {t e d:TypeId} [hr:Bytes prog t e d] (H:Holds w L) (i:Nat){oa:Option Addr}{xs:List UInt8}{sp:List Value}{l c:Nat}{K:Value->Prop}
  (hi:L[i]?=some (slb bv e oa xs sp)) (hl:l=xs.length) (h:K (.string ⟨xs.toArray⟩)):Cv prog t d (.slice oa l c) w K:=by
 have h0:Cw prog t d (.slice oa l c) w (λv w'=>v=.string ⟨xs.toArray⟩/\w'=w):=r_cbs H i hi hl ⟨rfl,rfl⟩;unfold Cw at h0;obtain⟨v,w',hr,rfl,rfl⟩:=h0;unfold Cv;exact⟨_,hr,h⟩
theorem Zpx (H:Holds w (BkR b s::L)):∃ rv oa c L' sp,Holds w (blk b tBk (bkC rv (.slice oa s.last.length c) s)::slb bv tB oa s.last sp::L')/\(∀ w',Holds w' (blk b tBk (bkC rv (.slice oa s.last.length c) s)::slb bv tB oa s.last sp::L')->Holds w' (BkR b s::L)):=by
 obtain⟨hs,H⟩:=Zc7 H
 have back:∀ {oa:Option Addr} {sp:List Value} {w':World} {rv lv:Value} {L':List HProp},lv=.slice oa s.last.length (s.last.length+sp.length)->Holds w' (blk b tBk (bkC rv lv s)::slb bv tB oa s.last sp::L')->Holds w' (blk b tBk (bkC rv lv s)::SL bv tB lv s.last::L'):=by
  intro oa sp w' rv lv L' he H';subst he;exact H'.close 1 rfl
 cases hrow:s.row with
 |none=>
  obtain⟨lv,H⟩:=Raw_openN hrow H;obtain⟨oa,sp,rfl,H1⟩:=H.open 1 rfl;exact⟨_,oa,_,L,sp,H1,λw' H'=>Zar hs (Raw_closeN hrow (back rfl H'))⟩
 |some x=>
  obtain⟨rb,cb,zb,mb,lv,H⟩:=Raw_openS hrow H;obtain⟨oa,sp,rfl,H1⟩:=H.open 1 rfl;exact⟨_,oa,_,_,sp,H1,λw' H'=>Zar hs (Raw_closeS hrow (back rfl H'))⟩
theorem Zwh (H:Holds w (BkR b s::L)) (hd:s.done=true) (k:∀ w',Same w w'->Holds w' (BkR b s::L)->K (.agg (gotV s.last s.frm s.sum).toArray) w'):Cl prog 272 #[pt b] w K:=by
 refine Tz272 ?_;unfold Vz272;refine r_new H λgb w1 S1 H1=>?_;rw[Zol] at H1;refine Done_spec H1.swap ?_;rw[hd];refine Zah (r_vf ?_);refine r_dr H1 λw2 S2 H2=>?_;obtain⟨rv,oa,c,L',sp,H3,hback⟩:=Zpx H2.swap;refine r_nc (r_fo0 (r_ld 0 H3 rfl rfl ?_));refine r_cvb H3 1 rfl rfl ?_;refine r_nc (r_fo0 (r_ld 0 H3 rfl rfl ?_));refine r_nc (r_fo0 (r_ld 0 H3 rfl rfl ?_));refine r_bd (v:=.agg (gotV s.last s.frm s.sum).toArray) (by kernel_rfl) ?_;refine r_stA 0 H2 (vs:=gotV s.last s.frm s.sum) rfl (Nat.le_refl 3) rfl rfl λw4 S4 H4=>?_;replace H4:Holds w4 (blk gb tGt (gotV s.last s.frm s.sum)::BkR b s::L):=H4;refine r_ldA 0 H4 (gotV s.last s.frm s.sum) rfl rfl rfl ?_;exact k _ ((S1.trans S2).trans S4) H4.drop
end B20
namespace R3b
open Go.M02 Go.M03
abbrev S_ (B:List UInt8):Value:=.string ⟨B.toArray⟩
abbrev pt (b:Nat):Value:=.pointer (some ⟨b,0,none⟩)
abbrev tB:Nat:=5
variable {w:World}{L:List HProp}{K:KT}{b r:Nat}{s:Nat}{t:List UInt8}
abbrev tS:Nat:=124
def smC (s:Nat):List Value:=[]++(tabL.map uv++[uv s])
def SumR (b s:Nat):HProp:=λh=>s < 4294967296/\blk b tS (smC s) h
theorem Zev (H:Holds w (SumR b s::L)):s < 4294967296/\Holds w (blk b tS (smC s)::L):=Holds.pure H
theorem Zdx (h:s < 4294967296) (H:Holds w (blk b tS (smC s)::L)):Holds w (SumR b s::L):=Holds.imp H λ_ hh=>⟨h,hh⟩
theorem sm256:(smC s)[256]?=some (uv s):=by
 have:=Zwt (f:=uv) (xs:=tabL) (post:=[uv s]) (j:=0) [] Zd0;exact this
theorem smget {i:Nat}(h:i < 256):(smC s)[0+i]?=some (uv (crcTab i)):=Zk7 (f:=uv) [] (Zoo i h)
theorem smset (v:Nat):(smC s).set 256 (uv v)=smC v:=by
 have:=Zvr (f:=uv) (xs:=tabL) (post:=[uv s]) (j:=0) [] (uv v) Zd0;exact this
theorem smlen:(smC s).length=257:=by
 unfold smC;rw[hO_,gD,hS_,Zd0];rfl
theorem New_spec (H:Holds w L) (k:∀ b w',Same w w'->Holds w' (SumR b 4294967295::L)->K (pt b) w'):Cl prog 47 #[] w K:=by
 refine Tz47 ?_;unfold Vz47;refine W02.Zhz H λw1 S1 H1=>?_;refine r_bd (v:=.agg (smC 4294967295).toArray) (by kernel_rfl) ?_;refine r_new H1 λb w2 S2 H2=>?_;exact k b _ (S1.trans S2) (Zdx (by decide) H2)
theorem step_spec {c:UInt8}(H:Holds w (blk b tS (smC s)::L)) (hs:s < 4294967296) (k:K (uv (crcB s c)) w):Cl prog 137 #[pt b,uv s,bv c] w K:=by
 refine Tz137 ?_;unfold Vz137;have hc:=c.toNat_lt;refine Zcd (n:=8) (by omega) ?_;refine Ze1 (n:=24) (by decide) ?_;have h24:s/2^24=s/16777216:=rfl;rw[h24];have hh:s/16777216 ^^^ c.toNat < 256:=Nat.xor_lt_two_pow (n:=8) (by omega) (by omega)
 repeat (refine Zh7 (by omega) (by omega) ?_)
 refine Zyz (by omega) (by omega) ?_;refine r_nc (Zak (by omega) ?_);refine r_ld 0 H rfl (smget hh) ?_;have ht:crcTab (s/16777216 ^^^ c.toNat) < 4294967296:=Zfo _ (by omega) 8;refine Zgc (by omega) ht ?_;rw[Zvb hs];exact k
theorem Put_spec {c:UInt8}(H:Holds w (SumR b s::L)) (k:∀ w',Same w w'->Holds w' (SumR b (crcB s c)::L)->K (.tuple #[]) w'):Cl prog 124 #[pt b,bv c] w K:=by
 refine Tz124 ?_;unfold Vz124;obtain⟨hs,H⟩:=Zev H;have S:=Same.refl w
 repeat (first|((with_reducible apply r_ld 0 H);(exact rfl);(with_reducible exact (sm256)))|refine r_nc ?_|refine r_fo0 ?_|(with_reducible first|refine Zao ?_|refine r_vt ?_)|(refine r_dr H ?_;clear H;intro _ S_ H;replace S:=S.trans S_;clear S_))
 refine step_spec H hs ?_
 repeat (first|refine r_nc ?_|refine r_fo0 ?_)
 refine r_st 0 H rfl (by rw[smlen];omega) rfl λw2 S2 H2=>?_;rw[gJ,smset] at H2;exact k _ (S.trans S2) (Zdx (Zz8 hs c) H2)
end R3b
namespace Rb
open Go.M01 Go.Mb
variable {w:World}{L:List HProp}{K:KT}{b:Nat}{B:List UInt8}{d at_ n:Nat}
theorem Zul {S2:List UInt8}(H:Holds w (RdR b B d at_::L)) (hS:B.length+S2.length<=1000000000) (k:∀ w',Same w w'->Holds w' (RdR b (B++S2) d at_::L)->K (iv 0) w'):Cl prog 240 #[.pointer (some ⟨b,0,none⟩),S_ S2] w K:=by
 refine Tz240 ?_;unfold Vz240;obtain⟨hf,H⟩:=Zaf H;have S:=Same.refl w
 repeat (first|refine r_nc ?_|refine r_fo0 ?_|(with_reducible first|refine Za6 ?_|refine r_vf ?_)|refine r_ld 0 H rfl rfl ?_)
 refine Zeg (by rw[gS];omega) ?_
 repeat (first|refine r_nc ?_|refine r_fo0 ?_)
 refine r_st 0 H rfl (by simp) rfl λw3 S3 H3=>?_;replace H3:Holds w3 (blk b tR [S_ (B.drop d++S2),nv d,nv at_]::L):=H3;rw[<-List.drop_append_of_le_length (by omega)] at H3
 repeat (fail)
 exact k _ (S.trans S3) (Zau ⟨hf.1,by rw[gD];omega,by rw[gD];omega⟩ H3)
end Rb
namespace Rb
open Go.M01 Go.Mb
variable {w:World}{L:List HProp}{K:KT}{b:Nat}{B:List UInt8}{d at_ n:Nat}
theorem Zr5 (H:Holds w (RdR b B d at_::L)) (k:∀ w',Same w w'->Holds w' (RdR b B d (at_+(8*B.length - at_)%8)::L)->K (.tuple #[]) w'):Cl prog 273 #[.pointer (some ⟨b,0,none⟩)] w K:=by
 refine Tz273 ?_;unfold Vz273;have hf:=(Zaf H).1;have S:=Same.refl w;have h0:Holds w (RdR b B d (at_+0)::L):=H;refine Zka (λw'=>∃ j,j<=(8*B.length - at_)%8/\Same w w'/\Holds w' (RdR b B d (at_+j)::L)) (λw'=>8*B.length - (match w'.cell? ⟨b,2,none⟩ with|some (.int _ n)=>n.toNat|_=>0)) ⟨0,hE _,S,h0⟩ ?_;clear H S h0;rintro _ w1 ⟨j,hj,S,H⟩;obtain⟨hf1,H⟩:=Zaf H;have hc1:=H.cell 0 rfl 2;simp only[gF,List.getElem?_cons_zero] at hc1
 have hr:((at_+j:Nat):Int).tmod 8=(((at_+j)%8:Nat):Int):=by rw[Int.tmod_eq_emod_of_nonneg (by omega)];simp
 refine Za1 (λx w'=>w1=w'/\x=.bool (decide (¬ (at_+j)%8=0))) ?_ ?_
 rotate_left
 ·refine Zao (r_vt ?_);refine r_nc (r_fo0 (r_ld 0 H rfl rfl ?_));refine Zgv hr (by omega) ?_;refine r_neq (r_ke ⟨rfl,congrArg Value.bool ?_⟩);rw[Bool.eq_iff_iff,bne_iff_ne,decide_eq_true_iff];omega
 rintro _ _ _ ⟨rfl,rfl⟩;refine r_ifD (λh=>?_) λh=>?_
 ·have hlt:j < (8*B.length - at_)%8:=by omega
  repeat (first|refine r_nc ?_|refine r_fo0 ?_|(refine Za0 (by omega) ?_)|refine r_ld 0 H rfl rfl ?_)
  refine r_st 0 H rfl (by simp) rfl λw3 S3 H3=>?_;replace H3:Holds w3 (blk b tR [S_ (B.drop d),nv d,nv (at_+j+1)]::L):=H3;have hc3:=H3.cell 0 rfl 2;simp only[gF,List.getElem?_cons_zero] at hc3
  repeat (refine r_ke ?_)
  refine⟨⟨j+1,by omega,S.trans S3,Zau ⟨by omega,by omega,hf.2.2⟩ H3⟩,?_⟩;rw[hc1,hc3];simp only[nv,gC];omega
 ·obtain rfl:j=(8*B.length - at_)%8:=by omega
  repeat (fail)
  exact k _ S (Zau hf1 H)
theorem Ztm (H:Holds w (RdR b B d at_::L)) (k:∀ w' v,Same w w'->Holds w' (RdR b B (at_/8) at_::L)->K v w'):Cl prog 248 #[.pointer (some ⟨b,0,none⟩)] w K:=by
 refine Tz248 ?_;unfold Vz248;obtain⟨hf,H⟩:=Zaf H;have S:=Same.refl w
 have hs:(⟨(B.drop d).toArray⟩:ByteArray).size=B.length - d:=by show (B.drop d).toArray.size=_;simp
 have hd:(⟨(B.drop d).toArray⟩:ByteArray).data.toList=B.drop d:=by simp
 have hq:((at_:Nat):Int).tdiv 8=((at_/8:Nat):Int):=by rw[Int.tdiv_eq_ediv_of_nonneg (by omega)];simp
 repeat (first|refine Zik hq (by omega) (by omega) (by omega) ?_|refine r_nc ?_|refine r_fo0 ?_|(with_reducible first|refine Za6 ?_|refine r_vf ?_)|(refine r_sub (by omega) (by omega) ?_)|(refine r_dr H ?_;clear H;intro _ S_ H;replace S:=S.trans S_;clear S_)|refine r_ld 0 H rfl rfl ?_)
 rw[show ((at_/8:Nat):Int) - (d:Int)=((at_/8 - d:Nat):Int) by omega]
 repeat (fail)
 refine Zxm (m:=at_/8 - d) (by rw[hs];omega) ?_;rw[hd,drop_drop,show d+(at_/8 - d)=at_/8 by omega]
 repeat (first|refine r_nc ?_|refine r_fo0 ?_)
 refine r_st 0 H rfl (by simp) rfl λw3 S3 H3=>?_;replace H3:Holds w3 (blk b tR [S_ (B.drop (at_/8)),nv d,nv at_]::L):=H3;refine r_nc (r_fo0 (r_ld 0 H3 rfl rfl ?_));refine Za9 (by omega) ?_;rw[show d+(at_/8 - d)=at_/8 by omega];refine r_nc (r_fo0 ?_);refine r_st 0 H3 rfl (by simp) rfl λw4 S4 H4=>?_;replace H4:Holds w4 (blk b tR [S_ (B.drop (at_/8)),nv (at_/8),nv at_]::L):=H4;exact k _ _ ((S.trans S3).trans S4) (Zau ⟨by omega,hf.2.1,hf.2.2⟩ H4)
end Rb
namespace U22
open Go.M01 Go.Mb Go.Mp Go.M10 Go.Mc Go.Mz Go.Mk Go.M02 Go.M03 Go.Q24 Rb
variable {w:World}{L:List HProp}{K:KT}{b r:Nat}{B:List UInt8}{d at_:Nat}{u:US}
abbrev tUs:Nat:=117
def usC (p:Value) (u:US) (e:Nat):List Value:=[nv u.unit,nv u.due,nv u.at_,nv u.level,p,S_ u.last,nv u.frm,uv u.sum,uv u.total,.bool u.ended,nv e]
def RawU (b:Nat) (u:US):HProp:=match u.blk with
 |none=>blk b tUs (usC (.pointer none) u 0)
 |some s=>λh=>∃ q,Sat [blk b tUs (usC (pt q) u 0),B20.BkR q s] h
def UsR (b:Nat) (u:US):HProp:=λh=>u.Ok/\RawU b u h
theorem Zbt (H:Holds w (UsR b u::L)):u.Ok/\Holds w (RawU b u::L):=Holds.pure H
theorem Zai (h:u.Ok) (H:Holds w (RawU b u::L)):Holds w (UsR b u::L):=Holds.imp H λ_ hh=>⟨h,hh⟩
theorem Raw_openN (hr:u.blk=none) (H:Holds w (RawU b u::L)):Holds w (blk b tUs (usC (.pointer none) u 0)::L):=by
 unfold RawU at H;rw[hr] at H;exact H
theorem Raw_closeN (hr:u.blk=none) (H:Holds w (blk b tUs (usC (.pointer none) u 0)::L)):Holds w (RawU b u::L):=by
 unfold RawU;rw[hr];exact H
theorem Raw_openS {s:BS}(hr:u.blk=some s) (H:Holds w (RawU b u::L)):∃ q,Holds w (blk b tUs (usC (pt q) u 0)::B20.BkR q s::L):=by
 unfold RawU at H;rw[hr] at H;obtain⟨q,H⟩:=Holds.ex H;exact⟨q,Holds.unpack H⟩
theorem Raw_closeS {s:BS}{q:Nat}(hr:u.blk=some s) (H:Holds w (blk b tUs (usC (pt q) u 0)::B20.BkR q s::L)):Holds w (RawU b u::L):=by
 unfold RawU;rw[hr];exact Holds.imp (Holds.pack (A:=[blk b tUs (usC (pt q) u 0),B20.BkR q s]) H) λ_ hh=>⟨q,hh⟩
def BadU (b e:Nat):HProp:=λh=>∃ p u,blk b tUs (usC p u e) h
theorem Zrm {e:Nat}(H:Holds w (BadU b e::L)):∃ p u,Holds w (blk b tUs (usC p u e)::L):=by
 obtain⟨p,H⟩:=Holds.ex H;obtain⟨u,H⟩:=Holds.ex H;exact⟨p,u,H⟩
def AfterU (y:Res (US × Nat)) (b:Nat) (u:US) (r:Nat) (B:List UInt8) (d at_:Nat) (L:List HProp) (wt e:Int) (w:World):Prop:=
 match y with
 |.short=>wt=0/\e=3/\Holds w (UsR b u::RdR r B d at_::L)
 |.bad c=>wt=0/\e=(c:Int)/\∃ q,Holds w (BadU b 0::RdR r B d q::L)
 |.ok (u',k) n=>wt=(k:Int)/\e=0/\Holds w (UsR b u'::RdR r B d (at_+n)::L)
theorem Zno (H:Holds w (UsR b u::RdR r B d at_::L)) (hd:u.due=0) (post:∀ e w',Same w w'->AfterU (uletter u (rest B at_)) b u r B d at_ L 0 e w'->K (iv e) w') :
  Cl prog 263 #[pt b,pt r] w K:=by
 refine Tz263 ?_;unfold Vz263;obtain⟨hu,H⟩:=Zbt H;have hbn:=hu.none_ (by omega);have hok:∀ u' k n,uletter u (rest B at_)=.ok (u',k) n->u'.Ok:=λu' k n h=>(Zdv hu (by unfold ustep;rw[if_pos hd];exact h)).1;have H1:=(Raw_openN hbn H).swap;clear H;refine Rb.Get_spec (n:=8) H1 (by omega) (λh w2 S2 H2=>?_) λh w2 S2 H2=>?_
 ·refine Za3 (Za4 ?_);refine r_neq (r_vtN (by decide) ?_);refine post _ _ S2 ?_;unfold uletter;rw[if_pos h];exact⟨rfl,rfl,Zai hu (Raw_closeN hbn H2.swap)⟩
 refine Za3 (Za4 ?_);refine r_neq (r_vfN rfl ?_);have hv:=Zae (rest B at_) 8
 have h8:¬ (rest B at_).length < 8:=by omega
 unfold uletter at post hok;rw[if_neg h8] at post;simp only[if_neg h8] at hok;generalize valB ((rest B at_).take 8)=c at *;have ha:=hu.at_;have hbad:Holds w2 (BadU b 0::RdR r B d (at_+8)::L):=Holds.imp H2.swap λ_ hh=>⟨_,u,hh⟩;refine r_nc (r_fo0 (r_ld 1 H2 rfl rfl ?_));refine r_lss (r_ifD (λh3=>?_) λh3=>?_)
 ·have h3':u.at_ < 3:=by omega
  rw[if_pos h3'] at post;simp only[if_pos h3'] at hok;refine r_nc (r_fo0 (r_ld 1 H2 rfl rfl ?_));refine r_ixs (n:=(u.at_:Int)) (by omega) (by show (u.at_:Int) < ((3:Nat):Int);omega) ?_;rw[gC]
  have hl:(((⟨#[66,90,104]⟩:ByteArray).data.toList.getD u.at_ 0).toNat:Int)=((letters.getD u.at_ 0:Nat):Int):=by
   rcases (show u.at_=0\/u.at_=1\/u.at_=2 by omega) with h|h|h <;> rw[h] <;> rfl
  rw[hl]
  have hl2:letters.getD u.at_ 0 < 256:=by
   rcases (show u.at_=0\/u.at_=1\/u.at_=2 by omega) with h|h|h <;> rw[h] <;> decide
  refine Zb4 (by omega) (by omega) ?_;refine r_neq (r_ifN (λh4=>?_) λh4=>?_)
  ·rw[if_neg (by omega)] at post;exact post _ _ S2 ⟨rfl,rfl,_,hbad⟩
  ·rw[if_pos (by omega)] at post;simp only[if_pos (show c=letters.getD u.at_ 0 by omega)] at hok;refine r_nc (r_fo0 (r_ld 1 H2 rfl rfl ?_));refine Za0 (by omega) ?_;refine r_nc (r_fo0 ?_);refine r_st 1 H2 rfl (by simp[usC]) rfl λw3 S3 H3=>?_;exact post _ _ (S2.trans S3) ⟨rfl,rfl,Zai (hok _ _ _ rfl) (Raw_closeN hbn H3.swap)⟩
 ·have h3':¬ u.at_ < 3:=by omega
  rw[if_neg h3'] at post;simp only[if_neg h3'] at hok;refine Za1 (λx w'=>w2=w'/\x=.bool (decide (c < 49\/57 < c))) ?_ ?_
  rotate_left
  ·refine r_lss (r_ifD (λh=>?_) λh=>?_)
   ·exact r_ke ⟨rfl,by rw[decide_eq_true (by omega)]⟩
   ·exact r_gtr (r_ke ⟨rfl,congrArg Value.bool (by rw[Bool.eq_iff_iff,decide_eq_true_iff,decide_eq_true_iff];omega)⟩)
  rintro _ _ _ ⟨rfl,rfl⟩;refine r_ifD (λh=>?_) λh=>?_
  ·rw[if_pos h] at post;exact post _ _ S2 ⟨rfl,rfl,_,hbad⟩
  ·rw[if_neg h] at post;simp only[if_neg h] at hok;refine Zow (s:=c) (t:=48) (by omega) (by omega) ?_;refine Zde (by omega) (by omega) ?_;refine r_nc (r_fo0 ?_);refine r_st 1 H2 rfl (by simp[usC]) rfl λw3 S3 H3=>?_;refine r_nc (r_fo0 ?_);refine r_st 1 H3 rfl (by simp[usC]) rfl λw4 S4 H4=>?_;refine r_nc (r_fo0 ?_);refine r_st 1 H4 rfl (by simp[usC]) rfl λw5 S5 H5=>?_;refine r_nc (r_fo0 ?_);refine r_st 1 H5 rfl (by simp[usC]) rfl λw6 S6 H6=>?_;exact post _ _ ((((S2.trans S3).trans S4).trans S5).trans S6) ⟨rfl,rfl,Zai (hok _ _ _ rfl) (Raw_closeN hbn H6.swap)⟩
theorem Zfs {a c:Nat}(ha:a < 4294967296) (hc:c < 4294967296) (k:K (uv (comb a c)) w):Cl prog 120 #[uv a,uv c] w K:=by
 refine Tz120 ?_;unfold Vz120;refine Zcd (n:=1) (by omega) ?_;refine Ze1 (n:=31) (by decide) ?_;have h31:a/2^31=a/2147483648:=rfl;rw[h31];refine Zgc (by omega) (by omega) ?_;have hx:(a*2^1%4294967296) ^^^ (a/2147483648) < 2^32:=Nat.xor_lt_two_pow (n:=32) (by omega) (by omega);refine Zgc hx hc ?_;exact k
theorem shl24 {hi:Nat}(h:hi < 2^24):bp .shl (.int .u64 (hi:Int)) (.int .u64 24)=some (.int .u64 ((hi*16777216:Nat):Int)):=by
 have hb:IntKind.u64.bits=64:=rfl;show bp .shl (.int .u64 (hi:Int)) (.int .u64 ((24:Nat):Int))=_;simp only[bp];rw[if_neg (by omega),gC,hb,Nat.min_eq_left (by decide)]
 have e:(hi:Int)*2^24=((hi*16777216:Nat):Int):=by
  rw[Int.natCast_mul];rfl
 rw[e]
 have hw:IntKind.u64.wrap ((hi*16777216:Nat):Int)=((hi*16777216:Nat):Int):=by
  show ((hi*16777216:Nat):Int)%18446744073709551616=_;omega
 rw[hw]
theorem or24 {hi lo:Nat}(h:hi < 2^24) (h2:lo < 2^24):bp .or (.int .u64 ((hi*16777216:Nat):Int)) (.int .u64 (lo:Int))=some (.int .u64 ((hi*16777216+lo:Nat):Int)):=by
 have hb:IntKind.u64.bits=64:=rfl;simp only[bp,if_true];rw[hb,BitVec.toNat_or,BitVec.toNat_ofInt,BitVec.toNat_ofInt]
 have e1:(((hi*16777216:Nat):Int)%((2^64:Nat):Int)).toNat=hi*16777216:=by omega
 have e2:((lo:Int)%((2^64:Nat):Int)).toNat=lo:=by omega
 have e3:hi*16777216 ||| lo=hi*16777216+lo:=by
  have:=Nat.two_pow_add_eq_or_of_lt (i:=24) h2 hi;rw[Nat.mul_comm hi,show (16777216:Nat)=2^24 by rfl];exact this.symm
 rw[e1,e2,e3]
 have hw:IntKind.u64.wrap ((hi*16777216+lo:Nat):Int)=((hi*16777216+lo:Nat):Int):=by
  show ((hi*16777216+lo:Nat):Int)%18446744073709551616=_;omega
 rw[hw]
theorem magic_spec (H:Holds w (UsR b u::RdR r B d at_::L)) (hd:u.due=1) (post:∀ e w',Same w w'->AfterU (umagic u (rest B at_)) b u r B d at_ L 0 e w'->K (iv e) w') :
  Cl prog 264 #[pt b,pt r] w K:=by
 refine Tz264 ?_;unfold Vz264;obtain⟨hu,H⟩:=Zbt H;have hbn:=hu.none_ (by omega);have hok:∀ u' k n,umagic u (rest B at_)=.ok (u',k) n->u'.Ok:=λu' k n h=>(Zdv hu (by unfold ustep;rw[if_neg (by omega),if_pos hd];exact h)).1;have H1:=(Raw_openN hbn H).swap;clear H;have hrl:=Zba B at_;have hr2:=Zba B (at_+24);refine Rb.Zez H1 λw2 S2 H2=>?_;unfold umagic at post hok;refine r_lss (r_ifD (λh=>?_) λh=>?_)
 ·rw[if_pos (by omega)] at post;exact post _ _ S2 ⟨rfl,rfl,Zai hu (Raw_closeN hbn H2.swap)⟩
 have h48:¬ (rest B at_).length < 48:=by omega
 rw[if_neg h48] at post;simp only[if_neg h48] at hok;refine Rb.Get_spec (n:=24) H2 (by omega) (λh w3 S3 H3=>by omega) λh w3 S3 H3=>?_;refine Za3 (Za4 ?_);refine Rb.Get_spec (n:=24) H3 (by omega) (λh w4 S4 H4=>by omega) λh w4 S4 H4=>?_;refine Za3 (Za4 ?_);have hv1:=Zae (rest B at_) 24;have hv2:=Zae (rest B (at_+24)) 24
 have hval:valB ((rest B at_).take 48)=valB ((rest B at_).take 24)*16777216+valB ((rest B (at_+24)).take 24):=by
  have e:(rest B at_).take 48=(rest B at_).take 24++(rest B (at_+24)).take 24:=by
   rw[<-Zc5,show 48=24+24 by rfl,List.take_add]
  rw[e,valB_app,gN,Nat.min_eq_left (by omega)]
 rw[hval] at post;rw[hval] at hok;generalize valB ((rest B at_).take 24)=hi at *;generalize valB ((rest B (at_+24)).take 24)=lo at *;replace S2:=(S2.trans S3).trans S4
 replace H4:Holds w4 (RdR r B d (at_+48)::blk b tUs (usC (.pointer none) u 0)::L):=by rw[show at_+48=at_+24+24 by omega];exact H4
 clear H1 H2 H3 S3 S4;refine Zkb (by omega) (by omega) ?_;refine r_bpK (.int .u64 ((hi*16777216:Nat):Int)) (shl24 hv1) ?_;refine Zkb (by omega) (by omega) ?_;refine r_bpK (.int .u64 ((hi*16777216+lo:Nat):Int)) (or24 hv1 hv2) ?_;refine r_eql (r_ifE (λh1=>?_) λh1=>?_)
 ·have h1':hi*16777216+lo=54156738319193:=by omega
  rw[if_pos h1'] at post;simp only[if_pos h1'] at hok;refine r_dr H4 λw5 S5 H5=>?_;refine r_nc (r_fo0 (r_ld 1 H5 rfl rfl ?_));refine r_nc (r_fo0 (r_ld 1 H5 rfl rfl ?_));have hl1:=hu.lev1 (by omega);have hl9:=hu.lev;have hun:=hu.unit;have hm1:u.level*u.unit<=9*100000:=Nat.mul_le_mul hl9 hun.2;have hm2:1*24<=u.level*u.unit:=Nat.mul_le_mul hl1 hun.1;refine Zb8 ((u.level*u.unit:Nat):Int) (by simp) (by omega) (by omega) ?_;refine B20.NewReader_spec H5 (by omega) (by omega) λq w6 S6 H6=>?_;refine Za3 (Za4 ?_);refine r_nc (r_fo0 ?_);refine r_st 2 H6 rfl (by simp[usC]) rfl λw7 S7 H7=>?_;refine r_nc (r_fo0 ?_);refine r_st 2 H7 rfl (by simp[usC]) rfl λw8 S8 H8=>?_;replace H8:Holds w8 (B20.BkR q (b0 (u.level*u.unit))::RdR r B d (at_+48)::blk b tUs (usC (pt q) ⟨u.unit,2,u.at_,u.level,some (b0 (u.level*u.unit)),u.last,u.frm,u.sum,u.total,u.ended⟩ 0)::L):=H8;exact post _ _ ((((S2.trans S5).trans S6).trans S7).trans S8) ⟨rfl,rfl,Zai (hok _ _ _ rfl) (Raw_closeS (s:=b0 (u.level*u.unit)) rfl (by have h_:=Holds.ord 3 [2,0,1] H8 rfl;exact h_))⟩
 ·have h1':¬ hi*16777216+lo=54156738319193:=by omega
  rw[if_neg h1'] at post;simp only[if_neg h1'] at hok;refine r_eql (r_ifE (λh2=>?_) λh2=>?_)
  ·have h2':hi*16777216+lo=25779555029136:=by omega
   rw[if_pos h2'] at post;simp only[if_pos h2'] at hok;refine r_nc (r_fo0 ?_);refine r_st 1 H4 rfl (by simp[usC]) rfl λw5 S5 H5=>?_;exact post _ _ (S2.trans S5) ⟨rfl,rfl,Zai (hok _ _ _ rfl) (Raw_closeN hbn H5.swap)⟩
  ·rw[if_neg (by omega)] at post;exact post _ _ S2 ⟨rfl,rfl,_,Holds.imp H4.swap λ_ hh=>⟨_,u,hh⟩⟩
theorem Zsg {s:BS}(H:Holds w (UsR b u::RdR r B d at_::L)) (hb:u.blk=some s) (post:∀ wt e w',Same w w'->AfterU (ubody u (rest B at_)) b u r B d at_ L wt e w'->K (.tuple #[iv wt,iv e]) w') :
  Cl prog 265 #[pt b,pt r] w K:=by
 refine Tz265 ?_;unfold Vz265;obtain⟨hu,H⟩:=Zbt H;obtain⟨hd,hbo,hbd,hbr⟩:=hu.blk s hb;have hok:∀ u' k n,ubody u (rest B at_)=.ok (u',k) n->u'.Ok:=λu' k n h=>(Zdv hu (by unfold ustep;rw[if_neg (by omega),if_neg (by omega),if_pos hd];exact h)).1
 have e0:ubody u (rest B at_)=uwith u (bstep s (rest B at_)):=by unfold ubody;rw[hb]
 rw[e0] at post hok;obtain⟨q,H0⟩:=Raw_openS hb H;have H1:Holds w (B20.BkR q s::RdR r B d at_::blk b tUs (usC (pt q) u 0)::L):=(by have h_:=Holds.ord 3 [1,2,0] H0 rfl;exact h_);clear H H0;refine r_nc (r_fo0 (r_ld 2 H1 rfl rfl ?_));refine B20.Step_spec H1 hbd λe w2 S2 hA=>?_
 cases hx:bstep s (rest B at_) with
 |short=>
  rw[hx] at hA post;obtain⟨rfl,H2⟩:=hA;refine Za1 (λx w'=>w2=w'/\x=.bool true) ?_ ?_
  ·rintro _ _ _ ⟨rfl,rfl⟩;refine r_vt ?_;exact post 0 3 _ S2 ⟨rfl,rfl,Zai hu (Raw_closeS hb (by have h_:=Holds.ord 3 [2,0,1] H2 rfl;exact h_))⟩
  ·refine r_neq (r_vtN (by decide) ?_);exact r_ke ⟨rfl,rfl⟩
 |bad c=>
  have hcb:=Zh2 hx;rw[hx] at hA post;obtain⟨rfl,q',H2⟩:=hA;refine Za1 (λx w'=>w2=w'/\x=.bool true) ?_ ?_
  ·rintro _ _ _ ⟨rfl,rfl⟩;refine r_vt ?_;exact post 0 c _ S2 ⟨rfl,rfl,q',Holds.imp (show Holds w2 (blk b tUs (usC (pt q) u 0)::RdR r B d q'::L) from (by have h_:=Holds.ord 3 [2,1] H2 rfl;exact h_)) λ_ hh=>⟨_,u,hh⟩⟩
  ·refine r_neq (r_vtN (by omega) ?_);exact r_ke ⟨rfl,rfl⟩
 |ok s' n=>
  rw[hx] at hA post hok;obtain⟨rfl,H2⟩:=hA;refine Za1 (λx w'=>w2=w'/\x=.bool (!s'.done)) ?_ ?_
  rotate_left
  ·refine r_neq (r_vfN rfl ?_);refine r_nc (r_fo0 (r_ld 2 H2 rfl rfl ?_));refine B20.Done_spec H2 ?_;exact r_not (r_ke ⟨rfl,rfl⟩)
  rintro _ _ _ ⟨rfl,rfl⟩;unfold uwith at post hok
  cases hsd:s'.done with
  |false=>
   refine r_vt ?_;simp only[hsd,Bool.false_eq_true,if_false] at post hok;exact post 0 0 _ S2 ⟨rfl,rfl,Zai (hok _ _ _ rfl) (Raw_closeS (s:=s') (q:=q) rfl (by have h_:=Holds.ord 3 [2,0,1] H2 rfl;exact h_))⟩
  |true=>
   refine r_vf ?_;simp only[hsd,if_true] at post hok;have hok':=(B20.Zc7 H2).1;refine r_nc (r_fo0 (r_ld 2 H2 rfl rfl ?_));refine B20.Zwh H2 hsd λw3 S3 H3=>?_;refine r_nc (r_fo0 ?_);refine r_stA 2 H3 (vs:=[S_ s'.last,nv s'.frm,uv s'.sum]) rfl (by simp[usC]) rfl rfl λw4 S4 H4=>?_;refine r_nc (r_fo0 ?_);refine r_st 2 H4 rfl (by simp[usC,setL]) rfl λw5 S5 H5=>?_;refine r_dr H5 λw6 S6 H6=>?_;replace H6:Holds w6 (B20.BkR q s'::RdR r B d (at_+n)::blk b tUs [nv u.unit,nv u.due,nv u.at_,nv u.level,.pointer none,S_ s'.last,nv s'.frm,uv s'.sum,uv u.total,.bool u.ended,nv 0]::L):=H6;refine r_nc (r_fo0 (r_ld 2 H6 rfl rfl ?_));refine r_nc (r_fo0 (r_fo (r_ld 2 H6 rfl rfl ?_)));refine Zfs hu.total hok'.sum ?_;refine r_nc (r_fo0 ?_);refine r_st 2 H6 rfl (by simp) rfl λw7 S7 H7=>?_;refine r_nc (r_fo0 ?_);refine r_st 2 H7 rfl (by simp) rfl λw8 S8 H8=>?_;replace H8:Holds w8 (B20.BkR q s'::RdR r B d (at_+n)::blk b tUs (usC (.pointer none) ⟨u.unit,1,u.at_,u.level,none,s'.last,s'.frm,s'.sum,comb u.total s'.sum,u.ended⟩ 0)::L):=H8;exact post 1 0 _ ((((((S2.trans S3).trans S4).trans S5).trans S6).trans S7).trans S8) ⟨rfl,rfl,Zai (hok _ _ _ rfl) (Raw_closeN rfl (by have h_:=Holds.ord 3 [2,1] H8 rfl;exact h_))⟩
theorem sum_spec (H:Holds w (UsR b u::RdR r B d at_::L)) (hd:u.due=3) (post:∀ wt e w',Same w w'->AfterU (usum u (rest B at_)) b u r B d at_ L wt e w'->K (.tuple #[iv wt,iv e]) w') :
  Cl prog 266 #[pt b,pt r] w K:=by
 refine Tz266 ?_;unfold Vz266;obtain⟨hu,H⟩:=Zbt H;have hbn:=hu.none_ (by omega);have hok:∀ u' k n,usum u (rest B at_)=.ok (u',k) n->u'.Ok:=λu' k n h=>(Zdv hu (by unfold ustep;rw[if_neg (by omega),if_neg (by omega),if_neg (by omega)];exact h)).1;have H1:=(Raw_openN hbn H).swap;clear H;have hrl:=Zba B at_;unfold usum at post hok;refine Rb.Get_spec (n:=32) H1 (by omega) (λh w2 S2 H2=>?_) λh w2 S2 H2=>?_
 ·refine Za3 (Za4 ?_);refine r_neq (r_vtN (by decide) ?_);rw[if_pos h] at post;exact post 0 3 _ S2 ⟨rfl,rfl,Zai hu (Raw_closeN hbn H2.swap)⟩
 refine Za3 (Za4 ?_);refine r_neq (r_vfN rfl ?_)
 have h32:¬ (rest B at_).length < 32:=by omega
 rw[if_neg h32] at post;simp only[if_neg h32] at hok;refine r_nc (r_fo0 (r_ld 1 H2 rfl rfl ?_));refine r_neq (r_ifN (λh1=>?_) λh1=>?_)
 ·rw[if_neg (by omega)] at post;exact post 0 21 _ S2 ⟨rfl,rfl,_,Holds.imp H2.swap λ_ hh=>⟨_,u,hh⟩⟩
 ·have h1':valB ((rest B at_).take 32)=u.total:=by omega
  rw[if_pos h1'] at post;simp only[if_pos h1'] at hok;refine Rb.Zr5 H2 λw3 S3 H3=>?_
  have ea:at_+32+(8*B.length - (at_+32))%8=at_+(32+((rest B at_).length - 32)%8):=by rw[hrl];omega
  rw[ea] at H3;refine r_nc (r_fo0 ?_);refine r_st 1 H3 rfl (by simp[usC]) rfl λw4 S4 H4=>?_;refine r_nc (r_fo0 ?_);refine r_st 1 H4 rfl (by simp[usC]) rfl λw5 S5 H5=>?_;exact post 2 0 _ (((S2.trans S3).trans S4).trans S5) ⟨rfl,rfl,Zai (hok _ _ _ rfl) (Raw_closeN hbn H5.swap)⟩
theorem step_spec (H:Holds w (UsR b u::RdR r B d at_::L)) (post:∀ wt e w',Same w w'->AfterU (ustep u (rest B at_)) b u r B d at_ L wt e w'->K (.tuple #[iv wt,iv e]) w') :
  Cl prog 257 #[pt b,pt r] w K:=by
 refine Tz257 ?_;unfold Vz257;have hu:=(Zbt H).1;have hd3:=hu.due;have H0:=(Zbt H).2
 have hc:∃ p L',Holds w (blk b tUs (usC p u 0)::L'):=by
  cases hb:u.blk with
  |none=>exact⟨_,_,Raw_openN hb H0⟩
  |some s=>
   obtain⟨q,h⟩:=Raw_openS hb H0;exact⟨_,_,h⟩
 obtain⟨p,L',H1⟩:=hc;unfold ustep at post;refine r_nc (r_fo0 (r_ld 0 H1 rfl rfl ?_));refine r_eql (r_ifE (λh=>?_) λh=>?_)
 ·rw[if_pos (by omega)] at post;exact Zno H (by omega) λe w' S' hA=>post 0 e w' S' hA
 rw[if_neg (by omega)] at post;refine r_eql (r_ifE (λh1=>?_) λh1=>?_)
 ·rw[if_pos (by omega)] at post;exact magic_spec H (by omega) λe w' S' hA=>post 0 e w' S' hA
 rw[if_neg (by omega)] at post;refine r_eql (r_ifE (λh2=>?_) λh2=>?_)
 ·rw[if_pos (by omega)] at post
  cases hb:u.blk with
  |none=>exact absurd hb (hu.body (by omega))
  |some s=>
   refine Zsg H hb λwt e w' S' hA=>?_;refine Za3 (Za4 ?_);exact post wt e w' S' hA
 ·rw[if_neg (by omega)] at post;refine sum_spec H (by omega) λwt e w' S' hA=>?_;refine Za3 (Za4 ?_);exact post wt e w' S' hA
def AfterUS (y:Res (US × Nat)) (b:Nat) (u:US) (r:Nat) (B:List UInt8) (d at_:Nat) (L:List HProp) (wt e:Int) (w:World):Prop:=
 match y with
 |.short=>wt=0/\e=3/\Holds w (UsR b u::RdR r B d at_::L)
 |.bad c=>wt=0/\e=(c:Int)/\∃ q,Holds w (BadU b c::RdR r B d q::L)
 |.ok (u',k) n=>wt=(k:Int)/\e=0/\Holds w (UsR b u'::RdR r B d (at_+n)::L)
theorem Zg8 (H:Holds w (UsR b u::L)):∃ p L',Holds w (blk b tUs (usC p u 0)::L')/\∀ w',Holds w' (blk b tUs (usC p u 0)::L')->Holds w' (UsR b u::L):=by
 obtain⟨hu,H0⟩:=Zbt H
 cases hb:u.blk with
 |none=>exact⟨_,_,Raw_openN hb H0,λw' H'=>Zai hu (Raw_closeN hb H')⟩
 |some s=>
  obtain⟨q,h⟩:=Raw_openS hb H0;exact⟨_,_,h,λw' H'=>Zai hu (Raw_closeS hb H')⟩
theorem Step_spec (H:Holds w (UsR b u::RdR r B d at_::L)) (post:∀ wt e w',Same w w'->AfterUS (ustep u (rest B at_)) b u r B d at_ L wt e w'->K (.tuple #[iv wt,iv e]) w') :
  Cl prog 247 #[pt b,pt r] w K:=by
 refine Tz247 ?_;unfold Vz247;have hu:=(Zbt H).1;obtain⟨p,L',H1,_⟩:=Zg8 H;refine Za1 (λx w'=>w=w'/\x=.bool false) ?_ ?_
 rotate_left
 ·refine Za6 (r_vf ?_);refine Za6 ?_;exact r_ke ⟨rfl,rfl⟩
 rintro _ _ _ ⟨rfl,rfl⟩;refine r_vf ?_;refine r_nc (r_fo0 (r_ld 0 H1 rfl rfl ?_));refine r_neq (r_vfN rfl ?_);refine step_spec H λwt e w2 S2 hA=>?_;refine Za3 (Za4 ?_)
 cases hx:ustep u (rest B at_) with
 |short=>
  rw[hx] at hA post;obtain⟨rfl,rfl,H2⟩:=hA;refine r_neq (r_vfN rfl ?_);exact post _ _ _ S2 ⟨rfl,rfl,H2⟩
 |bad c=>
  have hcb:=Zl5 hu hx;rw[hx] at hA post;obtain⟨rfl,rfl,q,H2⟩:=hA;refine r_neq (r_vtN (by omega) ?_);obtain⟨p2,u2,H3⟩:=Zrm H2;refine r_nc (r_fo0 ?_);refine r_st 0 H3 rfl (by simp[usC]) rfl λw4 S4 H4=>?_;exact post _ _ _ (S2.trans S4) ⟨rfl,rfl,q,Holds.imp H4 λ_ hh=>⟨p2,u2,hh⟩⟩
 |ok y n=>
  obtain⟨u',k⟩:=y;rw[hx] at hA post;obtain⟨rfl,rfl,H2⟩:=hA;refine r_neq (r_vtN (by decide) ?_);obtain⟨p2,L2,H3,hback⟩:=Zg8 H2;refine r_nc (r_fo0 ?_);refine r_st 0 H3 rfl (by simp[usC]) rfl λw4 S4 H4=>?_;exact post _ _ _ (S2.trans S4) ⟨rfl,rfl,hback _ H4⟩
theorem Zmu (H:Holds w (UsR b u::L)) (k:K (.bool u.mayEnd) w):Cl prog 245 #[pt b] w K:=by
 refine Tz245 ?_;unfold Vz245;obtain⟨p,L',H1,_⟩:=Zg8 H;unfold US.mayEnd at k;refine Zao (r_vt ?_);refine r_nc (r_fo0 (r_ld 0 H1 rfl rfl ?_))
 cases he:u.ended with
 |false=>
  rw[he] at k;refine r_vf ?_;exact k
 |true=>
  rw[he] at k;refine r_vt ?_;refine r_nc (r_fo0 (r_ld 0 H1 rfl rfl ?_));refine r_eql (r_ifE (λh=>?_) λh=>?_)
  ·refine r_nc (r_fo0 (r_ld 0 H1 rfl rfl ?_));refine r_eql (r_ifE (λh2=>?_) λh2=>?_)
   ·refine r_nc (r_fo0 (r_ld 0 H1 rfl rfl ?_));refine r_eql ?_;rw[decide_eq_true (by omega),decide_eq_true (by omega)] at k;exact k
   ·rw[decide_eq_false (p:=u.at_=0) (by omega),Bool.and_false] at k;exact k
  ·rw[decide_eq_false (p:=u.due=0) (by omega),Bool.and_false,Bool.false_and] at k;exact k
theorem Zv8 (H:Holds w (UsR b u::L)) (k:∀ w',Same w w'->Holds w' (UsR b u::L)->K (.agg (B20.gotV u.last u.frm u.sum).toArray) w'):Cl prog 250 #[pt b] w K:=by
 refine Tz250 ?_;unfold Vz250;refine r_new H λgb w1 S1 H1=>?_;rw[B20.Zol] at H1;obtain⟨p,L',H2,hback⟩:=Zg8 H1.swap;refine Za6 (r_vf ?_);refine r_nc (r_fo0 ?_);refine r_ldA 0 H2 (B20.gotV u.last u.frm u.sum) rfl rfl rfl ?_;refine r_stA 0 H1 (vs:=B20.gotV u.last u.frm u.sum) rfl (Nat.le_refl 3) rfl rfl λw4 S4 H4=>?_;replace H4:Holds w4 (blk gb B20.tGt (B20.gotV u.last u.frm u.sum)::UsR b u::L):=H4;refine r_ldA 0 H4 (B20.gotV u.last u.frm u.sum) rfl rfl rfl ?_;exact k _ (S1.trans S4) H4.drop
theorem Zs7 {n:Int}(kb:n < 24\/100000 < n->K (.tuple #[iv 0,iv 1]) w) (k:∀ v,24<=n->n<=100000->K (.tuple #[v,iv 0]) w):Cl prog 21 #[iv 1,iv n] w K:=by
 refine Tz21 ?_;unfold Vz21;refine Za1 (λx w'=>w=w'/\x=.bool (decide (n < 24\/100000 < n))) ?_ ?_
 rotate_left
 ·refine r_lss (r_vfD (by omega) ?_);refine r_gtr (r_vfD (by omega) ?_);refine r_lss (r_ifD (λh=>?_) λh=>?_)
  ·exact r_ke ⟨rfl,by rw[decide_eq_true (by omega)]⟩
  ·exact r_gtr (r_ke ⟨rfl,congrArg Value.bool (by rw[Bool.eq_iff_iff,decide_eq_true_iff,decide_eq_true_iff];omega)⟩)
 rintro _ _ _ ⟨rfl,rfl⟩;refine r_ifD (λh=>?_) λh=>?_
 ·exact kb h
 ·refine Zb8 n (by omega) (by omega) (by omega) ?_;refine r_sub (by omega) (by omega) ?_;exact k _ (by omega) (by omega)
theorem New_spec {n:Nat}(H:Holds w L) (h1:24<=n) (h2:n<=100000) (k:∀ b w',Same w w'->Holds w' (UsR b (u0 n)::L)->K (.tuple #[pt b,iv 0]) w'):Cl prog 41 #[nv n] w K:=by
 refine Tz41 ?_;unfold Vz41;refine Zs7 (λh=>by omega) λv _ _=>?_;refine Za3 (Za4 ?_);refine r_neq (r_vfN rfl ?_);refine r_bd (v:=.agg (usC (.pointer none) (u0 n) 0).toArray) (by kernel_rfl) ?_;refine r_new H λb w1 S1 H1=>?_;exact k b _ S1 (Zai (u0_ok ⟨h1,h2⟩) (Raw_closeN rfl H1))
end U22
end Go.Proofs.YtpmjeiliblgajaaGreatDoor
namespace Go.Vc
theorem Zws {s t:Nat}{K:Value->Prop}(hs:s < 18446744073709551616) (ht:t < 18446744073709551616) (h:K (.int .u64 ((s &&& t:Nat):Int))):Bp .and (.int .u64 (s:Int)) (.int .u64 (t:Int)) K:=by
 refine⟨_,?_,h⟩;have hb:IntKind.u64.bits=64:=rfl;have hx:s &&& t<=s:=Nat.and_le_left;simp only[bp,if_true];rw[hb,BitVec.toNat_and,BitVec.toNat_ofInt,BitVec.toNat_ofInt]
 have e1:((s:Int)%((2^64:Nat):Int)).toNat=s:=by omega
 have e2:((t:Int)%((2^64:Nat):Int)).toNat=t:=by omega
 have hw:IntKind.u64.wrap ((s &&& t:Nat):Int)=((s &&& t:Nat):Int):=by
  show ((s &&& t:Nat):Int)%18446744073709551616=_;omega
 rw[e1,e2,hw]
end Go.Vc
namespace Go.Proofs.YtpmjeiliblgajaaGreatDoor
open Go Go.Vc Go.Proofs.Tryz
attribute [local irreducible] Vc.Nc Vc.Ld Vc.LdA Vc.St Vc.StA Vc.Fo Vc.Iaa Vc.Ias Vc.Ixs Vc.Ixa Vc.Fd Vc.FdA Vc.Bp Vc.Bb Vc.Bn Vc.Up Vc.Ci Vc.Lns Vc.Lnl Vc.Ex Vc.Sst Vc.Ssl Vc.New Vc.Vif Vc.VJoin Vc.VLoop Vc.KE Vc.Dr Vc.Rk Vc.Cl Vc.Cx Vc.Inv Vc.Be Vc.Cv Vc.Cw Vc.Mf Vc.Sl Vc.Lk Vc.Bd Vc.Bs Vc.Ms Vc.Mm Vc.Mu Vc.Me Vc.Es Vc.Rg Vc.Nx Vc.Ta Vc.Ap Vc.Usd Vc.Ust Vc.Cp Vc.Ln Vc.Bc Vc.Bmin Vc.Bmax Vc.Bdel Vc.Bclr Vc.Pk
namespace W2s
open Go.M01 Go.Mb Go.M02 Go.M03 Go.Qs T12 W14 W20 P20
variable {w:World}{L:List HProp}{K:KT}{b wb n tot:Nat}{bs:List Bool}
variable [T12.Bnds]
abbrev tSt:Nat:=110
abbrev stC (wb tot:Nat) (en:Bool):List Value:=[pt wb,uv tot,.bool en]
theorem New_spec {level:Nat}(H:Holds w L) (h1:1<=level/\level<=9) (k:∀ b wb w',Same w w'->Holds w' (blk b tSt (stC wb 0 false)::W01.WrR wb (headB level) 0::L)->K (.tuple #[pt b,iv 0]) w'):Cl prog 39 #[nv level] w K:=by
 refine Tz39 ?_;unfold Vz39;refine Za1 (λx w'=>w=w'/\x=.bool false) ?_ ?_
 rotate_left
 ·refine r_lss (r_vfD (by omega) ?_);refine r_gtr (r_ke ⟨rfl,?_⟩);rw[decide_eq_false (by omega)]
 rintro _ _ _ ⟨rfl,rfl⟩;refine r_vf ?_;refine W01.Ze2 H λwb w1 S1 H1=>?_;refine r_bd (v:=.agg (stC wb 0 false).toArray) (by kernel_rfl) ?_;refine r_new H1 λb w2 S2 H2=>?_;replace H2:Holds w2 (W01.WrR wb [] 0::blk b tSt (stC wb 0 false)::L):=H2.swap;refine Zdo (λj x w'=>∃ i,j=3 - i/\i<=3/\x=nv i/\Same w w'/\Holds w' (W01.WrR wb ((bitsL [66,90,104]).take (8*i)) 0::blk b tSt (stC wb 0 false)::L)) 3 ⟨0,rfl,by omega,rfl,S1.trans S2,H2⟩ ?_;clear H H1 H2 S1 S2;rintro _ j _ w3 _ ⟨i,rfl,hi,rfl,S3,H3⟩ hgo;refine r_lss (r_ifD (λh=>?_) λh=>?_)
 ·refine r_dr H3 λw4 S4 H4=>?_;refine r_nc (r_fo0 (r_ld 1 H4 rfl rfl ?_));refine q_ix (t:=[66,90,104]) (m:=i) (by simp;omega) ?_;refine Zb4 (by omega) (by have:=(([66,90,104]:List UInt8).getD i 0).toNat_lt;omega) ?_
  have h24:((bitsL [66,90,104]).take (8*i)).length=8*i:=by
   have:(bitsL [66,90,104]).length=24:=by decide
   rw[gN];omega
  refine W01.Put_spec (v:=(([66,90,104]:List UInt8).getD i 0).toNat) (n:=8) H4 (by rw[h24];omega) (by omega) (by omega) (by have:=(([66,90,104]:List UInt8).getD i 0).toNat_lt;omega) λw5 S5 H5=>?_;refine Za0 (by omega) (r_ke (hgo (3 - (i+1)) _ _ (by omega) ⟨i+1,rfl,by omega,rfl,S3.trans (S4.trans S5),?_⟩))
  have e:(bitsL [66,90,104]).take (8*(i+1))=(bitsL [66,90,104]).take (8*i)++bitsOf (([66,90,104]:List UInt8).getD i 0).toNat 8:=by
   rcases (show i=0\/i=1\/i=2 by omega) with rfl|rfl|rfl <;> decide
  rw[e];exact H5
 ·obtain rfl:i=3:=by omega
  refine r_nc (r_fo0 (r_ld 1 H3 rfl rfl ?_));refine r_add (by omega) (by omega) ?_;refine Zb4 (by omega) (by omega) ?_;rw[show (48:Int)+(level:Int)=((48+level:Nat):Int) by omega]
  have h24:((bitsL [66,90,104]).take (8*3)).length=24:=by decide
  refine W01.Put_spec (v:=48+level) (n:=8) H3 (by rw[h24];omega) (by omega) (by omega) (by omega) λw5 S5 H5=>?_;refine k b wb _ (S3.trans S5) ?_
  have e:(bitsL [66,90,104]).take (8*3)++bitsOf (48+level) 8=headB level:=by
   have:(bitsL [66,90,104]).take (8*3)=bitsOf 66 8++(bitsOf 90 8++bitsOf 104 8):=by decide
   rw[this];unfold headB;simp only[gI]
  rw[e] at H5;exact H5.swap
theorem magic_spec {m hi lo:Nat}{en:Bool}(hm:m=hi*16777216+lo) (hh:hi < 16777216) (hlo:lo < 16777216) (H:Holds w (blk b tSt (stC wb tot en)::W01.WrR wb bs n::L)) (hl:bs.length<=8000000000) (hn:n<=bs.length/8)
  (k:∀ w',Same w w'->Holds w' (blk b tSt (stC wb tot en)::W01.WrR wb (bs++bitsOf m 48) n::L)->K (.tuple #[]) w'):Cl prog 111 #[pt b,.int .u64 (m:Int)] w K:=by
 refine Tz111 ?_;unfold Vz111;refine r_nc (r_fo0 (r_ld 0 H rfl rfl ?_));refine Ze1 (n:=24) (by decide) ?_;rw[show m/2^24=hi by omega];refine Zb4 (by omega) (by omega) ?_;refine W01.Put_spec (v:=hi) (n:=24) H.swap (by omega) hn (by omega) (by omega) λw1 S1 H1=>?_;refine r_nc (r_fo0 (r_ld 1 H1 rfl rfl ?_));refine Zws (t:=16777215) (by omega) (by omega) ?_;rw[show m &&& 16777215=lo by rw[show 16777215=2^24 - 1 by decide,Nat.and_two_pow_sub_one_eq_mod];omega];refine Zb4 (by omega) (by omega) ?_;refine W01.Put_spec (v:=lo) (n:=24) H1 (by rw[gD,Za5];omega) (by rw[gD];omega) (by omega) (by omega) λw2 S2 H2=>?_;refine k _ (S1.trans S2) ?_
 have e:bs++bitsOf hi 24++bitsOf lo 24=bs++bitsOf m 48:=by
  rw[gI]
  congr 1
  refine Q21.Zrf (by rw[gD,Za5,Za5]) ?_;rw[Q21.valB_app,Za5,Go.M10.valB_bitsOf _ _ (show hi < 2^24 by omega),Go.M10.valB_bitsOf _ _ (show lo < 2^24 by omega)];omega
 rw[e] at H2;exact H2.swap
theorem Turned_spec {s:List UInt8}{origin sum:Nat}(H:Holds w (blk b tSt (stC wb tot false)::W01.WrR wb bs n::L)) (hb:BndOk L) (h0:s≠[]) (hl:s.length<=900000) (ho:origin < s.length) (hs:sum < 4294967296) (ht:tot < 4294967296) (hbl:bs.length<=7000000000) (hn:n<=bs.length/8)
  (k:∀ picks ts w',Cho (W20.rowOf s) ((symsOf s).length+2) picks ts->Same w w'->Holds w' (blk b tSt (stC wb (comb tot sum) false)::W01.WrR wb (bs++(magW++blockBits s origin sum picks ts)) n::L)->K (iv 0) w'):Cl prog 109 #[pt b,S_ s,nv origin,uv sum] w K:=by
 refine Tz109 ?_;unfold Vz109;refine Za1 (λx w'=>w=w'/\x=.bool false) ?_ ?_
 rotate_left
 ·exact Za6 (r_vf (r_nc (r_fo0 (r_ld 0 H rfl rfl (r_ke ⟨rfl,rfl⟩)))))
 rintro _ _ _ ⟨rfl,rfl⟩;refine r_vf ?_;refine Za1 (λx w'=>w=w'/\x=.bool false) ?_ ?_
 rotate_left
 ·refine q_len (r_gtr (r_vfD (by omega) ?_));refine r_lss (r_vfD (by omega) ?_);refine q_len (r_geq (r_ke ⟨rfl,?_⟩));rw[decide_eq_false (by omega)]
 rintro _ _ _ ⟨rfl,rfl⟩;refine r_vf ?_;refine magic_spec (m:=54156738319193) (hi:=3227993) (lo:=2511705) (by decide) (by decide) (by decide) H (by omega) hn λw1 S1 H1=>?_;refine r_nc (r_fo0 (r_ld 0 H1 rfl rfl ?_));refine U22.Zfs ht hs ?_;refine r_nc (r_fo0 ?_);refine r_st 0 H1 rfl (by simp) rfl λw2 S2 H2=>?_;replace H2:Holds w2 (blk b tSt (stC wb (comb tot sum) false)::W01.WrR wb (bs++bitsOf 54156738319193 48) n::L):=H2;refine r_nc (r_fo0 (r_ld 0 H2 rfl rfl ?_));refine W20.Turned_spec (L:=blk b tSt (stC wb (comb tot sum) false)::L) H2.swap hb.up h0 hl ho hs (by rw[gD,Za5];omega) (by rw[gD];omega) λpicks ts w3 hC S3 H3=>?_;refine k picks ts _ hC (S1.trans (S2.trans S3)) ?_;rw[gI] at H3;exact H3.swap
theorem End_spec (H:Holds w (blk b tSt (stC wb tot false)::W01.WrR wb bs n::L)) (ht:tot < 4294967296) (hbl:bs.length<=7000000000) (hn:n<=bs.length/8)
  (k:∀ w',Same w w'->Holds w' (blk b tSt (stC wb tot true)::W01.WrR wb (padB (bs++(endW++bitsOf tot 32))) n::L)->K (iv 0) w'):Cl prog 98 #[pt b] w K:=by
 refine Tz98 ?_;unfold Vz98;refine Za1 (λx w'=>w=w'/\x=.bool false) ?_ ?_
 rotate_left
 ·exact Za6 (r_vf (r_nc (r_fo0 (r_ld 0 H rfl rfl (r_ke ⟨rfl,rfl⟩)))))
 rintro _ _ _ ⟨rfl,rfl⟩;refine r_vf ?_;refine magic_spec (m:=25779555029136) (hi:=1536581) (lo:=3690640) (by decide) (by decide) (by decide) H (by omega) hn λw1 S1 H1=>?_;refine r_dr H1 λw2 S2 H2=>?_;refine r_nc (r_fo0 (r_ld 0 H2 rfl rfl ?_));refine r_nc (r_fo0 (r_ld 0 H2 rfl rfl ?_));refine W01.Put_spec (v:=tot) (n:=32) H2.swap (by rw[gD,Za5];omega) (by rw[gD];omega) (by omega) (by omega) λw3 S3 H3=>?_;refine r_nc (r_fo0 (r_ld 1 H3 rfl rfl ?_));refine W20.Zvh H3 (by simp only[gD,Za5];omega) (by simp only[gD];omega) λw4 S4 H4=>?_;refine r_nc (r_fo0 ?_);refine r_st 1 H4 rfl (by simp) rfl λw5 S5 H5=>?_;replace H5:Holds w5 (W01.WrR wb (padB (bs++bitsOf 25779555029136 48++bitsOf tot 32)) n::blk b tSt (stC wb tot true)::L):=H5;refine k _ (S1.trans (S2.trans (S3.trans (S4.trans S5)))) ?_;rw[gI] at H5;exact H5.swap
theorem Take_spec {en:Bool}(H:Holds w (blk b tSt (stC wb tot en)::W01.WrR wb bs n::L)) (k:∀ w',Same w w'->Holds w' (blk b tSt (stC wb tot en)::W01.WrR wb bs (bs.length/8)::L)->K (S_ ((wholeB bs).drop n)) w'):Cl prog 40 #[pt b] w K:=by
 refine Tz40 ?_;unfold Vz40;refine Za6 (r_vf (r_nc (r_fo0 (r_ld 0 H rfl rfl ?_))));refine W01.Take_spec H.swap λw1 S1 H1=>?_;exact k _ S1 H1.swap
end W2s
end Go.Proofs.YtpmjeiliblgajaaGreatDoor
namespace Go.Proofs.YtpmjeiliblgajaaGreatDoor
open Go Go.Vc Go.Proofs.Tryz
namespace P20
abbrev tPc:Nat:=126
def Fpc (x:UInt8 × Nat):List Value:=[bv x.1,nv x.2]
theorem Znw:(zeroP prog tPc).cells.toList=[.int .u8 0,iv 0]:=by kernel_rfl
end P20
end Go.Proofs.YtpmjeiliblgajaaGreatDoor
namespace Go.Proofs.YtpmjeiliblgajaaGreatDoor
open Go Go.Vc Go.Proofs.Tryz
attribute [local irreducible] Vc.Nc Vc.Ld Vc.LdA Vc.St Vc.StA Vc.Fo Vc.Iaa Vc.Ias Vc.Ixs Vc.Ixa Vc.Fd Vc.FdA Vc.Bp Vc.Bb Vc.Bn Vc.Up Vc.Ci Vc.Lns Vc.Lnl Vc.Ex Vc.Sst Vc.Ssl Vc.New Vc.Vif Vc.VJoin Vc.VLoop Vc.KE Vc.Dr Vc.Rk Vc.Cl Vc.Cx Vc.Inv Vc.Be Vc.Cv Vc.Cw Vc.Mf Vc.Sl Vc.Lk Vc.Bd Vc.Bs Vc.Ms Vc.Mm Vc.Mu Vc.Me Vc.Es Vc.Rg Vc.Nx Vc.Ta Vc.Ap Vc.Usd Vc.Ust Vc.Cp Vc.Ln Vc.Bc Vc.Bmin Vc.Bmax Vc.Bdel Vc.Bclr Vc.Pk
namespace P20
open Go.M01 Go.Mb Go.Me Go.M03
variable {w:World}{L:List HProp}{K:KT}
def RepC:Prop:=∀ {w:World}{L:List HProp}{K:KT}{c:UInt8}{n:Nat},Holds w L->n<=255->(∀ w',Same w w'->Holds w' L->K (S_ (List.replicate n c)) w')->Cl prog 155 #[S_ [c],nv n] w K
theorem Zpw (hR:RepC){x:UInt8 × Nat}(H:Holds w L) (h:1<=x.2/\x.2<=255) (k:∀ w',Same w w'->Holds w' L->K (S_ (pieceB x)) w'):Cl prog 136 #[.agg (Fpc x).toArray] w K:=by
 refine Tz136 ?_;unfold Vz136;obtain⟨a,n⟩:=x;simp only at h;refine r_new H λb w1 S1 H1=>?_;replace H1:Holds w1 (blk b tPc [bv a,nv n]::L):=H1;refine r_fo0 (r_ld 0 H1 rfl rfl ?_);refine q_str H1 a λw2 S2 H2=>?_;refine r_fo0 (r_ld 0 H2 rfl rfl ?_);refine r_lss (r_ifD (λh4=>?_) λh4=>?_)
 ·refine r_fo0 (r_ld 0 H2 rfl rfl ?_);refine hR H2 (by omega) λw3 S3 H3=>?_;have:=k w3 (S1.trans (S2.trans S3)) H3.drop;unfold pieceB at this;simp only at this;rw[if_neg (by omega),gU,show min n 4=n by omega] at this;exact this
 ·have e:((n:Nat):Int) - 4=(((UInt8.ofNat (n - 4)).toNat:Nat):Int):=by
   simp only[UInt8.toNat_ofNat'];rw[Nat.mod_eq_of_lt (by omega)];omega
  have fin:∀ w',Same w w'->Holds w' L->K (S_ (List.replicate 4 a++[UInt8.ofNat (n - 4)])) w':=λw' S' H'=>by
   have:=k w' S' H';unfold pieceB at this;simp only at this;rw[if_pos (by omega),show min n 4=4 by omega] at this;exact this
  refine r_dr H2 λw5 S5 H5=>?_;refine r_fo0 (r_ld 0 H5 rfl rfl ?_);refine r_sub (by omega) (by omega) ?_;refine Zh7 (by omega) (by omega) ?_;rw[e];refine⟨?_,?_⟩
  ·refine hR (n:=4) H5 (by decide) λw6 S6 H6=>?_;refine r_rk (r_ld 0 H6 rfl rfl rfl) ?_;refine r_bs1 H6 rfl λb3 w7 S7 H7=>?_;refine B20.r_cvb (sp:=[]) (xs:=[UInt8.ofNat (n - 4)]) (oa:=some ⟨b3,0,none⟩) ((H7.imp λh hh=>(⟨rfl,rfl,hh⟩:(slb bv tB (some ⟨b3,0,none⟩) [UInt8.ofNat (n - 4)] []) h))) 0 rfl rfl ?_;refine Zeg (by simp) ?_;exact fin w7 (S1.trans (S2.trans (S5.trans (S6.trans S7)))) H7.drop.drop
  ·refine r_bs1 H5 rfl λb3 w7 S7 H7=>?_;have H8:Holds w7 (slb bv tB (some ⟨b3,0,none⟩) [UInt8.ofNat (n - 4)] []::blk b tPc [bv a,nv n]::L):=H7.imp λh hh=>(⟨rfl,rfl,hh⟩:(slb bv tB (some ⟨b3,0,none⟩) [UInt8.ofNat (n - 4)] []) h);refine B20.r_cvb (sp:=[]) (xs:=[UInt8.ofNat (n - 4)]) H8 0 rfl rfl ?_;refine hR (n:=4) H8 (by decide) λw9 S9 H9=>?_;refine r_rk (B20.r_cvb (sp:=[]) (xs:=[UInt8.ofNat (n - 4)]) H9 0 rfl rfl rfl) ?_;refine r_rk (r_ld 1 H9 rfl rfl rfl) ?_;refine Zeg (by simp) ?_;exact fin w9 (S1.trans (S2.trans (S5.trans (S7.trans S9)))) H9.drop.drop
theorem Zgo (hR:RepC){x:UInt8 × Nat}(H:Holds w L) (h:1<=x.2/\x.2<=255) (k:∀ w',Same w w'->Holds w' L->K (.tuple #[S_ (pieceB x),iv 0]) w'):Cl prog 123 #[.agg (Fpc x).toArray] w K:=by
 refine Tz123 ?_;unfold Vz123;refine r_new H λb w1 S1 H1=>?_;replace H1:Holds w1 (blk b tPc (Fpc x)::L):=H1;refine Za1 (λt w'=>w1=w'/\t=.bool false) ?_ ?_
 rotate_left
 ·refine r_fo0 (r_ld 0 H1 rfl rfl ?_);refine r_lss (r_vfD (by omega) ?_);refine r_fo0 (r_ld 0 H1 rfl rfl ?_);refine r_gtr (r_ke ⟨rfl,?_⟩);rw[decide_eq_false (by omega)]
 rintro _ _ _ ⟨rfl,rfl⟩;refine r_vf ?_;refine r_ldA 0 H1 (Fpc x) rfl rfl rfl ?_;refine Zpw hR H1 h λw2 S2 H2=>?_;exact k _ (S1.trans S2) H2.drop
theorem Zni {c:UInt8}(H:Holds w L) (k:∀ w',Same w w'->Holds w' L->K (.tuple #[S_ [],iv 1]) w'):Cl prog 123 #[.agg (Fpc (c,0)).toArray] w K:=by
 refine Tz123 ?_;unfold Vz123;refine r_new H λb w1 S1 H1=>?_;replace H1:Holds w1 (blk b tPc (Fpc (c,0))::L):=H1;refine Za1 (λt w'=>w1=w'/\t=.bool true) ?_ ?_
 rotate_left
 ·refine r_fo0 (r_ld 0 H1 rfl rfl ?_);refine r_lss (r_vtD (by show ((0:Nat):Int) < 1;decide) (r_ke ⟨rfl,rfl⟩))
 rintro _ _ _ ⟨rfl,rfl⟩;exact r_vt (k _ S1 H1.drop)
end P20
namespace P20
open Go.M01 Go.Mb Go.Me Go.M03
variable {w:World}{L:List HProp}{K:KT}{b:Nat}{c:UInt8}{n:Nat}
abbrev tPk:Nat:=128
theorem Zia {x:UInt8 × Nat}(H:Holds w (blk b tPk (Fpc x)::L)) (k:∀ w',Same w w'->Holds w' (blk b tPk (Fpc x)::L)->K (.agg (Fpc x).toArray) w'):Cl prog 99 #[pt b] w K:=by
 refine Tz99 ?_;unfold Vz99;refine r_new H λt w1 S1 H1=>?_;rw[Znw] at H1;refine Za6 (r_vf (r_nc (r_fo0 ?_)));refine r_ldA 1 H1 (Fpc x) rfl rfl rfl ?_;refine r_stA 0 H1 (vs:=Fpc x) rfl (Nat.le_refl 2) rfl rfl λw2 S2 H2=>?_;replace H2:Holds w2 (blk t tPc (Fpc x)::blk b tPk (Fpc x)::L):=H2;refine r_ldA 0 H2 (Fpc x) rfl rfl rfl ?_;exact k _ (S1.trans S2) H2.drop
theorem Zdm (hR:RepC){x:UInt8 × Nat}(H:Holds w (blk b tPk (Fpc x)::L)) (h:1<=x.2/\x.2<=255) (k:∀ w',Same w w'->Holds w' (blk b tPk (Fpc (0,0))::L)->K (S_ (pieceB x)) w'):Cl prog 113 #[pt b] w K:=by
 refine Tz113 ?_;unfold Vz113;refine r_nc (r_fo0 ?_);refine r_ldA 0 H (Fpc x) rfl rfl rfl ?_;refine Zgo hR H h λw1 S1 H1=>?_;refine Za3 (Za4 ?_);refine r_bd (v:=.agg (Fpc (0,0)).toArray) (by kernel_rfl) ?_;refine r_nc (r_fo0 ?_);refine r_stA 0 H1 (vs:=Fpc (0,0)) rfl (Nat.le_refl 2) rfl rfl λw2 S2 H2=>?_;exact k _ (S1.trans S2) H2
theorem Zl0 (H:Holds w (blk b tPk (Fpc (c,0))::L)) (k:∀ w',Same w w'->Holds w' (blk b tPk (Fpc (0,0))::L)->K (S_ []) w'):Cl prog 113 #[pt b] w K:=by
 refine Tz113 ?_;unfold Vz113;refine r_nc (r_fo0 ?_);refine r_ldA 0 H (Fpc (c,0)) rfl rfl rfl ?_;refine Zni H λw1 S1 H1=>?_;refine Za3 (Za4 ?_);refine r_bd (v:=.agg (Fpc (0,0)).toArray) (by kernel_rfl) ?_;refine r_nc (r_fo0 ?_);refine r_stA 0 H1 (vs:=Fpc (0,0)) rfl (Nat.le_refl 2) rfl rfl λw2 S2 H2=>?_;exact k _ (S1.trans S2) H2
theorem Zqb (hR:RepC){x:UInt8 × Nat}(H:Holds w (blk b tPk (Fpc x)::L)) (h:x.2<=255) (k:∀ w',Same w w'->Holds w' (blk b tPk (Fpc (0,0))::L)->K (S_ (if x.2=0 then [] else pieceB x)) w'):Cl prog 100 #[pt b] w K:=by
 refine Tz100 ?_;unfold Vz100;refine Za6 (r_vf ?_);obtain⟨c,n⟩:=x;simp only at h k
 by_cases h0:n=0
 ·subst h0;rw[if_pos rfl] at k;exact Zl0 H k
 ·rw[if_neg h0] at k;exact Zdm hR H ⟨by show 1<=n;omega,h⟩ k
end P20
namespace P20
open Go.M01 Go.Mb Go.Me Go.M02 Go.M03
variable {w:World}{L:List HProp}{K:KT}{p sm pk room size:Nat}{body tx:List UInt8}{bd:Value}{x:UInt8 × Nat}
abbrev tSp:Nat:=105
abbrev spC (bd:Value) (sm size room pk:Nat):List Value:=[bd,pt sm,nv size,nv room,pt pk]
abbrev SpL (p:Nat) (bd:Value) (sm pk room:Nat) (body tx:List UInt8) (x:UInt8 × Nat) (L:List HProp):List HProp:=
 blk p tSp (spC bd sm tx.length room pk)::SL bv tB bd body::R3b.SumR sm (crcF 4294967295 tx)::blk pk tPk (Fpc x)::L
theorem Zmq (hR:RepC){y:UInt8 × Nat}(H:Holds w (SpL p bd sm pk room body tx x L)) (hy:1<=y.2/\y.2<=255) (hb:body.length<=1000000) (ht:tx.length<=1000000)
  (k:∀ bd' w',Same w w'->Holds w' (SpL p bd' sm pk room (body++pieceB y) (tx++List.replicate y.2 y.1) x L)->K (.tuple #[]) w'):Cl prog 114 #[pt p,.agg (Fpc y).toArray] w K:=by
 refine Tz114 ?_;unfold Vz114;have h5:=Zqn y;refine r_new H λq w1 S1 H1=>?_;replace H1:Holds w1 (blk q tPc (Fpc y)::SpL p bd sm pk room body tx x L):=H1;refine r_ldA 0 H1 (Fpc y) rfl rfl rfl ?_;refine Zgo hR H1 hy λw2 S2 H2=>?_;refine Za3 (Za4 ?_);refine r_nc (r_fo0 (r_ld 1 H2 rfl rfl ?_));refine Zza (e:=tB) (by kernel_rfl) H2 2 rfl (by omega) λbd' w3 S3 H3=>?_;replace H3:Holds w3 (blk q tPc (Fpc y)::blk p tSp (spC bd sm tx.length room pk)::SL bv tB bd' (body++pieceB y)::R3b.SumR sm (crcF 4294967295 tx)::blk pk tPk (Fpc x)::L):=H3;refine r_nc (r_fo0 ?_)
 obtain⟨oa,l,c,rfl⟩:∃ oa l c,bd'=.slice oa l c:=by
  obtain⟨oa,sp,rfl,_⟩:=H3.open 2 rfl;exact⟨oa,_,_,rfl⟩
 refine r_st 1 H3 rfl (by simp) rfl λw4 S4 H4=>?_;replace H4:Holds w4 (blk q tPc (Fpc y)::blk p tSp (spC (.slice oa l c) sm tx.length room pk)::SL bv tB (.slice oa l c) (body++pieceB y)::R3b.SumR sm (crcF 4294967295 tx)::blk pk tPk (Fpc x)::L):=H4;refine r_dr H4 λw5 S5 H5=>?_;refine r_nc (r_fo0 (r_ld 1 H5 rfl rfl ?_));refine r_fo0 (r_ld 0 H5 rfl rfl ?_);refine Za9 (a:=tx.length) (b:=y.2) (by omega) ?_;refine r_nc (r_fo0 ?_);refine r_st 1 H5 rfl (by simp) rfl λw6 S6 H6=>?_;replace H6:Holds w6 (blk q tPc (Fpc y)::blk p tSp (spC (.slice oa l c) sm (tx.length+y.2) room pk)::SL bv tB (.slice oa l c) (body++pieceB y)::R3b.SumR sm (crcF 4294967295 tx)::blk pk tPk (Fpc x)::L):=H6;refine r_fo0 (r_ld 0 H6 rfl rfl ?_)
 refine Zdo (λj v w'=>∃ i,j=y.2 - i/\i<=y.2/\v=nv i/\Same w w'/\Holds w' (blk q tPc (Fpc y)::blk p tSp (spC (.slice oa l c) sm (tx.length+y.2) room pk)::SL bv tB (.slice oa l c) (body++pieceB y)::R3b.SumR sm (crcF 4294967295 (tx++List.replicate i y.1))::blk pk tPk (Fpc x)::L)) y.2
  ⟨0,rfl,hE _,rfl,S1.trans (S2.trans (S3.trans (S4.trans (S5.trans S6)))),by rw[List.replicate_zero,gU];exact H6⟩ ?_
 clear H H1 H2 H3 H4 H5 H6 S1 S2 S3 S4 S5 S6;rintro _ j _ w7 _ ⟨i,rfl,hi,rfl,S7,H7⟩ hgo;refine r_lss (r_ifD (λh=>?_) λh=>?_)
 ·refine r_dr H7 λw8 S8 H8=>?_;refine r_nc (r_fo0 (r_ld 1 H8 rfl rfl ?_));refine r_fo0 (r_ld 0 H8 rfl rfl ?_)
  have H9:Holds w8 (R3b.SumR sm (crcF 4294967295 (tx++List.replicate i y.1))::blk q tPc (Fpc y)::blk p tSp (spC (.slice oa l c) sm (tx.length+y.2) room pk)::SL bv tB (.slice oa l c) (body++pieceB y)::blk pk tPk (Fpc x)::L):=by
   have h_:=Holds.ord 5 [3,0,1,2,4] H8 rfl;exact h_
  refine R3b.Put_spec H9 λw9 S9 Ha=>?_
  have Hb:Holds w9 (blk q tPc (Fpc y)::blk p tSp (spC (.slice oa l c) sm (tx.length+y.2) room pk)::SL bv tB (.slice oa l c) (body++pieceB y)::R3b.SumR sm (crcB (crcF 4294967295 (tx++List.replicate i y.1)) y.1)::blk pk tPk (Fpc x)::L):=by
   have h_:=Holds.ord 5 [1,2,3,0,4] Ha rfl;exact h_
  refine Za0 (by omega) (r_ke (hgo (y.2 - (i+1)) _ _ (by omega) ⟨i+1,rfl,by omega,rfl,S7.trans (S8.trans S9),?_⟩));rw[List.replicate_succ',<-gI,Zuq];exact Hb
 ·obtain rfl:i=y.2:=by omega
  refine k (.slice oa l c) _ S7 ?_
  have e:(tx++List.replicate y.2 y.1).length=tx.length+y.2:=by rw[gD,gP]
  show Holds w7 (blk p tSp (spC (.slice oa l c) sm (tx++List.replicate y.2 y.1).length room pk)::_);rw[e];exact H7.drop
theorem Zfr (H:Holds w (R3b.SumR sm (crcF 4294967295 tx)::L)) (k:K (uv (crcOf tx)) w):Cl prog 115 #[pt sm] w K:=by
 refine Tz115 ?_;unfold Vz115;obtain⟨hs,H⟩:=R3b.Zev H;refine Za6 (r_vf (r_nc (r_fo0 (r_ld 0 H rfl R3b.sm256 ?_))));exact Zpt hs k
theorem Zlw (H:Holds w (R3b.SumR sm (crcF 4294967295 tx)::L)) (k:∀ w',Same w w'->Holds w' (R3b.SumR sm (crcF 4294967295 [])::L)->K (.tuple #[]) w'):Cl prog 116 #[pt sm] w K:=by
 refine Tz116 ?_;unfold Vz116;obtain⟨hs,H⟩:=R3b.Zev H;refine Zao ?_;refine r_vt (r_nc (r_fo0 ?_));refine r_st 0 H rfl (by rw[R3b.smlen];decide) rfl λw1 S1 H1=>?_
 have H2:Holds w1 (blk sm R3b.tS (R3b.smC 4294967295)::L):=by
  have h_:=H1;rw[gJ] at h_;have e:=R3b.smset (s:=crcF 4294967295 tx) 4294967295;rw[<-e];exact h_
 exact k _ S1 (R3b.Zdx (by decide) H2)
end P20
end Go.Proofs.YtpmjeiliblgajaaGreatDoor
namespace Go.Proofs.YtpmjeiliblgajaaGreatDoor
open Go Go.Vc Go.Proofs.Tryz
namespace P20
theorem x105:Builder.Extra prog Tryz.lays105_ren:={
 sizeBuilder:=by kernel_rfl
 liesBuilder:=by kernel_rfl
 t5:=Tryz.lays105.t5
 a5:=Tryz.lays105.a5
 z5:=Tryz.lays105.z5
 v5:=Tryz.lays105.v5
 infoByte:=by kernel_rfl
 cellsByte:=by kernel_rfl
 sizeByte:=by kernel_rfl
 neB5:=by decide }
theorem rep1 (c:UInt8):∀ n,Lib.repeatL [c] n=List.replicate n c
 |0=>rfl
 |n+1=>by
  show[c]++Lib.repeatL [c] n=_;rw[rep1 c n];rfl
theorem Zpm:RepC:=by
 intro w L K c n H hn k;have h:=Any.strings_Repeat Tryz.lays105 x105 ⟨#[c]⟩ n w (by omega) (by show 1*n<=_;omega);rw[show Tryz.lays105_ren.f 105=155 from by kernel_rfl] at h;refine⟨Tryz.call155 _ _,h.mono λe w' ⟨he,hb⟩=>⟨_,he,?_⟩⟩;have e:Lib.repeatL (ByteArray.mk #[c]).data.toList n=List.replicate n c:=rep1 c n;rw[e]
 exact k w' ⟨hb.os,hb.tape,hb.output,hb.size⟩ (Sat.mono H λc o hc=>by
  show w'.heap[c]?=some o;have hc':w.heap[c]?=some o:=hc
  rw[hb.block c (Array.getElem?_eq_some_iff.1 hc').1,hc'])
end P20
end Go.Proofs.YtpmjeiliblgajaaGreatDoor
namespace Go.Proofs.YtpmjeiliblgajaaGreatDoor
open Go Go.Vc Go.Proofs.Tryz
section
variable {w:World}{L:List HProp}{K:KT}
end
attribute [local irreducible] Vc.Nc Vc.Ld Vc.LdA Vc.St Vc.StA Vc.Fo Vc.Iaa Vc.Ias Vc.Ixs Vc.Ixa Vc.Fd Vc.FdA Vc.Bp Vc.Bb Vc.Bn Vc.Up Vc.Ci Vc.Lns Vc.Lnl Vc.Ex Vc.Sst Vc.Ssl Vc.New Vc.Vif Vc.VJoin Vc.VLoop Vc.KE Vc.Dr Vc.Rk Vc.Cl Vc.Cx Vc.Inv Vc.Be Vc.Cv Vc.Cw Vc.Mf Vc.Sl Vc.Lk Vc.Bd Vc.Bs Vc.Ms Vc.Mm Vc.Mu Vc.Me Vc.Es Vc.Rg Vc.Nx Vc.Ta Vc.Ap Vc.Usd Vc.Ust Vc.Cp Vc.Ln Vc.Bc Vc.Bmin Vc.Bmax Vc.Bdel Vc.Bclr Vc.Pk
namespace P20
open Go.M01 Go.Mb Go.Me Go.M02 Go.M03
variable {w:World}{L:List HProp}{K:KT}{p sm pk room:Nat}{body tx s:List UInt8}{bd:Value}{x:UInt8 × Nat}
abbrev tSb:Nat:=161
def Fsb (x:Bl):List Value:=[S_ x.1,uv (crcOf x.2),nv x.2.length]
theorem Zbd:(zeroP prog tSb).cells.toList=[S_ [],uv 0,iv 0]:=by kernel_rfl
abbrev Zsb:List Value:=[S_ [],uv 0,iv 0]
theorem Zoc:∀ y:Bl,∀ u∈Fsb y,sg u=true:=by
 intro y u hu;simp only[Fsb,List.mem_cons,List.not_mem_nil,or_false] at hu
 rcases hu with rfl|rfl|rfl <;> rfl
instance rowSb:RowN prog 75 tSb 3:=⟨by kernel_rfl,⟨t161,.agg #[S_ [],uv 0,iv 0],by kernel_rfl,by kernel_rfl,by decide,by kernel_rfl,by kernel_rfl⟩⟩
theorem Zmd (H:Holds w (SpL p bd sm pk room [] tx x L)) (k:∀ w',Same w w'->Holds w' (SpL p bd sm pk room [] tx x L)->K (.tuple #[.agg Zsb.toArray,.bool false]) w'):Cl prog 102 #[pt p] w K:=by
 refine Tz102 ?_;unfold Vz102;refine r_new H λq w1 S1 H1=>?_;rw[Zbd] at H1;refine r_nc (r_fo0 (r_ld 1 H1 rfl rfl ?_));refine r_lnS 2 H1 rfl ?_;refine r_eql (r_vtE rfl ?_);refine r_bd (v:=.agg Zsb.toArray) (by kernel_rfl) ?_;refine r_stA 0 H1 (vs:=Zsb) rfl (Nat.le_refl 3) rfl rfl λw2 S2 H2=>?_;replace H2:Holds w2 (blk q tSb Zsb::SpL p bd sm pk room [] tx x L):=H2;refine r_ldA 0 H2 Zsb rfl rfl rfl ?_;exact k _ (S1.trans S2) H2.drop
theorem Zgu (h0:body≠[]) (H:Holds w (SpL p bd sm pk room body tx x L)) (k:∀ w',Same w w'->Holds w' (SpL p (.slice none 0 0) sm pk room [] [] x L)->K (.tuple #[.agg (Fsb (body,tx)).toArray,.bool true]) w'):Cl prog 102 #[pt p] w K:=by
 refine Tz102 ?_;unfold Vz102;have hp:0 < body.length:=gZ.2 h0;obtain⟨oa,sp,rfl,H⟩:=H.open 1 rfl;replace H:Holds w (blk p tSp (spC (.slice oa body.length (body.length+sp.length)) sm tx.length room pk)::slb bv tB oa body sp::R3b.SumR sm (crcF 4294967295 tx)::blk pk tPk (Fpc x)::L):=H;generalize hbd:Value.slice oa body.length (body.length+sp.length)=bd at *;refine r_new H λq w1 S1 H1=>?_;rw[Zbd] at H1;refine r_nc (r_fo0 (r_ld 1 H1 rfl rfl ?_));rw[<-hbd];refine r_lnl (r_eql (r_vfE (by omega) ?_));refine Za1 (λv w'=>∃ nb,v=pt nb/\Same w w'/\Holds w' (blk nb tSb (Fsb (body,tx))::blk q tSb Zsb::blk p tSp (spC bd sm tx.length room pk)::slb bv tB oa body sp::R3b.SumR sm (crcF 4294967295 tx)::blk pk tPk (Fpc x)::L)) ?_ ?_
 rotate_left
 ·refine r_dr H1 λw2 S2 H2=>?_;refine r_nc (r_fo0 (r_ld 1 H2 rfl rfl ?_))
  have cv:∀ {wz:World} {i:Nat} {Lz:List HProp} {Kz:Value->Prop},Holds wz Lz->Lz[i]?=some (slb bv tB oa body sp)->Kz (S_ body)->Cv prog 86 9 bd wz Kz:=by
   intro wz i Lz Kz Hz hz kz;rw[<-hbd];exact B20.r_cvb Hz i hz rfl kz
  refine cv (i:=2) H2 rfl ?_;refine r_nc (r_fo0 (r_ld 1 H2 rfl rfl ?_));refine r_nc (r_fo0 (r_ld 1 H2 rfl rfl ?_));refine⟨?_,?_⟩
  ·refine Zfr (tx:=tx) (by have h_:=Holds.ord 4 [3,0,1,2] H2 rfl;exact h_) ?_;refine r_rk (r_ld 1 H2 rfl rfl rfl) ?_;refine r_rk (cv (i:=2) H2 rfl rfl) ?_;refine r_rk (r_ld 1 H2 rfl rfl rfl) ?_;refine r_bd (v:=.agg (Fsb (body,tx)).toArray) (by kernel_rfl) ?_;refine r_new H2 λob w3 S3 H3=>?_;rw[Zbd] at H3;refine r_rk (r_bd (v:=.agg (Fsb (body,tx)).toArray) (by kernel_rfl) rfl) ?_;refine r_rk (r_ld 2 H3 rfl rfl rfl) ?_;refine r_rk (r_ld 2 H3 rfl rfl rfl) ?_;refine r_rk (cv (i:=3) H3 rfl rfl) ?_;refine r_rk (r_ld 2 H3 rfl rfl rfl) ?_;refine r_stA 0 H3 (vs:=Fsb (body,tx)) rfl (Nat.le_refl 3) rfl rfl λw4 S4 H4=>?_;exact r_ke ⟨ob,rfl,S1.trans (S2.trans (S3.trans S4)),H4⟩
  ·refine r_new H2 λob w3 S3 H3=>?_;rw[Zbd] at H3;refine r_rk (r_ld 2 H3 rfl rfl rfl) ?_;refine r_rk (r_ld 2 H3 rfl rfl rfl) ?_;refine r_rk (cv (i:=3) H3 rfl rfl) ?_;refine r_rk (r_ld 2 H3 rfl rfl rfl) ?_;refine Zfr (tx:=tx) (by have h_:=Holds.ord 5 [4,0,1,2,3] H3 rfl;exact h_) ?_;refine r_rk (r_ld 2 H3 rfl rfl rfl) ?_;refine r_rk (cv (i:=3) H3 rfl rfl) ?_;refine r_rk (r_ld 2 H3 rfl rfl rfl) ?_;refine r_bd (v:=.agg (Fsb (body,tx)).toArray) (by kernel_rfl) ?_;refine r_stA 0 H3 (vs:=Fsb (body,tx)) rfl (Nat.le_refl 3) rfl rfl λw4 S4 H4=>?_;exact r_ke ⟨ob,rfl,S1.trans (S2.trans (S3.trans S4)),H4⟩
 clear H H1 S1;rintro _ _ w2 ⟨nb,rfl,S2,H2⟩;refine r_nc (r_fo0 ?_);refine r_st 2 H2 rfl (by simp) rfl λw3 S3 H3=>?_;replace H3:Holds w3 (blk nb tSb (Fsb (body,tx))::blk q tSb Zsb::blk p tSp (spC (.slice none 0 0) sm tx.length room pk)::slb bv tB oa body sp::R3b.SumR sm (crcF 4294967295 tx)::blk pk tPk (Fpc x)::L):=H3;refine r_nc (r_fo0 ?_);refine r_st 2 H3 rfl (by simp) rfl λw4 S4 H4=>?_;replace H4:Holds w4 (blk nb tSb (Fsb (body,tx))::blk q tSb Zsb::blk p tSp (spC (.slice none 0 0) sm 0 room pk)::slb bv tB oa body sp::R3b.SumR sm (crcF 4294967295 tx)::blk pk tPk (Fpc x)::L):=H4;refine r_nc (r_fo0 (r_ld 2 H4 rfl rfl ?_));refine Zlw (tx:=tx) (by have h_:=Holds.ord 5 [4,0,1,2] H4 rfl;exact h_) λw5 S5 H5=>?_;replace H5:Holds w5 (R3b.SumR sm (crcF 4294967295 [])::blk nb tSb (Fsb (body,tx))::blk q tSb Zsb::blk p tSp (spC (.slice none 0 0) sm 0 room pk)::blk pk tPk (Fpc x)::L):=H5;refine r_ldA 1 H5 (Fsb (body,tx)) rfl rfl rfl ?_;refine r_stA 2 H5 (vs:=Fsb (body,tx)) rfl (Nat.le_refl 3) rfl rfl λw6 S6 H6=>?_;replace H6:Holds w6 (R3b.SumR sm (crcF 4294967295 [])::blk nb tSb (Fsb (body,tx))::blk q tSb (Fsb (body,tx))::blk p tSp (spC (.slice none 0 0) sm 0 room pk)::blk pk tPk (Fpc x)::L):=H6;refine r_ldA 2 H6 (Fsb (body,tx)) rfl rfl rfl ?_;refine k _ (S2.trans (S3.trans (S4.trans (S5.trans S6)))) ?_;have h_:=Holds.ord 6 [4,0,1,5] (H6.nilSL bv tB) rfl;exact h_
theorem Zi7 (hR:RepC){y:UInt8 × Nat}(H:Holds w (SpL p bd sm pk room body tx x L)) (hy:1<=y.2/\y.2<=255) (hb:body.length<=1000000) (ht:tx.length<=1000000) (h5:5<=room)
  (k1:body.length+(pieceB y).length<=room->∀ bd' w',Same w w'->Holds w' (SpL p bd' sm pk room (body++pieceB y) (tx++List.replicate y.2 y.1) x L)->K (.tuple #[.agg Zsb.toArray,.bool false]) w')
  (k2:room < body.length+(pieceB y).length->∀ bd' w',Same w w'->Holds w' (SpL p bd' sm pk room (pieceB y) (List.replicate y.2 y.1) x L)->K (.tuple #[.agg (Fsb (body,tx)).toArray,.bool true]) w') :
  Cl prog 101 #[pt p,.agg (Fpc y).toArray,nv (pieceB y).length] w K:=by
 refine Tz101 ?_;unfold Vz101;have hp:=(Zdj y).2;refine r_new H λxb w1 S1 H1=>?_;replace H1:Holds w1 (blk xb tPc (Fpc y)::SpL p bd sm pk room body tx x L):=H1;refine r_new H1 λx2 w2 S2 H2=>?_;rw[Zbd] at H2;refine r_new H2 λo3 w3 S3 H3=>?_;rw[Zbd] at H3;have S:=S1.trans (S2.trans S3);clear S1 S2 S3 H H1 H2
 refine Za1 (λv w'=>∃ (v0 v1 v2:Value) (c:Bool) (bd':Value) (body' tx':List UInt8),v=.bool c/\[v0,v1,v2].all sg=true/\body'.length<=1000000/\tx'.length<=1000000/\Same w w'/\Holds w' (blk o3 tSb [v0,v1,v2]::blk x2 tSb Zsb::blk xb tPc (Fpc y)::SpL p bd' sm pk room body' tx' x L)/\
   (∀ bd'' w'',Same w w''->Holds w'' (SpL p bd'' sm pk room (body'++pieceB y) (tx'++List.replicate y.2 y.1) x L)->K (.tuple #[.agg #[v0,v1,v2],.bool c]) w'')) ?_ ?_
 rotate_left
 ·refine r_dr H3 λw4 S4 H4=>?_;refine r_nc (r_fo0 (r_fo0 (r_ld 3 H4 rfl rfl ?_)));refine r_lnS 4 H4 rfl ?_;refine Za9 (a:=body.length) (b:=(pieceB y).length) (by omega) ?_;refine r_nc (r_fo0 (r_ld 3 H4 rfl rfl ?_));refine r_gtr (r_ifD (λhc=>?_) λhc=>?_)
  ·have hne:body≠[]:=λe=>by rw[e] at hc;simp at hc;omega
   refine r_nc (r_fo0 ?_);refine Zgu hne (by have h_:=Holds.ord 7 [3,4,5,6,0,1,2] H4 rfl;exact h_) λw5 S5 H5=>?_;replace H5:Holds w5 (SpL p (.slice none 0 0) sm pk room [] [] x (blk o3 tSb Zsb::blk x2 tSb Zsb::blk xb tPc (Fpc y)::L)):=H5;refine Za3 (Za4 ?_);refine r_stA 4 H5 (vs:=Fsb (body,tx)) rfl (Nat.le_refl 3) rfl rfl λw6 S6 H6=>?_;have H7:=Holds.ord 7 [4,5,6,0,1,2,3] H6 rfl;refine r_ke ⟨S_ body,uv (crcOf tx),nv tx.length,true,.slice none 0 0,[],[],rfl,rfl,hE _,hE _,S.trans (S4.trans (S5.trans S6)),H7,λbd'' w'' S'' H''=>k2 (by omega) bd'' w'' S'' ?_⟩;rw[hO_,hO_] at H'';exact H''
  ·exact r_ke ⟨S_ [],uv 0,iv 0,false,bd,body,tx,rfl,rfl,hb,ht,S.trans S4,H4,λbd'' w'' S'' H''=>k1 (by omega) bd'' w'' S'' H''⟩
 clear H3 S k1 k2 hb ht;rintro _ _ w4 ⟨v0,v1,v2,c,bd',body',tx',rfl,hsg,hb,ht,S4,H4,k⟩;refine r_dr H4 λw5 S5 H5=>?_;refine r_nc (r_fo0 ?_);refine r_ldA 2 H5 (Fpc y) rfl rfl rfl ?_;refine Zmq hR (by have h_:=Holds.ord 7 [3,4,5,6,0,1,2] H5 rfl;exact h_) hy hb ht λbd'' w6 S6 H6=>?_;replace H6:Holds w6 (SpL p bd'' sm pk room (body'++pieceB y) (tx'++List.replicate y.2 y.1) x (blk o3 tSb [v0,v1,v2]::blk x2 tSb Zsb::blk xb tPc (Fpc y)::L)):=H6;refine r_ldA 4 H6 [v0,v1,v2] rfl rfl rfl ?_;refine r_stA 5 H6 (vs:=[v0,v1,v2]) rfl (Nat.le_refl 3) rfl hsg λw7 S7 H7=>?_;refine r_ldA 5 H7 [v0,v1,v2] rfl rfl rfl ?_;exact k bd'' w7 (S4.trans (S5.trans (S6.trans S7))) (Holds.dropAt (Holds.dropAt (Holds.dropAt H7 4) 4) 4)
def nxR (x:UInt8 × Nat) (d:UInt8):UInt8 × Nat:=if 0 < x.2/\x.1≠d then (d,1) else if x.2+1=255 then (0,0) else (d,x.2+1)
def toldR (x:UInt8 × Nat) (d:UInt8):List UInt8:=if 0 < x.2/\x.1≠d then pieceB x else if x.2+1=255 then pieceB (d,255) else []
theorem Zek {x:UInt8 × Nat}(h:0 < x.2):1<=(pieceB x).length:=by
 unfold pieceB;rw[gD,gP];omega
theorem Zrh (hR:RepC){b:Nat}{x:UInt8 × Nat}{d:UInt8}(H:Holds w (blk b tPk (Fpc x)::L)) (h:x.2<=254)
  (k:∀ w',Same w w'->Holds w' (blk b tPk (Fpc (nxR x d))::L)->K (S_ (toldR x d)) w'):Cl prog 122 #[pt b,bv d] w K:=by
 refine Tz122 ?_;unfold Vz122;refine Za6 (r_vf ?_);refine Za1 (λt w'=>∃ y:UInt8 × Nat,y.2<=254/\t=S_ (if 0 < x.2/\x.1≠d then pieceB x else [])/\(if 0 < x.2/\x.1≠d then y.2=0 else y.2=x.2)/\Same w w'/\Holds w' (blk b tPk (Fpc y)::L)) ?_ ?_
 rotate_left
 ·refine Za1 (λt w'=>w=w'/\t=.bool (decide (0 < x.2/\x.1≠d))) ?_ ?_
  rotate_left
  ·refine r_nc (r_fo0 (r_fo0 (r_ld 0 H rfl rfl ?_)));refine r_gtr (r_ifD (λh1=>?_) λh1=>r_ke ⟨rfl,by rw[decide_eq_false (by omega)]⟩);refine r_nc (r_fo0 (r_fo0 (r_ld 0 H rfl rfl ?_)));refine r_neq (r_ke ⟨rfl,congrArg Value.bool ?_⟩);rw[Bool.eq_iff_iff,decide_eq_true_iff];simp only[bne_iff_ne,ne_eq]
   constructor
   ·intro e;exact⟨by omega,λe2=>e (by rw[e2])⟩
   ·rintro⟨_,e⟩ e2;exact e (UInt8.toNat_inj.1 (by omega))
  rintro _ _ _ ⟨rfl,rfl⟩;refine r_ifD (λh1=>?_) λh1=>?_
  ·refine Zdm hR H ⟨h1.1,by omega⟩ λw1 S1 H1=>?_;exact r_ke ⟨(0,0),by decide,by rw[if_pos h1],by rw[if_pos h1],S1,H1⟩
  ·exact r_ke ⟨x,h,by rw[if_neg h1],by rw[if_neg h1],.refl _,H⟩
 rintro _ _ w1 ⟨y,hy,rfl,hz,S1,H1⟩;refine r_nc (r_fo0 (r_fo0 ?_));refine r_st 0 H1 rfl (by simp[Fpc]) rfl λw2 S2 H2=>?_;replace H2:Holds w2 (blk b tPk (Fpc (d,y.2))::L):=H2;refine r_nc (r_fo0 (r_fo0 (r_ld 0 H2 rfl rfl ?_)));refine Za0 (by omega) ?_;refine r_nc (r_fo0 (r_fo0 ?_));refine r_st 0 H2 rfl (by simp[Fpc]) rfl λw3 S3 H3=>?_;replace H3:Holds w3 (blk b tPk (Fpc (d,y.2+1))::L):=H3;refine r_nc (r_fo0 (r_fo0 (r_ld 0 H3 rfl rfl ?_)))
 by_cases hc:0 < x.2/\x.1≠d
 ·rw[if_pos hc] at hz ⊢;refine r_eql (r_vfE (by omega) ?_)
  have e1:toldR x d=pieceB x:=by unfold toldR;rw[if_pos hc]
  have e2:nxR x d=(d,y.2+1):=by unfold nxR;rw[if_pos hc,hz]
  rw[<-e1];rw[<-e2] at H3;exact k _ (S1.trans (S2.trans S3)) H3
 ·rw[if_neg hc] at hz ⊢;refine r_eql (r_ifE (λh1=>?_) λh1=>?_)
  ·have h2:x.2+1=255:=by omega
   have e1:toldR x d=pieceB (d,255):=by unfold toldR;rw[if_neg hc,if_pos h2]
   have e2:nxR x d=(0,0):=by unfold nxR;rw[if_neg hc,if_pos h2]
   rw[show y.2+1=255 by omega] at H3;refine Zdm hR H3 ⟨by show 1<=255;decide,by show 255<=255;decide⟩ λw4 S4 H4=>?_;refine Zeg (xs:=[]) (by have:=(Zdj (d,255)).2;rw[length_nil];omega) ?_;rw[hO_,<-e1];rw[<-e2] at H4;exact k _ (S1.trans (S2.trans (S3.trans S4))) H4
  ·have h2:¬ x.2+1=255:=by omega
   have e1:toldR x d=[]:=by unfold toldR;rw[if_neg hc,if_neg h2]
   have e2:nxR x d=(d,y.2+1):=by unfold nxR;rw[if_neg hc,if_neg h2,hz]
   rw[<-e1];rw[<-e2] at H3;exact k _ (S1.trans (S2.trans S3)) H3
def SpC (room bl r k c:Nat):Prop:=∃ P,k*(room+1)+bl<=2*P/\4*P+5*r<=5*c
theorem SpC.more {room bl r k c pl r' c':Nat}(h:SpC room bl r k c) (hq:4*pl+5*r'+5*c<=5*r+5*c'):SpC room (bl+pl) r' k c':=by
 obtain⟨P,h1,h2⟩:=h;exact⟨P+pl,by omega,by omega⟩
theorem SpC.shut {room bl r k c pl r' c':Nat}(h:SpC room bl r k c) (hq:4*pl+5*r'+5*c<=5*r+5*c') (hf:room < bl+pl):SpC room pl r' (k+1) c':=by
 obtain⟨P,h1,h2⟩:=h;refine⟨P+pl,?_,by omega⟩;rw[Nat.add_mul,Nat.one_mul];omega
theorem piece4 {y:UInt8 × Nat}(h:1<=y.2):4*(pieceB y).length<=5*y.2:=by
 unfold pieceB;rw[gD,gP];split
 ·rw[gQ];omega
 ·rw[length_nil];omega
def SpOk (room:Nat) (body tx:List UInt8) (x:UInt8 × Nat) (k c:Nat):Prop:=body.length<=room/\tx.length<=255*body.length/\x.2<=254/\SpC room body.length x.2 k c
def SpR (p room k c:Nat):HProp:=λh=>∃ bd sm pk body tx x,SpOk room body tx x k c/\Sat [blk p tSp (spC bd sm tx.length room pk),SL bv tB bd body,R3b.SumR sm (crcF 4294967295 tx),blk pk tPk (Fpc x)] h
theorem Zjn {kk c:Nat}(H:Holds w (SpR p room kk c::L)):∃ bd sm pk body tx x,SpOk room body tx x kk c/\Holds w (SpL p bd sm pk room body tx x L):=by
 obtain⟨bd,H⟩:=Holds.ex H;obtain⟨sm,H⟩:=Holds.ex H;obtain⟨pk,H⟩:=Holds.ex H;obtain⟨body,H⟩:=Holds.ex H;obtain⟨tx,H⟩:=Holds.ex H;obtain⟨x,H⟩:=Holds.ex H;obtain⟨h,H⟩:=Holds.pure H;exact⟨bd,sm,pk,body,tx,x,h,Holds.unpack H⟩
theorem Zch {kk c:Nat}(h:SpOk room body tx x kk c) (H:Holds w (SpL p bd sm pk room body tx x L)):Holds w (SpR p room kk c::L):=
 Holds.imp (Holds.pack (A:=[_,_,_,_]) H) λg hg=>⟨bd,sm,pk,body,tx,x,h,hg⟩
def BlOk (room:Nat) (b:Bl):Prop:=b.1≠[]/\b.1.length<=room
theorem Zzx {kk c:Nat}(H:Holds w (SpR p room kk c::L)):2*(kk*(room+1))<=5*c:=by
 obtain⟨bd,sm,pk,body,tx,x,ho,_⟩:=Zjn H;obtain⟨P,h1,h2⟩:=ho.2.2.2;omega
theorem Ziy (hR:RepC){d:UInt8}{kk c:Nat}(H:Holds w (SpR p room kk c::L)) (hr:5<=room/\room<=3000)
  (k1:∀ w',Same w w'->Holds w' (SpR p room kk (c+1)::L)->K (.tuple #[.agg Zsb.toArray,.bool false]) w')
  (k2:∀ b w',BlOk room b->Same w w'->Holds w' (SpR p room (kk+1) (c+1)::L)->K (.tuple #[.agg (Fsb b).toArray,.bool true]) w') :
  Cl prog 110 #[pt p,bv d] w K:=by
 refine Tz110 ?_;unfold Vz110;obtain⟨bd,sm,pk,body,tx,x,ho,H⟩:=Zjn H;obtain⟨ho1,ho2,ho3,ho4⟩:=ho;refine r_new H λq w1 S1 H1=>?_;rw[Zbd] at H1;refine Za6 (r_vf (r_nc (r_fo0 (r_ld 1 H1 rfl rfl ?_))));refine Zia (by have h_:=Holds.ord 5 [4,0,1,2,3] H1 rfl;exact h_) λw2 S2 H2=>?_;refine r_new H2 λrb w3 S3 H3=>?_;rw[Znw] at H3;refine r_stA 0 H3 (vs:=Fpc x) rfl (Nat.le_refl 2) rfl rfl λw4 S4 H4=>?_;replace H4:Holds w4 (blk rb tPc (Fpc x)::blk pk tPk (Fpc x)::blk q tSb Zsb::blk p tSp (spC bd sm tx.length room pk)::SL bv tB bd body::R3b.SumR sm (crcF 4294967295 tx)::L):=H4;refine r_nc (r_fo0 (r_ld 3 H4 rfl rfl ?_));refine Zrh hR (by have h_:=Holds.ord 2 [1,0] H4 rfl;exact h_) ho3 λw5 S5 H5=>?_;have S:=S1.trans (S2.trans (S3.trans (S4.trans S5)));clear S1 S2 S3 S4 S5 H H1 H2 H3 H4
 have hnx:(nxR x d).2<=254:=by
  unfold nxR;split
  ·show 1<=254;decide
  ·split
   ·decide
   ·show x.2+1<=254;omega
 have go:∀ (y:UInt8 × Nat) (w6:World),1<=y.2->y.2<=255->4*(pieceB y).length+5*(nxR x d).2+5*c<=5*x.2+5*(c+1)->toldR x d=pieceB y->Same w w6->Holds w6 (blk rb tPc (Fpc y)::blk pk tPk (Fpc (nxR x d))::blk q tSb Zsb::blk p tSp (spC bd sm tx.length room pk)::SL bv tB bd body::R3b.SumR sm (crcF 4294967295 tx)::L)->
   LdA 2 (pt rb) w6 λx_15=>Lns (S_ (toldR x d)) λx_16=>Cl prog 101 #[pt p,x_15,x_16] w6 λx_17 w9=>Ex x_17 0 λx_18=>Ex x_17 1 λx_19=>StA 3 (pt q) x_18 w9 λw10=>LdA 3 (pt q) w10 λx_20=>K (.tuple #[x_20,x_19]) w10:=by
  intro y w6 hy1 hy2 hq4 hty S6 H6;refine r_ldA 0 H6 (Fpc y) rfl rfl rfl ?_;rw[hty];refine q_len ?_
  have H7:Holds w6 (SpL p bd sm pk room body tx (nxR x d) (blk rb tPc (Fpc y)::blk q tSb Zsb::L)):=by
   have h_:=Holds.ord 6 [3,4,5,1,0,2] H6 rfl;exact h_
  have hpp:=Zek hy1;have hp5:=(Zdj y).2;refine Zi7 hR H7 ⟨hy1,hy2⟩ (by omega) (by omega) hr.1 (λhf bd' w7 S7 H8=>?_) λhf bd' w7 S7 H8=>?_
  ·refine Za3 (Za4 ?_);refine r_stA 5 H8 (vs:=Zsb) rfl (Nat.le_refl 3) rfl rfl λw8 S8 H9=>?_;refine r_ldA 5 H9 Zsb rfl rfl rfl ?_;refine k1 w8 (S6.trans (S7.trans S8)) (Zch (x:=nxR x d) ⟨by simp only[gD];omega,by simp only[gD,gP];omega,hnx,by rw[gD];exact ho4.more hq4⟩ (Holds.dropAt (Holds.dropAt H9 4) 4))
  ·refine Za3 (Za4 ?_);refine r_stA 5 H8 (vs:=Fsb (body,tx)) rfl (Nat.le_refl 3) rfl rfl λw8 S8 H9=>?_;refine r_ldA 5 H9 (Fsb (body,tx)) rfl rfl rfl ?_
   have hbne:body≠[]:=λe=>by rw[e,length_nil] at hf;omega
   refine k2 (body,tx) w8 ⟨hbne,ho1⟩ (S6.trans (S7.trans S8)) (Zch (x:=nxR x d) ⟨by omega,by rw[gP];omega,hnx,ho4.shut hq4 hf⟩ (Holds.dropAt (Holds.dropAt H9 4) 4))
 by_cases hc:0 < x.2/\x.1≠d
 ·have e1:toldR x d=pieceB x:=by unfold toldR;rw[if_pos hc]
  have hpp:=Zek hc.1;refine Zfv (r_vfD (by show ¬ (toldR x d).toArray.size=0;rw[e1,List.size_toArray];omega) ?_);refine Zay (λw'=>w5=w') ?_ ?_
  rotate_left
  ·refine r_fo0 (r_ld 1 H5 rfl rfl ?_);refine r_eql (r_vfE (λe=>hc.2 (UInt8.toNat_inj.1 (by omega))) (r_ke rfl))
  rintro _ _ rfl;exact go x w5 hc.1 (by omega) (by have:=piece4 hc.1;unfold nxR;rw[if_pos hc];show 4*(pieceB x).length+5*1+5*c<=5*x.2+5*(c+1);omega) e1 S (by have h_:=Holds.ord 2 [1,0] H5 rfl;exact h_)
 ·by_cases h2:x.2+1=255
  ·have e1:toldR x d=pieceB (d,255):=by unfold toldR;rw[if_neg hc,if_pos h2]
   have hd:x.1=d:=Classical.byContradiction λe=>hc ⟨by omega,e⟩;have hpp:=Zek (x:=(d,255)) (by show 0 < 255;decide);refine Zfv (r_vfD (by show ¬ (toldR x d).toArray.size=0;rw[e1,List.size_toArray];omega) ?_);refine Zay (λw'=>Same w w'/\Holds w' (blk rb tPc (Fpc (d,255))::blk pk tPk (Fpc (nxR x d))::blk q tSb Zsb::blk p tSp (spC bd sm tx.length room pk)::SL bv tB bd body::R3b.SumR sm (crcF 4294967295 tx)::L)) ?_ ?_
   rotate_left
   ·refine r_fo0 (r_ld 1 H5 rfl rfl ?_);refine r_eql (r_vtE (by rw[hd]) ?_);refine r_fo0 (r_ld 1 H5 rfl rfl (Za0 (by omega) (r_fo0 (r_st 1 H5 rfl (by show 1 < 2;decide) rfl λw6 S6 H6=>?_))));refine r_ke ⟨S.trans S6,?_⟩;have h_:=Holds.ord 2 [1,0] H6 rfl
    have e3:[bv x.1,nv (x.2+1)]=Fpc (d,255):=by rw[hd,h2];rfl
    have h3:Holds w6 (blk rb tPc [bv x.1,nv (x.2+1)]::blk pk tPk (Fpc (nxR x d))::blk q tSb Zsb::blk p tSp (spC bd sm tx.length room pk)::SL bv tB bd body::R3b.SumR sm (crcF 4294967295 tx)::L):=h_;rw[e3] at h3;exact h3
   rintro _ w6 ⟨S6,H6⟩;exact go (d,255) w6 (by show 1<=255;decide) (by show 255<=255;decide) (by have:=(Zdj (d,255)).2;unfold nxR;rw[if_neg hc,if_pos h2];show 4*(pieceB (d,255)).length+5*0+5*c<=5*x.2+5*(c+1);omega) e1 S6 H6
  ·have e1:toldR x d=[]:=by unfold toldR;rw[if_neg hc,if_neg h2]
   rw[e1];refine Zfv (r_vtD rfl ?_);refine r_bd (v:=.agg Zsb.toArray) (by kernel_rfl) ?_;refine r_stA 2 H5 (vs:=Zsb) rfl (Nat.le_refl 3) rfl rfl λw6 S6 H6=>?_;refine r_ldA 2 H6 Zsb rfl rfl rfl ?_
   have H7:Holds w6 (SpL p bd sm pk room body tx (nxR x d) (blk rb tPc (Fpc x)::blk q tSb Zsb::L)):=by
    have h_:=Holds.ord 6 [3,4,5,0,1,2] H6 rfl;exact h_
   exact k1 w6 (S.trans S6) (Zch (x:=nxR x d) ⟨ho1,ho2,hnx,ho4.more (pl:=0) (by unfold nxR;rw[if_neg hc,if_neg h2];show 4*0+5*(x.2+1)+5*c<=5*x.2+5*(c+1);omega)⟩ (Holds.dropAt (Holds.dropAt H7 4) 4))
theorem Zpy (hR:RepC){kk c:Nat}(H:Holds w (SpR p room kk c::L)) (hr:5<=room/\room<=3000)
  (k:∀ v rs kk' w',rs.length<=2->kk+rs.length<=kk'+1->(∀ b∈rs,BlOk room b)->Same w w'->Holds w' (RW Fsb 3 tSb v rs::SpR p room kk' c::L)->K v w') :
  Cl prog 92 #[pt p] w K:=by
 refine Tz92 ?_;unfold Vz92;obtain⟨bd,sm,pk,body,tx,x,ho,H⟩:=Zjn H;obtain⟨ho1,ho2,ho3,ho4⟩:=ho;refine Za6 (r_vf (r_nc (r_fo0 (r_ld 0 H rfl rfl ?_))));refine Zia (by have h_:=Holds.ord 4 [3,0,1,2] H rfl;exact h_) λw2 S2 H2=>?_;refine r_new H2 λrb w3 S3 H3=>?_;rw[Znw] at H3;refine r_stA 0 H3 (vs:=Fpc x) rfl (Nat.le_refl 2) rfl rfl λw4 S4 H4=>?_;replace H4:Holds w4 (blk rb tPc (Fpc x)::blk pk tPk (Fpc x)::blk p tSp (spC bd sm tx.length room pk)::SL bv tB bd body::R3b.SumR sm (crcF 4294967295 tx)::L):=H4;have S:=S2.trans (S3.trans S4);clear S2 S3 S4 H H2 H3;refine Za1 (λv w'=>∃ (bd':Value) (body' tx':List UInt8) (rs:List Bl),SpOk room body' tx' (0,0) (kk+rs.length) c/\rs.length<=1/\(∀ b∈rs,BlOk room b)/\Same w w'/\Holds w' (SpL p bd' sm pk room body' tx' (0,0) (RW Fsb 3 tSb v rs::L))) ?_ ?_
 rotate_left
 ·refine r_nc (r_fo0 (r_ld 2 H4 rfl rfl ?_));refine Zqb hR (by have h_:=Holds.ord 2 [1,0] H4 rfl;exact h_) (by omega) λw5 S5 H5=>?_;replace S:=S.trans S5
  by_cases h0:x.2=0
  ·rw[if_pos h0];refine Zor (r_vfD (λh=>h rfl) ?_);refine r_ke ⟨bd,body,tx,[],⟨ho1,ho2,by decide,ho4.more (pl:=0) (by omega)⟩,by decide,(λb hb=>by cases hb),S,?_⟩
   have H6:Holds w5 (SpL p bd sm pk room body tx (0,0) (blk rb tPc (Fpc x)::L)):=by
    have h_:=Holds.ord 5 [2,3,4,0,1] H5 rfl;exact h_
   have h_:=Holds.ord 6 [1,2,3,4,0] (H6.nilRW Fsb 3 tSb) rfl;exact h_
  ·rw[if_neg h0];have hpp:=Zek (x:=x) (by omega);have hp5:=(Zdj x).2
   have hq4:4*(pieceB x).length+5*0+5*c<=5*x.2+5*c:=by
    have:=piece4 (y:=x) (by omega);omega
   refine Zor (r_vtD (by show ¬ (pieceB x).toArray.size=0;rw[List.size_toArray];omega) ?_);refine r_ldA 1 H5 (Fpc x) rfl rfl rfl ?_;refine q_len ?_
   have H6:Holds w5 (SpL p bd sm pk room body tx (0,0) (blk rb tPc (Fpc x)::L)):=by
    have h_:=Holds.ord 5 [2,3,4,0,1] H5 rfl;exact h_
   refine Zi7 hR H6 ⟨by omega,by omega⟩ (by omega) (by omega) hr.1 (λhf bd' w6 S6 H7=>?_) λhf bd' w6 S6 H7=>?_
   ·refine Za3 (Za4 ?_);refine r_new H7 λnb w7 S7 H8=>?_;rw[Zbd] at H8;refine r_stA 0 H8 (vs:=Zsb) rfl (Nat.le_refl 3) rfl rfl λw8 S8 H9=>?_;refine r_vf ?_;refine r_ke ⟨bd',body++pieceB x,tx++List.replicate x.2 x.1,[],⟨by simp only[gD];omega,by simp only[gD,gP];omega,by decide,by rw[gD];exact ho4.more hq4⟩,by decide,(λb hb=>by cases hb),S.trans (S6.trans (S7.trans S8)),?_⟩;have h_:=Holds.ord 7 [2,3,4,5,0] (H9.nilRW Fsb 3 tSb) rfl;exact h_
   ·have hbne:body≠[]:=λe=>by rw[e,length_nil] at hf;omega
    refine Za3 (Za4 ?_);refine r_new H7 λnb w7 S7 H8=>?_;rw[Zbd] at H8;refine r_stA 0 H8 (vs:=Fsb (body,tx)) rfl (Nat.le_refl 3) rfl rfl λw8 S8 H9=>?_;refine r_vt ?_;refine r_ldA 0 H9 (Fsb (body,tx)) rfl rfl rfl ?_;refine Zy2 (H9.nilRW Fsb 3 tSb) 0 ((body,tx):Bl) rfl (by kernel_rfl) (λy=>rfl) Zoc (by decide) (by decide) λv' w9 S9 Ha=>?_;refine r_ke ⟨bd',pieceB x,List.replicate x.2 x.1,[(body,tx)],⟨by omega,by rw[gP];omega,by decide,ho4.shut hq4 hf⟩,Nat.le_refl 1,(λb hb=>by rw[List.mem_singleton.1 hb];exact⟨hbne,ho1⟩),S.trans (S6.trans (S7.trans (S8.trans S9))),?_⟩;have h_:=Holds.ord 7 [2,3,4,5,0] Ha rfl;exact h_
 clear H4 S;rintro _ v w5 ⟨bd',body',tx',rs,ho',hl,hrs,S,H5⟩;refine r_nc (r_fo0 ?_)
 by_cases hb0:body'=[]
 ·subst hb0;refine Zmd H5 λw6 S6 H6=>?_;refine Za3 (Za4 ?_);refine r_new H6 λnb w7 S7 H7=>?_;rw[Zbd] at H7;refine r_stA 0 H7 (vs:=Zsb) rfl (Nat.le_refl 3) rfl rfl λw8 S8 H8=>?_;refine r_vf ?_;refine k v rs (kk+rs.length) w8 (by omega) (by omega) hrs (S.trans (S6.trans (S7.trans S8))) ?_;have h_:=Holds.ord 6 [1,2,3,4,5] H8 rfl;exact (Zch (x:=(0,0)) ho' h_).swap
 ·refine Zgu hb0 H5 λw6 S6 H6=>?_;refine Za3 (Za4 ?_);refine r_new H6 λnb w7 S7 H7=>?_;rw[Zbd] at H7;refine r_stA 0 H7 (vs:=Fsb (body',tx')) rfl (Nat.le_refl 3) rfl rfl λw8 S8 H8=>?_;refine r_vt ?_;refine r_ldA 0 H8 (Fsb (body',tx')) rfl rfl rfl ?_;refine Zy2 H8 5 ((body',tx'):Bl) rfl (by kernel_rfl) (λy=>rfl) Zoc (by omega) (by decide) λv' w9 S9 Ha=>?_;refine k v' (rs++[(body',tx')]) (kk+rs.length) w9 (by rw[gD,gQ];omega) (by rw[gD,gQ];omega) (λb hb=>?_) (S.trans (S6.trans (S7.trans (S8.trans S9)))) ?_
  ·rcases hT_.1 hb with hb|hb
   ·exact hrs b hb
   ·rw[List.mem_singleton.1 hb];exact⟨hb0,ho'.1⟩
  ·have h_:=Holds.ord 6 [1,2,3,4,5] Ha rfl;exact (Zch (x:=(0,0)) ⟨hE _,hE _,by decide,by obtain⟨P,q1,q2⟩:=ho'.2.2.2;exact⟨P,by show _+0<=_;omega,q2⟩⟩ h_).swap
end P20
namespace K24
open Go.M01 Go.Mb Go.Mk Go.M02 Go.M03 Go.Q24 P20
variable {w:World}{L:List HProp}{K:KT}{b:Nat}
theorem Zf4 {b b':BS}{k n:Nat}(h:bend b k=.ok b' n) (hb:b.done=false) (hd:b'.done=true):b'.frm < b'.last.length:=by
 unfold bend at h;split at h
 ·cases h;rw[hb] at hd;cases hd
 ·split at h
  ·cases h;rw[hb] at hd;cases hd
  ·split at h
   ·cases h
   ·cases h;show b.frm < b.last.length;omega
theorem Zu1 {b b':BS}{l:List Bool}{n:Nat}(h:bstep b l=.ok b' n) (hb:b.done=false) (hd:b'.done=true):b'.frm < b'.last.length:=by
 unfold bstep at h;split at h
 ·unfold bhead at h;split at h
  ·cases h
  ·split at h
   ·cases h
   ·exact Zf4 h hb hd
 ·split at h
  ·unfold buse at h;split at h
   ·cases h
   ·cases h
   ·exact Zf4 h hb hd
  ·split at h
   ·exact Zf4 h hb hd
   ·unfold bsym at h;split at h
    ·cases h
    ·cases h
    ·exact Zf4 h hb hd
    ·unfold btold at h;split at h
     ·cases h
     ·exact Zf4 h hb hd
theorem Zlg {u u':US}{l:List Bool}{n:Nat}(hu:u.Ok) (h:ustep u l=.ok (u',1) n):u'.frm < u'.last.length:=by
 unfold ustep at h;split at h
 ·unfold uletter at h
  repeat' split at h
  all_goals cases h
 ·split at h
  ·unfold umagic at h
   repeat' split at h
   all_goals cases h
  ·split at h
   ·unfold ubody at h;split at h
    ·cases h
    ·rename_i s hs;have hsd:=(hu.blk s hs).2.2.1;unfold uwith at h;split at h
     ·cases h
     ·cases h
     ·rename_i s' k hb;split at h
      ·rename_i hd;cases h;exact Zu1 hb hsd hd
      ·cases h
   ·unfold usum at h
    repeat' split at h
    all_goals cases h
abbrev tX:Nat:=88
abbrev tOp:Nat:=293
abbrev tUn:Nat:=307
structure Opn where
 last:List UInt8
 org:Nat
 sum:Nat
 s:Nat
 row:UInt8 × Nat
 cs:Nat
structure Opn.Ok (o:Opn):Prop where
 og:o.org < o.last.length
 ln:o.last.length<=900000
 sm:o.sum < 4294967296
 st:o.s<=3*o.last.length
 rw:o.row.2<=4
def OpL (q:Nat) (o:Opn) (ib pb sb:Nat):List HProp:=[blk q tOp [S_ o.last,nv o.org,uv o.sum,pt ib,pt pb,pt sb],U18.InvR ib ⟨o.last.toArray⟩ o.org o.s (o.s - 2*o.last.length),blk pb tUn (Fpc o.row),R3b.SumR sb o.cs]
def OpR (q:Nat) (o:Opn):HProp:=λh=>∃ ib pb sb,o.Ok/\Sat (OpL q o ib pb sb) h
theorem Zvk {q:Nat}{o:Opn}(H:Holds w (OpR q o::L)):∃ ib pb sb,o.Ok/\Holds w (OpL q o ib pb sb++L):=by
 obtain⟨ib,H⟩:=Holds.ex H;obtain⟨pb,H⟩:=Holds.ex H;obtain⟨sb,H⟩:=Holds.ex H;obtain⟨h,H⟩:=Holds.pure H;exact⟨ib,pb,sb,h,Holds.unpack H⟩
theorem Zm3 {q ib pb sb:Nat}{o:Opn}(h:o.Ok) (H:Holds w (OpL q o ib pb sb++L)):Holds w (OpR q o::L):=
 Holds.imp (Holds.pack H) λg hg=>⟨ib,pb,sb,h,hg⟩
theorem szb (l:List UInt8):(⟨l.toArray⟩:ByteArray).size=l.length:=by simp[ByteArray.size]
theorem Zmh {l:List UInt8}{r:List Value}(H:Holds w (blk b Rb.tR (S_ l::r)::L)) (k:K (nv l.length) w):Cl prog 239 #[pt b] w K:=by
 refine Tz239 ?_;unfold Vz239;exact Za6 (r_vf (r_nc (r_fo0 (r_ld 0 H rfl rfl (q_len k)))))
theorem Zip {x:UInt8 × Nat}(H:Holds w (blk b tUn (Fpc x)::L)) (k:K (.bool (decide (x.2=4))) w):Cl prog 261 #[pt b] w K:=by
 refine Tz261 ?_;unfold Vz261;refine Zao (r_vt (r_nc (r_fo0 (r_fo0 (r_ld 0 H rfl rfl (r_eql ?_))))));rw[show (((x.2:Nat):Int)==4)=decide (x.2=4) from by rw[Bool.eq_iff_iff,beq_iff_eq,decide_eq_true_iff];omega];exact k
theorem Zr2 {x:UInt8 × Nat}{c:UInt8}(H:Holds w (blk b tUn (Fpc x)::L)) (hx:x.2<=4)
  (k:∀ (t:List UInt8) (e:Int) y w',t.length<=251->y.2<=4->Same w w'->Holds w' (blk b tUn (Fpc y)::L)->K (.tuple #[S_ t,iv e]) w'):Cl prog 253 #[pt b,bv c] w K:=by
 refine Tz253 ?_;unfold Vz253;refine Za6 (r_vf ?_);refine Zip H (r_ifD (λh4=>?_) λh4=>?_)
 ·refine r_gtr (r_ifD (λh=>?_) λh=>?_)
  ·exact k [] 25 x w (hE _) hx (.refl _) H
  ·have hc:c.toNat<=251:=by omega
   refine r_nc (r_fo0 (r_fo0 (r_ld 0 H rfl rfl ?_)));refine q_str H x.1 λw2 S2 H2=>?_;refine Zde (by omega) (by omega) ?_;refine P20.Zpm (n:=c.toNat) H2 (by omega) λw3 S3 H3=>?_;refine r_bd (v:=.agg #[.int .u8 0,iv 0]) (by kernel_rfl) ?_;refine r_nc (r_fo0 ?_);refine r_stA 0 H3 (vs:=[.int .u8 0,iv 0]) rfl (Nat.le_refl 2) rfl rfl λw4 S4 H4=>?_;exact k (List.replicate c.toNat x.1) 0 (0,0) w4 (by rw[gP];exact hc) (by decide) (S2.trans (S3.trans S4)) H4
 ·refine Za1 (λy w'=>w=w'/\∃ d:Bool,y=.bool d) ?_ ?_
  ·rintro _ _ _ ⟨rfl,d,rfl⟩
   cases d with
   |true=>
    refine r_vt (r_nc (r_fo0 (r_fo0 (r_ld 0 H rfl rfl (Za0 (by omega) ?_)))));refine r_nc (r_fo0 (r_fo0 (r_st 0 H rfl (by simp[Fpc]) rfl λw2 S2 H2=>?_)));replace H2:Holds w2 (blk b tUn (Fpc (x.1,x.2+1))::L):=H2;refine q_str H2 c λw3 S3 H3=>?_;exact k [c] 0 (x.1,x.2+1) w3 (by simp) (by show x.2+1<=4;omega) (S2.trans S3) H3
   |false=>
    refine r_vf ?_;refine r_bd (v:=.agg #[bv c,iv 1]) (by kernel_rfl) ?_;refine r_nc (r_fo0 ?_);refine r_stA 0 H (vs:=[bv c,iv 1]) rfl (Nat.le_refl 2) rfl rfl λw2 S2 H2=>?_;replace H2:Holds w2 (blk b tUn (Fpc (c,1))::L):=H2;refine q_str H2 c λw3 S3 H3=>?_;exact k [c] 0 (c,1) w3 (by simp) (by show 1<=4;decide) (S2.trans S3) H3
  ·refine r_nc (r_fo0 (r_fo0 (r_ld 0 H rfl rfl (r_gtr (r_ifD (λh=>?_) λh=>?_)))))
   ·refine r_nc (r_fo0 (r_fo0 (r_ld 0 H rfl rfl (r_eql ?_))));exact r_ke ⟨rfl,_,rfl⟩
   ·exact r_ke ⟨rfl,false,rfl⟩
theorem Zqe {x:UInt8 × Nat}(H:Holds w (blk b tUn (Fpc x)::L)) (hx:x.2<=4)
  (k:∀ (e:Int) y w',y.2<=4->Same w w'->Holds w' (blk b tUn (Fpc y)::L)->K (iv e) w'):Cl prog 262 #[pt b] w K:=by
 refine Tz262 ?_;unfold Vz262;refine Za6 (r_vf ?_);refine Zip H (r_ifD (λh4=>?_) λh4=>?_)
 ·exact k 24 x w hx (.refl _) H
 ·refine r_bd (v:=.agg #[.int .u8 0,iv 0]) (by kernel_rfl) ?_;refine r_nc (r_fo0 ?_);refine r_stA 0 H (vs:=[.int .u8 0,iv 0]) rfl (Nat.le_refl 2) rfl rfl λw4 S4 H4=>?_;exact k 0 (0,0) w4 (by decide) S4 H4
theorem Zqx (H:Holds w L) (k:∀ b w',Same w w'->Holds w' (blk b tUn (Fpc (0,0))::L)->K (pt b) w'):Cl prog 259 #[] w K:=by
 refine Tz259 ?_;unfold Vz259;refine r_bd (v:=.agg #[.int .u8 0,iv 0]) (by kernel_rfl) ?_;refine r_new H λb w2 S2 H2=>?_;exact k b w2 S2 H2
theorem Zki {s:Nat}{t:List UInt8}(H:Holds w (R3b.SumR b s::L)) (ht:t.length<=1000000000) (k:∀ s' w',Same w w'->Holds w' (R3b.SumR b s'::L)->K (.tuple #[]) w'):Cl prog 254 #[pt b,S_ t] w K:=by
 refine Tz254 ?_;unfold Vz254;have hs:(⟨t.toArray⟩:ByteArray).size=t.length:=szb t
 repeat (refine r_lns ?_)
 rw[hs];refine Za7 (λx w'=>∃ (i s':Nat),i<=t.length/\x=nv i/\Same w w'/\Holds w' (R3b.SumR b s'::L)) (λx _=>t.length - (intOf x).toNat) ⟨0,s,by omega,rfl,.refl _,H⟩ ?_;clear H;rintro _ _ w2 ⟨i,s',hi,rfl,S,H⟩
 repeat (refine r_lss ?_)
 refine r_ifD (λh=>?_) λh=>?_
 ·have hlt:i < t.length:=by omega
  repeat (refine Zcb (by omega) ?_)
  refine R3b.Put_spec (c:=t.getD i 0) H λw3 S3 H3=>?_
  repeat (first|refine r_ke ?_|(refine Za0 (by omega) ?_))
  refine⟨⟨i+1,_,by omega,rfl,S.trans S3,H3⟩,?_⟩;simp[nv,intOf];omega
 ·exact k s' w2 S H
theorem Zj5 {s:Nat}(H:Holds w (R3b.SumR b s::L)) (k:∀ v,K (.int .u32 v) w):Cl prog 115 #[pt b] w K:=by
 refine Tz115 ?_;unfold Vz115;obtain⟨hs,H⟩:=R3b.Zev H;refine Za6 (r_vf (r_nc (r_fo0 (r_ld 0 H rfl R3b.sm256 ?_))));exact Zpt hs (k _)
theorem Zm8 {q ib pb sb:Nat}{o:Opn}(H:Holds w (OpL q o ib pb sb++L)) (ho:o.Ok)
  (k:∀ (e:Int) y w',y.2<=4->Same w w'->Holds w' (OpL q { o with row:=y } ib pb sb++L)->K (iv e) w'):Cl prog 255 #[pt q] w K:=by
 refine Tz255 ?_;unfold Vz255;have hl:=ho.ln;have hsz:=szb o.last;refine r_nc (r_fo0 (r_ld 0 H rfl rfl ?_));refine U18.Done_spec (by have h_:=Holds.front H 1 rfl;exact h_) (by rw[hsz];omega) λw2 S2 H2=>?_
 have H3:Holds w2 (OpL q o ib pb sb++L):=by have h_:=Holds.ord 4 [1,0,2,3] H2 rfl;exact h_
 refine r_not ?_
 cases hc:((o.s:Int)==3*(((⟨o.last.toArray⟩:ByteArray).size:Nat):Int)) with
 |false=>exact r_vt (k 0 o.row w2 ho.rw S2 H3)
 |true=>
  refine r_vf (r_nc (r_fo0 (r_ld 0 H3 rfl rfl ?_)));refine Zqe (by have h_:=Holds.front H3 2 rfl;exact h_) ho.rw λe y w4 hy S4 H4=>?_
  have H5:Holds w4 (OpL q { o with row:=y } ib pb sb++L):=by have h_:=Holds.ord 4 [1,2,0,3] H4 rfl;exact h_
  refine r_neq ?_
  cases hc2:(e != 0) with
  |true=>exact r_vt (k 25 y w4 hy (S2.trans S4) H5)
  |false=>
   refine r_vf (r_dr H5 λw5 S5 H6=>?_);refine r_nc (r_fo0 (r_ld 0 H6 rfl rfl ?_));refine Zj5 (by have h_:=Holds.front H6 3 rfl;exact h_) λv=>?_;refine r_nc (r_fo0 (r_fo0 (r_ld 0 H6 rfl rfl ?_)));refine r_rk (r_ld 0 H6 rfl rfl rfl) ?_;refine r_neq ?_
   cases (v != ((o.sum:Nat):Int)) with
   |true=>exact r_vt (k 21 y w5 hy (S2.trans (S4.trans S5)) H6)
   |false=>exact r_vf (k 0 y w5 hy (S2.trans (S4.trans S5)) H6)
theorem Zlo {q ib pb sb:Nat}{o:Opn}(H:Holds w (OpL q o ib pb sb++L)) (ho:o.Ok) (hs:o.s < 3*o.last.length)
  (k:∀ (t:List UInt8) (e:Int) (o':Opn) w',t.length<=251->o'.Ok->o'.last=o.last->o'.s=o.s+1->Same w w'->Holds w' (OpL q o' ib pb sb++L)->K (.tuple #[S_ t,iv e]) w'):Cl prog 242 #[pt q] w K:=by
 refine Tz242 ?_;unfold Vz242;have hl:=ho.ln;have hg:=ho.og;have hsz:=szb o.last
 have hdl:(⟨o.last.toArray⟩:ByteArray).data.toList=o.last:=by simp
 refine r_nc (r_fo0 (r_ld 0 H rfl rfl ?_));refine U18.Step_spec (budget:=1) (by have h_:=Holds.front H 1 rfl;exact h_) (by rw[hsz];omega) (by rw[hsz];omega) (by rw[hsz];omega) (by rw[hsz];omega) λw2 S2 H2=>?_
 have e1:o.s+min (1:Int).toNat (3*(⟨o.last.toArray⟩:ByteArray).size - o.s)=o.s+1:=by
  rw[hsz];show o.s+min 1 _=_;omega
 rw[e1] at H2
 have H3:Holds w2 (blk q tOp [S_ o.last,nv o.org,uv o.sum,pt ib,pt pb,pt sb]::U18.InvR ib ⟨o.last.toArray⟩ o.org (o.s+1) (o.s - 2*o.last.length)::blk pb tUn (Fpc o.row)::R3b.SumR sb o.cs::L):=by have h_:=Holds.ord 4 [1,0,2,3] H2 rfl;exact h_
 refine r_nc (r_fo0 (r_ld 0 H3 rfl rfl ?_));refine U18.Take_spec (by have h_:=Holds.front H3 1 rfl;exact h_) λw3 S3 H4=>?_;rw[hsz] at H4;have hok:∀ y c,y.2<=4->(⟨o.last,o.org,o.sum,o.s+1,y,c⟩:Opn).Ok:=λy c hy=>⟨hg,hl,ho.sm,hs,hy⟩
 have H5:∀ {w3:World},Holds w3 (U18.InvR ib ⟨o.last.toArray⟩ o.org (o.s+1) (o.s+1 - 2*o.last.length)::blk q tOp [S_ o.last,nv o.org,uv o.sum,pt ib,pt pb,pt sb]::blk pb tUn (Fpc o.row)::R3b.SumR sb o.cs::L)->Holds w3 (OpL q ⟨o.last,o.org,o.sum,o.s+1,o.row,o.cs⟩ ib pb sb++L):=λh=>by
  have h_:=Holds.ord 4 [1,0,2,3] h rfl;exact h_
 replace H5:=H5 H4;generalize hta:(Go.M18.outK _ _ _).drop _=ta;refine Zfv ?_
 by_cases h0:ta=[]
 ·subst h0;refine r_vtD (by show ([]:List UInt8).toArray.size=0;rfl) ?_;exact k [] 0 ⟨o.last,o.org,o.sum,o.s+1,o.row,o.cs⟩ w3 (hE _) (hok _ _ ho.rw) rfl rfl (S2.trans S3) H5
 ·have hpos:=gZ.2 h0;refine r_vfD (by rw[szb];omega) ?_;refine r_dr H5 λw4 S4 H6=>?_;refine r_nc (r_fo0 (r_ld 0 H6 rfl rfl ?_));refine q_ix (m:=0) hpos ?_;refine Zr2 (by have h_:=Holds.front H6 2 rfl;exact h_) ho.rw λt e y w5 ht hy S5 H7=>?_
  have H8:Holds w5 (OpL q ⟨o.last,o.org,o.sum,o.s+1,y,o.cs⟩ ib pb sb++L):=by have h_:=Holds.ord 4 [1,2,0,3] H7 rfl;exact h_
  refine Za3 (Za4 (r_neq ?_))
  cases hc:(e != 0) with
  |true=>exact r_vt (k [] e ⟨o.last,o.org,o.sum,o.s+1,y,o.cs⟩ w5 (hE _) (hok _ _ hy) rfl rfl (S2.trans (S3.trans (S4.trans S5))) H8)
  |false=>
   refine r_vf (r_nc (r_fo0 (r_ld 0 H8 rfl rfl ?_)));refine Zki (by have h_:=Holds.front H8 3 rfl;exact h_) (by omega) λc w6 S6 H9=>?_
   have Ha:Holds w6 (OpL q ⟨o.last,o.org,o.sum,o.s+1,y,c⟩ ib pb sb++L):=by have h_:=Holds.ord 4 [1,2,3,0] H9 rfl;exact h_
   refine Zm8 Ha (hok _ _ hy) λe2 y2 w7 hy2 S7 Hb=>?_;exact k t e2 ⟨o.last,o.org,o.sum,o.s+1,y2,c⟩ w7 ht (hok _ _ hy2) rfl rfl (S2.trans (S3.trans (S4.trans (S5.trans (S6.trans S7))))) Hb
theorem Zhu {last:List UInt8}{org sum:Nat}(H:Holds w L) (h1:org < last.length) (h2:last.length<=900000) (h3:sum < 4294967296)
  (k:∀ q o w',o.last=last->o.s=0->Same w w'->Holds w' (OpR q o::L)->K (pt q) w'):Cl prog 249 #[.agg (B20.gotV last org sum).toArray] w K:=by
 refine Tz249 ?_;unfold Vz249;have hsz:=szb last;refine r_new H λgb w1 S1 H1=>?_;replace H1:Holds w1 (blk gb B20.tGt (B20.gotV last org sum)::L):=H1;refine r_fo0 (r_ld 0 H1 rfl rfl (r_fo0 (r_ld 0 H1 rfl rfl ?_)));refine U18.New_spec H1 (λh=>by omega) (λh=>by omega) (λ_ _ h=>by omega) λog ib w2 ho hlt _ S2 H2=>?_
 obtain rfl:og=org:=by omega
 refine Za3 (Za4 (r_dr H2 λw3 S3 H3=>?_));refine r_ldA 1 H3 (B20.gotV last og sum) rfl rfl rfl ?_;refine Zqx H3 λpb w4 S4 H4=>?_;refine r_rk (r_ldA 2 H4 (B20.gotV last og sum) rfl rfl rfl rfl) ?_;refine R3b.New_spec H4 λsb w5 S5 H5=>?_;refine r_rk (r_ldA 3 H5 (B20.gotV last og sum) rfl rfl rfl rfl) ?_;refine r_bd (v:=.agg #[S_ last,nv og,uv sum,pt ib,pt pb,pt sb]) (by kernel_rfl) ?_;refine r_new H5 λq w6 S6 H6=>?_;refine k q ⟨last,og,sum,0,(0,0),4294967295⟩ w6 rfl rfl (S1.trans (S2.trans (S3.trans (S4.trans (S5.trans S6))))) (Zm3 (ib:=ib) (pb:=pb) (sb:=sb) ⟨h1,h2,h3,hE _,hE _⟩ ?_);have h_:=Holds.ord 5 [0,3,2,1] H6 rfl;rw[show (OpL q ⟨last,og,sum,0,(0,0),4294967295⟩ ib pb sb)=[blk q tOp [S_ last,nv og,uv sum,pt ib,pt pb,pt sb],U18.InvR ib ⟨last.toArray⟩ og 0 (0 - 2*last.length),blk pb tUn (Fpc (0,0)),R3b.SumR sb 4294967295] from rfl,Nat.zero_sub];exact h_
end K24
end Go.Proofs.YtpmjeiliblgajaaGreatDoor
