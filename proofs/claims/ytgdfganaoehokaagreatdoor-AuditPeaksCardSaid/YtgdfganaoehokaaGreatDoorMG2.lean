/- Several texts in one: E9, EA, EB, Mp, Gk, Gm, Gz, So, S40, S41, U38, Fr, Pr, Co, Ga, Gp, Gq, Gc, Gn, Lg. -/
import Derived.Test.YtgdfganaoehokaaGreatDoorMG1
import Derived.Test.YtgdfganaoehokaaGreatDoorMG0
set_option linter.unusedVariables false
set_option linter.unusedSimpArgs false
open Go.RowKit (intOf)
open List (mem_of_getElem? set_set)
namespace Go.Ev
open Go Go.Vc
noncomputable section
variable {P:Program}{base:Bs}{w0:World}{σ:Sg}{s:St}{w w':World}{ρ:T X}{r:Env}{n:Nat}
def xreg (P:Program) (n:Nat) (call:FuncId->List X->St->Option (X × St)) (ops:Array Oper) (draw:Bool) (ρ:T X) (s:St):Option (T X × St):=match draw with
 |false=>xops P false call n ops.toList ops.toList 0 ρ s
 |true=>(match Region.lexB .any ops,allStill ops.toList with
  |true,true=>xops P true call n ops.toList ops.toList 0 ρ s
  |_,_=>(match stagedB ops ops.toList (msOf ops.toList []) ops.toList 0 with
   |true=>xst P call n ops.toList (befM (msOf ops.toList [])) ops.toList 0 [] [] ρ s
   |false=>xtr P call n ops ρ s))
theorem Zvc {call:FuncId->List X->St->Option (X × St)}(hcall:∀ base w0,CallOk P base w0 call){ops:Array Oper}{draw:Bool}(h:Wo P base w0 σ s w) (hE:EnvR σ ρ r){ρ':T X}{s':St}(hx:xreg P n call ops draw ρ s=some (ρ',s')){K:Env->World->Prop}
  (hK:FinE P base w0 σ ρ' s' K):∃ hh,vcReg P n ops draw hh r w K:=by
 unfold xreg at hx
 cases draw with
 |false=>exact⟨.text,Zle (hcall _ _) false _ _ h hE hx hK⟩
 |true=>
  simp only at hx
  have stg:(match stagedB ops ops.toList (msOf ops.toList []) ops.toList 0 with
   |true=>xst P call n ops.toList (befM (msOf ops.toList [])) ops.toList 0 [] [] ρ s
   |false=>xtr P call n ops ρ s)=some (ρ',s')->∃ hh,vcReg P n ops true hh r w K:=by
   intro hx
   cases hs:stagedB ops ops.toList (msOf ops.toList []) ops.toList 0 with
   |false=>
    rw[hs] at hx;replace hx:xtr P call n ops ρ s=some (ρ',s'):=hx;unfold xtr xtr0 xtr1 at hx
    cases ht:treeB ops ops.toList (msOf ops.toList []) (mkT ops.toList (msOf ops.toList []) (ops.toList.length+1) 0) with
    |false=>rw[ht] at hx;cases hx
    |true=>
     rw[ht] at hx;refine⟨.tree (msOf ops.toList []) (mkT ops.toList (msOf ops.toList []) (ops.toList.length+1) 0),?_⟩;simp only[vcReg,ht];exact Zvb hcall h.drew hE hx hK
   |true=>
    rw[hs] at hx;refine⟨.staged (msOf ops.toList []),?_⟩;simp only[vcReg,hs];exact Zj1 (hcall _ _) _ _ (pend:=[]) (past:=[]) (pend':=[]) (past':=[]) h.drew hE trivial trivial hx hK
  cases h1:Region.lexB .any ops with
  |false=>rw[h1] at hx;exact stg hx
  |true=>
   cases h2:allStill ops.toList with
   |false=>rw[h1,h2] at hx;exact stg hx
   |true=>
    rw[h1,h2] at hx;refine⟨.still,?_⟩;simp only[vcReg,h1,h2];exact Zle (hcall _ _) true _ _ h.drew hE hx hK
def LR (P:Program) (c:Code) (Q:Exit->Act->World->Prop):Nat->Act->World->Prop
 |0,_,_=>False
 |k+1,a,w=>c.wp P (Exit.then (LR P c Q k) Q) a w
theorem least_of {p:Nat->Prop}:∀ n,p n->∃ m,p m/\∀ k,k < m->¬ p k:=by
 intro n
 induction n using Nat.strongRecOn with
 |_ n ih=>
  intro hn
  by_cases h:∃ k,k < n/\p k
  ·obtain⟨k,hk,hp⟩:=h;exact ih k hk hp
  ·exact⟨n,hn,λk hk hp=>h ⟨k,hk,hp⟩⟩
theorem Zri {c:Code}{Q:Exit->Act->World->Prop}{k:Nat}{a:Act}(h:LR P c Q k a w):(Code.loop c).wp P Q a w:=by
 classical
 have key:∀ a w,(∃ k,LR P c Q k a w)->∃ m,LR P c Q m a w/\∀ k,k < m->¬ LR P c Q k a w:=λa w ⟨k,hk⟩=>least_of k hk;refine wp_loop (λa w=>∃ k,LR P c Q k a w) (λa w=>if h:∃ k,LR P c Q k a w then Classical.choose (key a w h) else 0) ⟨k,h⟩ ?_;intro a1 w1 h1;obtain⟨hm,hmin⟩:=Classical.choose_spec (key a1 w1 h1);rw[dif_pos h1];generalize Classical.choose (key a1 w1 h1)=m at hm hmin
 cases m with
 |zero=>exact hm.elim
 |succ m=>
  refine wp_mono hm λe a2 w2 h2=>?_
  cases e with
  |normal=>
   refine⟨⟨m,h2⟩,?_⟩;have h3:∃ k,LR P c Q k a2 w2:=⟨m,h2⟩;rw[dif_pos h3];obtain⟨_,g2⟩:=Classical.choose_spec (key a2 w2 h3);rcases hU_ m (Classical.choose (key a2 w2 h3)) with h4|h4
   ·exact absurd h2 (g2 m h4)
   ·omega
  |_=>exact h2
abbrev Run:=Nat->Code->T X->St->Option (Exit × T X × St)
def argX (d:Nat):List X->Nat->T X->T X
 |[],_,ρ=>ρ
 |x::l,i,ρ=>argX d l (i+1) (T.set d ρ i i x)
theorem Zlw {d:Nat}:∀ (xs:List X) (i:Nat) (ρ:T X) (t:Nat) (x:X),(argX d xs i ρ).get t t=some x->(i<=t/\xs[t - i]?=some x)\/ρ.get t t=some x
 |[],i,ρ,t,x,h=>.inr h
 |y::l,i,ρ,t,x,h=>by
  rcases Zlw l (i+1) _ t x h with⟨h1,h2⟩|h1
  ·refine .inl ⟨by omega,?_⟩;rw[show t - i=(t - (i+1))+1 by omega,gF];exact h2
  ·rcases T.get_set d ρ i i y t t x (λe=>e) h1 with⟨rfl,rfl⟩|⟨_,h2⟩
   ·exact .inl ⟨Nat.le_refl _,by simp⟩
   ·exact .inr h2
theorem Ztp {d:Nat}{xs:List X}{vs:List Value}(h:vls σ xs=some vs):EnvR σ (argX d xs 0 .e) ⟨args0 vs 0,λ_=>undef⟩:=by
 intro t x ht;rcases Zlw xs 0 .e t x ht with⟨_,h2⟩|h2
 ·obtain⟨v,g1,g2⟩:=Zdg h h2;rw[g2];unfold Env.get;simp only[Zd4,Nat.zero_le,if_true,g1]
 ·cases h2
def xres (P:Program) (ρ:T X) (s:St):List ResultVar->List X->Option X
 |[],[x]=>some x
 |[],xs=>some (.t xs.reverse)
 |.tmp t::l,xs=>(match ρ.get t t with
  |some x=>xres P ρ s l (x::xs)
  |none=>none)
 | .cell x t :: l, xs => (match xval P ρ s ⟨none, .load t (.tmp x), t, "", #[], none⟩ with
  |some y=>xres P ρ s l (y::xs)
  |none=>none)
theorem Zuc {xs:List X}{vs:List Value}(h:vls σ xs=some vs):vls σ xs.reverse=some vs.reverse:=by
 induction xs generalizing vs with
 |nil=>simp only[vls,Option.some.injEq] at h;subst h;rfl
 |cons x l ih=>
  obtain⟨v,us,h1,h2,rfl⟩:=Za4 h;rw[List.reverse_cons,List.reverse_cons];exact Zeb (ih h2) (Zb9 h1 rfl)
theorem Zkd (hM:Mem P base σ s w) (hE:EnvR σ ρ r):∀ {rs:List ResultVar}{xs:List X}{vs:List Value}{x:X}{R:KT},xres P ρ s rs xs=some x->vls σ xs=some vs->(∀ v,vl σ x=some v->R v w)->ResK P r w R rs vs
 |[],[],vs,x,R,h,hv,hR=>by
  simp only[vls,Option.some.injEq] at hv;subst hv;simp only[xres,Option.some.injEq] at h;subst h;exact hR _ rfl
 |[],[y],vs,x,R,h,hv,hR=>by
  obtain⟨v,us,h1,h2,rfl⟩:=Za4 hv;simp only[vls,Option.some.injEq] at h2;subst h2;simp only[xres,Option.some.injEq] at h;subst h;exact hR _ h1
 |[],y::z::l,vs,x,R,h,hv,hR=>by
  have hr:=Zuc hv;obtain⟨v,us,h1,h2,rfl⟩:=Za4 hv;obtain⟨v2,us2,h3,h4,rfl⟩:=Za4 h2;simp only[xres,Option.some.injEq] at h;subst h;exact hR _ (by simp only[vl,hr])
 |.tmp t::l,xs,vs,x,R,h,hv,hR=>by
  simp only[xres] at h
  cases hx:ρ.get t t with
  |none=>rw[hx] at h;cases h
  |some y=>
   rw[hx] at h;replace h:xres P ρ s l (y::xs)=some x:=h;show ResK P r w R l (r.get t::vs);exact Zkd hM hE h (Zb9 (hE t y hx) hv) hR
 |.cell q t::l,xs,vs,x,R,h,hv,hR=>by
  simp only[xres] at h
  cases hx : xval P ρ s ⟨none, .load t (.tmp q), t, "", #[], none⟩ with
  |none=>rw[hx] at h;cases h
  |some y=>
   rw[hx] at h;replace h:xres P ρ s l (y::xs)=some x:=h;exact Zcg hM hE hx true λv hvv=>Zkd hM hE h (Zb9 hvv hv) hR
def eqPs:List (X × X)->List (X × X)->Bool
 |[],[]=>true
 |x::a,y::c=>match eqX x.1 y.1 with
  |true=>(match eqX x.2 y.2 with
   |true=>eqPs a c
   |false=>false)
  |false=>false
 |_,_=>false
theorem Zqm:∀ (x y:List (X × X)),eqPs x y=true->x=y
 |[],y,h=>by cases y <;> simp[eqPs] at h;rfl
 |(x1,x2)::a,y,h=>by
  cases y with
  |nil=>simp[eqPs] at h
  |cons z c=>
   obtain⟨z1,z2⟩:=z;simp only[eqPs] at h;split at h
   ·rename_i h1;split at h
    ·rename_i h2;rw[Zex _ _ h1,Zex _ _ h2,Zqm a c h]
    ·cases h
   ·cases h
def eqB:Option (Option Blk)->Blk->Bool
 |some (some c),d=>(match Nat.beq c.1 d.1 with
  |true=>eqXs c.2 d.2
  |false=>false)
 |_,_=>false
theorem Zw4 {o:Option (Option Blk)}{d:Blk}(h:eqB o d=true):o=some (some d):=by
 unfold eqB at h;split at h
 ·rename_i c;obtain⟨c1,c2⟩:=c;obtain⟨d1,d2⟩:=d;simp only at h;split at h
  ·rename_i h1;have:=Nat.eq_of_beq_eq_true h1;subst this;rw[Zcc _ _ h]
  ·cases h
 ·cases h
def eqM:Option (Option M)->M->Bool
 |some (some (.mp a)),.mp c=>eqPs a c
 |some (some (.it a p)),.it c q=>(match Nat.beq p q with
  |true=>decide (a=c)
  |false=>false)
 |_,_=>false
theorem Zw6 {o:Option (Option M)}{d:M}(h:eqM o d=true):o=some (some d):=by
 unfold eqM at h;split at h
 ·rw[Zqm _ _ h]
 ·split at h
  ·rename_i h1;have:=Nat.eq_of_beq_eq_true h1;subst this;rw[of_decide_eq_true h]
  ·cases h
 ·cases h
def subH (s:T (Option Blk)):T (Option Blk)->Bool
 |.e=>true
 |.lf k v=>(match v with
  |none=>true
  |some c=>eqB (s.get k k) c)
 |.nd a b=>(match subH s a with
  |true=>subH s b
  |false=>false)
theorem Zks {s:T (Option Blk)}:∀ (t:T (Option Blk)),subH s t=true->∀ i q c,t.get i q=some (some c)->s.get q q=some (some c)
 |.e,_,i,q,c,h=>by rw[T.get_e] at h;cases h
 |.lf k v,hs,i,q,c,h=>by
  rw[T.get_lf] at h;split at h
  ·rename_i hb;have:=Nat.eq_of_beq_eq_true hb;subst this;obtain rfl:=Option.some.inj h;exact Zw4 hs
  ·cases h
 |.nd a b,hs,i,q,c,h=>by
  rw[T.get_nd] at h;simp only[subH] at hs;split at hs
  ·rename_i h1;split at h
   ·exact Zks a h1 _ q c h
   ·exact Zks b hs _ q c h
  ·cases hs
def subM (s:T (Option M)):T (Option M)->Bool
 |.e=>true
 |.lf k v=>(match v with
  |none=>true
  |some c=>eqM (s.get k k) c)
 |.nd a b=>(match subM s a with
  |true=>subM s b
  |false=>false)
theorem Zli {s:T (Option M)}:∀ (t:T (Option M)),subM s t=true->∀ i q c,t.get i q=some (some c)->s.get q q=some (some c)
 |.e,_,i,q,c,h=>by rw[T.get_e] at h;cases h
 |.lf k v,hs,i,q,c,h=>by
  rw[T.get_lf] at h;split at h
  ·rename_i hb;have:=Nat.eq_of_beq_eq_true hb;subst this;obtain rfl:=Option.some.inj h;exact Zw6 hs
  ·cases h
 |.nd a b,hs,i,q,c,h=>by
  rw[T.get_nd] at h;simp only[subM] at hs;split at hs
  ·rename_i h1;split at h
   ·exact Zli a h1 _ q c h
   ·exact Zli b hs _ q c h
  ·cases hs
def eqG:List (Nat × List X)->List (Nat × List X)->Bool
 |[],[]=>true
 |x::a,y::c=>match Nat.beq x.1 y.1 with
  |true=>(match eqXs x.2 y.2 with
   |true=>eqG a c
   |false=>false)
  |false=>false
 |_,_=>false
theorem Zt7:∀ (x y:List (Nat × List X)),eqG x y=true->x=y
 |[],y,h=>by cases y <;> simp[eqG] at h;rfl
 |(x1,x2)::a,y,h=>by
  cases y with
  |nil=>simp[eqG] at h
  |cons z c=>
   obtain⟨z1,z2⟩:=z;simp only[eqG] at h;split at h
   ·rename_i h1;split at h
    ·rename_i h2;rw[show x1=z1 from Nat.eq_of_beq_eq_true h1,Zcc _ _ h2,Zt7 a c h]
    ·cases h
   ·cases h
def subS (s q:St):Bool:=match Nat.beq q.k s.k with
 |true=>(match Nat.beq q.n s.n with
  |true=>(match subH s.h q.h with
   |true=>(match subM s.m q.m with
    |true=>(match q.g with
     |[]=>true
     |_::_=>eqG q.g s.g)
    |false=>false)
   |false=>false)
  |false=>false)
 |false=>false
theorem jn_eq {α:Type}{o:Option (Option α)}{c:α}(h:jn o=some c):o=some (some c):=by
 cases o with
 |none=>cases h
 |some o=>
  cases o with
  |none=>cases h
  |some x=>obtain rfl:=Option.some.inj h;rfl
structure Less (s q:St):Prop where
 k:q.k=s.k
 n:q.n=s.n
 b:∀ b c,q.blk b=some c->s.blk b=some c
 m:∀ b c,q.mo b=some c->s.mo b=some c
 g:∀ g xs,lkG q.g g=some xs->lkG s.g g=some xs
theorem Zu4 {s q:St}(hq:subS s q=true):Less s q:=by
 unfold subS at hq;split at hq
 ·rename_i h1;split at hq
  ·rename_i h2;split at hq
   ·rename_i h3;split at hq
    ·rename_i h4;refine⟨Nat.eq_of_beq_eq_true h1,Nat.eq_of_beq_eq_true h2,λb c hc=>?_,λb c hc=>?_,λg xs hx=>?_⟩
     ·show jn (s.h.get b b)=some c;rw[Zks _ h3 b b c (jn_eq hc)];rfl
     ·show jn (s.m.get b b)=some c;rw[Zli _ h4 b b c (jn_eq hc)];rfl
     ·split at hq
      ·rename_i hz;rw[hz] at hx;cases hx
      ·rw[Zt7 _ _ hq] at hx;exact hx
    ·cases hq
   ·cases hq
  ·cases hq
 ·cases hq
theorem Wo.sub {q:St}(l:Less s q) (h:Wo P base w0 σ s w):Wo P base w0 σ q w:=by
 have hf:=h.fresh;refine⟨⟨λb e cs hq=>h.mem.own b e cs (l.b _ _ hq),λb c x y r r' h1 h2=>h.mem.apart b c x y r r' (l.b _ _ h1) (l.b _ _ h2),λb o ho=>h.mem.mown b o (l.m _ _ ho),λb c x y r r' h1 h2=>h.mem.mapart b c x y r r' (l.m _ _ h1) (l.m _ _ h2),λg xs hx=>h.mem.glb g xs (l.g _ _ hx)⟩,?_,h.fram⟩;show FreshN base σ q.n q.k;rw[l.k,l.n];exact hf
def mrg {α:Type}:T α->T α->T α
 |.e,s=>s
 |.lf k v,_=>.lf k v
 |.nd a b,s=>(match s with
  |.nd c d=>.nd (mrg a c) (mrg b d)
  |_=>.nd a b)
theorem Zi1 {α:Type}:∀ (t s:T α) (i q:Nat) (x:α),(mrg t s).get i q=some x->t.get i q=some x\/(t.get i q=none/\s.get i q=some x)
 |.e,s,i,q,x,h=>by
  simp only[mrg] at h;exact .inr ⟨T.get_e _ _,h⟩
 |.lf k v,s,i,q,x,h=>by
  simp only[mrg] at h;exact .inl h
 |.nd a b,s,i,q,x,h=>by
  cases s with
  |nd c d=>
   simp only[mrg] at h;rw[T.get_nd] at h;rw[T.get_nd,T.get_nd];split at h
   ·exact Zi1 a c _ q x h
   ·exact Zi1 b d _ q x h
  |_=>
   simp only[mrg] at h;exact .inl h
def mrgS (s q':St):St:=⟨mrg q'.h s.h,q'.n,q'.k,mrg q'.m s.m,s.g⟩
def domH {α:Type}(t:T α):T α->Bool
 |.e=>true
 |.lf k _=>(match t.get k k with
  |some _=>true
  |none=>false)
 |.nd a b=>(match domH t a with
  |true=>domH t b
  |false=>false)
theorem Zik {α:Type}{t:T α}:∀ (u:T α),domH t u=true->∀ i q x,u.get i q=some x->t.get q q≠none
 |.e,_,i,q,c,h=>by rw[T.get_e] at h;cases h
 |.lf k v,hs,i,q,c,h=>by
  rw[T.get_lf] at h;split at h
  ·rename_i hb;have:=Nat.eq_of_beq_eq_true hb;subst this;simp only[domH] at hs;split at hs
   ·rename_i y hy;rw[hy];exact λh=>by cases h
   ·cases hs
  ·cases h
 |.nd a b,hs,i,q,c,h=>by
  rw[T.get_nd] at h;simp only[domH] at hs;split at hs
  ·rename_i h1;split at h
   ·exact Zik a h1 _ q c h
   ·exact Zik b hs _ q c h
  ·cases hs
def domS (q q':St):Bool:=match domH q'.h q.h with
 |true=>domH q'.m q.m
 |false=>false
def bsF (base:Bs) (σ:Sg) (s q:St):Bs:=⟨λa=>base.pr a\/(∃ b c r,s.blk b=some c/\q.blk b=none/\σ b=some r/\r.1=a)\/(∃ b c r,s.mo b=some c/\q.mo b=none/\σ b=some r/\r.1=a),base.res,base.gp,λa h=>.inl (base.gpr a h)⟩
theorem Wo.part {q:St}(l:Less s q) (h:Wo P base w0 σ s w):Wo P (bsF base σ s q) w σ q w:=by
 have h0:=h.sub l;refine⟨⟨λb e cs hq=>?_,h0.mem.apart,λb o ho=>?_,h0.mem.mapart,h0.mem.glb⟩,⟨h0.fresh.nx,h0.fresh.lt,h0.fresh.ge,h0.fresh.rs⟩,⟨.refl w,λc hc=>?_,λ_ _=>rfl⟩⟩
 ·obtain⟨rb,off,k,pre,vs,sp,post,g⟩:=h0.mem.own b e cs hq;refine⟨rb,off,k,pre,vs,sp,post,⟨g.sg_,g.val,g.pre_,g.sp_,g.heap,?_,g.flat,g.mul_,g.nsp⟩⟩;rintro (hp|⟨c,x,r,h1,h2,h3,h4⟩|⟨c,x,r,h1,h2,h3,h4⟩)
  ·exact g.low hp
  ·have hne:b≠c:=λe=>by subst e;rw[hq] at h2;cases h2
   exact h.mem.apart b c _ _ _ _ (l.b _ _ hq) h1 hne g.sg_ h3 h4.symm
  ·obtain⟨fz,hh,_⟩:=g.heap;exact h.mem.sep h1 ⟨_,_,_,hh⟩ h3 h4
 ·obtain⟨rb,g1,g2,g3⟩:=h0.mem.mown b o ho;refine⟨rb,g1,?_,g3⟩;rintro (hp|⟨c,x,r,h1,h2,h3,h4⟩|⟨c,x,r,h1,h2,h3,h4⟩)
  ·exact g2 hp
  ·obtain⟨e,cs⟩:=x;obtain⟨rb',off',k',pre',vs',sp',post',g'⟩:=h.mem.own c e cs h1;have e1:=g'.sg_;rw[h3] at e1;obtain rfl:=Option.some.inj e1;obtain⟨fz,hh,_⟩:=g'.heap;exact h.mem.sep (l.m _ _ ho) ⟨_,_,_,hh⟩ g1 h4.symm
  ·have hne:b≠c:=λe=>by subst e;rw[ho] at h2;cases h2
   exact h.mem.mapart b c _ _ _ _ (l.m _ _ ho) h1 hne g1 h3 h4.symm
 ·rcases hc with hp|⟨b,x,r,h1,h2,h3,h4⟩|⟨b,x,r,h1,h2,h3,h4⟩
  ·exact h.fram.low c hp
  ·obtain⟨e,cs⟩:=x;obtain⟨rb',off',k',pre',vs',sp',post',g'⟩:=h.mem.own b e cs h1;have e1:=g'.sg_;rw[h3] at e1;obtain rfl:=Option.some.inj e1;rw[<-h4];exact g'.lt
  ·obtain⟨rb',k1,k2,k3⟩:=h.mem.mown b x h1;rw[h3] at k1;obtain rfl:=Option.some.inj k1;rw[<-h4];exact k3.lt
theorem Wo.back {σ':Sg}{q q':St}(l:Less s q) (h:Wo P base w0 σ s w) (hd:domS q q'=true) (hx:Ext σ σ') (g:Wo P (bsF base σ s q) w σ' q' w'):Wo P base w0 σ' (mrgS s q') w':=by
 have hd1:domH q'.h q.h=true/\domH q'.m q.m=true:=by
  unfold domS at hd;split at hd
  ·rename_i h1;exact⟨h1,hd⟩
  ·cases hd
 have hb:∀ b c,(mrgS s q').blk b=some c->q'.blk b=some c\/(s.blk b=some c/\q.blk b=none):=λb c hc=>by
  rcases Zi1 _ _ _ _ _ (jn_eq hc) with h1|⟨h1,h2⟩
  ·left;show jn (q'.h.get b b)=some c;rw[h1];rfl
  ·right;refine⟨by show jn (s.h.get b b)=some c;rw[h2];rfl,?_⟩
   cases hq:q.blk b with
   |none=>rfl
   |some y=>exact absurd h1 (Zik _ hd1.1 b b _ (jn_eq hq))
 have hm:∀ b c,(mrgS s q').mo b=some c->q'.mo b=some c\/(s.mo b=some c/\q.mo b=none):=λb c hc=>by
  rcases Zi1 _ _ _ _ _ (jn_eq hc) with h1|⟨h1,h2⟩
  ·left;show jn (q'.m.get b b)=some c;rw[h1];rfl
  ·right;refine⟨by show jn (s.m.get b b)=some c;rw[h2];rfl,?_⟩
   cases hq:q.mo b with
   |none=>rfl
   |some y=>exact absurd h1 (Zik _ hd1.2 b b _ (jn_eq hq))
 have pb:∀ {b c r},s.blk b=some c->q.blk b=none->σ b=some r->(bsF base σ s q).pr r.1:=λh1 h2 h3=>.inr (.inl ⟨_,_,_,h1,h2,h3,rfl⟩);have pm:∀ {b c r},s.mo b=some c->q.mo b=none->σ b=some r->(bsF base σ s q).pr r.1:=λh1 h2 h3=>.inr (.inr ⟨_,_,_,h1,h2,h3,rfl⟩)
 have kp:∀ {c:Nat} {o:Obj},(bsF base σ s q).pr c->w.heap[c]?=some o->w'.heap[c]?=some o:=λhp ho=>by rw[g.fram.old _ hp];exact ho
 have sb:∀ {b c r},s.blk b=some c->σ' b=some r->σ b=some r:=λ{b c r} h1 h2=>by
  obtain⟨e,cs⟩:=c;obtain⟨_,_,_,_,_,_,_,g'⟩:=h.mem.own b e cs h1;have e1:=hx _ _ g'.sg_;rw[h2] at e1;rw[e1];exact g'.sg_
 have sm:∀ {b c r},s.mo b=some c->σ' b=some r->σ b=some r:=λ{b c r} h1 h2=>by
  obtain⟨_,g',_⟩:=h.mem.mown b c h1;have e1:=hx _ _ g';rw[h2] at e1;rw[e1];exact g'
 have gb:∀ {b c r},q'.blk b=some c->σ' b=some r->¬ (bsF base σ s q).pr r.1:=λ{b c r} h1 h2=>by
  obtain⟨e,cs⟩:=c;obtain⟨_,_,_,_,_,_,_,g'⟩:=g.mem.own b e cs h1;have e1:=g'.sg_;rw[h2] at e1;obtain rfl:=Option.some.inj e1;exact g'.low
 have gm:∀ {b c r},q'.mo b=some c->σ' b=some r->¬ (bsF base σ s q).pr r.1:=λ{b c r} h1 h2=>by
  obtain⟨_,g',g2,_⟩:=g.mem.mown b c h1;rw[h2] at g';obtain rfl:=Option.some.inj g';exact g2
 refine⟨⟨λb e cs hq=>?_,λb c x y r r' h1 h2 hne e1 e2=>?_,λb o ho=>?_,λb c x y r r' h1 h2 hne e1 e2=>?_,λv xs hv=>?_⟩,⟨g.fresh.nx,g.fresh.lt,g.fresh.ge,g.fresh.rs⟩,h.fram.step g.fram λa ha=>.inl ha⟩
 ·rcases hb _ _ hq with h1|⟨h1,h2⟩
  ·obtain⟨rb,off,k,pre,vs,sp,post,g'⟩:=g.mem.own b e cs h1;exact⟨rb,off,k,pre,vs,sp,post,g'.rebase λha=>g'.low (.inl ha)⟩
  ·obtain⟨rb,off,k,pre,vs,sp,post,g'⟩:=h.mem.own b e cs h1;exact⟨rb,off,k,pre,vs,sp,post,(g'.keep λo=>kp (pb h1 h2 g'.sg_)).ext hx⟩
 ·rcases hb _ _ h1 with k1|⟨k1,k2⟩ <;> rcases hb _ _ h2 with j1|⟨j1,j2⟩
  ·exact g.mem.apart b c x y r r' k1 j1 hne e1 e2
  ·exact λhe=>gb k1 e1 (he▸pb j1 j2 (sb j1 e2))
  ·exact λhe=>gb j1 e2 (he▸pb k1 k2 (sb k1 e1))
  ·exact h.mem.apart b c x y r r' k1 j1 hne (sb k1 e1) (sb j1 e2)
 ·rcases hm _ _ ho with h1|⟨h1,h2⟩
  ·obtain⟨rb,k1,k2,k3⟩:=g.mem.mown b o h1;exact⟨rb,k1,λha=>k2 (.inl ha),k3⟩
  ·obtain⟨rb,k1,k2,k3⟩:=h.mem.mown b o h1;exact⟨rb,hx _ _ k1,k2,(k3.keep λo=>kp (pm h1 h2 k1)).ext hx⟩
 ·rcases hm _ _ h1 with k1|⟨k1,k2⟩ <;> rcases hm _ _ h2 with j1|⟨j1,j2⟩
  ·exact g.mem.mapart b c x y r r' k1 j1 hne e1 e2
  ·exact λhe=>gm k1 e1 (he▸pm j1 j2 (sm j1 e2))
  ·exact λhe=>gm j1 e2 (he▸pm k1 k2 (sm k1 e1))
  ·exact h.mem.mapart b c x y r r' k1 j1 hne (sm k1 e1) (sm j1 e2)
 ·exact h.mem.keepG (λc o hp=>kp (.inl hp)) v xs hv
inductive Ent
 |c (f:FuncId) (xs:List X) (x:X)
 |s (f:FuncId) (xs:List X) (q:St) (x:X) (q':St)
def memo:List Ent->FuncId->List X->St->Option (X × St)
 |[],_,_,_=>none
 |.c g ys x::l,f,xs,s=>(match Nat.beq g f with
  |true=>(match eqXs ys xs with
   |true=>some (x,s)
   |false=>memo l f xs s)
  |false=>memo l f xs s)
 |.s g ys q x q'::l,f,xs,s=>(match Nat.beq g f with
  |true=>(match eqXs ys xs with
   |true=>(match subS s q with
    |true=>some (x,mrgS s q')
    |false=>memo l f xs s)
   |false=>memo l f xs s)
  |false=>memo l f xs s)
def nsg:Sg:=λ_=>none
def EntOk (P:Program):Ent->Prop
 |.c f xs x=>isExt P f=false/\∃ vs v,vls nsg xs=some vs/\vl nsg x=some v/\∀ (w:World) (L:List HProp) (K:KT),Holds w L->(∀ w',Same w w'->Holds w' L->K v w')->Cl P f vs.toArray w K
 |.s f xs q x q'=>domS q q'=true/\∀ (base:Bs) (w0:World) σ w vs,Wo P base w0 σ q w->vls σ xs=some vs->∀ K,Fin P base w0 σ x q' K->isExt P f=false/\Cl P f vs.toArray w K
def OraOk (P:Program) (M:List Ent):Prop:=∀ e∈M,EntOk P e
theorem Wo.keepAll (h:Wo P base w0 σ s w) (S:Same w w') (ho:∀ (c:Nat) (o:Obj),w.heap[c]?=some o->w'.heap[c]?=some o):Wo P base w0 σ s w':=by
 refine⟨⟨λb e cs hq=>?_,h.mem.apart,λb o hq=>?_,h.mem.mapart,h.mem.keepG λc o _ hc=>ho c o hc⟩,h.fresh,h.fram.same.trans S,λc hc=>Nat.lt_of_lt_of_le (h.fram.low c hc) S.size,λc hc=>?_⟩
 ·obtain⟨rb,off,k,pre,vs,sp,post,g⟩:=h.mem.own b e cs hq;exact⟨rb,off,k,pre,vs,sp,post,g.keep (ho _)⟩
 ·obtain⟨rb,h1,h2,h3⟩:=h.mem.mown b o hq;exact⟨rb,h1,h2,h3.keep (ho _)⟩
 ·rw[<-h.fram.old c hc];have hlt:=h.fram.low c hc;have h2:w.heap[c]?=some w.heap[c]:=Array.getElem?_eq_getElem hlt;rw[h2];exact ho c _ h2
theorem Ztx {M:List Ent}(hM:OraOk P M){f:FuncId}{xs:List X}{x:X}{s':St}(h:memo M f xs s=some (x,s')){vs:List Value}(hw:Wo P base w0 σ s w) (hv:vls σ xs=some vs){K:KT}(hK:Fin P base w0 σ x s' K):isExt P f=false/\Cl P f vs.toArray w K:=by
 induction M with
 |nil=>cases h
 |cons e l ih=>
  have rest:=λh=>ih (λe he=>hM e (hK_ _ he)) h
  cases e with
  |c g ys z=>
   simp only[memo] at h
   cases hb:Nat.beq g f with
   |false=>rw[hb] at h;exact rest h
   |true=>
    rw[hb] at h;simp only at h
    cases he:eqXs ys xs with
    |false=>rw[he] at h;exact rest h
    |true=>
     rw[he] at h;simp only[Option.some.injEq,Prod.mk.injEq] at h;obtain⟨rfl,rfl⟩:=h;obtain rfl:=Nat.eq_of_beq_eq_true hb;have he:=Zcc _ _ he;obtain⟨g1,us,v,g2,g3,g4⟩:=hM _ hJ_;rw[he] at g2
     have hn:Ext nsg σ:=λn r hn=>by cases hn
     have:=Zcl hn _ _ g2;rw[hv] at this;obtain rfl:=Option.some.inj this;refine⟨g1,g4 w [Vc.whole w] K (Vc.holds_whole w) λw' S' H'=>hK σ w' v (Ext.refl _) (hw.keepAll S' λc o hc=>?_) (Zeu hn _ _ g3)⟩;obtain⟨g,hg,hgs,_⟩:=H';exact hgs _ _ (hg _ _ hc)
  |s g ys q z q'=>
   simp only[memo] at h
   cases hb:Nat.beq g f with
   |false=>rw[hb] at h;exact rest h
   |true=>
    rw[hb] at h;simp only at h
    cases he:eqXs ys xs with
    |false=>rw[he] at h;exact rest h
    |true=>
     rw[he] at h;simp only at h
     cases hs:subS s q with
     |false=>rw[hs] at h;exact rest h
     |true=>
      rw[hs] at h;simp only[Option.some.injEq,Prod.mk.injEq] at h;obtain⟨rfl,rfl⟩:=h;obtain rfl:=Nat.eq_of_beq_eq_true hb;obtain rfl:=Zcc _ _ he;have l:=Zu4 hs;obtain⟨hd,hM⟩:=hM _ hJ_;exact hM (bsF base σ s q) w σ w vs (hw.part l) hv K λσ' w' v hxt hw' hv'=>hK σ' w' v hxt (hw.back l hd hxt hw') hv'
def callX (P:Program) (ora:List Ent) (run:Run) (f:FuncId) (xs:List X) (s:St):Option (X × St):=match memo ora f xs s with
 |some p=>some p
 |none=>(match P.funcs[f]? with
  | some fn => (match fn.body, fn.name == "runtime.NumGoroutine", Nat.ble xs.length fn.ntmps with
   |some c,false,true=>(match run fn.ntmps c (argX (dep fn.ntmps) xs 0 .e) s with
    |some (.normal,ρ',s')|some (.ret,ρ',s')=>(match xres P ρ' s' fn.results.toList [] with
     |some x=>some (x,s')
     |none=>none)
    |_=>none)
   |_,_,_=>none)
  |none=>none)
def RunOk (P:Program) (run:Run):Prop:=∀ (base:Bs) (w0:World) n c ρ s e ρ' s',run n c ρ s=some (e,ρ',s')->∀ σ w a r Q,Wo P base w0 σ s w->Fits n r a->EnvR σ ρ r->
 (∀ σ' w' a' r',Ext σ σ'->Wo P base w0 σ' s' w'->Fits n r' a'->EnvR σ' ρ' r'->Q e a' w')->c.wp P Q a w
theorem Zrc {f:FuncId}{fn:Func}{c:Code}{args:List Value}{w:World}{R:KT}{rs:List ResultVar}
  (hf : P.funcs[f]? = some fn) (hb : fn.body = some c) (hn : (fn.name == "runtime.NumGoroutine") = false)
  (hr:fn.results=rs.toArray) (ha:Nat.ble args.length fn.ntmps=true)
  (hh:∀ a,Fits fn.ntmps ⟨args0 args 0,λ_=>undef⟩ a->c.wp P (λe a' w'=>∃ ρ',Fits fn.ntmps ρ' a'/\fin P rs R e ρ' w') a w):Cl P f args.toArray w R:=by
 refine ⟨by simp [callFunc, hf, (by simpa using hn : ¬ fn.name = "runtime.NumGoroutine"), hb], calls_of_wp hf hb ?_⟩; have ha := Nat.le_of_ble_eq_true ha; refine wp_mono (hh _ ⟨rfl, by simp; omega, fun t => ?_⟩) ?_
 ·unfold Env.get;simp only[Zd4,Nat.zero_le,if_true,Nat.sub_zero]
  by_cases hlt:t < args.length
  ·simp[Array.getElem?_append,hlt]
  ·have h1:args[t]?=none:=by simp;omega
   rw[h1];simp only[Array.getD_eq_getD_getElem?,Array.getElem?_append,List.size_toArray,if_neg hlt,Array.getElem?_replicate]
   split <;> rfl
 ·rintro e a w ⟨ρ,hf',h'⟩
  have key:ResK P ρ w R rs []->bodyPost P fn (λe w'=>∃ v,e=.returned v/\R v w') .ret a w:=λh'=>by
   obtain⟨vs,h1,h2⟩:=Zfi hf' rs [] h';refine⟨hf'.defers,_,?_,_,rfl,Zmj vs (by simpa using h2)⟩;unfold results;rw[Sem.run_bind,hr]
   have:(rs.toArray.mapM fun|.tmp t=>pure (a.tmps.getD t undef)|.cell x t=>do loadVar t (<-asAddr (a.tmps.getD x undef)):Sem (Array Value))=(do pure (<-rs.mapM (rv a.tmps)).toArray):=by
    rw[List.mapM_toArray];rfl
   erw [this]
   simp[h1,Result.andThen]
  cases e <;> simp only[fin] at h' <;> try exact h'.elim
  ·exact key h'
  ·exact key h'
theorem Zlo {ora:List Ent}(hora:OraOk P ora){run:Run}(hrun:RunOk P run):CallOk P base w0 (callX P ora run):=by
 intro f xs s x s' hx σ w vs h hv K hK;unfold callX at hx
 cases ho:memo ora f xs s with
 |some g=>
  rw[ho] at hx;simp only[Option.some.injEq] at hx;subst hx;exact Ztx hora ho h hv hK
 |none=>
  rw[ho] at hx;simp only at hx
  cases hf:P.funcs[f]? with
  |none=>rw[hf] at hx;cases hx
  |some fn=>
   rw[hf] at hx;simp only at hx;split at hx
   ·rename_i c hb hn hl;have hlen:=Zal hv;refine⟨by simp only[isExt,hf,hb];rfl,Zrc (rs:=fn.results.toList) hf hb hn (by simp) (by rw[<-hlen];exact hl) λa ha=>?_⟩
    have res:∀ e ρ1 s1,(e=.normal\/e=.ret)->run fn.ntmps c (argX (dep fn.ntmps) xs 0 .e) s=some (e,ρ1,s1)->(match xres P ρ1 s1 fn.results.toList [] with
      |some x=>some (x,s1)
      |none=>none)=some (x,s')->c.wp P (λe a' w'=>∃ ρ',Fits fn.ntmps ρ' a'/\fin P fn.results.toList K e ρ' w') a w:=by
     intro e ρ1 s1 he hr hq
     cases hxr:xres P ρ1 s1 fn.results.toList [] with
     |none=>rw[hxr] at hq;cases hq
     |some y=>
      rw[hxr] at hq;simp only[Option.some.injEq,Prod.mk.injEq] at hq;obtain⟨rfl,rfl⟩:=hq;refine hrun _ _ _ _ _ _ _ _ _ hr σ w a _ _ h ha (Ztp hv) λσ' w' a' r' hxt hw hfit hE=>⟨r',hfit,?_⟩;have hk:ResK P r' w' K fn.results.toList []:=Zkd hw.mem hE hxr rfl λv hvv=>hK σ' w' v hxt hw hvv;rcases he with rfl|rfl
      ·exact hk
      ·exact hk
    split at hx
    ·rename_i ρ1 s1 hr;exact res _ _ _ (.inl rfl) hr hx
    ·rename_i ρ1 s1 hr;exact res _ _ _ (.inr rfl) hr hx
    ·cases hx
   ·cases hx
def ev (P:Program) (ora:List Ent):Nat->Run
 |0,_,_,_,_=>none
 |k+1,n,c,ρ,s=>match c with
  |.skip=>some (.normal,ρ,s)
  |.label _=>some (.normal,ρ,s)
  |.region _ ops draw=>(match xreg P n (callX P ora (ev P ora k)) ops draw ρ s with
   |some (ρ',s')=>some (.normal,ρ',s')
   |none=>none)
  |.seq x y=>(match ev P ora k n x ρ s with
   |some (.normal,ρ',s')=>ev P ora k n y ρ' s'
   |o=>o)
  |.cond q x y=>(match evX ρ q with
   |some (.b true)=>ev P ora k n x ρ s
   |some (.b false)=>ev P ora k n y ρ s
   |_=>none)
  |.block id x=>(match ev P ora k n x ρ s with
   |some (.exit i,ρ',s')=>(match Nat.beq i id with
    |true=>some (.normal,ρ',s')
    |false=>some (.exit i,ρ',s'))
   |o=>o)
  |.loop x=>(match ev P ora k n x ρ s with
   |some (.normal,ρ',s')=>ev P ora k n (.loop x) ρ' s'
   |o=>o)
  |.exit id=>some (.exit id,ρ,s)
  |.ret=>some (.ret,ρ,s)
  |_=>none
theorem ev_ok (hm:P.follows .mixedOrders=true){ora:List Ent}(hora:OraOk P ora) :
  ∀ k,RunOk P (ev P ora k)/\(∀ (base:Bs) (w0:World) n c ρ s e ρ' s',ev P ora k n (.loop c) ρ s=some (e,ρ',s')->∀ σ w a r Q,Wo P base w0 σ s w->Fits n r a->EnvR σ ρ r->
   (∀ σ' w' a' r',Ext σ σ'->Wo P base w0 σ' s' w'->Fits n r' a'->EnvR σ' ρ' r'->Q e a' w')->LR P c Q k a w):=by
 intro k
 induction k with
 |zero=>
  refine⟨?_,?_⟩
  ·intro base w0 n c ρ s e ρ' s' h;simp only[ev] at h;cases h
  ·intro base w0 n c ρ s e ρ' s' h;simp only[ev] at h;cases h
 |succ k ih=>
  obtain⟨ihR,ihL⟩:=ih
  have loop:∀ (base:Bs) (w0:World) n c ρ s e ρ' s',ev P ora (k+1) n (.loop c) ρ s=some (e,ρ',s')->∀ σ w a r Q,Wo P base w0 σ s w->Fits n r a->EnvR σ ρ r->
   (∀ σ' w' a' r',Ext σ σ'->Wo P base w0 σ' s' w'->Fits n r' a'->EnvR σ' ρ' r'->Q e a' w')->LR P c Q (k+1) a w:=by
   intro base w0 n c ρ s e ρ' s' h σ w a r Q hw hf hE hQ;simp only[ev] at h
   cases hx:ev P ora k n c ρ s with
   |none=>rw[hx] at h;cases h
   |some q=>
    obtain⟨e1,ρ1,s1⟩:=q;rw[hx] at h;refine ihR _ _ _ _ _ _ _ _ _ hx σ w a r _ hw hf hE λσ' w' a' r' hxt hw' hf' hE'=>?_
    cases e1 with
    |normal=>exact ihL _ _ _ _ _ _ _ _ _ h σ' w' a' r' Q hw' hf' hE' λσ2 w2 a2 r2 hxt2 hw2 hf2 hE2=>hQ σ2 w2 a2 r2 (hxt.trans hxt2) hw2 hf2 hE2
    |_=>
     simp only[Option.some.injEq,Prod.mk.injEq] at h;obtain⟨rfl,rfl,rfl⟩:=h;exact hQ σ' w' a' r' hxt hw' hf' hE'
  refine⟨λbase w0 n c ρ s e ρ' s' h σ w a r Q hw hf hE hQ=>?_,loop⟩
  cases c with
  |skip=>
   simp only[ev,Option.some.injEq,Prod.mk.injEq] at h;obtain⟨rfl,rfl,rfl⟩:=h;exact wp_skip (hQ σ w a r (Ext.refl _) hw hf hE)
  |label l=>
   simp only[ev,Option.some.injEq,Prod.mk.injEq] at h;obtain⟨rfl,rfl,rfl⟩:=h;exact wp_label (hQ σ w a r (Ext.refl _) hw hf hE)
  |exit id=>
   simp only[ev,Option.some.injEq,Prod.mk.injEq] at h;obtain⟨rfl,rfl,rfl⟩:=h;exact wp_exit (hQ σ w a r (Ext.refl _) hw hf hE)
  |ret=>
   simp only[ev,Option.some.injEq,Prod.mk.injEq] at h;obtain⟨rfl,rfl,rfl⟩:=h;exact wp_ret (hQ σ w a r (Ext.refl _) hw hf hE)
  |region id ops draw=>
   simp only[ev] at h
   cases hx:xreg P n (callX P ora (ev P ora k)) ops draw ρ s with
   |none=>rw[hx] at h;cases h
   |some q=>
    obtain⟨ρ1,s1⟩:=q;rw[hx] at h;simp only[Option.some.injEq,Prod.mk.injEq] at h;obtain⟨rfl,rfl,rfl⟩:=h;obtain⟨hh,hv⟩:=Zvc (λ_ _=>Zlo hora ihR) hw hE hx (K:=λr' w'=>∃ σ',Ext σ σ'/\Wo P base w0 σ' s1 w'/\EnvR σ' ρ1 r') λσ' w' r' hxt hw' hE'=>⟨σ',hxt,hw',hE'⟩;exact Zfo hm hv hf λr' a' w' hf' ⟨σ',hxt,hw',hE'⟩=>hQ σ' w' a' r' hxt hw' hf' hE'
  |seq x y=>
   simp only[ev] at h
   cases hx:ev P ora k n x ρ s with
   |none=>rw[hx] at h;cases h
   |some q=>
    obtain⟨e1,ρ1,s1⟩:=q;rw[hx] at h;refine wp_seq (ihR _ _ _ _ _ _ _ _ _ hx σ w a r _ hw hf hE λσ' w' a' r' hxt hw' hf' hE'=>?_)
    cases e1 with
    |normal=>exact ihR _ _ _ _ _ _ _ _ _ h σ' w' a' r' Q hw' hf' hE' λσ2 w2 a2 r2 hxt2 hw2 hf2 hE2=>hQ σ2 w2 a2 r2 (hxt.trans hxt2) hw2 hf2 hE2
    |_=>
     simp only[Option.some.injEq,Prod.mk.injEq] at h;obtain⟨rfl,rfl,rfl⟩:=h;exact hQ σ' w' a' r' hxt hw' hf' hE'
  |cond q x y=>
   simp only[ev] at h
   cases hx:evX ρ q with
   |none=>rw[hx] at h;cases h
   |some z=>
    rw[hx] at h;have hz:=Za1 hE hx
    cases z with
    |b c=>
     simp only[vl,Option.some.injEq] at hz
     cases c with
     |true=>exact wp_cond_true (by rw[hf.eval];exact hz.symm) (ihR _ _ _ _ _ _ _ _ _ h σ w a r Q hw hf hE hQ)
     |false=>exact wp_cond_false (by rw[hf.eval];exact hz.symm) (ihR _ _ _ _ _ _ _ _ _ h σ w a r Q hw hf hE hQ)
    |_=>cases h
  |block id x=>
   simp only[ev] at h
   cases hx:ev P ora k n x ρ s with
   |none=>rw[hx] at h;cases h
   |some q=>
    obtain⟨e1,ρ1,s1⟩:=q;rw[hx] at h;refine wp_block (ihR _ _ _ _ _ _ _ _ _ hx σ w a r _ hw hf hE λσ' w' a' r' hxt hw' hf' hE'=>?_)
    cases e1 with
    |exit i=>
     simp only at h
     cases hb:Nat.beq i id with
     |true=>
      rw[hb] at h;simp only[Option.some.injEq,Prod.mk.injEq] at h;obtain⟨rfl,rfl,rfl⟩:=h;have:=Nat.eq_of_beq_eq_true hb;subst this;simp only[Exit.inBlock,if_true];exact hQ σ' w' a' r' hxt hw' hf' hE'
     |false=>
      rw[hb] at h;simp only[Option.some.injEq,Prod.mk.injEq] at h;obtain⟨rfl,rfl,rfl⟩:=h;simp only[Exit.inBlock,if_neg (Nat.ne_of_beq_eq_false hb)];exact hQ σ' w' a' r' hxt hw' hf' hE'
    |_=>
     simp only[Option.some.injEq,Prod.mk.injEq] at h;obtain⟨rfl,rfl,rfl⟩:=h;exact hQ σ' w' a' r' hxt hw' hf' hE'
  |loop x=>
   exact Zri (loop _ _ _ _ _ _ _ _ _ h σ w a r Q hw hf hE hQ)
  |_=>simp only[ev] at h;cases h
end
end Go.Ev
namespace Go.Ev
open Go Go.Vc
noncomputable section
variable {P:Program}
def s0G (G:List (Nat × List X)):St:=⟨.e,0,1,.e,G⟩
def s0:St:=s0G []
def bsW (w:World):Bs:=⟨λc=>c < w.heap.size,λ_=>False,λc=>c < w.heap.size,λ_ h=>h⟩
def isTrue:Option (X × St)->Bool
 |some (.b true,_)=>true
 |_=>false
def GOk (G:List (Nat × List X)) (w:World):Prop:=∀ g xs,lkG G g=some xs->∃ e fz vs,vls (λ_=>none) xs=some vs/\w.heap[g]?=some (.cells vs.toArray e fz)
theorem startG {G:List (Nat × List X)}{w:World}(hG:GOk G w):Wo P (bsW w) w (λ_=>none) (s0G G) w:=by
 refine⟨⟨λb e cs h=>?_,λb c x y r r' h=>?_,λb o h=>?_,λb c x y r r' h=>?_,λg xs h=>?_⟩,⟨rfl,Nat.lt_succ_self 0,λ_ _=>rfl,λ_ h=>h.elim⟩,⟨.refl w,λc h=>h,λc _=>rfl⟩⟩
 ·simp[St.blk,s0G,T.get_e,jn] at h
 ·simp[St.blk,s0G,T.get_e,jn] at h
 ·simp[St.mo,s0G,T.get_e,jn] at h
 ·simp[St.mo,s0G,T.get_e,jn] at h
 ·obtain⟨e,fz,vs,h1,h2⟩:=hG g xs h;exact⟨(Array.getElem?_eq_some_iff.1 h2).1,e,fz,vs,h1,h2⟩
theorem start (w:World):Wo P (bsW w) w (λ_=>none) s0 w:=startG λg xs h=>by cases h
theorem Znq {w w':World}{L:List HProp}(h:Fram (bsW w) w w') (H:Holds w L):Holds w' L:=by
 refine Sat.mono H λc o hc=>?_;show w'.heap[c]?=some o;have hc':w.heap[c]?=some o:=hc;have hlt:c < w.heap.size:=(Array.getElem?_eq_some_iff.1 hc').1;rw[h.old c hlt,hc']
theorem Zux (hm:P.follows .mixedOrders=true){f:FuncId}{k:Nat}{M:List Ent}(hM:OraOk P M) (h:isTrue (callX P M (ev P M k) f [] s0)=true){w:World}{L:List HProp}{K:KT}(H:Holds w L)
  (post:∀ w',Same w w'->Holds w' L->K (.bool true) w'):Cl P f #[] w K:=by
 have hc:CallOk P (bsW w) w (callX P M (ev P M k)):=Zlo hM (ev_ok hm hM k).1
 cases hx:callX P M (ev P M k) f [] s0 with
 |none=>rw[hx] at h;cases h
 |some q=>
  obtain⟨x,s'⟩:=q;rw[hx] at h
  cases x with
  |b c=>
   cases c with
   |false=>cases h
   |true=>
    refine (hc f [] s0 _ s' hx _ w [] (start w) rfl K λσ' w' v _ hw hv=>?_).2;simp only[vl,Option.some.injEq] at hv;subst hv;exact post w' hw.fram.same (Znq hw.fram H)
  |_=>cases h
def isVal (z:X):Option (X × St)->Bool
 |some q=>eqX q.1 z
 |none=>false
end
end Go.Ev
namespace Go.Ev
open Go Go.Vc
noncomputable section
abbrev CallT:=FuncId->List X->St->Option (X × St)
def vPk (ρ:T X) (a b:Operand):Option X->Option X
 |some (.b c)=>(match c with
  |true=>evX ρ a
  |false=>evX ρ b)
 |_=>none
def vNc:Option (Nat × Nat)->Option X
 |some a=>some (.p (some a))
 |none=>none
def vFa2 (P:Program) (ρ:T X) (x:Operand):Option Field->Option X
 |some fd=>(match P.info? fd.type with
  |some i=>(match i.size with
   |0=>none
   |_+1=>foX (pX (evX ρ x)) fd.offset)
  |none=>none)
 |none=>none
def vFa (P:Program) (ρ:T X) (x:Operand) (f:Nat):Option TypeDesc->Option X
 |some (.struct fs)=>vFa2 P ρ x (fldOf fs.toList f)
 |_=>none
def vIa (P:Program) (ρ:T X) (x i:Operand):Option TypeDesc->Option X
 |some (.array len e)=>iaX P e len (pX (evX ρ x)) (evX ρ i)
 |some (.slice e)=>isX P e (evX ρ x) (evX ρ i)
 |_=>none
def vIx (P:Program) (ρ:T X) (x i:Operand):Option TypeDesc->Option X
 |some .string=>ixsX (evX ρ x) (evX ρ i)
 |some (.array len e)=>(match P.info? e with
  |some inf=>(match P.underlying e with
   |some (.struct _)|some (.array _ _)=>ixaX inf.size true len (evX ρ x) (evX ρ i)
   |some _=>ixaX inf.size false len (evX ρ x) (evX ρ i)
   |none=>none)
  |none=>none)
 |_=>none
def vFd (P:Program) (ρ:T X) (x:Operand) (f:Nat):Option TypeDesc->Option X
 |some (.struct fs)=>(match fldOf fs.toList f with
  |some fd=>(match P.underlying fd.type with
   |some (.struct _)|some (.array _ _)=>(match P.info? fd.type with
    |some i=>fdaX fd.offset i.size (evX ρ x)
    |none=>none)
   |some _=>fdX fd.offset (evX ρ x)
   |none=>none)
  |none=>none)
 |_=>none
def vBb (ρ:T X) (x y:Operand):BinOp->Option X
 |.eql=>bbX false (evX ρ x) (evX ρ y)
 |.neq=>bbX true (evX ρ x) (evX ρ y)
 |_=>none
def vBn (P:Program) (e:TypeId) (ρ:T X) (x y:Operand):BinOp->Option X
 |.eql=>bnX P e false (evX ρ x) (evX ρ y)
 |.neq=>bnX P e true (evX ρ x) (evX ρ y)
 |_=>none
def vBp (P:Program) (ρ:T X) (t:TypeId) (op:BinOp) (x y:Operand):Option TypeDesc->Option X
 |some (.int _)=>bp2 op (evX ρ x) (evX ρ y)
 |some .string=>bp2 op (evX ρ x) (evX ρ y)
 |some .bool=>vBb ρ x y op
 |some (.pointer e)=>vBn P e ρ x y op
 |some _=>beX P op t x y (evX ρ x) (evX ρ y)
 |none=>none
def vCv (P:Program) (ρ:T X) (s:St) (q d:TypeId) (x:Operand):Option TypeDesc->Option TypeDesc->Option X
 |some (.int _),some (.int k)=>ciX k (evX ρ x)
 |some (.slice e),some .string=>cvX P s q (evX ρ x)
 |some _,some _=>cpX P s q d (evX ρ x)
 |_,_=>none
def vMi:Option TypeDesc->TypeId->Option X->Option X
 |some (.interface _),_,_=>none
 |some _,t,some x=>some (.fc t x)
 |_,_,_=>none
def vSl (P:Program) (ρ:T X) (s:St) (x:Operand) (l h m:Option Operand):Option TypeDesc->Option X
 |some .string=>(match m with
  |none=>sstX (evX ρ x) (λd=>bndX ρ d l) (λd=>bndX ρ d h)
  |some _=>none)
 |some (.slice e)=>(match m with
  |none=>(match P.info? e with
   |some inf=>sslX inf.size (evX ρ x) (λd=>bndX ρ d l) (λd=>bndX ρ d h)
   |none=>none)
  |some _=>none)
 |some (.array n e)=>(match m with
  |none=>slaX P s n e (evX ρ x) (λd=>bndX ρ d l) (λd=>bndX ρ d h)
  |some _=>none)
 |_=>none
def vBd (P:Program) (t:TypeId):Option (List (Nat × X))->Option X
 |some xs=>bdX P t xs
 |none=>none
def vLn2 (s:St):Option TypeDesc->X->Option X
 |some .string,.s l=>some (.i .i64 (l.length:Int))
 |some (.slice _),.l _ n _=>some (.i .i64 (n:Int))
 |some (.slice _),.e0 _ _ _=>some (.i .i64 0)
 |some (.map _ _),.m b=>lmX s b
 |_,_=>none
def vLn (P:Program) (s:St):List TypeId->Option (List X)->Option X
 |t::_,some (x::_)=>vLn2 s (P.underlying t) x
 |_,_=>none
def vMm (mx:Bool):Option (List X)->Option X
 |some xs=>mmX mx xs
 |none=>none
def vCl (P:Program) (ρ:T X) (s:St) (c:Call):Callee->Option X
 |.builtin .len=>vLn P s c.argTypes.toList (xargs ρ c.args.toList)
 |.builtin .cap=>capX P c.argTypes.toList (xargs ρ c.args.toList)
 |.builtin .min=>vMm false (xargs ρ c.args.toList)
 |.builtin .max=>vMm true (xargs ρ c.args.toList)
 |_=>none
def xvalF (P:Program) (ρ:T X) (s:St):Op->Option X
 |.move x=>evX ρ x
 |.assign x=>evX ρ x
 |.pick c a b=>vPk ρ a b (evX ρ c)
 |.nilCheck x=>vNc (pX (evX ρ x))
 |.load t a=>ldW P ρ s t a
 |.fieldAddr q x f=>vFa P ρ x f (P.underlying q)
 |.indexAddr t x i=>vIa P ρ x i (P.underlying t)
 |.index t x i=>vIx P ρ x i (P.underlying t)
 |.field t x f=>vFd P ρ x f (P.underlying t)
 |.binOp op t x y _=>vBp P ρ t op x y (P.underlying t)
 |.unOp op _ x=>upX op (evX ρ x)
 |.convert q d x=>vCv P ρ s q d x (P.underlying q) (P.underlying d)
 |.makeInterface t x=>vMi (P.underlying t) t (evX ρ x)
 |.slice t x l h m=>vSl P ρ s x l h m (P.underlying t)
 |.extract x i=>exX (evX ρ x) i
 |.build t ps=>vBd P t (xparts ρ ps.toList)
 |.call c=>vCl P ρ s c c.callee
 |.makeFunc fn a c=>mfX ρ fn a c
 |.lookup t x i ok=>lkX P s t (evX ρ x) (evX ρ i) ok
 |.typeAssert x _ a ok=>taX P a ok (evX ρ x)
 |_=>none
theorem Zmf (P:Program) (ρ:T X) (s:St) (o:Oper):xvalF P ρ s o.op=xval P ρ s o:=by
 unfold xval
 cases o.op with
 |pick c a b=>
  show vPk ρ a b (evX ρ c)=_;simp only
  cases evX ρ c with
  |none=>rfl
  |some x=>
   cases x with
   |b c=>cases c <;> rfl
   |_=>rfl
 |nilCheck x=>
  show vNc (pX (evX ρ x))=_;simp only
  cases pX (evX ρ x) <;> rfl
 |fieldAddr q x f=>
  show vFa P ρ x f (P.underlying q)=_;simp only
  cases P.underlying q with
  |none=>rfl
  |some d=>
   cases d with
   |struct fs=>
    show vFa2 P ρ x (fldOf fs.toList f)=_;simp only
    cases fldOf fs.toList f <;> rfl
   |_=>rfl
 |indexAddr t x i=>
  show vIa P ρ x i (P.underlying t)=_;simp only
  cases P.underlying t with
  |none=>rfl
  |some d=>cases d <;> rfl
 |index t x i=>
  show vIx P ρ x i (P.underlying t)=_;simp only
  cases P.underlying t with
  |none=>rfl
  |some d=>cases d <;> rfl
 |field t x f=>
  show vFd P ρ x f (P.underlying t)=_;simp only
  cases P.underlying t with
  |none=>rfl
  |some d=>cases d <;> rfl
 |binOp op t x y yt=>
  show vBp P ρ t op x y (P.underlying t)=_;simp only
  cases P.underlying t with
  |none=>rfl
  |some d=>cases d <;> first|rfl|(cases op <;> rfl)
 |convert q d x=>
  show vCv P ρ s q d x (P.underlying q) (P.underlying d)=_;simp only
  cases P.underlying q with
  |none=>cases P.underlying d <;> rfl
  |some a=>
   cases P.underlying d with
   |none=>cases a <;> rfl
   |some b=>cases a <;> cases b <;> rfl
 |makeInterface t x=>
  show vMi (P.underlying t) t (evX ρ x)=_;simp only
  cases P.underlying t with
  |none=>cases evX ρ x <;> rfl
  |some d=>cases d <;> cases evX ρ x <;> rfl
 |slice t x l h m=>
  show vSl P ρ s x l h m (P.underlying t)=_;simp only
  cases P.underlying t with
  |none=>rfl
  |some d=>cases d <;> cases m <;> rfl
 |build t ps=>
  show vBd P t (xparts ρ ps.toList)=_;simp only
  cases xparts ρ ps.toList <;> rfl
 |call c=>
  show vCl P ρ s c c.callee=_;simp only
  cases c.callee with
  |builtin b=>
   cases b with
   |len=>
    show vLn P s c.argTypes.toList (xargs ρ c.args.toList)=_;simp only
    cases c.argTypes.toList with
    |nil=>rfl
    |cons t ts=>
     cases xargs ρ c.args.toList with
     |none=>rfl
     |some xs=>
      cases xs with
      |nil=>rfl
      |cons y ys=>
       show vLn2 s (P.underlying t) y=_;simp only
       cases P.underlying t with
       |none=>cases y <;> rfl
       |some d=>cases d <;> cases y <;> rfl
   |min=>
    show vMm false (xargs ρ c.args.toList)=_;simp only
    cases xargs ρ c.args.toList <;> rfl
   |max=>
    show vMm true (xargs ρ c.args.toList)=_;simp only
    cases xargs ρ c.args.toList <;> rfl
   |_=>rfl
  |_=>rfl
 |_=>rfl
def eBx (t:TypeId) (s:St):Option X->Option (X × St)
 |some x=>newX t (some (cellsX x)) s
 |none=>none
def eAp (P:Program) (s:St):Array TypeId->Option (List X)->Option (X × St)
 |⟨[t,tx]⟩,some [x,y]=>appX P t tx x y s
 |_,_=>none
def eCl (P:Program) (call:CallT) (ρ:T X) (s:St) (c:Call):Callee->Option (X × St)
 |.value (.func f)=>eFn P call f s (xargs ρ c.args.toList)
 |.value f=>eVl call s (evX ρ f) (xargs ρ c.args.toList)
 |.invoke q name=>eIv P call s name (evX ρ q) (xargs ρ c.args.toList)
 |.builtin .clear=>clrX P c.argTypes.toList (xargs ρ c.args.toList) s
 |.builtin .delete=>dlX P c.argTypes.toList (xargs ρ c.args.toList) s
 |.builtin .copy=>cpyZ P c.argTypes.toList (xargs ρ c.args.toList) s
 |.builtin .unsafeSliceData=>eUsd s (usdX (xargs ρ c.args.toList))
 |.builtin .unsafeString=>ustX P c.argTypes.toList (xargs ρ c.args.toList) s
 |.builtin .append=>eAp P s c.argTypes (xargs ρ c.args.toList)
 |_=>none
def xeffF (P:Program) (st:Bool) (call:CallT) (ρ:T X) (s:St):Op->Option (X × St)
 |.store t a x=>stoX P s t (pX (evX ρ a)) (evX ρ x)
 |.alloc t=>newX t (zeroX P t) s
 |.box t x=>eBx t s (evX ρ x)
 |.buildSlice t n ps=>eBs P t s n (xparts ρ ps.toList)
 |.makeSlice t l c=>msX P t (evX ρ l) (evX ρ c) s
 |.convert q d x=>eCv P st q d (evX ρ x) s
 |.makeMap t r=>mmX0 P t (r.map (evX ρ)) s
 |.mapUpdate t m k x=>muX P t (evX ρ m) (evX ρ k) (evX ρ x) s
 |.insert t m k x=>muX P t (evX ρ m) (evX ρ k) (evX ρ x) s
 |.range t x=>rgX P t (evX ρ x) s
 |.next x isS=>nxX isS (evX ρ x) s
 |.call c=>eCl P call ρ s c c.callee
 |_=>none
theorem Zmp (P:Program) (st:Bool) (call:CallT) (ρ:T X) (s:St) (o:Oper):xeffF P st call ρ s o.op=xeff P st call ρ s o:=by
 unfold xeff
 cases o.op with
 |box t x=>
  show eBx t s (evX ρ x)=_;simp only
  cases evX ρ x <;> rfl
 |call c=>
  show eCl P call ρ s c c.callee=_;simp only
  cases c.callee with
  |value f=>
   cases f with
   |func f=>rfl
   |_=>rfl
  |builtin b=>
   cases b with
   |append=>
    show eAp P s c.argTypes (xargs ρ c.args.toList)=_;obtain⟨l⟩:=c.argTypes
    cases xargs ρ c.args.toList with
    |none=>
     match l with
     |[]=>rfl
     |[_]=>rfl
     |[_,_]=>rfl
     |_::_::_::_=>rfl
    |some xs=>
     match l,xs with
     |[],[]=>rfl
     |[],[_]=>rfl
     |[],[_,_]=>rfl
     |[],_::_::_::_=>rfl
     |[_],[]=>rfl
     |[_],[_]=>rfl
     |[_],[_,_]=>rfl
     |[_],_::_::_::_=>rfl
     |[_,_],[]=>rfl
     |[_,_],[_]=>rfl
     |[_,_],[_,_]=>rfl
     |[_,_],_::_::_::_=>rfl
     |_::_::_::_,[]=>rfl
     |_::_::_::_,[_]=>rfl
     |_::_::_::_,[_,_]=>rfl
     |_::_::_::_,_::_::_::_=>rfl
   |delete=>rfl
   |clear=>rfl
   |copy=>rfl
   |unsafeSliceData=>rfl
   |unsafeString=>rfl
   |_=>cases xargs ρ c.args.toList <;> rfl
  |invoke r m=>rfl
 |_=>rfl
def oD2 (s:St):Option (T X)->Option (T X × St)
 |some ρ=>some (ρ,s)
 |none=>none
def oE (n:Nat) (ops:List Oper) (i:Nat) (dst:Option Nat) (ρ:T X):Option (X × St)->Option (T X × St)
 |some q=>oD2 q.2 (xdone n ops i dst q.1 ρ)
 |none=>none
def oV (P:Program) (st:Bool) (call:CallT) (n:Nat) (ops:List Oper) (i:Nat) (o:Oper) (ρ:T X) (s:St):Option X->Option (T X × St)
 |some x=>oD2 s (xdone n ops i o.dst x ρ)
 |none=>oE n ops i o.dst ρ (xeffF P st call ρ s o.op)
def oG (P:Program) (st:Bool) (call:CallT) (n:Nat) (ops:List Oper) (i:Nat) (o:Oper) (ρ:T X) (s:St):Option Bool->Option (T X × St)
 |some c=>(match c with
  |true=>oV P st call n ops i o ρ s (xvalF P ρ s o.op)
  |false=>oD2 s (xput n ρ o.dst undX))
 |none=>none
theorem oG_eq (P:Program) (st:Bool) (call:CallT) (n:Nat) (ops:List Oper) (i:Nat) (o:Oper) (ρ:T X) (s:St):oG P st call n ops i o ρ s (xgd ops ρ o)=xop1 P st call n ops i o ρ s:=by
 unfold xop1
 cases xgd ops ρ o with
 |none=>rfl
 |some c=>
  cases c with
  |true=>
   show oV P st call n ops i o ρ s (xvalF P ρ s o.op)=_;rw[Zmf];simp only
   cases xval P ρ s o with
   |some x=>
    show oD2 s (xdone n ops i o.dst x ρ)=_;simp only
    cases xdone n ops i o.dst x ρ <;> rfl
   |none=>
    show oE n ops i o.dst ρ (xeffF P st call ρ s o.op)=_;rw[Zmp];simp only
    cases xeff P st call ρ s o with
    |none=>rfl
    |some q=>
     obtain⟨x,s'⟩:=q;show oD2 s' (xdone n ops i o.dst x ρ)=_;simp only
     cases xdone n ops i o.dst x ρ <;> rfl
  |false=>
   show oD2 s (xput n ρ o.dst undX)=_;simp only
   cases xput n ρ o.dst undX <;> rfl
def lK (ih:Nat->T X->St->Option (T X × St)) (i:Nat):Option (T X × St)->Option (T X × St)
 |some q=>ih i q.1 q.2
 |none=>none
def xopsF (P:Program) (st:Bool) (call:CallT) (n:Nat) (ops:List Oper) (l:List Oper):Nat->T X->St->Option (T X × St):=
 @List.rec Oper (λ_=>Nat->T X->St->Option (T X × St)) (λ_ ρ s=>some (ρ,s)) (λo _ ih i ρ s=>lK ih (i+1) (oG P st call n ops i o ρ s (xgd ops ρ o))) l
theorem Zio (P:Program) (st:Bool) (call:CallT) (n:Nat) (ops:List Oper):∀ (l:List Oper) (i:Nat) (ρ:T X) (s:St),xopsF P st call n ops l i ρ s=xops P st call n ops l i ρ s
 |[],_,_,_=>rfl
 |o::l,i,ρ,s=>by
  show lK (xopsF P st call n ops l) (i+1) (oG P st call n ops i o ρ s (xgd ops ρ o))=_;rw[oG_eq,xops]
  cases xop1 P st call n ops i o ρ s with
  |none=>rfl
  |some q=>
   obtain⟨ρ',s'⟩:=q;exact Zio P st call n ops l (i+1) ρ' s'
abbrev Pend:=List (Nat × Oper × T X × X)
abbrev Past:=List (Nat × St)
abbrev StT:=Nat->Pend->Past->T X->St->Option (T X × St)
def sPa (ih:StT) (i:Nat) (pend:Pend) (past:Past) (ρ:T X) (s:St):Bool->Option (T X × St)
 |true=>ih i pend past ρ s
 |false=>none
def sV2 (P:Program) (b:Nat->Nat->Bool) (o:Oper) (ih:StT) (i:Nat) (pend:Pend) (past:Past) (ρ:T X) (s:St) (x:X) (ρ':T X):Bool->Option (T X × St)
 |true=>ih (i+1) pend past ρ' s
 |false=>sPa ih (i+1) ((i,o,ρ,x)::pend) past ρ' s (pastOk P ρ o (b i) x past)
def sV1 (P:Program) (b:Nat->Nat->Bool) (o:Oper) (ih:StT) (i:Nat) (pend:Pend) (past:Past) (ρ:T X) (s:St) (x:X):Option (T X)->Option (T X × St)
 |some ρ'=>sV2 P b o ih i pend past ρ s x ρ' (blind P o)
 |none=>none
def sV (P:Program) (n:Nat) (ops:List Oper) (b:Nat->Nat->Bool) (o:Oper) (ih:StT) (i:Nat) (pend:Pend) (past:Past) (ρ:T X) (s:St):Option X->Option (T X × St)
 |some x=>sV1 P b o ih i pend past ρ s x (xdone n ops i o.dst x ρ)
 |none=>none
def sE2 (ih:StT) (i:Nat) (pend:Pend) (past:Past) (s s':St):Bool->Option (T X)->Option (T X × St)
 |true,some ρ'=>ih (i+1) pend ((i,s)::past) ρ' s'
 |_,_=>none
def sE (P:Program) (n:Nat) (ops:List Oper) (b:Nat->Nat->Bool) (o:Oper) (ih:StT) (i:Nat) (pend:Pend) (past:Past) (ρ:T X) (s:St):Option (X × St)->Option (T X × St)
 |some q=>sE2 ih i pend past s q.2 (pendOk P q.2 (b i) pend) (xdone n ops i o.dst q.1 ρ)
 |none=>none
def sS (ih:StT) (i:Nat) (pend:Pend) (past:Past) (s:St):Option (T X)->Option (T X × St)
 |some ρ'=>ih (i+1) pend past ρ' s
 |none=>none
def sX (P:Program) (call:CallT) (n:Nat) (ops:List Oper) (b:Nat->Nat->Bool) (o:Oper) (ih:StT) (i:Nat) (pend:Pend) (past:Past) (ρ:T X) (s:St):Bool->Option (T X × St)
 |true=>sV P n ops b o ih i pend past ρ s (xvalF P ρ s o.op)
 |false=>sE P n ops b o ih i pend past ρ s (xeffF P false call ρ s o.op)
def sG (P:Program) (call:CallT) (n:Nat) (ops:List Oper) (b:Nat->Nat->Bool) (o:Oper) (ih:StT) (i:Nat) (pend:Pend) (past:Past) (ρ:T X) (s:St):Option Bool->Option (T X × St)
 |some c=>(match c with
  |true=>sX P call n ops b o ih i pend past ρ s (stillOp o.op)
  |false=>sS ih i pend past s (xput n ρ o.dst undX))
 |none=>none
def xstF (P:Program) (call:CallT) (n:Nat) (ops:List Oper) (b:Nat->Nat->Bool) (l:List Oper):StT:=
 @List.rec Oper (λ_=>StT) (λ_ _ _ ρ s=>some (ρ,s)) (λo _ ih i pend past ρ s=>sG P call n ops b o ih i pend past ρ s (xgd ops ρ o)) l
theorem Zp8 (P:Program) (call:CallT) (n:Nat) (ops:List Oper) (b:Nat->Nat->Bool):∀ (l:List Oper) (i:Nat) (pend:Pend) (past:Past) (ρ:T X) (s:St),xstF P call n ops b l i pend past ρ s=xst P call n ops b l i pend past ρ s
 |[],_,_,_,_,_=>rfl
 |o::l,i,pend,past,ρ,s=>by
  have ih:=Zp8 P call n ops b l;show sG P call n ops b o (xstF P call n ops b l) i pend past ρ s (xgd ops ρ o)=_;rw[xst]
  cases xgd ops ρ o with
  |none=>rfl
  |some c=>
   cases c with
   |false=>
    show sS (xstF P call n ops b l) i pend past s (xput n ρ o.dst undX)=_;simp only
    cases xput n ρ o.dst undX with
    |none=>rfl
    |some ρ'=>exact ih _ _ _ _ _
   |true=>
    show sX P call n ops b o (xstF P call n ops b l) i pend past ρ s (stillOp o.op)=_;simp only
    cases stillOp o.op with
    |true=>
     show sV P n ops b o (xstF P call n ops b l) i pend past ρ s (xvalF P ρ s o.op)=_;rw[Zmf];simp only
     cases xval P ρ s o with
     |none=>rfl
     |some x=>
      show sV1 P b o (xstF P call n ops b l) i pend past ρ s x (xdone n ops i o.dst x ρ)=_;simp only
      cases xdone n ops i o.dst x ρ with
      |none=>rfl
      |some ρ'=>
       show sV2 P b o (xstF P call n ops b l) i pend past ρ s x ρ' (blind P o)=_;simp only
       cases blind P o with
       |true=>exact ih _ _ _ _ _
       |false=>
        show sPa (xstF P call n ops b l) (i+1) ((i,o,ρ,x)::pend) past ρ' s (pastOk P ρ o (b i) x past)=_;simp only
        cases pastOk P ρ o (b i) x past with
        |true=>exact ih _ _ _ _ _
        |false=>rfl
    |false=>
     show sE P n ops b o (xstF P call n ops b l) i pend past ρ s (xeffF P false call ρ s o.op)=_;rw[Zmp];simp only
     cases xeff P false call ρ s o with
     |none=>rfl
     |some q=>
      obtain⟨x,s'⟩:=q;show sE2 (xstF P call n ops b l) i pend past s s' (pendOk P s' (b i) pend) (xdone n ops i o.dst x ρ)=_;simp only
      cases pendOk P s' (b i) pend with
      |false=>cases xdone n ops i o.dst x ρ <;> rfl
      |true=>
       cases xdone n ops i o.dst x ρ with
       |none=>rfl
       |some ρ'=>exact ih _ _ _ _ _
def rS (P:Program) (n:Nat) (call:CallT) (ops:Array Oper) (ρ:T X) (s:St):Bool->Option (T X × St)
 |true=>xstF P call n ops.toList (befM (msOf ops.toList [])) ops.toList 0 [] [] ρ s
 |false=>xtr P call n ops ρ s
def rD (P:Program) (n:Nat) (call:CallT) (ops:Array Oper) (ρ:T X) (s:St):Bool->Bool->Option (T X × St)
 |true,true=>xopsF P true call n ops.toList ops.toList 0 ρ s
 |_,_=>rS P n call ops ρ s (stagedB ops ops.toList (msOf ops.toList []) ops.toList 0)
def xregF (P:Program) (n:Nat) (call:CallT) (ops:Array Oper) (ρ:T X) (s:St):Bool->Option (T X × St)
 |false=>xopsF P false call n ops.toList ops.toList 0 ρ s
 |true=>rD P n call ops ρ s (Region.lexB .any ops) (allStill ops.toList)
theorem Zsd (P:Program) (n:Nat) (call:CallT) (ops:Array Oper) (draw:Bool) (ρ:T X) (s:St):xregF P n call ops ρ s draw=xreg P n call ops draw ρ s:=by
 unfold xreg
 cases draw with
 |false=>exact Zio _ _ _ _ _ _ _ _ _
 |true=>
  show rD P n call ops ρ s (Region.lexB .any ops) (allStill ops.toList)=_
  have st:rS P n call ops ρ s (stagedB ops ops.toList (msOf ops.toList []) ops.toList 0)=(match stagedB ops ops.toList (msOf ops.toList []) ops.toList 0 with
   |true=>xst P call n ops.toList (befM (msOf ops.toList [])) ops.toList 0 [] [] ρ s
   |false=>xtr P call n ops ρ s):=by
   cases stagedB ops ops.toList (msOf ops.toList []) ops.toList 0 with
   |true=>exact Zp8 _ _ _ _ _ _ _ _ _ _ _
   |false=>rfl
  simp only
  cases Region.lexB .any ops with
  |false=>exact st
  |true=>
   cases allStill ops.toList with
   |false=>exact st
   |true=>exact Zio _ _ _ _ _ _ _ _ _
def cR2 (s:St):Option X->Option (X × St)
 |some x=>some (x,s)
 |none=>none
def cR (P:Program) (rs:List ResultVar):Option (Exit × T X × St)->Option (X × St)
 |some q=>(match q.1 with
  |.normal=>cR2 q.2.2 (xres P q.2.1 q.2.2 rs [])
  |.ret=>cR2 q.2.2 (xres P q.2.1 q.2.2 rs [])
  |_=>none)
 |none=>none
def cB (P:Program) (run:Run) (fn:Func) (xs:List X) (s:St):Option Code->Bool->Bool->Option (X × St)
 |some c,false,true=>cR P fn.results.toList (run fn.ntmps c (argX (dep fn.ntmps) xs 0 .e) s)
 |_,_,_=>none
def cF (P:Program) (run:Run) (xs:List X) (s:St):Option Func->Option (X × St)
 | some fn => cB P run fn xs s fn.body (fn.name == "runtime.NumGoroutine") (Nat.ble xs.length fn.ntmps)
 |none=>none
def mF (P:Program) (run:Run) (f:FuncId) (xs:List X) (s:St):Option (X × St)->Option (X × St)
 |some p=>some p
 |none=>cF P run xs s (P.funcs[f]?)
def callF (P:Program) (M:List Ent) (run:Run) (f:FuncId) (xs:List X) (s:St):Option (X × St):=mF P run f xs s (memo M f xs s)
theorem Zlt (P:Program) (M:List Ent) (run:Run) (f:FuncId) (xs:List X) (s:St):callF P M run f xs s=callX P M run f xs s:=by
 unfold callF callX
 cases memo M f xs s with
 |some x=>rfl
 |none=>
 show cF P run xs s (P.funcs[f]?)=_;simp only
 cases P.funcs[f]? with
 |none=>rfl
 |some fn=>
  show cB P run fn xs s fn.body (fn.name == "runtime.NumGoroutine") (Nat.ble xs.length fn.ntmps) = _; simp only
  cases fn.body with
  |none=>rfl
  |some c=>
   cases fn.name == "runtime.NumGoroutine" with
   |true=>cases Nat.ble xs.length fn.ntmps <;> rfl
   |false=>
    cases Nat.ble xs.length fn.ntmps with
    |false=>rfl
    |true=>
     show cR P fn.results.toList (run fn.ntmps c (argX (dep fn.ntmps) xs 0 .e) s)=_;simp only
     cases run fn.ntmps c (argX (dep fn.ntmps) xs 0 .e) s with
     |none=>rfl
     |some q=>
      obtain⟨e,ρ',s'⟩:=q
      cases e with
      |normal=>
       show cR2 s' (xres P ρ' s' fn.results.toList [])=_;simp only
       cases xres P ρ' s' fn.results.toList [] <;> rfl
      |ret=>
       show cR2 s' (xres P ρ' s' fn.results.toList [])=_;simp only
       cases xres P ρ' s' fn.results.toList [] <;> rfl
      |_=>rfl
def kR:Option (T X × St)->Option (Exit × T X × St)
 |some q=>some (.normal,q.1,q.2)
 |none=>none
def kS2 (ih:Run) (n:Nat) (y:Code) (q:Exit × T X × St):Exit->Option (Exit × T X × St)
 |.normal=>ih n y q.2.1 q.2.2
 |_=>some q
def kS (ih:Run) (n:Nat) (y:Code):Option (Exit × T X × St)->Option (Exit × T X × St)
 |some q=>kS2 ih n y q q.1
 |none=>none
def kC2 (ih:Run) (n:Nat) (x y:Code) (ρ:T X) (s:St):Bool->Option (Exit × T X × St)
 |true=>ih n x ρ s
 |false=>ih n y ρ s
def kC (ih:Run) (n:Nat) (x y:Code) (ρ:T X) (s:St):Option X->Option (Exit × T X × St)
 |some (.b c)=>kC2 ih n x y ρ s c
 |_=>none
def kB3 (q:Exit × T X × St):Bool->Option (Exit × T X × St)
 |true=>some (.normal,q.2.1,q.2.2)
 |false=>some q
def kB2 (id:Nat) (q:Exit × T X × St):Exit->Option (Exit × T X × St)
 |.exit i=>kB3 q (Nat.beq i id)
 |_=>some q
def kB (id:Nat):Option (Exit × T X × St)->Option (Exit × T X × St)
 |some q=>kB2 id q q.1
 |none=>none
def stepF (P:Program) (M:List Ent) (ih:Run) (n:Nat) (c:Code) (ρ:T X) (s:St):Option (Exit × T X × St):=match c with
 |.skip=>some (.normal,ρ,s)
 |.label _=>some (.normal,ρ,s)
 |.region _ ops draw=>kR (xregF P n (callF P M ih) ops ρ s draw)
 |.seq x y=>kS ih n y (ih n x ρ s)
 |.cond q x y=>kC ih n x y ρ s (evX ρ q)
 |.block id x=>kB id (ih n x ρ s)
 |.loop x=>kS ih n (.loop x) (ih n x ρ s)
 |.exit id=>some (.exit id,ρ,s)
 |.ret=>some (.ret,ρ,s)
 |_=>none
def evF (P:Program) (M:List Ent) (k:Nat):Run:=@Nat.rec (λ_=>Run) (λ_ _ _ _=>none) (λ_ ih=>stepF P M ih) k
theorem Zta (P:Program) (M:List Ent):∀ (k:Nat) (n:Nat) (c:Code) (ρ:T X) (s:St),evF P M k n c ρ s=ev P M k n c ρ s
 |0,_,_,_,_=>rfl
 |k+1,n,c,ρ,s=>by
  have ih:=Zta P M k
  have ihf:evF P M k=ev P M k:=by funext n c ρ s;exact ih n c ρ s
  show stepF P M (evF P M k) n c ρ s=_;rw[ihf];unfold stepF
  cases c with
  |region id ops draw=>
   simp only[ev];rw[Zsd]
   have:callF P M (ev P M k)=callX P M (ev P M k):=by funext f xs s;exact Zlt P M _ f xs s
   rw[this]
   cases xreg P n (callX P M (ev P M k)) ops draw ρ s <;> rfl
  |seq x y=>
   simp only[ev]
   cases ev P M k n x ρ s with
   |none=>rfl
   |some q=>obtain⟨e,ρ',s'⟩:=q;cases e <;> rfl
  |cond q x y=>
   simp only[ev]
   cases evX ρ q with
   |none=>rfl
   |some z=>
    cases z with
    |b c=>cases c <;> rfl
    |_=>rfl
  |block id x=>
   simp only[ev]
   cases ev P M k n x ρ s with
   |none=>rfl
   |some q=>
    obtain⟨e,ρ',s'⟩:=q
    cases e with
    |exit i=>
     show kB3 (.exit i,ρ',s') (Nat.beq i id)=_;simp only
     cases Nat.beq i id <;> rfl
    |_=>rfl
  |loop x=>
   simp only[ev]
   cases ev P M k n x ρ s with
   |none=>rfl
   |some q=>obtain⟨e,ρ',s'⟩:=q;cases e <;> rfl
  |_=>rfl
theorem Zuo (P:Program) (M:List Ent) (k:Nat):evF P M k=ev P M k:=by funext n c ρ s;exact Zta P M k n c ρ s
theorem Zsj {P:Program}(hm:P.follows .mixedOrders=true){f:FuncId}{k:Nat}{M:List Ent}(hM:OraOk P M) (h:isTrue (callF P M (evF P M k) f [] s0)=true){w:World}{L:List HProp}{K:KT}(H:Holds w L)
  (post:∀ w',Same w w'->Holds w' L->K (.bool true) w'):Cl P f #[] w K:=by
 rw[Zuo,Zlt] at h;exact Zux hm hM h H post
theorem Zuj {P:Program}:OraOk P []:=λe he=>by cases he
def isRes (x:X) (q':St):Option (X × St)->Bool
 |some r=>(match eqX r.1 x with
  |true=>subS r.2 q'
  |false=>false)
 |none=>false
end
end Go.Ev
namespace Go.Vc
variable {P:Program}{w:World}{L:List HProp}
open Classical in
noncomputable def getM:List MapEntry->Int->Option Value
 |[],_=>none
 |e::l,k=>if e.key=iv k then some e.val else getM l k
def keysI (l:List MapEntry):Prop:=∀ e∈l,∃ k:Int,e.key=iv k
theorem Zhq {a b:Int}:iv a=iv b↔a=b:=⟨λh=>by cases h;rfl,λh=>by rw[h]⟩
theorem Zid:∀ {l:List MapEntry}(hk:keysI l) (k:Int) (i:Nat),∃ q,Instr.findNow (.int .i64) (iv k) l i=some q/\q.map (·.2)=getM l k/\
  (∀ j v,q=some (j,v)->i<=j/\(∃ e,l[j - i]?=some e/\e.key=iv k)/\∀ (u:Value) (k':Int),getM (l.modify (j - i) λe=>{ e with key:=iv k,val:=u }) k'=if k'=k then some u else getM l k')/\
  (q=none->∀ (u:Value) (c:Nat) (k':Int),getM (l++[⟨iv k,u,c⟩]) k'=if k'=k then some u else getM l k')
 |[],_,k,i=>by
  refine⟨none,rfl,rfl,λj v h=>(by cases h),λ_ u c k'=>?_⟩;simp only[hO_,getM,Zhq]
  by_cases h:k=k'
  ·rw[if_pos h,if_pos h.symm]
  ·rw[if_neg h,if_neg λe=>h e.symm]
 |e::l,hk,k,i=>by
  obtain⟨n,hn⟩:=hk e (hJ_ ..)
  have hs:Instr.sameNow (.int .i64) (iv k) e.key=some (k==n):=by rw[hn];simp[Instr.sameNow]
  have hk':keysI l:=λx hx=>hk x (hK_ _ hx)
  by_cases h:k=n
  ·subst h;refine⟨some (i,e.val),by simp[Instr.findNow,hs],by simp[getM,hn],λj v hq=>?_,λhq=>(by cases hq)⟩;simp only[Option.some.injEq,Prod.mk.injEq] at hq;obtain⟨rfl,rfl⟩:=hq;refine⟨Nat.le_refl _,⟨e,by simp,hn⟩,λu k'=>?_⟩;rw[Nat.sub_self];simp only[List.modify_zero_cons,getM,hn,Zhq]
   by_cases h:k=k'
   ·rw[if_pos h,if_pos h.symm]
   ·rw[if_neg h,if_neg λe=>h e.symm,if_neg h]
  ·obtain⟨q,g1,g2,g3,g4⟩:=Zid hk' k (i+1);have hb:(k==n)=false:=beq_eq_false_iff_ne.2 h;refine⟨q,by simp[Instr.findNow,hs,hb,g1],?_,λj v hq=>?_,λhq u c k'=>?_⟩
   ·rw[g2,getM,if_neg (by rw[hn,Zhq];exact λe=>h e.symm)]
   ·obtain⟨e1,⟨e',e2,e3⟩,e4⟩:=g3 j v hq
    have hj:j - i=(j - (i+1))+1:=by omega
    refine⟨by omega,⟨e',by rw[hj,gF];exact e2,e3⟩,λu k'=>?_⟩;rw[hj,List.modify_succ_cons,getM,getM,e4 u k']
    by_cases h2:e.key=iv k'
    ·rw[if_pos h2,if_pos h2,if_neg];rintro rfl;rw[hn,Zhq] at h2;exact h h2.symm
    ·rw[if_neg h2,if_neg h2]
   ·rw[List.cons_append,getM,getM,g4 hq u c k']
    by_cases h2:e.key=iv k'
    ·rw[if_pos h2,if_pos h2,if_neg];rintro rfl;rw[hn,Zhq] at h2;exact h h2.symm
    ·rw[if_neg h2,if_neg h2]
def MP (b:Nat) (f:Int->Option Value):HProp:=λh=>∃ l clock,h b=some (.map (List.toArray l) clock)/\keysI l/\∀ k,getM l k=f k
theorem Holds.openMP (H:Holds w L) (i:Nat){b:Nat}{f:Int->Option Value}(hi:L[i]?=some (MP b f)):∃ l clock,keysI l/\(∀ k,getM l k=f k)/\Holds w (L.set i (blkO b (.map (List.toArray l) clock))):=by
 obtain⟨g,⟨l,clock,h1,h2,h3⟩,hs,hL⟩:=H.front i hi;exact⟨l,clock,h2,h3,Sat.push i hi ⟨g,h1,hs,hL⟩⟩
theorem ckey {kt:TypeId}{k:Int}(hk:P.underlying kt=some (.int .i64)) (b:Bool):(Instr.checkKey b 10000 kt (iv k)).run P w=.ok () w:=Ev.Zbq (σ:=λ_=>none) (k:=.i .i64 k) hk rfl rfl b 9999 w
theorem r_lkM {t kt et:TypeId}{x:Ev.X}{z:Value}(ht:P.underlying t=some (.map kt et)) (hk:P.underlying kt=some (.int .i64)) (hx:Ev.zeroVX P et=some x) (hz:Ev.vl (λ_=>none) x=some z)
  (i:Nat) (H:Holds w L) {b:Nat} {f:Int->Option Value} (hi:L[i]?=some (MP b f)) {k:Int} {K:Value->Prop} (h:K ((f k).getD z)):Lk P t (.map (some b)) (iv k) false w K:=by
 obtain⟨l,clock,h1,h2,H1⟩:=H.openMP i hi;have hb:=H1.obj i (Za2 hi);obtain⟨q,g1,g2,_,_⟩:=Zid h1 k 0;have hfk:=Ev.mfindKey (P:=P) (w:=w) hk g1;have hck:=λb=>ckey (w:=w) (k:=k) hk b;obtain⟨z',e1,e2⟩:=Ev.Ze3 (σ:=λ_=>none) hx;rw[hz] at e1;obtain rfl:=Option.some.inj e1;refine⟨(f k).getD z,?_,h⟩;unfold Instr.lookup;rw[Sem.run_bind,run_underlying ht];rw[<-h2 k,<-g2]
 cases q with
 |none=>simp only[Result.andThen_ok,Sem.run_bind,Sem.run_pure,Ev.mgetObj hb,hck,List.toList_toArray,hfk,e2,Option.map_none,Option.getD_none,Bool.false_eq_true,if_false]
 |some q=>simp only[Result.andThen_ok,Sem.run_bind,Sem.run_pure,Ev.mgetObj hb,hck,List.toList_toArray,hfk,Option.map_some,Option.getD_some,Bool.false_eq_true,if_false]
theorem heap_set {b:Nat}{o o':Obj}{w':World}(hb:w.heap[b]?=some o) (hw:w'={ w with heap:=w.heap.setIfInBounds b o' }):w'.heap[b]?=some o'/\(∀ c,c≠b->w'.heap[c]?=w.heap[c]?)/\Same w w':=by
 subst hw;have hlt:b < w.heap.size:=(Array.getElem?_eq_some_iff.1 hb).1;refine⟨by simp[Array.getElem?_setIfInBounds,hlt],λc hc=>?_,⟨rfl,rfl,rfl,by simp⟩⟩;show (w.heap.setIfInBounds b o')[c]?=_;rw[Array.getElem?_setIfInBounds,if_neg λe=>hc e.symm]
abbrev Tx:=Int × Value × List UInt8
def ckT (e:TypeId) (x:Tx):HProp:=SL bv e x.2.1 x.2.2
def fmT (es:List Tx) (k:Int):Option Value:=(es.find? λx=>decide (x.1=k)).map (·.2.1)
def byT (es:List Tx) (k:Int):List UInt8:=((es.find? λx=>decide (x.1=k)).map (·.2.2)).getD []
def TM (e:TypeId) (b:Nat) (es:List Tx):HProp:=Sat (MP b (fmT es)::es.map (ckT e))
def rest (es:List Tx) (k:Int):List Tx:=es.filter λx=>!decide (x.1=k)
section
variable {t kt et tb tx d e:TypeId}{i b:Nat}{es:List Tx}{k:Int}
def TMp (e:TypeId) (b:Nat) (es:List Tx) (k:Int) (v:Value) (bs:List UInt8):HProp:=Sat (MP b (fmT es)::SL bv e v bs::(rest es k).map (ckT e))
end
end Go.Vc
namespace Go.Vc
variable {α:Type}{F:α->HProp}{w:World}{L:List HProp}{xs:List α}
def PkA (A:List HProp):HProp:=λh=>Sat A h
def PkL (F:α->HProp) (xs:List α):HProp:=λh=>Sat (xs.map F) h
theorem Sat.nest {Q:HProp}{B:List HProp}{h:Hp}(H:Sat (Q::B) h):Sat [Q,Sat B] h:=Zbd (λg hg=>Sat.pack (A:=B) (L:=[]) (by rw[gU];exact hg)) H
theorem Sat.flat {Q:HProp}{B:List HProp}{h:Hp}(H:Sat [Q,Sat B] h):Sat (Q::B) h:=Zbd (λg hg=>by
 have:=Sat.unpack (A:=B) (L:=[]) hg;rw[gU] at this
 exact this) H
theorem Holds.atK (H:Holds w L) (i:Nat) (hi:L[i]?=some (PkL F xs)){j:Nat}{x:α}(hx:xs[j]?=some x):Holds w (F x::Sat ((xs.map F).eraseIdx j)::L.eraseIdx i):=
 Holds.unpack (A:=[_,_]) (Holds.imp (H.front i hi) λh hh=>Sat.nest (Sat.pull j hh (by rw[hV_,hx];rfl)))
theorem Holds.putK {Q:HProp}(i:Nat) (hi:L[i]?=some Q){j:Nat}{x y:α}(hx:xs[j]?=some x) (H:Holds w (F y::Sat ((xs.map F).eraseIdx j)::L.eraseIdx i)):Holds w (L.set i (PkL F (xs.set j y))):=by
 refine Sat.push i hi (Sat.imp (Sat.pack (A:=[_,_]) H) λh hh=>?_);have h1:=Sat.push (L:=xs.map F) (Q:=F x) j (by rw[hV_,hx];rfl) (Sat.flat hh);rw[<-List.map_set] at h1;exact h1
theorem Holds.addK (i:Nat) (hi:L[i]?=some (PkL F xs)){y:α}(H:Holds w (F y::L)):Holds w (L.set i (PkL F (xs++[y]))):=by
 have h1:Holds w (PkL F xs::F y::L.eraseIdx i):=H.front (i+1) (by rw[gF];exact hi);refine Sat.push i hi (Sat.imp (Sat.pack (A:=[_,_]) h1) λh hh=>?_);have h2:Sat (xs.map F++[F y]) h:=Sat.unpack (A:=xs.map F) (L:=[F y]) hh;show Sat ((xs++[y]).map F) h;rw[List.map_append];exact h2
theorem Holds.delK {Q:HProp}(i:Nat) (hi:L[i]?=some Q){j:Nat}{P:HProp}(H:Holds w (P::Sat ((xs.map F).eraseIdx j)::L.eraseIdx i)):Holds w (L.set i (PkL F (xs.eraseIdx j))):=by
 refine Sat.push i hi (Sat.imp H.drop λh hh=>?_);show Sat ((xs.eraseIdx j).map F) h
 have e:∀ (xs:List α) (j:Nat),(xs.eraseIdx j).map F=(xs.map F).eraseIdx j:=by
  intro xs
  induction xs with
  |nil=>intro j;rfl
  |cons x r ih=>intro j;cases j with
   |zero=>rfl
   |succ j=>simp[ih]
 rw[e];exact hh
theorem Holds.nilK (F:α->HProp) (H:Holds w L):Holds w (PkL F ([]:List α)::L):=Holds.pack (A:=[]) H
end Go.Vc
namespace Go.Vc
variable {P:Program}{w:World}{L:List HProp}
def MD (b:Nat) (f:Int->Option Value) (n:Nat):HProp:=λh=>∃ l clock,h b=some (.map (List.toArray l) clock)/\keysI l/\(l.map (·.key)).Nodup/\(∀ k,getM l k=f k)/\l.length<=n
theorem Holds.openMD (H:Holds w L) (i:Nat){b n:Nat}{f:Int->Option Value}(hi:L[i]?=some (MD b f n)):∃ l clock,keysI l/\(l.map (·.key)).Nodup/\(∀ k,getM l k=f k)/\l.length<=n/\Holds w (L.set i (blkO b (.map (List.toArray l) clock))):=by
 obtain⟨g,⟨l,clock,h1,h2,h3,h4,h5⟩,hs,hL⟩:=H.front i hi;exact⟨l,clock,h2,h3,h4,h5,Sat.push i hi ⟨g,h1,hs,hL⟩⟩
theorem r_mmD {t:TypeId}(H:Holds w L){K:KT}(h:∀ b w',Same w w'->Holds w' (MD b (λ_=>none) 0::L)->K (.map (some b)) w'):Mm P t none w K:=
 ⟨.map (some w.heap.size),w.alloc (.map #[] 0),rfl,h _ _ (.alloc _ _) (Holds.imp (H.alloc _) λg hg=>⟨[],0,hg,λe he=>(by cases he),List.nodup_nil,λk=>rfl,Nat.le_refl 0⟩)⟩
theorem r_lkD {t kt et:TypeId}{x:Ev.X}{z:Value}(ht:P.underlying t=some (.map kt et)) (hk:P.underlying kt=some (.int .i64)) (hx:Ev.zeroVX P et=some x) (hz:Ev.vl (λ_=>none) x=some z)
  (i:Nat) (H:Holds w L) {b n:Nat} {f:Int->Option Value} (hi:L[i]?=some (MD b f n)) {k:Int} {K:Value->Prop} (h:K ((f k).getD z)):Lk P t (.map (some b)) (iv k) false w K:=by
 have H1:Holds w (L.set i (MP b f)):=H.at i hi λg ⟨l,c,h1,h2,_,h4,_⟩=>⟨l,c,h1,h2,h4⟩;exact r_lkM ht hk hx hz i H1 (Za2 hi) h
theorem r_lnD {t kt et ty:TypeId}(ht:P.underlying t=some (.map kt et)) (i:Nat) (H:Holds w L){b n:Nat}{f:Int->Option Value}(hi:L[i]?=some (MD b f n)){K:Value->Prop}(h:∀ m,m<=n->K (nv m)):Ln P #[t] ty #[.map (some b)] w K:=by
 obtain⟨l,clock,h1,h2,h3,h4,H1⟩:=H.openMD i hi;have hb:=H1.obj i (Za2 hi);refine⟨nv l.length,?_,h l.length h4⟩;simp[Builtin.len_,run_underlying ht,Ev.mgetObj hb,goInt]
theorem Zqb {l:List MapEntry}{k:Int}(h:getM l k=none):∀ e∈l,e.key≠iv k:=by
 induction l with
 |nil=>intro e he;cases he
 |cons x r ih=>
  rw[getM] at h;split at h
  ·cases h
  ·rename_i hx;intro e he;rcases List.mem_cons.1 he with rfl|he
   ·exact hx
   ·exact ih h e he
theorem Zmn {k:Int}:∀ {l:List MapEntry}{i:Nat}{e:MapEntry},(l.map (·.key)).Nodup->l[i]?=some e->e.key=iv k->∀ k',getM (l.eraseIdx i) k'=if k'=k then none else getM l k'
 |[],i,e,_,h,_,_=>by simp at h
 |x::r,0,e,hn,h,he,k'=>by
  obtain rfl:x=e:=by simpa using h
  rw[hR_,List.nodup_cons] at hn;show getM r k'=_;rw[getM,he,Zhq]
  by_cases hk:k'=k
  ·subst hk;rw[if_pos rfl]
   cases hg:getM r k' with
   |none=>rfl
   |some v=>
    exfalso
    have:∀ {r:List MapEntry},getM r k'=some v->iv k'∈r.map (·.key):=by
     intro r
     induction r with
     |nil=>intro h;cases h
     |cons y s ih=>
      intro h;rw[getM] at h;split at h
      ·rename_i hy;rw[hR_,hy];exact hJ_ ..
      ·exact hK_ _ (ih h)
    exact hn.1 (by rw[he];exact this hg)
  ·rw[if_neg hk,if_neg λq=>hk q.symm]
 |x::r,i+1,e,hn,h,he,k'=>by
  rw[hR_,List.nodup_cons] at hn;rw[List.eraseIdx_cons_succ,getM,getM];have ih:=Zmn hn.2 (by simpa using h) he k'
  by_cases hx:x.key=iv k'
  ·have:k'≠k:=by
    rintro rfl;refine hn.1 ?_;rw[hx,<-he];exact List.mem_map_of_mem (mem_of_getElem? (by simpa using h))
   rw[if_pos hx,if_neg this,if_pos hx]
  ·rw[if_neg hx,if_neg hx,ih]
theorem r_muD {t kt et:TypeId}(ht:P.underlying t=some (.map kt et)) (hk:P.underlying kt=some (.int .i64))
  (i:Nat) (H:Holds w L) {b n:Nat} {f:Int->Option Value} (hi:L[i]?=some (MD b f n)) {k:Int} {v:Value} {K:World->Prop} (h:∀ w',Same w w'->Holds w' (L.set i (MD b (λj=>if j=k then some v else f j) (n+1)))->K w'):Mu P t (.map (some b)) (iv k) v w K:=by
 obtain⟨l,clock,h1,hnd,h2,hlen,H1⟩:=H.openMD i hi;have hb:=H1.obj i (Za2 hi);obtain⟨q,g1,gm,g3,g4⟩:=Zid h1 k 0;have hfk:=Ev.mfindKey (P:=P) (w:=w) hk g1;have hck:=ckey (w:=w) (k:=k) hk
 have fin:∀ (l':List MapEntry) (c':Nat) (w':World),w'={ w with heap:=w.heap.setIfInBounds b (.map l'.toArray c') }->keysI l'->(l'.map (·.key)).Nodup->l'.length<=n+1->(∀ k',getM l' k'=if k'=k then some v else getM l k')->K w':=by
  intro l' c' w' hw hk' hnd' hl' hg;obtain⟨a1,a2,a3⟩:=heap_set hb hw;have H2:=H1.upd i (Za2 hi) a1 a2;rw[set_set] at H2;refine h w' a3 ?_;have H3:=H2.at i (Za2 hi) (Q:=MD b (λj=>if j=k then some v else f j) (n+1)) λg hg'=>⟨l',c',hg',hk',hnd',λk'=>by rw[hg,h2],hl'⟩;rw[set_set] at H3;exact H3
 cases q with
 |none=>
  refine⟨(),{ w with heap:=w.heap.setIfInBounds b (.map (l++[MapEntry.mk (iv k) v clock]).toArray (clock+1)) },?_,fin _ _ _ rfl (λe he=>?_) ?_ (by simp;omega) (g4 rfl v clock)⟩
  ·unfold Instr.mapUpdate;rw[Sem.run_bind,run_underlying ht];simp only[Result.andThen_ok];rw[Sem.run_bind,Ev.mgetObj hb];simp only[Result.andThen_ok];rw[Sem.run_bind,hck];simp only[Result.andThen_ok];rw[Sem.run_bind,hfk];simp only[Result.andThen_ok];rw[Ev.msetObj _ hb];simp
  ·rcases hT_.1 he with he|he
   ·exact h1 e he
   ·rw[List.mem_singleton.1 he];exact⟨k,rfl⟩
  ·have hno:=Zqb (l:=l) (k:=k) (by rw[<-gm];rfl);rw[List.map_append,hR_,List.map_nil,List.nodup_append];refine⟨hnd,by simp,?_⟩;intro a ha c hc;rw[List.mem_singleton] at hc;obtain⟨e,he,rfl⟩:=List.mem_map.1 ha;rw[hc];exact hno e he
 |some q=>
  obtain⟨j,x⟩:=q;obtain⟨_,⟨e',e5,e6⟩,g5⟩:=g3 j x rfl;rw[Nat.sub_zero] at e5 g5
  have hkeys:(l.modify j λe=>{ e with key:=iv k,val:=v }).map (·.key)=l.map (·.key):=by
   apply List.ext_getElem?;intro q;rw[hV_,hV_,List.getElem?_modify]
   cases hl:l[q]? with
   |none=>rfl
   |some e0=>
    simp only[Option.map_eq_map,Option.map_some]
    by_cases hq:j=q
    ·subst hq;rw[e5] at hl;obtain rfl:=Option.some.inj hl;rw[if_pos rfl,e6]
    ·rw[if_neg hq]
  refine⟨(),{ w with heap:=w.heap.setIfInBounds b (.map (l.modify j λe=>{ e with key:=iv k,val:=v }).toArray clock) },?_,fin _ _ _ rfl (λe he=>?_) (by rw[hkeys];exact hnd) (by rw[List.length_modify];omega) (g5 v)⟩
  ·unfold Instr.mapUpdate;rw[Sem.run_bind,run_underlying ht];simp only[Result.andThen_ok];rw[Sem.run_bind,Ev.mgetObj hb];simp only[Result.andThen_ok];rw[Sem.run_bind,hck];simp only[Result.andThen_ok];rw[Sem.run_bind,hfk];simp only[Result.andThen_ok]
   have hg:(((l.toArray)[j]?).map (·.key)).getD (iv k)=e'.key:=by
    have:l.toArray[j]?=some e':=by simpa using e5
    rw[this];rfl
   rw[Sem.run_bind,hg]
   have hks:(Instr.keyThatStays e'.key (iv k)).run P w=.ok (iv k) w:=by
    unfold Instr.keyThatStays;rw[if_pos (by rw[e6];simp[Instr.sameBits])];rfl
   rw[hks];simp only[Result.andThen_ok];rw[Ev.msetObj _ hb];simp
  ·obtain⟨q,hq⟩:=List.getElem?_of_mem he;rw[List.getElem?_modify] at hq
   cases hl:l[q]? with
   |none=>rw[hl] at hq;cases hq
   |some e0=>
    rw[hl] at hq;simp only[Option.map_eq_map,Option.map_some,Option.some.injEq] at hq;subst hq;split
    ·exact⟨k,rfl⟩
    ·exact h1 e0 (mem_of_getElem? hl)
theorem Zvl {t kt et t2 ty:TypeId}(ht:P.underlying t=some (.map kt et)) (hk:P.underlying kt=some (.int .i64))
  (i:Nat) (H:Holds w L) {b n:Nat} {f:Int->Option Value} (hi:L[i]?=some (MD b f n)) {k:Int} {K:KT} (h:∀ w',Same w w'->Holds w' (L.set i (MD b (λj=>if j=k then none else f j) n))->K (.tuple #[]) w'):Bdel P #[t,t2] ty #[.map (some b),iv k] w K:=by
 obtain⟨l,clock,h1,hnd,h2,hlen,H1⟩:=H.openMD i hi;have hb:=H1.obj i (Za2 hi);obtain⟨q,g1,gm,g3,g4⟩:=Zid h1 k 0;have hfk:=Ev.mfindKey (P:=P) (w:=w) hk g1;have hck:=λb=>ckey (w:=w) (k:=k) hk b
 have fin:∀ (l':List MapEntry) (w':World),w'={ w with heap:=w.heap.setIfInBounds b (.map l'.toArray clock) }->keysI l'->(l'.map (·.key)).Nodup->l'.length<=n->(∀ k',getM l' k'=if k'=k then none else getM l k')->K (.tuple #[]) w':=by
  intro l' w' hw hk' hnd' hl' hg;obtain⟨a1,a2,a3⟩:=heap_set hb hw;have H2:=H1.upd i (Za2 hi) a1 a2;rw[set_set] at H2;refine h w' a3 ?_;have H3:=H2.at i (Za2 hi) (Q:=MD b (λj=>if j=k then none else f j) n) λg hg'=>⟨l',clock,hg',hk',hnd',λk'=>by rw[hg,h2],hl'⟩;rw[set_set] at H3;exact H3
 cases q with
 |none=>
  refine⟨.tuple #[],{ w with heap:=w.heap.setIfInBounds b (.map l.toArray clock) },?_,fin l _ rfl h1 hnd hlen λk'=>?_⟩
  ·unfold Builtin.delete_;simp only[List.getElem?_toArray,List.getElem?_cons_zero,gF];rw[Sem.run_bind,run_underlying ht];simp only[Result.andThen_ok];rw[Sem.run_bind,Ev.mgetObj hb];simp only[Result.andThen_ok];rw[Sem.run_bind,hck];simp only[Result.andThen_ok];rw[Sem.run_bind,hfk];simp only[Result.andThen_ok]
   first
    |(rw[Sem.run_bind,Ev.msetObj _ hb];rfl)
    |(simp[Sem.run_bind,Ev.msetObj _ hb])
    |skip
  ·by_cases e:k'=k
   ·subst e;rw[if_pos rfl,<-gm];rfl
   ·rw[if_neg e]
 |some q=>
  obtain⟨j,x⟩:=q;obtain⟨_,⟨e',e5,e6⟩,_⟩:=g3 j x rfl;rw[Nat.sub_zero] at e5;have hlt:j < l.length:=(gH.1 e5).1;refine⟨.tuple #[],{ w with heap:=w.heap.setIfInBounds b (.map (l.eraseIdx j).toArray clock) },?_,fin _ _ rfl (λe he=>h1 e (List.mem_of_mem_eraseIdx he)) ?_ ?_ (Zmn hnd e5 e6)⟩
  ·unfold Builtin.delete_;simp only[List.getElem?_toArray,List.getElem?_cons_zero,gF];rw[Sem.run_bind,run_underlying ht];simp only[Result.andThen_ok];rw[Sem.run_bind,Ev.mgetObj hb];simp only[Result.andThen_ok];rw[Sem.run_bind,hck];simp only[Result.andThen_ok];rw[Sem.run_bind,hfk];simp only[Result.andThen_ok]
   have e:l.toArray.eraseIdxIfInBounds j=(l.eraseIdx j).toArray:=by
    simp[Array.eraseIdxIfInBounds,hlt]
   first
    |(rw[Sem.run_bind,Ev.msetObj _ hb,e];rfl)
    |(simp[Sem.run_bind,Ev.msetObj _ hb,e])
    |skip
  ·exact List.Sublist.nodup (List.Sublist.map _ (List.eraseIdx_sublist l j)) hnd
  ·rw[List.length_eraseIdx]
   split <;> omega
end Go.Vc
namespace Go.Vc
section
variable {P:Program}{w:World}{L:List HProp}
def blkF (b:Nat) (t:TypeId) (cs:List Value) (n:Nat):HProp:=blkO b (.cells cs.toArray t (0,n))
def slF (e:TypeId) (oa:Option Addr) (xs:List UInt8) (sp:List Value):HProp:=
 match oa with
 |none=>pur (xs=[]/\sp=[])
 |some a=>λh=>∃ n,n<=xs.length/\a.off=0/\a.spot=none/\blkF a.block e (xs.map bv++sp) n h
def SF (e:TypeId) (v:Value) (xs:List UInt8):HProp:=λh=>∃ oa sp,v=.slice oa xs.length (xs.length+sp.length)/\slF e oa xs sp h
theorem SF_of {e:TypeId}{v:Value}{xs:List UInt8}{h:Hp}(H:SL bv e v xs h):SF e v xs h:=by
 obtain⟨oa,sp,hv,hs⟩:=H;refine⟨oa,sp,hv,?_⟩
 cases oa with
 |none=>exact hs
 |some a=>exact⟨0,Nat.zero_le _,hs.1,hs.2.1,hs.2.2⟩
theorem Holds.openF (H:Holds w L) (i:Nat){e:TypeId}{v:Value}{xs:List UInt8}(hi:L[i]?=some (SF e v xs)):∃ oa sp,v=.slice oa xs.length (xs.length+sp.length)/\Holds w (L.set i (slF e oa xs sp)):=by
 obtain⟨g,⟨oa,sp,hv,hg⟩,hs,hL⟩:=H.front i hi;exact⟨oa,sp,hv,Sat.push i hi ⟨g,hg,hs,hL⟩⟩
theorem Holds.blkF (H:Holds w L) (i:Nat){e:TypeId}{a:Addr}{xs:List UInt8}{sp:List Value}(hi:L[i]?=some (slF e (some a) xs sp)):∃ b n,a=⟨b,0,none⟩/\n<=xs.length/\Holds w (L.set i (blkF b e (xs.map bv++sp) n)):=by
 obtain⟨g,⟨n,h1,h2,h3,hg⟩,hs,hL⟩:=H.front i hi;obtain⟨b,o,s⟩:=a;simp only at h2 h3;subst h2;subst h3;exact⟨b,n,rfl,h1,Sat.push i hi ⟨g,hg,hs,hL⟩⟩
theorem Holds.cellF (H:Holds w L) (i:Nat){b n:Nat}{t:TypeId}{cs:List Value}(hi:L[i]?=some (Vc.blkF b t cs n)) (o:Nat):w.cell? ⟨b,o,none⟩=cs[o]?:=by
 have:=H.obj i hi;simp[World.cell?,this]
theorem Holds.frozenF (H:Holds w L) (i:Nat){b n:Nat}{t:TypeId}{cs:List Value}(hi:L[i]?=some (Vc.blkF b t cs n)){o:Nat}(ho:n<=o):w.frozen? ⟨b,o,none⟩=false:=by
 have:=H.obj i hi;simp[World.frozen?,this];omega
theorem Holds.setF (H:Holds w L) (i:Nat){b n:Nat}{t:TypeId}{cs:List Value}(hi:L[i]?=some (Vc.blkF b t cs n)) (o:Nat) (v:Value):Holds (w.setCell ⟨b,o,none⟩ v) (L.set i (Vc.blkF b t (cs.set o v) n)):=by
 have h:=H.obj i hi;refine H.upd i hi ?_ λc hc=>?_
 ·simp[World.setCell,Array.getElem?_modify,h]
 ·simp only[World.setCell,Array.getElem?_modify];rw[if_neg (by simpa using λh=>hc h.symm)]
theorem Holds.setCellsF (i:Nat){b o n:Nat}{t:TypeId}:∀ (vs:List Value){w:World}{L:List HProp}{cs:List Value}(k:Nat) (_:Holds w L) (_:L[i]?=some (Vc.blkF b t cs n)),
  Holds (Vc.setCells w ⟨b,o,none⟩ vs k) (L.set i (Vc.blkF b t (setL cs (o+k) vs) n))
 |[],w,L,cs,k,H,hi=>by
  rw[setL]
  have:L.set i (Vc.blkF b t cs n)=L:=by
   apply List.ext_getElem?;intro j;rw[List.getElem?_set];split
   ·rename_i e;subst e;rw[hi];split
    ·rfl
    ·rename_i h;rw[gX (by omega)] at hi;cases hi
   ·rfl
  rw[this];exact H
 |v::r,w,L,cs,k,H,hi=>by
  rw[Vc.setCells,setL]
  have e1:(⟨b,o,none⟩:Addr).add k=⟨b,o+k,none⟩:=by
   unfold Addr.add;split
   ·rename_i h;rw[h];rfl
   ·rfl
  rw[e1];have H2:=H.setF i hi (o+k) v;have H3:=Holds.setCellsF (o:=o) i r (k+1) H2 (Za2 hi);rw[set_set] at H3;exact H3
theorem r_apF {t e tx:TypeId}{z:Value} [hr:Row P t e z] (hk:P.underlying tx=some .string) (H:Holds w L) (i:Nat){v:Value}{xs ys:List UInt8}{ty:TypeId}{K:KT}
  (hi:L[i]?=some (SF e v xs)) (hn:xs.length+ys.length<=1099511627776)
  (h:∀ v' w',sg v'=true->Same w w'->Holds w' (L.set i (SF e v' (xs++ys)))->K v' w'):Ap P #[t,tx] ty #[v,.string ⟨ys.toArray⟩] w K:=by
 obtain⟨inf,hinf,hsz,hby,hzz⟩:=hr.inf
 have hb:byteCells ⟨ys.toArray⟩=ys.map bv:=by
  unfold byteCells;simp
 have hsrc:∀ w,Src P inf.size tx (.string ⟨ys.toArray⟩) ys.length (ys.map bv) w:=λw=>by
  have:=Src.ofString (P:=P) w hk ⟨ys.toArray⟩;rw[hb] at this;rw[hsz]
  have e:(⟨ys.toArray⟩:ByteArray).size=ys.length:=by show ys.toArray.size=_;simp
  rw[e] at this;exact this
 obtain⟨oa,sp,rfl,H1⟩:=H.openF i hi
 by_cases hy:ys=[]
 ·subst hy;refine⟨_,_,run_append_nothing w t tx ty e inf hr.und hinf oa xs.length (xs.length+sp.length) (by omega) _ (hsrc w),h _ _ rfl (.refl _) ?_⟩
  rw[gU,show L.set i (SF e (.slice oa xs.length (xs.length+sp.length)) xs)=L from by
   have hil:i < L.length:=(gH.1 hi).1;have e1:L[i]=_:=(gH.1 hi).2
   rw[<-e1,List.set_getElem_self]]
  exact H
 have hy0:0 < ys.length:=List.length_pos_iff.2 hy;have hmul:(xs.length+ys.length)*inf.bytes<=140737488355328:=Nat.le_trans (Nat.mul_le_mul_left _ hby) (by omega)
 have hold:(Builtin.firstCells inf.size xs.length (.slice oa xs.length (xs.length+sp.length))).run P w.drew=.ok (xs.map bv).toArray w.drew:=by
  cases oa with
  |none=>
   obtain⟨g,⟨h2,h3⟩,_⟩:=H1.front i (Za2 hi);subst h2;exact run_firstCells_none w.drew inf.size 0 0 _
  |some a=>
   obtain⟨b,n,rfl,hnn,Hb⟩:=H1.blkF i (Za2 hi);refine run_firstCells_some w.drew inf.size xs.length ⟨b,0,none⟩ xs.length _ (xs.map bv) (by simp[hsz]) ?_;intro k u hu
   have e1:(⟨b,0,none⟩:Addr).add k=⟨b,k,none⟩:=by
    unfold Addr.add;split
    ·rename_i h;rw[h]
    ·simp
   rw[set_set] at Hb;have hc:=Hb.cellF i (Za2 hi) k;rw[gM (by simpa using (gH.1 hu).1),hu] at hc;rw[e1];exact hc
 rcases hU_ sp.length ys.length with hg|hg
 ·have hrun:=run_append_grow_src (P:=P) w t tx ty e inf z hr.und hinf hzz oa xs.length (xs.length+sp.length) (xs.map bv) hold _ ys.length _ (hsrc w) (by omega) (by omega) (growslice_fits (by omega) hmul);refine⟨_,_,hrun,?_⟩;have hcap:=grownCap_ge w (xs.length+ys.length) (xs.length+sp.length) e;generalize grownCap w (xs.length+ys.length) (xs.length+sp.length) e=cap at hcap ⊢
  have hz2:Builtin.zeroCells z.cells (cap - (xs.length+ys.length))=(List.replicate (cap - (xs.length+ys.length)) z).toArray:=by
   rw[hr.one];apply Array.ext
   ·simp[Builtin.zeroCells]
   ·intro j h1 h2;simp[Builtin.zeroCells,Nat.mod_one]
  have hcells:((xs.map bv++ys.map bv).toArray++Builtin.zeroCells z.cells (cap - (xs.length+ys.length)))=((xs++ys).map bv++List.replicate (cap - (xs.length+ys.length)) z).toArray:=by
   rw[hz2];simp
  rw[hcells];have H2:=(H.same (w':=w.drew) rfl).alloc (.cells ((xs++ys).map bv++List.replicate (cap - (xs.length+ys.length)) z).toArray e);have H5:=H2.dropAt (i+1);rw[List.eraseIdx_cons_succ] at H5;have hl2:(xs++ys).length=xs.length+ys.length:=gD;refine h _ _ rfl ((Same.drew w).trans (.alloc _ _)) (Sat.push i hi (Sat.imp H5 λg hg=>⟨some ⟨_,0,none⟩,List.replicate (cap - (xs.length+ys.length)) z,?_,0,Nat.zero_le _,rfl,rfl,hg⟩))
  congr 1
  ·exact hl2.symm
  ·rw[gP,hl2];omega
 ·cases oa with
  |none=>
   obtain⟨g,⟨h2,h3⟩,_⟩:=H1.front i (Za2 hi);subst h3;simp at hg;exact absurd hg hy
  |some a=>
   obtain⟨b,n,rfl,hnn,Hb⟩:=H1.blkF i (Za2 hi);rw[set_set] at Hb;have hgi:=Za2 (Q:=Vc.blkF b e (xs.map bv++sp) n) hi
   have hrun:=run_append_room_src (P:=P) w t tx ty e inf hr.und hinf b 0 xs.length (xs.length+sp.length) _ ys.length _ (hsrc w) (by omega)
    (λj hj=>by
     rw[hS_] at hj
     rw[Hb.cellF i hgi,hsz,Nat.mul_one,Nat.zero_add,gA (by rw[gD,hS_];omega)];rfl)
    (λj hj=>Hb.frozenF i hgi (by rw[hsz];omega))
   refine⟨_,_,hrun,?_⟩;rw[Zg2,hsz,Nat.mul_one,Nat.zero_add];have H3:=Holds.setCellsF (o:=0) i (ys.map bv) xs.length Hb hgi;rw[set_set,Zf7 _ _ _ (by simp;omega)] at H3
   have e2:(xs.map bv++sp).take (0+xs.length)++ys.map bv++(xs.map bv++sp).drop (0+xs.length+(ys.map bv).length)=(xs++ys).map bv++sp.drop ys.length:=by
    simp[List.take_append,List.drop_append]
   rw[e2] at H3
   have hl:(xs++ys).length+(sp.drop ys.length).length=xs.length+sp.length:=by simp;omega
   have hl2:(xs++ys).length=xs.length+ys.length:=gD;have H4:=H3.at i (Za2 hi) (Q:=SF e (.slice (some ⟨b,0,none⟩) (xs.length+ys.length) (xs.length+sp.length)) (xs++ys)) λg hg=>⟨some ⟨b,0,none⟩,sp.drop ys.length,by rw[hl,hl2],n,by rw[hl2];omega,rfl,rfl,hg⟩;rw[set_set] at H4;exact h _ _ rfl (Same.setCells _ _ _ _) H4
theorem Zvq {e pty ity:TypeId}{ats:Array TypeId}{ty:TypeId}(hp:P.underlying pty=some (.pointer e)) (hty:P.underlying ty=some (.pointer e)) (hc:P.cellsOf e=1) (H:Holds w L) (i:Nat){v:Value}{xs:List UInt8}{Q:KT}
  (hi:L[i]?=some (SF e v xs)) (hn:xs.length<=1099511627776)
  (h:∀ p w2,Same w w2->Holds w2 L->(∀ (K:KT),(∀ w',Same w2 w'->Holds w' L->K (.string ⟨xs.toArray⟩) w')->∀ ty2,Ust P #[pty,ity] ty2 #[p,nv xs.length] w2 K)->Q p w2) :
  Usd P ats ty #[v] w Q:=by
 obtain⟨oa,sp,rfl,H1⟩:=H.openF i hi
 cases oa with
 |none=>
  obtain⟨g,⟨h2,h3⟩,_⟩:=H1.front i (Za2 hi);subst h2;exact⟨_,w,Lib.run_unsafeSliceData_nil (P:=P) w ats ty _ _,h _ w (.refl w) H λK k ty2=>⟨_,w,Lib.run_unsafeString_none (P:=P) w pty ity ty2 none,k w (.refl w) H⟩⟩
 |some a=>
  obtain⟨b,n,rfl,hnn,Hb⟩:=H1.blkF i (Za2 hi);rw[set_set] at Hb;have hgi:=Za2 (Q:=Vc.blkF b e (xs.map bv++sp) n) hi;have hobj:=Hb.obj i hgi
  have hsh:w.shape? b=some (e,(xs.map bv++sp).length):=by
   unfold World.shape?;rw[hobj];simp
  by_cases hcap:xs.length+sp.length=0
  ·have hx:xs=[]:=List.eq_nil_of_length_eq_zero (by omega);subst hx;have hs0:sp=[]:=List.eq_nil_of_length_eq_zero (by omega);subst hs0;exact⟨_,_,Lib.run_unsafeSliceData_zero (P:=P) w ats ty e hty ⟨b,0,none⟩ 0 _ hsh,h _ _ (.alloc _ _) (H.alloc _).drop λK k ty2=>⟨_,_,Lib.run_unsafeString_none (P:=P) _ pty ity ty2 _,k _ (.refl _) (H.alloc _).drop⟩⟩
  ·refine⟨_,w,Lib.run_unsafeSliceData_row (P:=P) w ats ty _ _ _ hcap,h _ w (.refl w) H λK k ty2=>?_⟩
   by_cases hx:xs=[]
   ·subst hx;exact⟨_,w,Lib.run_unsafeString_none (P:=P) w pty ity ty2 _,k w (.refl w) H⟩
   ·have hrun:=Lib.run_unsafeString_row (P:=P) w pty ity ty2 e hp hc b _ hsh xs hx (by simp) (by omega) (λj x hj=>by
     have e1:(⟨b,0,none⟩:Addr).add j=⟨b,j,none⟩:=by
      unfold Addr.add;split
      ·rename_i h;rw[h]
      ·simp
     have hjl:=(gH.1 hj).1;rw[e1,Hb.cellF i hgi j,gM (by simpa using hjl),hV_,hj]
     rfl)
    have hx0:xs.length≠0:=λe=>hx (List.eq_nil_of_length_eq_zero e)
    have hsame:Same w (w.freeze ⟨b,0,none⟩ xs.length):=by
     refine⟨?_,?_,?_,?_⟩
     ·unfold World.freeze;split <;> rfl
     ·unfold World.freeze;split <;> rfl
     ·unfold World.freeze;split <;> rfl
     ·unfold World.freeze;split <;> simp
    refine⟨_,_,hrun,k _ hsame ?_⟩
    have H4:Holds (w.freeze ⟨b,0,none⟩ xs.length) ((L.set i (Vc.blkF b e (xs.map bv++sp) n)).set i (Vc.blkF b e (xs.map bv++sp) xs.length)):=by
     refine Hb.upd i hgi ?_ λc hcb=>?_
     ·unfold World.freeze;rw[if_neg hx0];simp only[Array.getElem?_modify,if_pos,hobj,Option.map_some]
      congr 2
      by_cases hn0:n=0
      ·subst hn0;simp
      ·have:((0:Nat)==n)=false:=by
        rw[beq_eq_false_iff_ne];omega
       rw[this];simp;omega
     ·unfold World.freeze;rw[if_neg hx0];simp only[Array.getElem?_modify];rw[if_neg (λe=>hcb e.symm)]
    rw[set_set] at H4;have H5:=H4.at i (Za2 hi) (Q:=SF e (.slice (some ⟨b,0,none⟩) xs.length (xs.length+sp.length)) xs) λg hg=>⟨some ⟨b,0,none⟩,sp,rfl,xs.length,Nat.le_refl _,rfl,rfl,hg⟩;rw[set_set] at H5
    have e3:L.set i (SF e (.slice (some ⟨b,0,none⟩) xs.length (xs.length+sp.length)) xs)=L:=by
     have hil:i < L.length:=(gH.1 hi).1;have e1:L[i]=_:=(gH.1 hi).2;rw[<-e1,List.set_getElem_self]
    rw[e3] at H5;exact H5
theorem Zgw (H:Holds w L) (j:Nat){b:Nat}{ty:TypeId}{cs:List Value}(hj:L[j]?=some (blk b ty cs)):w.shape? b=some (ty,cs.length):=by
 unfold World.shape?;rw[H.obj j hj];simp
theorem Zu7 {q d t ty:TypeId}{b o:Nat}{cs:List Value}{i:TypeInfo}{K:KT}(hq:P.underlying q=some (.pointer t)) (hd:P.underlying d=some .unsafePointer) (hi:P.info? t=some i) (h2:i.size≠0)
  (H:Holds w L) (j:Nat) (hj:L[j]?=some (blk b ty cs)) (h0:o < cs.length) (k:K (.pointer (some ⟨b,o,none⟩)) w):Cw P q d (.pointer (some ⟨b,o,none⟩)) w K:=by
 have hsh:=Zgw H j hj
 have hn:¬ cs.length<=o:=by omega
 refine r_cw ?_ k;simp[convert,run_underlying hq,run_underlying hd,Conv.unsafePointer,Conv.seenAt,viewAt,cellsIn,hsh,Zaj hi,h2,hn]
theorem Zuh {q d t ty:TypeId}{b o:Nat}{cs:List Value}{i:TypeInfo}{K:KT}(hq:P.underlying q=some .unsafePointer) (hd:P.underlying d=some (.pointer t)) (hi:P.info? t=some i)
  (hl:liesAt P P.depth ty (cs.length/P.cellsOf ty) o t 1=true)
  (H:Holds w L) (j:Nat) (hj:L[j]?=some (blk b ty cs)) (k:K (.pointer (some ⟨b,o,none⟩)) w):Cw P q d (.pointer (some ⟨b,o,none⟩)) w K:=by
 have hsh:=Zgw H j hj;refine r_cw ?_ k;simp[convert,run_underlying hq,run_underlying hd,Conv.unsafePointer,Conv.seenAt,viewAt,hsh,Zaj hi,variablesAt,hl]
end
end Go.Vc
namespace Go.Vc
section
variable {α:Type}{P:Program}{w:World}{L:List HProp}
theorem r_apO {t e:TypeId}{z:Value} [hr:Row P t e z] (H:Holds w L) (i j:Nat){f:α->Value}{oa:Option Addr}{xs ys:List α}{sp:List Value}{l c m c' b2 o2:Nat}{cs:List Value}{ty:TypeId}{K:KT}
  (hi:L[i]?=some (slb f e oa xs sp)) (hj:L[j]?=some (blk b2 e cs)) (hcs:(cs.drop o2).take m=ys.map f) (hm:m=ys.length) (hl:l=xs.length) (hc:c=xs.length+sp.length) (hs:∀ y,sg (f y)=true)
  (hn:xs.length+ys.length<=1099511627776) (hne:0 < ys.length)
  (h:∀ oa' sp' w',Same w w'->Holds w' (L.set i (slb f e oa' (xs++ys) sp'))->K (.slice oa' (xs.length+ys.length) (xs.length+ys.length+sp'.length)) w') :
  Ap P #[t,t] ty #[.slice oa l c,.slice (some ⟨b2,o2,none⟩) m c'] w K:=by
 subst hl hc hm;obtain⟨inf,hinf,hsz,hby,hzz⟩:=hr.inf
 have hnews:∀ k u,(ys.map f)[k]?=some u->w.cell? ((⟨b2,o2,none⟩:Addr).add k)=some u:=by
  intro k u hu
  have e1:(⟨b2,o2,none⟩:Addr).add k=⟨b2,o2+k,none⟩:=by
   unfold Addr.add;split
   ·rename_i h;rw[h];rfl
   ·rfl
  rw[e1,H.cell j hj (o2+k)]
  have hk:k < ys.length:=by have:=(gH.1 hu).1;simpa using this
  rw[<-hu,<-hcs,hI_ hk,hH_]
 have hmul:(xs.length+ys.length)*inf.bytes<=140737488355328:=
  Nat.le_trans (Nat.mul_le_mul_left _ hby) (by omega)
 have grow:∀ (b:Addr) (olds:List Value),olds=xs.map f->(∀ k v,olds[k]?=some v->w.cell? (b.add k)=some v)->sp.length < ys.length->
   (∃ o,L[i]?=some o)->Ap P #[t,t] ty #[.slice (some b) xs.length (xs.length+sp.length),.slice (some ⟨b2,o2,none⟩) ys.length c'] w K:=by
  intro b olds ho hold hg _;subst ho
  have hrun:=run_append_grow (P:=P) w t ty e inf z hr.und hinf hzz b xs.length (xs.length+sp.length) (xs.map f) (by simp[hsz]) hold
   ⟨b2,o2,none⟩ ys.length c' (ys.map f) (by simp[hsz]) hnews (by omega) (by omega) (growslice_fits (by omega) hmul)
  refine⟨_,_,hrun,?_⟩;have hcap:=grownCap_ge w (xs.length+ys.length) (xs.length+sp.length) e;generalize grownCap w (xs.length+ys.length) (xs.length+sp.length) e=cap at hcap ⊢
  have hz2:Builtin.zeroCells z.cells (cap - (xs.length+ys.length))=(List.replicate (cap - (xs.length+ys.length)) z).toArray:=by
   rw[hr.one];apply Array.ext
   ·simp[Builtin.zeroCells]
   ·intro j h1 h2;simp[Builtin.zeroCells,Nat.mod_one]
  have hcells:((xs.map f).toArray++(ys.map f).toArray++Builtin.zeroCells z.cells (cap - (xs.length+ys.length)))=((xs++ys).map f++List.replicate (cap - (xs.length+ys.length)) z).toArray:=by
   rw[hz2];simp
  rw[hcells];have H1:Holds w.drew L:=H.same rfl;have H2:=H1.alloc (.cells ((xs++ys).map f++List.replicate (cap - (xs.length+ys.length)) z).toArray e)
  have H3:Holds (w.drew.alloc (.cells ((xs++ys).map f++List.replicate (cap - (xs.length+ys.length)) z).toArray e)) (L.set i (slb f e (some ⟨w.heap.size,0,none⟩) (xs++ys) (List.replicate (cap - (xs.length+ys.length)) z))):=by
   have H4:=(Holds.imp H2 (Q:=slb f e (some ⟨w.heap.size,0,none⟩) (xs++ys) (List.replicate (cap - (xs.length+ys.length)) z)) λg hg=>⟨rfl,rfl,hg⟩);have H5:=H4.dropAt (i+1);rw[List.eraseIdx_cons_succ] at H5;exact Sat.push i hi H5
  have:=h (some ⟨w.heap.size,0,none⟩) (List.replicate (cap - (xs.length+ys.length)) z) _ ((Same.drew w).trans (.alloc _ _)) H3
  have hc2:xs.length+ys.length+(List.replicate (cap - (xs.length+ys.length)) z).length=cap:=by simp;omega
  rw[hc2] at this;exact this
 cases oa with
 |none=>
  obtain⟨g,⟨h2,h3⟩,_⟩:=H.front i hi;subst h2;subst h3;simp only[List.length_nil,Nat.zero_add,hO_] at hn hmul h ⊢;have hrun:=run_append_nil (P:=P) w t ty e inf z hr.und hinf hzz ⟨b2,o2,none⟩ ys.length c' (ys.map f) (by simp[hsz]) hnews (by omega) (by omega) (by omega);refine⟨_,_,hrun,?_⟩;have hcap:=grownCap_ge w ys.length 0 e;generalize grownCap w ys.length 0 e=cap at hcap ⊢
  have hz2:Builtin.zeroCells z.cells (cap - ys.length)=(List.replicate (cap - ys.length) z).toArray:=by
   rw[hr.one];apply Array.ext
   ·simp[Builtin.zeroCells]
   ·intro j h1 h2;simp[Builtin.zeroCells,Nat.mod_one]
  have hcells:((ys.map f).toArray++Builtin.zeroCells z.cells (cap - ys.length))=(ys.map f++List.replicate (cap - ys.length) z).toArray:=by
   rw[hz2];simp
  rw[hcells];have H2:=(H.same (w':=w.drew) rfl).alloc (.cells (ys.map f++List.replicate (cap - ys.length) z).toArray e);have H4:=(Holds.imp H2 (Q:=slb f e (some ⟨w.heap.size,0,none⟩) ys (List.replicate (cap - ys.length) z)) λg hg=>⟨rfl,rfl,hg⟩);have H5:=H4.dropAt (i+1);rw[List.eraseIdx_cons_succ] at H5;have:=h (some ⟨w.heap.size,0,none⟩) (List.replicate (cap - ys.length) z) _ ((Same.drew w).trans (.alloc _ _)) (Sat.push i hi H5)
  have hc2:ys.length+(List.replicate (cap - ys.length) z).length=cap:=by simp;omega
  rw[hc2] at this;exact this
 |some a=>
  obtain⟨g,⟨h2,h3,_⟩,_⟩:=H.front i hi;obtain⟨b,o,s⟩:=a;simp only at h2 h3;subst h2;subst h3;have Hb:=H.slb i hi;have hgi:(L.set i (blk b e (xs.map f++sp)))[i]?=some (blk b e (xs.map f++sp)):=Za2 hi
  have hold:∀ k v,(xs.map f)[k]?=some v->w.cell? ((⟨b,0,none⟩:Addr).add k)=some v:=by
   intro k v hv
   have e1:(⟨b,0,none⟩:Addr).add k=⟨b,k,none⟩:=by
    unfold Addr.add;split
    ·rename_i h;rw[h]
    ·simp
   rw[e1,Hb.cell i hgi k,gM (by simpa using (gH.1 hv).1)];exact hv
  rcases hU_ sp.length ys.length with hg|hg
  ·exact grow ⟨b,0,none⟩ _ rfl hold hg ⟨_,hi⟩
  ·have hobj:=Hb.obj i hgi
   have hrun:=run_append_room (P:=P) w t ty e inf hr.und hinf b xs.length (xs.length+sp.length) (xs.map f++sp).toArray hobj
    ⟨b2,o2,none⟩ ys.length c' (ys.map f) (by simp[hsz]) hnews (by simpa using λy _=>Zk7 (hs y)) (by omega) (by simp[hsz];omega)
   refine⟨_,_,hrun,?_⟩
   have hcells:(((xs.map f++sp).toArray.toList.take (xs.length*inf.size)++ys.map f++(xs.map f++sp).toArray.toList.drop (xs.length*inf.size+(ys.map f).length)).toArray)=((xs++ys).map f++sp.drop ys.length).toArray:=by
    rw[hsz];simp[List.take_append,List.drop_append]
   rw[hcells]
   have H3:Holds (w.setRow b ((xs++ys).map f++sp.drop ys.length).toArray) (L.set i (slb f e (some ⟨b,0,none⟩) (xs++ys) (sp.drop ys.length))):=by
    have:=Hb.upd (w':=w.setRow b ((xs++ys).map f++sp.drop ys.length).toArray) i hgi (o':=.cells ((xs++ys).map f++sp.drop ys.length).toArray e) (setRow_heap w b _ _ e _ hobj) λc hc=>setRow_other w b c _ hc;have h4:=Holds.slb' (f:=f) (e:=e) (b:=b) (xs:=xs++ys) (sp:=sp.drop ys.length) this i (by rw[set_set];exact Za2 hi);simpa [set_set] using h4
   have hlen:xs.length+sp.length=xs.length+ys.length+(sp.drop ys.length).length:=by simp;omega
   rw[hlen];exact h _ _ _ ⟨rfl,rfl,rfl,by simp⟩ H3
end
end Go.Vc
set_option maxRecDepth 1000000
namespace Go.Proofs.YtgdfganaoehokaaGreatDoor
open Go Go.Vc Go.Proofs.Tryz
namespace S40
open Go.M31 J30 J31 J32 J34
section
variable {α:Type}{P:Program}{w:World}{L:List HProp}
theorem flatL_in {F:α->List Value}{k:Nat}(hF:∀ x,(F x).length=k):∀ (xs:List α) (q:Nat) (u:Value),(flatL F xs)[q]?=some u->∃ i j x,xs[i]?=some x/\(F x)[j]?=some u/\q=i*k+j
 |[],q,u,h=>by simp[flatL] at h
 |y::r,q,u,h=>by
  rw[flatL] at h;rcases hU_ q (F y).length with h1|h1
  ·rw[gM h1] at h;exact⟨0,q,y,rfl,h,by omega⟩
  ·rw[gT h1] at h;obtain⟨i,j,x,h2,h3,h4⟩:=flatL_in hF r _ u h;refine⟨i+1,j,x,by simpa using h2,h3,?_⟩;rw[hF] at h1 h4;rw[Nat.add_mul];omega
theorem r_apF {t e:TypeId}{k:Nat} [hr:RowN P t e k] (H:Holds w L){F:α->List Value}{ys:List α}{a:Option Addr}{b c':Nat}{ty:TypeId}{K:KT}(hT:InG F k L a ys) (hF:∀ y,(F y).length=k) (hn:0 < ys.length) (hs:ys.length<=1000)
  (h:∀ b' cap w',Same w w'->Holds w' L->K (.slice (some ⟨b',0,none⟩) ys.length cap) w'):Ap P #[t,t] ty #[.slice (some ⟨b,0,none⟩) 0 0,.slice a ys.length c'] w K:=by
 obtain⟨inf,z,hinf,hsz,hby,hzz,hzk⟩:=hr.inf;obtain⟨p,rfl,_⟩:=hT w H 0 ys[0] (gA hn);have hlen:=Zaz (k:=k) hF
 have hnews:∀ q u,(flatL F ys)[q]?=some u->w.cell? (p.add q)=some u:=by
  intro q u hu;obtain⟨i,j,x,h1,h2,rfl⟩:=flatL_in hF ys q u hu;obtain⟨p',hp,h3⟩:=hT w H i x h1;obtain rfl:=Option.some.inj hp;rw[<-Addr.add_add];exact h3 j u h2
 have hmul:ys.length*inf.bytes<=140737488355328:=Nat.le_trans (Nat.mul_le_mul_left _ hby) (by omega);have hrun:=run_append_grow (P:=P) w t ty e inf z hr.und hinf hzz ⟨b,0,none⟩ 0 0 [] (by simp) (λj v hv=>by simp at hv) p ys.length c' (flatL F ys) (by rw[hlen,hsz]) hnews (by omega) (by omega) (growslice_fits (by omega) (by rw[Nat.zero_add];exact hmul));rw[Nat.zero_add] at hrun;exact⟨_,_,hrun,h _ _ _ ((Same.drew w).trans (.alloc _ _)) ((H.same (w':=w.drew) rfl).alloc _).drop⟩
end
attribute [local irreducible] Vc.Nc Vc.Ld Vc.LdA Vc.St Vc.StA Vc.Fo Vc.Iaa Vc.Ias Vc.Ixs Vc.Ixa Vc.Fd Vc.FdA Vc.Bp Vc.Bb Vc.Bn Vc.Up Vc.Ci Vc.Lns Vc.Lnl Vc.Ex Vc.Sst Vc.Ssl Vc.New Vc.Vif Vc.VJoin Vc.VLoop Vc.KE Vc.Dr Vc.Rk Vc.Cl Vc.Cx Vc.Inv Vc.Be Vc.Cv Vc.Cw Vc.Mf Vc.Sl Vc.Lk Vc.Bd Vc.Bs Vc.Ms Vc.Mm Vc.Mu Vc.Me Vc.Es Vc.Rg Vc.Nx Vc.Ta Vc.Ap Vc.Usd Vc.Ust Vc.Cp Vc.Ln Vc.Bc Vc.Bmin Vc.Bmax Vc.Bdel Vc.Bclr Vc.Pk
variable {w:World}{L:List HProp}{K:KT}
abbrev tT':Nat:=22
set_option maxRecDepth 1000000 in
instance:RowN prog 22 tT 5:=⟨underlying22,_,_,rfl,rfl,by decide,rfl,rfl⟩
set_option maxRecDepth 1000000 in
instance:RowN prog 107 111 3:=⟨underlying107,_,_,rfl,rfl,by decide,rfl,rfl⟩
instance rowP:Row prog 117 120 (.pointer none):=⟨by kernel_rfl,⟨t120,by kernel_rfl,by kernel_rfl,by decide,by kernel_rfl⟩,rfl⟩
theorem Zfw {f:FuncId}{g:Tn->Nat}{a:Option Addr}{ts:List Tn}{c:Nat}(H:Holds w L) (hT:TsIn L a ts) (hl:ts.length<=1000)
  (hf:∀ (t:Tn) (w:World) (L:List HProp) (K:KT),t∈ts->Holds w L->(∀ w',Same w w'->Holds w' L->K (nv (g t)) w')->Cl prog f #[.agg (cellsT t).toArray] w K)
  (hi:∀ (t:Tn) (w:World),(do let d <-Deferred.ofValue (.func (.func f) #[] #[]) #[.agg (cellsT t).toArray];invoke d.target d.args:Sem Next).run prog w=.ok (.enter f #[.agg (cellsT t).toArray]) w)
  (post:∀ v w',Same w w'->Holds w' (SL nv tI v (ts.map g)::L)->K v w'):Cl prog 22 #[.slice a ts.length c,.func (.func f) #[] #[]] w K:=by
 refine Tz22 ?_;unfold Vz22
 have hzT:(zeroP prog tT).cells.toList=[.string ⟨#[]⟩,.string ⟨#[]⟩,iv 0,iv 0,iv 0]:=by kernel_rfl
 repeat (refine r_lnl ?_)
 refine Zam (λo x w'=>∃ i:Nat,i<=ts.length/\x=nv i/\Same w w'/\Holds w' (SL nv tI o ((ts.take i).map g)::L)) (λ_ x _=>ts.length - (intOf x).toNat) ⟨0,by omega,rfl,.refl w,H.nilSL nv tI⟩ ?_;clear H;rintro _ v _ w2 ⟨i,hil,rfl,S,H⟩
 repeat (refine r_lss ?_)
 refine r_ifD (λh=>?_) λh=>?_
 ·have hlt:i < ts.length:=by omega
  obtain⟨t,ht⟩:∃ t,ts[i]?=some t:=⟨_,gA hlt⟩;refine r_ldT hT.up H ht hlt ?_;refine r_new H λbt w3 S3 H3=>?_;rw[hzT] at H3;refine r_stA 0 H3 (vs:=cellsT t) rfl (Nat.le_refl 5) rfl (Zb8 t) λw4 S4 H4=>?_;replace H4:Holds w4 (blk bt tT (cellsT t)::SL nv tI v ((ts.take i).map g)::L):=H4;replace S:=(S.trans S3).trans S4;clear H H3 S3 S4;have H:=H4;clear H4;refine r_ldA 0 H (cellsT t) rfl rfl rfl ?_;refine r_inv (f:=f) (args:=#[.agg (cellsT t).toArray]) (hi t _) (hf t _ _ _ (mem_of_getElem? ht) H λw5 S5 H5=>?_);refine Zmg (f:=nv) H5.drop 0 rfl (g t) (λ_=>rfl) (by simp;omega) λv2 w6 S6 H6=>?_;rw[gJ] at H6
  repeat (first|refine r_ke ?_|(refine Za7 (by omega) ?_))
  refine⟨⟨i+1,by omega,rfl,(S.trans S5).trans S6,?_⟩,?_⟩
  ·rw[gO,ht];simpa using H6
  ·simp[nv,intOf];omega
 ·obtain rfl:i=ts.length:=by omega
  rw[List.take_length] at H;exact post _ _ S H
theorem Zfq {f:FuncId}{xs:List Nat}(j:Nat){v:Value}(H:Holds w L) (hj:L[j]?=some (SL nv tI v xs)) (hl:xs.length<=1000)
  (hf:∀ (x:Nat) (w:World) (K:KT),x∈xs->K (.bool false) w->Cl prog f #[nv x] w K)
  (hi:∀ (x:Nat) (w:World),(do let d <-Deferred.ofValue (.func (.func f) #[] #[]) #[nv x];invoke d.target d.args:Sem Next).run prog w=.ok (.enter f #[nv x]) w)
  (post:K (.bool false) w):Cl prog 46 #[v,.func (.func f) #[] #[]] w K:=by
 refine Tz46 ?_;unfold Vz46;refine Tz75 ?_;unfold Vz75;have H0:=H;obtain⟨oa,sp,rfl,H1⟩:=H0.open j hj;have hj1:=Za2 (Q:=slb nv tI oa xs sp) hj
 repeat (refine r_lnl ?_)
 refine Zac (λx w'=>∃ i:Nat,i<=xs.length/\x=nv i/\w=w') (λx _=>xs.length - (intOf x).toNat) ⟨0,by omega,rfl,rfl⟩ ?_;rintro _ _ _ ⟨i,hil,rfl,rfl⟩
 repeat (refine r_lss ?_)
 refine r_ifD (λh4=>?_) λh4=>?_
 ·have hlt:i < xs.length:=by omega
  obtain⟨x,hx⟩:∃ x,xs[i]?=some x:=⟨_,gA hlt⟩;refine Zbb j H1 hj1 hlt (Nat.le_refl _) ?_;rintro b2 rfl;refine Zbn j H1 hj1 hx ?_;refine r_inv (f:=f) (args:=#[nv x]) (hi x _) (hf x _ _ (mem_of_getElem? hx) ?_)
  repeat (first|refine r_ke ?_|(with_reducible refine r_vf ?_)|(refine Za7 (by omega) ?_))
  refine⟨⟨i+1,by omega,rfl,rfl⟩,?_⟩;simp[nv,intOf];omega
 ·repeat (refine r_geq ?_)
  exact post
end S40
end Go.Proofs.YtgdfganaoehokaaGreatDoor
set_option maxRecDepth 100000
namespace Go.Proofs.YtgdfganaoehokaaGreatDoor
open Go Go.Vc Go.Proofs.Tryz
attribute [local irreducible] Vc.Nc Vc.Ld Vc.LdA Vc.St Vc.StA Vc.Fo Vc.Iaa Vc.Ias Vc.Ixs Vc.Ixa Vc.Fd Vc.FdA Vc.Bp Vc.Bb Vc.Bn Vc.Up Vc.Ci Vc.Lns Vc.Lnl Vc.Ex Vc.Sst Vc.Ssl Vc.New Vc.Vif Vc.VJoin Vc.VLoop Vc.KE Vc.Dr Vc.Rk Vc.Cl Vc.Cx Vc.Inv Vc.Be Vc.Cv Vc.Cw Vc.Mf Vc.Sl Vc.Lk Vc.Bd Vc.Bs Vc.Ms Vc.Mm Vc.Mu Vc.Me Vc.Es Vc.Rg Vc.Nx Vc.Ta Vc.Ap Vc.Usd Vc.Ust Vc.Cp Vc.Ln Vc.Bc Vc.Bmin Vc.Bmax Vc.Bdel Vc.Bclr Vc.Pk
namespace S41
open Go.M31 J30 J31 J32 J34 S40
variable {w:World}{L:List HProp}{K:KT}
abbrev tSv:Nat:=77
abbrev tTb:Nat:=105
abbrev tLd:Nat:=109
abbrev tAc:Nat:=111
abbrev tMt:Nat:=114
abbrev tSc:Nat:=119
abbrev tDt:Nat:=122
abbrev tQu:Nat:=195
def accF (x:Nat):List Value:=[nv x,iv 0,iv 0]
def me (t:Tn):Nat:=t.me.toNat
def st (t:Tn):Nat:=t.st.toNat
def qu (t:Tn):Nat:=t.qu.toNat
theorem Zjv {n:Int}(H:Holds w L) (h1:1<=n) (h2:n<=64) (post:∀ b w',Same w w'->Holds w' (blk b tTb [iv n,iv 0,.slice none 0 0]::L)->K (.tuple #[pt b,iv 0]) w'):Cl prog 20 #[iv n] w K:=by
 refine Tz20 ?_;unfold Vz20;refine Za0 (λx w'=>w=w'/\x=.bool false) ?_ ?_
 rotate_left
 ·repeat (first|refine r_ke ?_|refine r_lss ?_|refine r_gtr ?_|((with_reducible refine r_vfD ?h ?_);(case h=>omega)))
  exact⟨rfl,by rw[decide_eq_false (by omega)]⟩
 rintro _ _ _ ⟨rfl,rfl⟩
 repeat (with_reducible refine r_vf ?_)
 refine r_bd (v:=.agg #[iv n,iv 0,.slice none 0 0]) (by kernel_rfl) ?_;refine r_new H λb w2 S2 H2=>?_;exact post b w2 S2 H2
theorem Ze5 (H:Holds w L) (post:∀ b w',Same w w'->Holds w' (blk b tQu [iv 1099511627776,.slice none 0 0]::L)->K (pt b) w'):Cl prog 53 #[] w K:=by
 refine Tz53 ?_;unfold Vz53;refine Tz76 ?_;unfold Vz76;refine Za0 (λx w'=>w=w'/\x=.bool false) ?_ ?_
 rotate_left
 ·repeat (first|refine r_ke ?_|refine r_lss ?_|refine r_gtr ?_|((with_reducible refine r_vfD ?h ?_);(case h=>omega)))
  exact⟨rfl,rfl⟩
 rintro _ _ _ ⟨rfl,rfl⟩
 repeat (with_reducible refine r_vf ?_)
 refine r_bd (v:=.agg #[iv 1099511627776,.slice none 0 0]) (by kernel_rfl) ?_;refine r_new H λb w2 S2 H2=>?_
 repeat (first|(with_reducible first|refine Za6 ?_|refine Za5 ?_))
 exact post b w2 S2 H2
theorem Zol {n:Nat}(h:n<=1099511627776) (k:K (.bool false) w):Cl prog 47 #[nv n] w K:=by
 refine Tz47 ?_;unfold Vz47;refine Tz48 ?_;unfold Vz48
 repeat (first|refine r_leq ?_|refine r_geq ?_|refine r_not ?_|((with_reducible refine r_vtD ?h ?_);(case h=>omega)))
 rw[decide_eq_true (by omega)]
 repeat (fail)
 exact k
theorem Zq4 {n:Nat}(h:n<=1099511627776) (k:K (.bool false) w):Cl prog 49 #[nv n] w K:=by
 refine Tz49 ?_;unfold Vz49;refine Tz50 ?_;unfold Vz50
 repeat (first|refine r_leq ?_|refine r_geq ?_|refine r_not ?_|((with_reducible refine r_vtD ?h ?_);(case h=>omega)))
 rw[decide_eq_true (by omega)]
 repeat (fail)
 exact k
theorem Zow {n:Nat}(h0:1<=n) (h:n<=1099511627776) (k:K (.bool false) w):Cl prog 52 #[nv n] w K:=by
 refine Tz52 ?_;unfold Vz52
 repeat (first|refine r_lss ?_|refine r_gtr ?_|((with_reducible refine r_vfD ?h ?_);(case h=>omega)))
 rw[decide_eq_false (by omega)];exact k
theorem Zgp {xs:List Nat}{v:Value}(H:Holds w (SL nv tI v xs::L)) (h1:0 < xs.length) (h2:xs.length<=16) (hx:∀ x∈xs,x<=1099511627776)
  (post:∀ b u w',Same w w'->Holds w' (blk b tLd [u]::RW accF 3 tAc u xs::L)->K (.tuple #[pt b,iv 0]) w'):Cl prog 21 #[v] w K:=by
 refine Tz21 ?_;unfold Vz21;refine Za0 (λx w'=>w=w'/\x=.bool false) ?_ ?_
 rotate_left
 ·refine r_lnS 0 H rfl ?_
  repeat (first|refine r_eql ?_|((with_reducible refine r_vfE ?h ?_);(case h=>omega)))
  refine r_lnS 0 H rfl ?_
  repeat (first|refine r_gtr ?_|((with_reducible refine r_vfD ?h ?_);(case h=>omega)))
  refine Zfq 0 H rfl (by omega) (λx w K hm k=>Zol (hx x hm) k) (λx w=>by kernel_rfl) ?_;exact r_ke ⟨rfl,rfl⟩
 rintro _ _ _ ⟨rfl,rfl⟩
 repeat (with_reducible refine r_vf ?_)
 refine r_bd (v:=.agg #[.slice none 0 0]) (by kernel_rfl) ?_;refine r_new H λb w2 S2 H2=>?_;replace H2:Holds w2 (blk b tLd [.slice none 0 0]::SL nv tI v xs::L):=H2;refine r_lnS 1 H2 rfl ?_;refine Zac (λx w'=>∃ (i:Nat) (u:Value),i<=xs.length/\x=nv i/\Same w w'/\Holds w' (RW accF 3 tAc u (xs.take i)::blk b tLd [u]::SL nv tI v xs::L)) (λx _=>xs.length - (intOf x).toNat) ⟨0,.slice none 0 0,by omega,rfl,S2,H2.nilRW accF 3 tAc⟩ ?_;clear H H2 S2;rintro _ _ w3 ⟨i,u,hi,rfl,S,H⟩
 repeat (refine r_lss ?_)
 refine r_ifD (λh=>?_) λh=>?_
 ·have hlt:i < xs.length:=by omega
  obtain⟨x,hxi⟩:∃ x,xs[i]?=some x:=⟨_,gA hlt⟩;have H0:=H;obtain⟨oa,sp,rfl,H1⟩:=H0.open 2 rfl;refine Zbb 2 H1 rfl hlt (Nat.le_refl _) ?_;rintro b2 rfl;refine Zbn 2 H1 rfl hxi ?_
  repeat (first|refine r_nc ?_|refine r_fo0 ?_|refine r_ld 1 H rfl rfl ?_)
  refine r_bd (v:=.agg (accF x).toArray) (by kernel_rfl) ?_
  refine Zsz H 0 x rfl (by kernel_rfl) (λy=>rfl) (λy u hu=>by
   simp only[accF,List.mem_cons,List.not_mem_nil,or_false] at hu
   rcases hu with rfl|rfl|rfl <;> rfl) (by rw[gN];omega) (by omega) λv' w6 S6 H6=>?_
  rw[gJ] at H6;refine r_nc (r_fo0 ?_);refine r_st 1 H6 rfl (by simp) ?_ λw7 S7 H7=>?_
  ·obtain⟨oa,m,sp,rfl,_⟩:=H6.openRW 0 rfl;rfl
  rw[gW,gJ] at H7
  repeat (first|refine r_ke ?_|(refine Za7 (by omega) ?_))
  refine⟨⟨i+1,v',by omega,rfl,(S.trans S6).trans S7,?_⟩,?_⟩
  ·rw[gO,hxi];exact H7
  ·simp[nv,intOf];omega
 ·obtain rfl:i=xs.length:=by omega
  rw[List.take_length] at H;exact post b u _ S (by have h_:=Holds.ord 3 [1,0] H rfl;exact h_)
theorem Zgv {xs:List Nat}{v:Value}{sp:Int}(H:Holds w (SL nv tI v xs::L)) (h0:1<=sp) (h9:sp<=1048576) (h1:0 < xs.length) (h2:xs.length<=16) (hx:∀ x∈xs,x<=1099511627776)
  (post:∀ b q c t w',Same w w'->Holds w' (blk b tMt [iv sp,iv 0,q,c,t]::SL nv tI q xs::SL nv tI c (List.replicate xs.length 0)::SL nv tI t (List.replicate xs.length 0)::L)->K (.tuple #[pt b,iv 0]) w') :
  Cl prog 24 #[iv sp,v] w K:=by
 refine Tz24 ?_;unfold Vz24;refine r_lnS 0 H rfl ?_;refine Zfq 0 H rfl (by omega) (λx w K hm k=>Zq4 (hx x hm) k) (λx w=>by kernel_rfl) ?_;refine Za0 (λx w'=>w=w'/\x=.bool false) ?_ ?_
 rotate_left
 ·repeat (first|refine r_ke ?_|refine r_eql ?_|refine r_lss ?_|refine r_gtr ?_|((with_reducible refine r_vfD ?h ?_);(case h=>omega))|((with_reducible refine r_vfE ?h ?_);(case h=>omega)))
  exact⟨rfl,rfl⟩
 rintro _ _ _ ⟨rfl,rfl⟩;have S:=Same.refl w
 repeat (first|(with_reducible refine r_vf ?_)|(refine r_dr H ?_;clear H;intro _ S_ H;replace S:=S.trans S_;clear S_))
 have fin:∀ (q c t:Value) (w':World),Same w w'->Holds w' (SL nv tI q xs::SL nv tI c (List.replicate xs.length 0)::SL nv tI t (List.replicate xs.length 0)::L)->
   Bd prog tMt #[(0,iv sp),(2,q),(3,c),(4,t)] w' λx_7=>New x_7 tMt w' λx_9 w7=>K (.tuple #[x_9,iv 0]) w7:=by
  intro q c t w' S' H';refine r_bd (v:=.agg #[iv sp,iv 0,q,c,t]) ?_ ?_
  ·obtain⟨oa,p1,rfl,_⟩:=H'.open 0 rfl;obtain⟨ob,p2,rfl,_⟩:=H'.open 1 rfl;obtain⟨oc,p3,rfl,_⟩:=H'.open 2 rfl
   kernel_rfl
  refine r_new H' λb w8 S8 H8=>?_;exact post b q c t _ (S'.trans S8) H8
 have ms:∀ {L:List HProp} {w1:World} {K:KT},Holds w1 L->(∀ v w',Same w1 w'->Holds w' (SL nv tI v (List.replicate xs.length 0)::L)->K v w')->Ms prog 34 (nv xs.length) (nv xs.length) w1 K:=by
  intro L w1 K H' k';refine r_ms (f:=nv) (x:=0) H' rfl (by omega) (by omega) λb w2 S2 H2=>?_;have H3:=H2.close 0 rfl;rw[gJ] at H3
  have e:(xs.length:Int).toNat=xs.length:=by omega
  rw[e] at H3 ⊢;have:=k' _ w2 S2 H3;simpa using this
 have cl:∀ {L:List HProp} {w1:World} {K:KT} (j:Nat),Holds w1 L->L[j]?=some (SL nv tI v xs)->(∀ v' w',Same w1 w'->Holds w' (SL nv tI v' xs::L)->K v' w')->Cl prog 51 #[v] w1 K:=
  λj H' hj k'=>Zni H' j hj (by omega) k'
 refine⟨?_,?_,?_⟩
 ·refine cl 0 H rfl λa w3 S3 H3=>?_;refine⟨?_,?_⟩
  ·refine ms H3 λb w4 S4 H4=>ms H4 λc w5 S5 H5=>?_;exact fin a b c w5 (((S.trans S3).trans S4).trans S5) (by have h_:=Holds.ord 4 [2,1,0] H5 rfl;exact h_)
  ·refine ms H3 λb w4 S4 H4=>ms H4 λc w5 S5 H5=>?_;exact fin a c b w5 (((S.trans S3).trans S4).trans S5) (by have h_:=Holds.ord 4 [2,0,1] H5 rfl;exact h_)
 ·refine ms H λa w3 S3 H3=>?_;refine⟨?_,?_⟩
  ·refine cl 1 H3 rfl λb w4 S4 H4=>ms H4 λc w5 S5 H5=>?_;exact fin b a c w5 (((S.trans S3).trans S4).trans S5) (by have h_:=Holds.ord 4 [1,2,0] H5 rfl;exact h_)
  ·refine ms H3 λb w4 S4 H4=>cl 2 H4 rfl λc w5 S5 H5=>?_;exact fin c a b w5 (((S.trans S3).trans S4).trans S5) (by have h_:=Holds.ord 4 [0,2,1] H5 rfl;exact h_)
 ·refine ms H λa w3 S3 H3=>?_;refine⟨?_,?_⟩
  ·refine cl 1 H3 rfl λb w4 S4 H4=>ms H4 λc w5 S5 H5=>?_;exact fin b c a w5 (((S.trans S3).trans S4).trans S5) (by have h_:=Holds.ord 4 [1,0,2] H5 rfl;exact h_)
  ·refine ms H3 λb w4 S4 H4=>cl 2 H4 rfl λc w5 S5 H5=>?_;exact fin c b a w5 (((S.trans S3).trans S4).trans S5) (by have h_:=Holds.ord 4 [0,1,2] H5 rfl;exact h_)
end S41
namespace U38
open Go.M01 Go.M02 W01 W02
variable {w:World}{L:List HProp}{K:KT}{b:Nat}
theorem Zdt {level unit:Int}(h1:1<=level) (h2:level<=9) (h3:24<=unit) (h4:unit<=100000) (post:∀ r:Nat,5<=r->r<=900000->(r:Int)=level*unit - 19->K (.tuple #[nv r,iv 0]) w) :
  Cl prog 205 #[iv level,iv unit] w K:=by
 refine Tz205 ?_;unfold Vz205;refine Za0 (λx w'=>w=w'/\x=.bool false) ?_ ?_
 ·rintro _ _ _ ⟨rfl,rfl⟩;have h5:1*24<=level*unit:=Int.mul_le_mul h1 h3 (by omega) (by omega);have h6:level*unit<=9*100000:=Int.mul_le_mul h2 h4 (by omega) (by omega);refine r_vf ?_;refine r_mul (by omega) (by omega) ?_;refine r_sub (by omega) (by omega) ?_;have:=post (level*unit - 19).toNat (by omega) (by omega) (by omega);rw[show nv (level*unit - 19).toNat=iv (level*unit - 19) by unfold nv iv;congr 1;omega] at this;exact this
 ·repeat (first|refine r_ke ?_|refine r_lss ?_|refine r_gtr ?_|((with_reducible refine r_vfD ?h ?_);(case h=>omega)))
  exact⟨rfl,by rw[decide_eq_false (by omega)]⟩
abbrev tPress:Nat:=304
abbrev tSplit:Nat:=323
abbrev tSum:Nat:=338
abbrev tPack:Nat:=342
abbrev tStream:Nat:=327
theorem Zkz (H:Holds w L) (post:∀ b w',Same w w'->Holds w' (blk b tSum (tabL.map uv++[uv 4294967295])::L)->K (.pointer (some ⟨b,0,none⟩)) w'):Cl prog 226 #[] w K:=by
 refine Tz226 ?_;unfold Vz226;refine Znr H λw2 S2 H2=>?_;refine r_bd (v:=.agg (tabL.map uv++[uv 4294967295]).toArray) (by kernel_rfl) ?_;refine r_new H2 λb w3 S3 H3=>?_;exact post b _ (S2.trans S3) H3
theorem Zlc (H:Holds w L) (post:∀ b w',Same w w'->Holds w' (blk b tPack [.int .u8 0,nv 0]::L)->K (.pointer (some ⟨b,0,none⟩)) w'):Cl prog 227 #[] w K:=by
 refine Tz227 ?_;unfold Vz227;refine r_bd (v:=.agg #[.int .u8 0,nv 0]) (by kernel_rfl) ?_;refine r_new H λb w3 S3 H3=>?_;exact post b _ S3 H3
def SplR0 (b:Nat) (room:Nat):HProp:=λh=>∃ b1 b2,Sat [blk b tSplit [.slice none 0 0,.pointer (some ⟨b1,0,none⟩),nv 0,nv room,.pointer (some ⟨b2,0,none⟩)],blk b1 tSum (tabL.map uv++[uv 4294967295]),blk b2 tPack [.int .u8 0,nv 0]] h
theorem Zhh {r:Nat}(H:Holds w (SplR0 b r::L)):∃ b1 b2,Holds w (blk b tSplit [.slice none 0 0,.pointer (some ⟨b1,0,none⟩),nv 0,nv r,.pointer (some ⟨b2,0,none⟩)]::blk b1 tSum (tabL.map uv++[uv 4294967295])::blk b2 tPack [.int .u8 0,nv 0]::L):=by
 obtain⟨b1,H⟩:=Holds.ex H;obtain⟨b2,H⟩:=Holds.ex H;exact⟨b1,b2,Holds.unpack H⟩
theorem Zdd {r b1 b2:Nat}(H:Holds w (blk b tSplit [.slice none 0 0,.pointer (some ⟨b1,0,none⟩),nv 0,nv r,.pointer (some ⟨b2,0,none⟩)]::blk b1 tSum (tabL.map uv++[uv 4294967295])::blk b2 tPack [.int .u8 0,nv 0]::L)):Holds w (SplR0 b r::L):=
 Holds.imp (Holds.pack (A:=[_,_,_]) H) λh hh=>⟨b1,b2,hh⟩
theorem Zi5 {r:Nat}(H:Holds w L) (h1:5<=r) (h2:r<=900000) (post:∀ b w',Same w w'->Holds w' (SplR0 b r::L)->K (.tuple #[.pointer (some ⟨b,0,none⟩),iv 0]) w') :
  Cl prog 219 #[nv r] w K:=by
 refine Tz219 ?_;unfold Vz219;refine Za0 (λx w'=>w=w'/\x=.bool false) ?_ ?_
 ·rintro _ _ _ ⟨rfl,rfl⟩;refine r_vf ?_;refine Zkz H λb1 w1 S1 H1=>?_;refine r_bd (v:=.agg #[.slice none 0 0,.pointer (some ⟨b1,0,none⟩),nv 0]) (by kernel_rfl) ?_;refine Zlc H1 λb2 w2 S2 H2=>?_;refine r_bd (v:=.agg #[.slice none 0 0,.pointer (some ⟨b1,0,none⟩),nv 0,nv r,.pointer (some ⟨b2,0,none⟩)]) (by kernel_rfl) ?_;refine r_new H2 λb w3 S3 H3=>?_;replace H3:Holds w3 (blk b tSplit [.slice none 0 0,.pointer (some ⟨b1,0,none⟩),nv 0,nv r,.pointer (some ⟨b2,0,none⟩)]::blk b2 tPack [.int .u8 0,nv 0]::blk b1 tSum (tabL.map uv++[uv 4294967295])::L):=H3;exact post b _ ((S1.trans S2).trans S3) (Zdd ((H3.front 2 rfl).swap))
 ·repeat (first|refine r_ke ?_|refine r_lss ?_|refine r_gtr ?_|((with_reducible refine r_vfD ?h ?_);(case h=>omega)))
  exact⟨rfl,by rw[decide_eq_false (by omega)]⟩
def bzh:ByteArray:=⟨#[66,90,104]⟩
def hdB:Nat->List Bool
 |0=>[]
 |i+1=>hdB i++bitsOf (bzh.data.toList.getD i 0).toNat 8
theorem Zl1:∀ i,(hdB i).length=8*i
 |0=>rfl
 |i+1=>by rw[hdB,gD,Zl1 i,Zd6];omega
def headB (level:Nat):List Bool:=hdB 3++bitsOf (48+level) 8
theorem Zp3 (l:Nat):(headB l).length=32:=by rw[headB,gD,Zl1,Zd6]
theorem Zgq {level:Nat}(H:Holds w L) (h1:1<=level) (h2:level<=9) (post:∀ b bw w',Same w w'->Holds w' (blk b tStream [.pointer (some ⟨bw,0,none⟩),.int .u32 0,.bool false]::WrR bw (headB level) 0::L)->K (.tuple #[.pointer (some ⟨b,0,none⟩),iv 0]) w') :
  Cl prog 220 #[nv level] w K:=by
 refine Tz220 ?_;unfold Vz220;refine Za0 (λx w'=>w=w'/\x=.bool false) ?_ ?_
 ·rintro _ _ _ ⟨rfl,rfl⟩;refine r_vf ?_;refine Zgt H λbw w1 S1 H1=>?_;refine r_bd (v:=.agg #[.pointer (some ⟨bw,0,none⟩),.int .u32 0,.bool false]) (by kernel_rfl) ?_;refine r_new H1 λb w2 S2 H2=>?_;replace H2:Holds w2 (blk b tStream [.pointer (some ⟨bw,0,none⟩),.int .u32 0,.bool false]::WrR bw (hdB 0) 0::L):=H2;refine Zac (λx w'=>∃ i:Nat,i<=3/\x=nv i/\Same w w'/\Holds w' (blk b tStream [.pointer (some ⟨bw,0,none⟩),.int .u32 0,.bool false]::WrR bw (hdB i) 0::L)) (λx _=>3 - (intOf x).toNat) ⟨0,by omega,rfl,S1.trans S2,H2⟩ ?_;clear H H1 H2 S1 S2;rintro _ _ w3 ⟨i,hi,rfl,S,H⟩;have hhl:=Zl1 i
  repeat (refine r_lss ?_)
  refine r_ifD (λh=>?_) λh=>?_
  ·have hsz:bzh.size=3:=rfl;have hby:(bzh.data.toList.getD i 0).toNat < 256:=UInt8.toNat_lt _
   repeat (first|refine Zgy (s:=bzh) (by omega) ?_|refine r_nc ?_|refine r_fo0 ?_|(refine Zla (by omega) (by omega) ?_)|(refine r_dr H ?_;clear H;intro _ S_ H;replace S:=S.trans S_;clear S_)|refine r_ld 0 H rfl rfl ?_)
   refine Zln (n:=8) H.swap (by omega) (by omega) (by omega) (by omega) λw4 S4 H4=>?_
   repeat (first|refine r_ke ?_|(refine Za7 (by omega) ?_))
   refine⟨⟨i+1,by omega,rfl,S.trans S4,H4.swap⟩,?_⟩;simp[nv,intOf];omega
  ·obtain rfl:i=3:=by omega
   repeat (first|refine r_nc ?_|refine r_fo0 ?_|(refine Zla (by omega) (by omega) ?_)|(refine r_add (by omega) (by omega) ?_)|refine r_ld 0 H rfl rfl ?_)
   rw[show (48:Int)+(level:Int)=((48+level:Nat):Int) by omega];refine Zln (n:=8) H.swap (by omega) (by omega) (by omega) (by omega) λw4 S4 H4=>?_;exact post b bw _ (S.trans S4) H4.swap
 ·repeat (first|refine r_ke ?_|refine r_lss ?_|refine r_gtr ?_|((with_reducible refine r_vfD ?h ?_);(case h=>omega)))
  exact⟨rfl,by rw[decide_eq_false (by omega)]⟩
theorem Zg6 {bw k:Nat}{bs:List Bool}{r:List Value}(H:Holds w (blk b tStream (.pointer (some ⟨bw,0,none⟩)::r)::WrR bw bs k::L))
  (post:∀ w',Same w w'->Holds w' (blk b tStream (.pointer (some ⟨bw,0,none⟩)::r)::WrR bw bs (bs.length/8)::L)->K (.string ⟨((wholeB bs).drop k).toArray⟩) w') :
  Cl prog 221 #[.pointer (some ⟨b,0,none⟩)] w K:=by
 refine Tz221 ?_;unfold Vz221
 repeat (first|refine r_nc ?_|refine r_fo0 ?_|(with_reducible first|refine Za3 ?_|refine r_vf ?_)|refine r_ld 0 H rfl rfl ?_)
 refine W01.Zqr H.swap λw2 S2 H2=>?_;exact post _ S2 H2.swap
def PrR0 (b:Nat) (window room level:Nat) (inp:ByteArray):HProp:=λh=>∃ bs bt bw,Sat [blk b tPress [nv window,.string inp,.bool false,.pointer (some ⟨bs,0,none⟩),.bool false,.slice none 0 0,.pointer none,nv 0,.pointer (some ⟨bt,0,none⟩),.string ⟨(wholeB (headB level)).toArray⟩,.bool false,nv 0],
 SplR0 bs room,blk bt tStream [.pointer (some ⟨bw,0,none⟩),.int .u32 0,.bool false],WrR bw (headB level) 4] h
theorem Zon {window room level:Nat}{inp:ByteArray}(H:Holds w (PrR0 b window room level inp::L)):∃ bs bt bw,Holds w (blk b tPress [nv window,.string inp,.bool false,.pointer (some ⟨bs,0,none⟩),.bool false,.slice none 0 0,.pointer none,nv 0,.pointer (some ⟨bt,0,none⟩),.string ⟨(wholeB (headB level)).toArray⟩,.bool false,nv 0] ::
 SplR0 bs room::blk bt tStream [.pointer (some ⟨bw,0,none⟩),.int .u32 0,.bool false]::WrR bw (headB level) 4::L):=by
 obtain⟨bs,H⟩:=Holds.ex H;obtain⟨bt,H⟩:=Holds.ex H;obtain⟨bw,H⟩:=Holds.ex H;exact⟨bs,bt,bw,Holds.unpack H⟩
theorem Znd {window room level bs bt bw:Nat}{inp:ByteArray}(H:Holds w (blk b tPress [nv window,.string inp,.bool false,.pointer (some ⟨bs,0,none⟩),.bool false,.slice none 0 0,.pointer none,nv 0,.pointer (some ⟨bt,0,none⟩),.string ⟨(wholeB (headB level)).toArray⟩,.bool false,nv 0] ::
 SplR0 bs room::blk bt tStream [.pointer (some ⟨bw,0,none⟩),.int .u32 0,.bool false]::WrR bw (headB level) 4::L)):Holds w (PrR0 b window room level inp::L):=
 Holds.imp (Holds.pack (A:=[_,_,_,_]) H) λh hh=>⟨bs,bt,bw,hh⟩
theorem Zi4 {level unit window:Nat}(H:Holds w L) (h1:1<=level) (h2:level<=9) (h3:24<=unit) (h4:unit<=100000) (h5:64<=window) (h6:window<=1048576)
  (post:∀ b w',Same w w'->Holds w' (PrR0 b window (level*unit - 19) level ⟨#[]⟩::L)->K (.tuple #[.pointer (some ⟨b,0,none⟩),iv 0]) w') :
  Cl prog 210 #[nv level,nv unit,nv window] w K:=by
 refine Tz210 ?_;unfold Vz210;refine Zdt (by omega) (by omega) (by omega) (by omega) λr g1 g2 g3=>?_
 have hr:r=level*unit - 19:=by
  have:((level*unit:Nat):Int)=(level:Int)*(unit:Int):=by simp
  omega
 repeat (first|(with_reducible first|refine Za6 ?_|refine Za5 ?_))
 refine Za0 (λx w'=>w=w'/\x=.bool false) ?_ ?_
 ·rintro _ _ _ ⟨rfl,rfl⟩;refine r_vf ?_;refine Zi5 H g1 g2 λbs w1 S1 H1=>?_
  repeat (first|(with_reducible first|refine Za6 ?_|refine Za5 ?_))
  refine Zgq H1 h1 h2 λbt bw w2 S2 H2=>?_
  repeat (first|(with_reducible first|refine Za6 ?_|refine Za5 ?_))
  refine Zg6 H2 λw3 S3 H3=>?_;rw[Zp3,List.drop_zero] at *;refine r_bd (v:=.agg #[nv window,.string ⟨#[]⟩,.bool false,.pointer (some ⟨bs,0,none⟩),.bool false,.slice none 0 0,.pointer none,nv 0,.pointer (some ⟨bt,0,none⟩),.string ⟨(wholeB (headB level)).toArray⟩,.bool false,nv 0]) (by kernel_rfl) ?_;refine r_new H3 λb w4 S4 H4=>?_;replace H4:Holds w4 (blk b tPress [nv window,.string ⟨#[]⟩,.bool false,.pointer (some ⟨bs,0,none⟩),.bool false,.slice none 0 0,.pointer none,nv 0,.pointer (some ⟨bt,0,none⟩),.string ⟨(wholeB (headB level)).toArray⟩,.bool false,nv 0]::blk bt tStream [.pointer (some ⟨bw,0,none⟩),.int .u32 0,.bool false]::WrR bw (headB level) 4::SplR0 bs r::L):=H4;rw[hr] at H4;exact post b _ (((S1.trans S2).trans S3).trans S4) (Znd ((H4.front 3 rfl).swap))
 ·repeat (first|refine r_neq ?_|((with_reducible refine r_vfN ?h ?_);(case h=>omega)))
  refine Tz206 ?_;unfold Vz206
  repeat (first|refine r_ke ?_|refine r_leq ?_|refine r_geq ?_|refine r_not ?_|((with_reducible refine r_vtD ?h ?_);(case h=>omega)))
  exact⟨rfl,by rw[decide_eq_true (by omega)];rfl⟩
theorem Zlq {vb:Value}{n:Nat}(H:Holds w (blk b tPack [vb,nv n]::L)) (hv:sg vb=true) (post:∀ w',Same w w'->Holds w' (blk b tPack [vb,nv n]::L)->K (.agg #[vb,nv n]) w') :
  Cl prog 348 #[.pointer (some ⟨b,0,none⟩)] w K:=by
 refine Tz348 ?_;unfold Vz348
 have hz:(zeroP prog 340).cells.toList=[.int .u8 0,nv 0]:=by kernel_rfl
 refine r_new H λb1 w1 S1 H1=>?_;rw[hz] at H1;clear H;have H:=H1;have S:=S1
 repeat (first|refine r_ldA 1 H [vb,nv n] rfl rfl rfl ?_|refine r_nc ?_|refine r_fo0 ?_|(with_reducible first|refine Za3 ?_|refine r_vf ?_))
 refine r_stA 0 H (vs:=[vb,nv n]) rfl (by decide) rfl (by rw[List.all_cons,hv];rfl) λw3 S3 H3=>?_;replace H3:Holds w3 (blk b1 340 [vb,nv n]::blk b tPack [vb,nv n]::L):=H3;refine r_ldA 0 H3 [vb,nv n] rfl rfl rfl ?_;exact post _ (S.trans S3) H3.drop
theorem Zgu {r:Nat}(H:Holds w (SplR0 b r::L)) (post:∀ w',Same w w'->Holds w' (SplR0 b r::L)->K (iv 0) w'):Cl prog 342 #[.pointer (some ⟨b,0,none⟩)] w K:=by
 refine Tz342 ?_;unfold Vz342;obtain⟨b1,b2,H⟩:=Zhh H;have S:=Same.refl w
 repeat (first|refine r_nc ?_|refine r_fo0 ?_|refine r_lnl ?_|(with_reducible first|refine Za3 ?_|refine r_vf ?_)|(refine r_dr H ?_;clear H;intro _ S_ H;replace S:=S.trans S_;clear S_)|refine r_ld 0 H rfl rfl ?_)
 refine Zlq (H.front 2 rfl) rfl λw2 S2 H2=>?_;have H4:=(H2.front 2 rfl).front 2 rfl;replace H4:Holds w2 (blk b tSplit [.slice none 0 0,.pointer (some ⟨b1,0,none⟩),nv 0,nv r,.pointer (some ⟨b2,0,none⟩)]::blk b1 tSum (tabL.map uv++[uv 4294967295])::blk b2 tPack [.int .u8 0,nv 0]::L):=H4;refine r_rk (r_lnl rfl) ?_;refine r_rk (r_ld 0 H4 rfl rfl rfl) ?_;refine r_fd rfl ?_;refine r_min ?_
 repeat (refine Zb1 (by omega) ?_)
 exact post _ (S.trans S2) (Zdd H4)
end U38
namespace F33
variable {w:World}{L:List HProp}{K:KT}
abbrev pt (b:Nat):Value:=.pointer (some ⟨b,0,none⟩)
abbrev S_ (B:List UInt8):Value:=.string ⟨B.toArray⟩
abbrev tFr:Nat:=130
abbrev tPa:Nat:=128
theorem sz (t:List UInt8):(⟨t.toArray⟩:ByteArray).size=t.length:=by show t.toArray.size=_;simp
theorem dl (t:List UInt8):(⟨t.toArray⟩:ByteArray).data.toList=t:=by simp
theorem q_len {t:List UInt8}{K:Value->Prop}(h:K (nv t.length)):Lns (S_ t) K:=r_lns (by rw[sz];exact h)
theorem q_ix {t:List UInt8}{k:IntKind}{m:Nat}{K:Value->Prop}(h1:m < t.length) (h:K (.int .u8 ((t.getD m 0).toNat:Int))):Ixs (S_ t) (.int k (m:Int)) K:=Zgy (by rw[sz];exact h1) (by rw[dl];exact h)
theorem ext_ {t:List UInt8}{a b:Nat}:(⟨t.toArray⟩:ByteArray).extract a b=⟨((t.take b).drop a).toArray⟩:=by
 have h1:(⟨t.toArray⟩:ByteArray).extract a b=⟨t.toArray.extract a b⟩:=by simp[ByteArray.extract,ByteArray.copySlice]
 rw[h1]
 congr 1
 apply Array.ext';simp[Array.toList_extract,List.extract_eq_take_drop,List.drop_take]
theorem q_T {t:List UInt8}{k:IntKind}{m:Nat}{K:Value->Prop}(h1:m<=t.length) (h:K (S_ (t.take m))):Sst (S_ t) none (some (.int k (m:Int))) K:=Zw3 (by rw[sz];exact h1) (by rw[dl];exact h)
theorem q_D {t:List UInt8}{k:IntKind}{m:Nat}{K:Value->Prop}(h1:m<=t.length) (h:K (S_ (t.drop m))):Sst (S_ t) (some (.int k (m:Int))) none K:=Zqn (by rw[sz];exact h1) (by rw[dl];exact h)
theorem q_DT {t:List UInt8}{k k':IntKind}{a b:Nat}{K:Value->Prop}(h1:a<=b) (h2:b<=t.length) (h:K (S_ ((t.take b).drop a))):Sst (S_ t) (some (.int k (a:Int))) (some (.int k' (b:Int))) K:=
 r_sst ⟨k,rfl⟩ ⟨k',rfl⟩ h1 (by rw[sz];exact h2) (by rw[ext_];exact h)
def num4 (s:List UInt8):Nat:=((s.getD 0 0).toNat*256+(s.getD 1 0).toNat)*65536+((s.getD 2 0).toNat*256+(s.getD 3 0).toNat)
def numK (s:List UInt8):Nat->Nat
 |0=>0
 |k+1=>numK s k*256+(s.getD k 0).toNat
theorem Zgk (s:List UInt8):∀ k,numK s k < 256^k
 |0=>by show 0 < 1;decide
 |k+1=>by
  have h1:=Zgk s k;have h2:=(s.getD k 0).toNat_lt;rw[numK,Nat.pow_succ];omega
theorem r_orI {a b:Nat}{K:Value->Prop}(ha:a*2^8+b < 9223372036854775808) (hb:b < 256) (h:K (nv (a*256+b))):Bp .or (nv (a*2^8)) (nv b) K:=by
 refine r_bpK (nv (a*256+b)) ?_ h;have h8:(2:Nat)^8=256:=rfl;have hbits:IntKind.i64.bits=64:=rfl;simp only[bp,if_true];rw[hbits,BitVec.toNat_or,BitVec.toNat_ofInt,BitVec.toNat_ofInt]
 have e1:(((a*2^8:Nat):Int)%((2^64:Nat):Int)).toNat=a*2^8:=by omega
 have e2:((b:Int)%((2^64:Nat):Int)).toNat=b:=by omega
 have e3:a*2^8 ||| b=a*256+b:=by
  have:=Nat.two_pow_add_eq_or_of_lt (i:=8) (b:=b) (by omega) a;rw[Nat.mul_comm a,<-this]
 rw[e1,e2,e3,wrap64 (by omega) (by omega)]
theorem Zdi {s:List UInt8}(h4:4<=s.length) (k:K (nv (numK s 4)) w):Cl prog 113 #[S_ s] w K:=by
 refine Tz113 ?_;unfold Vz113;refine Zam (λx y w'=>∃ i:Nat,i<=4/\x=nv (numK s i)/\y=nv i/\w=w') (λ_ y _=>4 - (intOf y).toNat) ⟨0,by omega,rfl,rfl,rfl⟩ ?_;rintro _ _ _ _ ⟨i,hi,rfl,rfl,rfl⟩;refine r_lss (r_ifD (λh=>?_) λh=>?_)
 ·have hlt:=Zgk s i;have hle:256^i<=256^3:=Nat.pow_le_pow_right (by decide) (by omega);have h2:=(s.getD i 0).toNat_lt;refine Zw7 (n:=8) (by decide) (by omega) ?_;refine q_ix (by omega) ?_;refine Zdc (by omega) (by omega) ?_;refine r_orI (by omega) (by omega) ?_;refine Za7 (by omega) (r_ke ⟨⟨i+1,by omega,rfl,rfl,rfl⟩,?_⟩);simp only[intOf,gC];omega
 ·obtain rfl:i=4:=by omega
  exact k
structure Fr where
 ty:Nat
 jb:Nat
 da:List UInt8
def cellsF (f:Fr):List Value:=[nv f.ty,nv f.jb,S_ f.da]
def fr0:Fr:=⟨0,0,[]⟩
theorem Zaq:(zeroP prog tFr).cells.toList=cellsF fr0:=by kernel_rfl
def cli (t:Nat):Prop:=1<=t/\t<=7
def srv (t:Nat):Prop:=65<=t/\t<=70
instance (t:Nat):Decidable (cli t):=by unfold cli;infer_instance
instance (t:Nat):Decidable (srv t):=by unfold srv;infer_instance
theorem Zdl {s:List UInt8}(k1:s.length=4->K (.tuple #[nv (numK s 4),iv 0]) w) (k2:s.length≠4->K (.tuple #[iv 0,iv 1]) w):Cl prog 114 #[S_ s] w K:=by
 refine Tz114 ?_;unfold Vz114;refine q_len (r_neq (r_ifN (λh=>k2 (by omega)) λh=>?_));exact Zdi (by omega) (k1 (by omega))
theorem Zl5 {f:Fr}(H:Holds w L) (k:∀ w',Same w w'->Holds w' L->K (.bool (decide (cli f.ty))) w'):Cl prog 164 #[.agg (cellsF f).toArray] w K:=by
 refine Tz164 ?_;unfold Vz164;refine r_new H λb w1 S1 H1=>?_;replace H1:Holds w1 (blk b tFr (cellsF f)::L):=H1;refine r_fo0 (r_ld 0 H1 rfl rfl ?_);refine r_geq (r_ifD (λh=>?_) λh=>?_)
 ·refine r_fo0 (r_ld 0 H1 rfl rfl (r_leq ?_));have:=k _ S1 H1.drop;rw[show decide (cli f.ty)=decide ((f.ty:Int)<=7) by rw[Bool.eq_iff_iff,decide_eq_true_iff,decide_eq_true_iff];unfold cli;omega] at this;exact this
 ·have:=k _ S1 H1.drop;rw[decide_eq_false (by unfold cli;omega)] at this;exact this
theorem Zlh {f:Fr}(H:Holds w L) (k:∀ w',Same w w'->Holds w' L->K (.bool (decide (srv f.ty))) w'):Cl prog 165 #[.agg (cellsF f).toArray] w K:=by
 refine Tz165 ?_;unfold Vz165;refine r_new H λb w1 S1 H1=>?_;replace H1:Holds w1 (blk b tFr (cellsF f)::L):=H1;refine r_fo0 (r_ld 0 H1 rfl rfl ?_);refine r_geq (r_ifD (λh=>?_) λh=>?_)
 ·refine r_fo0 (r_ld 0 H1 rfl rfl (r_leq ?_));have:=k _ S1 H1.drop;rw[show decide (srv f.ty)=decide ((f.ty:Int)<=70) by rw[Bool.eq_iff_iff,decide_eq_true_iff,decide_eq_true_iff];unfold srv;omega] at this;exact this
 ·have:=k _ S1 H1.drop;rw[decide_eq_false (by unfold srv;omega)] at this;exact this
theorem may_spec {f:Fr}(H:Holds w L) (k:∀ w',Same w w'->Holds w' L->K (.bool (decide (cli f.ty\/srv f.ty))) w'):Cl prog 112 #[.agg (cellsF f).toArray] w K:=by
 refine Tz112 ?_;unfold Vz112;refine r_new H λb w1 S1 H1=>?_;replace H1:Holds w1 (blk b tFr (cellsF f)::L):=H1;refine r_ldA 0 H1 (cellsF f) rfl rfl rfl ?_;refine Zl5 H1 λw2 S2 H2=>?_;refine r_ifD (λh=>?_) λh=>?_
 ·have:=k _ (S1.trans S2) H2.drop;rw[decide_eq_true (.inl h)] at this;exact this
 ·refine r_ldA 0 H2 (cellsF f) rfl rfl rfl ?_;refine Zlh H2 λw3 S3 H3=>?_;have:=k _ (S1.trans (S2.trans S3)) H3.drop;rw[show decide (cli f.ty\/srv f.ty)=decide (srv f.ty) by rw[Bool.eq_iff_iff,decide_eq_true_iff,decide_eq_true_iff];exact⟨λq=>q.resolve_left h,.inr⟩] at this;exact this
inductive Dec where
 |no (e:Nat)
 |ok (f:Fr) (n:Nat)
def dec (s:List UInt8):Dec:=
 if s=[] then .no 3
 else if ¬ (cli (s.getD 0 0).toNat\/srv (s.getD 0 0).toNat) then .no 35
 else if s.length < 9 then .no 3
 else if 65536 < numK (s.drop 5) 4 then .no 2
 else if s.length - 9 < numK (s.drop 5) 4 then .no 3
 else .ok ⟨(s.getD 0 0).toNat,numK (s.drop 1) 4,(s.take (9+numK (s.drop 5) 4)).drop 9⟩ (9+numK (s.drop 5) 4)
def decV:Dec->Value
 |.no e=>.tuple #[.agg (cellsF fr0).toArray,iv 0,nv e]
 |.ok f n=>.tuple #[.agg (cellsF f).toArray,nv n,iv 0]
theorem Zkk {s:List UInt8}(H:Holds w L) (hs:s.length<=1000000) (k:∀ w',Same w w'->Holds w' L->K (decV (dec s)) w'):Cl prog 78 #[S_ s] w K:=by
 refine Tz78 ?_;unfold Vz78;refine r_new H λb w1 S1 H1=>?_;rw[Zaq] at H1
 have out:∀ (e:Nat) (bs:List HProp) w',dec s=.no e->Same w w'->Holds w' (blk b tFr (cellsF fr0)::L)->Bd prog tFr #[] w' λx=>StA 3 (pt b) x w' λw2=>LdA 3 (pt b) w2 λy=>K (.tuple #[y,iv 0,nv e]) w2:=by
  intro e _ w' he Sz Hz;refine r_bd (v:=.agg (cellsF fr0).toArray) (by kernel_rfl) ?_;refine r_stA 0 Hz (vs:=cellsF fr0) rfl (Nat.le_refl 3) rfl rfl λw2 S2 H2=>?_;refine r_ldA 0 H2 (cellsF fr0) rfl rfl rfl ?_;have:=k w2 (Sz.trans S2) H2.drop;rw[he] at this;exact this
 refine Zdm (r_ifD (λh=>?_) λh=>?_)
 ·have h0:s=[]:=List.eq_nil_of_length_eq_zero (by rw[sz] at h;exact h);exact out 3 [] w1 (by unfold dec;rw[if_pos h0]) S1 H1
 have h0:s≠[]:=λe=>h (by rw[e];rfl);have hp:0 < s.length:=List.length_pos_iff.2 h0;have hb0:=(s.getD 0 0).toNat_lt;refine q_ix (m:=0) hp ?_;refine Zdc (by omega) (by omega) ?_;refine r_bd (v:=.agg (cellsF ⟨(s.getD 0 0).toNat,0,[]⟩).toArray) (by kernel_rfl) ?_;refine r_new H1 λfb w2 S2 H2=>?_;rw[Zaq] at H2;refine r_stA 0 H2 (vs:=cellsF ⟨(s.getD 0 0).toNat,0,[]⟩) rfl (Nat.le_refl 3) rfl rfl λw3 S3 H3=>?_;replace H3:Holds w3 (blk fb tFr (cellsF ⟨(s.getD 0 0).toNat,0,[]⟩)::blk b tFr (cellsF fr0)::L):=H3;refine r_ldA 0 H3 (cellsF ⟨(s.getD 0 0).toNat,0,[]⟩) rfl rfl rfl ?_;refine may_spec H3 λw4 S4 H4=>?_;have S:=S1.trans (S2.trans (S3.trans S4));refine r_not (r_vif (λh2=>?_) λh2=>?_)
 ·have h2':¬ (cli (s.getD 0 0).toNat\/srv (s.getD 0 0).toNat):=by simpa using h2
  exact out 35 [] w4 (by unfold dec;rw[if_neg h0,if_pos h2']) S H4.drop
 have h2':¬ ¬ (cli (s.getD 0 0).toNat\/srv (s.getD 0 0).toNat):=by simpa using h2
 refine q_len (r_lss (r_ifD (λh3=>?_) λh3=>?_))
 ·exact out 3 [] w4 (by unfold dec;rw[if_neg h0,if_neg h2',if_pos (by omega)]) S H4.drop
 refine q_D (m:=1) (by omega) ?_;refine Zdi (by rw[gS];omega) ?_;refine r_fo0 (r_st 0 H4 rfl (by simp[cellsF]) rfl λw5 S5 H5=>?_);replace H5:Holds w5 (blk fb tFr (cellsF ⟨(s.getD 0 0).toNat,numK (s.drop 1) 4,[]⟩)::blk b tFr (cellsF fr0)::L):=H5;refine q_D (m:=5) (by omega) ?_;refine Zdi (by rw[gS];omega) ?_
 have hd:dec s=if 65536 < numK (s.drop 5) 4 then .no 2 else if s.length - 9 < numK (s.drop 5) 4 then .no 3 else .ok ⟨(s.getD 0 0).toNat,numK (s.drop 1) 4,(s.take (9+numK (s.drop 5) 4)).drop 9⟩ (9+numK (s.drop 5) 4):=by
  unfold dec;rw[if_neg h0,if_neg h2',if_neg (by omega)]
 generalize hn:numK (s.drop 5) 4=n at *;refine r_gtr (r_ifD (λh4=>?_) λh4=>?_)
 ·exact out 2 [] w5 (by rw[hd,if_pos (by omega)]) (S.trans S5) H5.drop
 refine q_len (r_sub (by omega) (by omega) ?_);refine r_lss (r_ifD (λh5=>?_) λh5=>?_)
 ·exact out 3 [] w5 (by rw[hd,if_neg (by omega),if_pos (by omega)]) (S.trans S5) H5.drop
 refine Zb1 (a:=9) (b:=n) (by omega) ?_;refine q_DT (a:=9) (b:=9+n) (by omega) (by omega) ?_;refine r_fo0 (r_st 0 H5 rfl (by simp[cellsF]) rfl λw6 S6 H6=>?_);replace H6:Holds w6 (blk fb tFr (cellsF ⟨(s.getD 0 0).toNat,numK (s.drop 1) 4,(s.take (9+n)).drop 9⟩)::blk b tFr (cellsF fr0)::L):=H6;refine r_ldA 0 H6 (cellsF ⟨(s.getD 0 0).toNat,numK (s.drop 1) 4,(s.take (9+n)).drop 9⟩) rfl rfl rfl ?_;refine Zb1 (a:=9) (b:=n) (by omega) ?_;refine r_stA 1 H6 (vs:=cellsF ⟨(s.getD 0 0).toNat,numK (s.drop 1) 4,(s.take (9+n)).drop 9⟩) rfl (Nat.le_refl 3) rfl rfl λw7 S7 H7=>?_;refine r_ldA 1 H7 (cellsF ⟨(s.getD 0 0).toNat,numK (s.drop 1) 4,(s.take (9+n)).drop 9⟩) rfl rfl rfl ?_;have:=k w7 (S.trans (S5.trans (S6.trans S7))) H7.drop.drop;rw[hd,if_neg (by omega),if_neg (by omega)] at this;exact this
abbrev paC (B:List UInt8) (e:Nat):List Value:=[nv 65545,S_ B,nv e]
variable {p:Nat}{B s:List UInt8}
theorem Zom (H:Holds w L) (k:∀ p w',Same w w'->Holds w' (blk p tPa (paC [] 0)::L)->K (.tuple #[pt p,iv 0]) w'):Cl prog 54 #[iv 65545] w K:=by
 refine Tz54 ?_;unfold Vz54;refine Za0 (λv w'=>w=w'/\v=.bool false) ?_ ?_
 rotate_left
 ·exact r_lss (r_vfD (by decide) (r_gtr (r_ke ⟨rfl,by rw[decide_eq_false (by decide)]⟩)))
 rintro _ _ _ ⟨rfl,rfl⟩;refine r_vf ?_;refine r_bd (v:=.agg (paC [] 0).toArray) (by kernel_rfl) ?_;refine r_new H λp w1 S1 H1=>?_;exact k p _ S1 H1
theorem Zjx (H:Holds w (blk p tPa (paC B 0)::L)) (hl:B.length+s.length<=65545) (k:∀ w',Same w w'->Holds w' (blk p tPa (paC (B++s) 0)::L)->K (nv s.length) w'):Cl prog 30 #[pt p,S_ s] w K:=by
 refine Tz30 ?_;unfold Vz30;refine Za0 (λv w'=>w=w'/\v=.bool false) ?_ ?_
 rotate_left
 ·refine Za3 (r_vf (r_nc (r_fo0 (r_ld 0 H rfl rfl (r_neq (r_ke ⟨rfl,?_⟩))))));rfl
 rintro _ _ _ ⟨rfl,rfl⟩;refine r_vf ?_;refine r_dr H λw1 S1 H1=>?_;refine q_len (r_nc (r_fo0 (r_ld 0 H1 rfl rfl (r_nc (r_fo0 (r_ld 0 H1 rfl rfl (q_len ?_)))))));refine r_sub (by omega) (by omega) ?_;refine r_min ?_;rw[show min (s.length:Int) ((65545:Nat) - (B.length:Int))=((s.length:Nat):Int) by omega];refine r_dr H1 λw2 S2 H2=>?_;refine r_nc (r_fo0 (r_ld 0 H2 rfl rfl (q_T (Nat.le_refl _) ?_)));rw[List.take_length];refine r_cat (by rw[sz,sz];omega) ?_
 have e:(⟨B.toArray⟩:ByteArray)++⟨s.toArray⟩=⟨(B++s).toArray⟩:=by
  apply ByteArray.ext;simp
 rw[e];refine r_nc (r_fo0 (r_st 0 H2 rfl (by simp) rfl λw3 S3 H3=>?_));exact k _ (S1.trans (S2.trans S3)) H3
theorem Zr3 {e:Nat}(H:Holds w (blk p tPa (paC B 0)::L)) (k:∀ w',Same w w'->Holds w' (blk p tPa (paC [] e)::L)->K (.tuple #[.agg (cellsF fr0).toArray,.bool false,nv e]) w'):Cl prog 79 #[pt p,nv e] w K:=by
 refine Tz79 ?_;unfold Vz79;refine r_new H λb w1 S1 H1=>?_;rw[Zaq] at H1;refine r_nc (r_fo0 (r_st 1 H1 rfl (by simp) rfl λw2 S2 H2=>?_));refine r_nc (r_fo0 (r_st 1 H2 rfl (by simp) rfl λw3 S3 H3=>?_));replace H3:Holds w3 (blk b tFr (cellsF fr0)::blk p tPa (paC [] e)::L):=H3;refine r_bd (v:=.agg (cellsF fr0).toArray) (by kernel_rfl) ?_;refine r_stA 0 H3 (vs:=cellsF fr0) rfl (Nat.le_refl 3) rfl rfl λw4 S4 H4=>?_;refine r_ldA 0 H4 (cellsF fr0) rfl rfl rfl ?_;exact k _ (S1.trans (S2.trans (S3.trans S4))) H4.drop
theorem Zev (H:Holds w (blk p tPa (paC B 0)::L)) (h:9<=B.length->numK (B.drop 5) 4<=65536) (k:K (.bool false) w):Cl prog 80 #[pt p] w K:=by
 refine Tz80 ?_;unfold Vz80;refine r_nc (r_fo0 (r_ld 0 H rfl rfl (q_len (r_lss (r_ifD (λh1=>k) λh1=>?_)))));refine r_nc (r_fo0 (r_ld 0 H rfl rfl (q_DT (a:=5) (b:=9) (by decide) (by omega) ?_)))
 have hl:((B.take 9).drop 5).length=4:=by rw[gS,gN];omega
 have en:numK ((B.take 9).drop 5) 4=numK (B.drop 5) 4:=by
  have g:∀ i,i < 4->((B.take 9).drop 5).getD i 0=(B.drop 5).getD i 0:=by
   intro i hi;rw[gB,gB,hH_,hH_,hI_ (by omega)]
  simp only[numK,g 0 (by decide),g 1 (by decide),g 2 (by decide),g 3 (by decide)]
 have hn:=h (by omega);refine Zdl (λ_=>?_) λe=>absurd hl e;rw[en];generalize numK (B.drop 5) 4=n at *;refine Za6 (Za5 (Zb1 (a:=9) (b:=n) (by omega) (r_nc (r_fo0 (r_ld 0 H rfl rfl (r_gtr ?_))))));rw[decide_eq_false (by omega)];exact k
def nextV:Dec->Value
 |.no e=>if e=3 then .tuple #[.agg (cellsF fr0).toArray,.bool false,iv 0] else .tuple #[.agg (cellsF fr0).toArray,.bool false,nv e]
 |.ok f _=>.tuple #[.agg (cellsF f).toArray,.bool true,iv 0]
def nextB (B:List UInt8):Dec->List UInt8
 |.no e=>if e=3 then B else []
 |.ok _ n=>B.drop n
def nextE:Dec->Nat
 |.no e=>if e=3 then 0 else e
 |.ok _ _=>0
theorem Ztd {s:List UInt8}{e:Nat}(h:dec s=.no e):e=3\/e=35\/e=2:=by
 unfold dec at h;split at h
 ·cases h;exact .inl rfl
 split at h
 ·cases h;exact .inr (.inl rfl)
 split at h
 ·cases h;exact .inl rfl
 split at h
 ·cases h;exact .inr (.inr rfl)
 split at h
 ·cases h;exact .inl rfl
 ·cases h
theorem Zm7 {s:List UInt8}(h2:dec s≠.no 2) (h35:dec s≠.no 35) (h9:9<=s.length):numK (s.drop 5) 4<=65536:=by
 unfold dec at h2 h35;rw[if_neg (λe=>by rw[e] at h9;simp at h9)] at h2 h35;split at h2
 ·rename_i g;rw[if_pos g] at h35;exact absurd rfl h35
 rw[if_neg (by omega)] at h2;split at h2
 ·exact absurd rfl h2
 ·omega
theorem Zwp {s:List UInt8}{f:Fr}{n:Nat}(h:dec s=.ok f n):n<=s.length/\9<=n/\f.ty < 256/\f.jb<=4294967295/\f.da.length<=65536:=by
 unfold dec at h;split at h
 ·cases h
 split at h
 ·cases h
 split at h
 ·cases h
 split at h
 ·cases h
 split at h
 ·cases h
 ·have h1:=Zgk (s.drop 1) 4;have h3:=(s.getD 0 0).toNat_lt;cases h;refine⟨by omega,by omega,h3,by show numK (s.drop 1) 4<=4294967295;omega,?_⟩;show ((s.take _).drop 9).length<=65536;rw[gS,gN];omega
theorem Zj4 (H:Holds w (blk p tPa (paC B 0)::L)) (hl:B.length<=1000000) (k:∀ w',Same w w'->Holds w' (blk p tPa (paC (nextB B (dec B)) (nextE (dec B)))::L)->K (nextV (dec B)) w'):Cl prog 56 #[pt p] w K:=by
 refine Tz56 ?_;unfold Vz56;refine r_new H λb w1 S1 H1=>?_;rw[Zaq] at H1;refine Za3 (r_vf (r_nc (r_fo0 (r_ld 1 H1 rfl rfl (r_neq (r_vfN rfl (r_nc (r_fo0 (r_ld 1 H1 rfl rfl ?_)))))))));refine Zkk H1 hl λw2 S2 H2=>?_
 cases hd:dec B with
 |no e=>
  rw[hd] at k;refine Zdn (Zeq (Zet ?_));refine r_new H2 λfb w3 S3 H3=>?_;rw[Zaq] at H3;refine r_stA 0 H3 (vs:=cellsF fr0) rfl (Nat.le_refl 3) rfl rfl λw4 S4 H4=>?_;replace H4:Holds w4 (blk fb tFr (cellsF fr0)::blk b tFr (cellsF fr0)::blk p tPa (paC B 0)::L):=H4;have S:=S1.trans (S2.trans (S3.trans S4));refine Za0 (λv w'=>w4=w'/\v=.bool (decide (e=35\/e=2))) ?_ ?_
  rotate_left
  ·refine r_eql (r_ifE (λh=>r_ke ⟨rfl,by rw[decide_eq_true (.inl (by omega))]⟩) λh=>r_eql (r_ke ⟨rfl,congrArg Value.bool ?_⟩));rw[Bool.eq_iff_iff,decide_eq_true_iff,beq_iff_eq];omega
  rintro _ _ _ ⟨rfl,rfl⟩;refine r_ifD (λh=>?_) λh=>?_
  ·have H5:Holds w4 (blk p tPa (paC B 0)::blk fb tFr (cellsF fr0)::blk b tFr (cellsF fr0)::L):=by have h_:=Holds.ord 3 [2,0,1] H4 rfl;exact h_
   refine Zr3 H5 λw5 S5 H6=>?_;refine Zdn (Zeq (Zet ?_));refine r_stA 2 H6 (vs:=cellsF fr0) rfl (Nat.le_refl 3) rfl rfl λw6 S6 H7=>?_;refine r_ldA 2 H7 (cellsF fr0) rfl rfl rfl ?_;have:=k w6 (S.trans (S5.trans S6)) (by simp only[nextB,nextE];rw[if_neg (by omega),if_neg (by omega)];exact Holds.dropAt (Holds.dropAt H7 1) 1);simp only[nextV] at this;rw[if_neg (by omega)] at this;exact this
  ·have he:e=3:=by have:=Ztd hd;omega
   subst he
   have H5:Holds w4 (blk p tPa (paC B 0)::blk fb tFr (cellsF fr0)::blk b tFr (cellsF fr0)::L):=by have h_:=Holds.ord 3 [2,0,1] H4 rfl;exact h_
   refine Zev H5 (λh9=>Zm7 (by rw[hd];simp) (by rw[hd];simp) h9) ?_;refine r_vf (r_eql (r_vtE rfl ?_));refine r_bd (v:=.agg (cellsF fr0).toArray) (by kernel_rfl) ?_;refine r_stA 1 H4 (vs:=cellsF fr0) rfl (Nat.le_refl 3) rfl rfl λw6 S6 H7=>?_;refine r_ldA 1 H7 (cellsF fr0) rfl rfl rfl ?_;exact k w6 (S.trans S6) H7.drop.drop
 |ok f n=>
  rw[hd] at k;obtain⟨hn,_⟩:=Zwp hd;refine Zdn (Zeq (Zet ?_));refine r_new H2 λfb w3 S3 H3=>?_;rw[Zaq] at H3;refine r_stA 0 H3 (vs:=cellsF f) rfl (Nat.le_refl 3) rfl rfl λw4 S4 H4=>?_;replace H4:Holds w4 (blk fb tFr (cellsF f)::blk b tFr (cellsF fr0)::blk p tPa (paC B 0)::L):=H4;have S:=S1.trans (S2.trans (S3.trans S4));refine Za0 (λv w'=>w4=w'/\v=.bool false) ?_ ?_
  rotate_left
  ·exact r_eql (r_vfE (by decide) (r_eql (r_ke ⟨rfl,rfl⟩)))
  rintro _ _ _ ⟨rfl,rfl⟩;refine r_vf ?_
  have H5:Holds w4 (blk p tPa (paC B 0)::blk fb tFr (cellsF f)::blk b tFr (cellsF fr0)::L):=by have h_:=Holds.ord 3 [2,0,1] H4 rfl;exact h_
  refine Zev H5 (λh9=>Zm7 (by rw[hd];simp) (by rw[hd];simp) h9) ?_;refine r_vf (r_eql (r_vfE (by decide) ?_));refine r_nc (r_fo0 (r_ld 2 H4 rfl rfl (q_D hn (r_nc (r_fo0 (r_st 2 H4 rfl (by simp) rfl λw5 S5 H6=>?_))))));replace H6:Holds w5 (blk fb tFr (cellsF f)::blk b tFr (cellsF fr0)::blk p tPa (paC (B.drop n) 0)::L):=H6;refine r_ldA 0 H6 (cellsF f) rfl rfl rfl ?_;refine r_stA 1 H6 (vs:=cellsF f) rfl (Nat.le_refl 3) rfl rfl λw6 S6 H7=>?_;refine r_ldA 1 H7 (cellsF f) rfl rfl rfl ?_;exact k w6 (S.trans (S5.trans S6)) H7.drop.drop
theorem Zd1 {f:Fr}(H:Holds w L) (h1:f.jb<=4294967295) (h2:f.da.length<=65536) (k:∀ w',Same w w'->Holds w' L->K (.bool true) w'):Cl prog 124 #[.agg (cellsF f).toArray] w K:=by
 refine Tz124 ?_;unfold Vz124;refine r_new H λb w1 S1 H1=>?_;replace H1:Holds w1 (blk b tFr (cellsF f)::L):=H1;refine r_fo0 (r_ld 0 H1 rfl rfl (r_geq (r_vtD (by omega) ?_)));refine r_fo0 (r_ld 0 H1 rfl rfl (r_leq (r_vtD (by omega) ?_)));refine r_fo0 (r_ld 0 H1 rfl rfl (q_len (r_leq ?_)));rw[decide_eq_true (by omega)];exact k _ S1 H1.drop
end F33
namespace F33
open Go.M31 J30 J31 J32
variable {w:World}{L:List HProp}{K:KT}
abbrev tRq:Nat:=169
abbrev tAc:Nat:=137
theorem Zct:(zeroP prog tRq).cells.toList=[iv 0,iv 0,S_ [],S_ [],iv 0,iv 0,iv 0]:=by kernel_rfl
def zAct:List Value:=[iv 0,iv 0,iv 0,iv 0,iv 0,iv 0,S_ [],iv 0]
theorem Zcn:(zeroP prog tAc).cells.toList=zAct:=by kernel_rfl
theorem q_eqs {t u:List UInt8}{K:Value->Prop}(h:K (.bool (decide (t=u)))):Bp .eql (S_ t) (S_ u) K:=by
 refine r_seq ?_
 have e:decide ((⟨t.toArray⟩:ByteArray)=⟨u.toArray⟩)=decide (t=u):=by
  rw[Bool.eq_iff_iff,decide_eq_true_iff,decide_eq_true_iff]
  constructor
  ·intro h;have:=congrArg (λb:ByteArray=>b.data.toList) h;simpa using this
  ·rintro rfl;rfl
 rw[e];exact h
theorem Zpl {s:List UInt8}(H:Holds w L) (k:∀ (a b:Int) w',Same w w'->Holds w' L->K (.tuple #[iv a,iv b]) w'):Cl prog 125 #[S_ s] w K:=by
 refine Tz125 ?_;unfold Vz125;refine q_eqs (r_ifD (λh=>k 2 0 w (.refl _) H) λh=>?_);refine q_eqs (r_ifD (λh=>k 3 0 w (.refl _) H) λh=>?_);refine Za0 (λv w'=>w=w'/\∃ c:Bool,v=.bool c/\(c=true->s.length=2/\49<=(s.getD 1 0).toNat)) ?_ ?_
 rotate_left
 ·refine q_len (r_eql (r_ifE (λh2=>?_) λh2=>r_ke ⟨rfl,false,rfl,λe=>by cases e⟩));refine q_ix (m:=0) (by omega) (r_eql (r_ifE (λh3=>?_) λh3=>r_ke ⟨rfl,false,rfl,λe=>by cases e⟩));refine q_ix (m:=1) (by omega) (r_geq (r_ifD (λh4=>?_) λh4=>r_ke ⟨rfl,false,rfl,λe=>by cases e⟩));exact q_ix (m:=1) (by omega) (r_leq (r_ke ⟨rfl,_,rfl,λ_=>⟨by omega,by omega⟩⟩))
 rintro _ _ _ ⟨rfl,c,rfl,hc⟩;refine r_vif (λh2=>?_) λh2=>k 0 0 w (.refl _) H;obtain⟨h3,h4⟩:=hc h2;have hb:=(s.getD 1 0).toNat_lt;refine r_dr H λw1 S1 H1=>?_;refine q_ix (m:=1) (by omega) ?_;refine r_bpK (.int .u8 (((s.getD 1 0).toNat - 48:Nat):Int)) ?_ ?_
 ·simp only[bp,if_true]
  congr 2
  show (((s.getD 1 0).toNat:Int) - 48)%256=_;omega
 ·exact Zdc (by omega) (by omega) (k 1 _ w1 S1 H1)
def logs (f:Fr):Prop:=f.ty=1/\f.jb=0/\word f.da
theorem Zqs {z:Bool}{f:Fr}(H:Holds w L) (hT:J33.TabZ z L) (hA:J33.Asc z f.da) (h1:f.jb<=4294967295) (h2:f.da.length<=65536)
  (k1:logs f->∀ w',Same w w'->Holds w' L->K (.tuple #[.agg #[nv 1,nv f.jb,S_ f.da,S_ [],iv 0,iv 0,iv 0],iv 0]) w')
  (k2:¬ logs f->∀ (a b c d e g h:Value) (r:Int) w',[a,b,c,d,e,g,h].all sg=true->(r≠0\/∃ t:Nat,a=nv t/\t≠1)->Same w w'->Holds w' L->K (.tuple #[.agg #[a,b,c,d,e,g,h],iv r]) w') :
  Cl prog 85 #[.agg (cellsF f).toArray] w K:=by
 refine Tz85 ?_;unfold Vz85;refine r_new H λfb w1 S1 H1=>?_;replace H1:Holds w1 (blk fb tFr (cellsF f)::L):=H1;refine r_new H1 λob w2 S2 H2=>?_;rw[Zct] at H2;refine r_fo0 (r_ld 1 H2 rfl rfl (r_fo0 (r_ld 1 H2 rfl rfl ?_)));refine r_bd (v:=.agg #[nv f.ty,nv f.jb,S_ [],S_ [],iv 0,iv 0,iv 0]) (by kernel_rfl) ?_;refine r_new H2 λrb w3 S3 H3=>?_;rw[Zct] at H3;refine r_stA 0 H3 (vs:=[nv f.ty,nv f.jb,S_ [],S_ [],iv 0,iv 0,iv 0]) rfl (Nat.le_refl 7) rfl rfl λw4 S4 H4=>?_;replace H4:Holds w4 (blk rb tRq [nv f.ty,nv f.jb,S_ [],S_ [],iv 0,iv 0,iv 0]::blk ob tRq [iv 0,iv 0,S_ [],S_ [],iv 0,iv 0,iv 0]::blk fb tFr (cellsF f)::L):=H4;refine r_ldA 2 H4 (cellsF f) rfl rfl rfl ?_;refine Zd1 H4 h1 h2 λw5 S5 H5=>?_;have S:=S1.trans (S2.trans (S3.trans (S4.trans S5)));clear S1 S2 S3 S4 S5 H H1 H2 H3 H4
 refine Za0 (λv w'=>∃ (z:Bool) (c d e g h:Value),v=.bool z/\[c,d,e,g,h].all sg=true/\(f.ty=1->(z=true↔logs f)/\c=S_ f.da/\d=S_ []/\e=iv 0/\g=iv 0/\h=iv 0)/\Same w w'/\
   Holds w' (blk rb tRq [nv f.ty,nv f.jb,c,d,e,g,h]::blk ob tRq [iv 0,iv 0,S_ [],S_ [],iv 0,iv 0,iv 0]::blk fb tFr (cellsF f)::L)) ?_ ?_
 rotate_left
 ·refine r_fo0 (r_ld 2 H5 rfl rfl ?_);refine r_eql (r_ifE (λg1=>?_) λg1=>?_)
  ·have t1:f.ty=1:=by omega
   refine r_fo0 (r_ld 2 H5 rfl rfl (r_fo0 (r_st 0 H5 rfl (by simp) rfl λw6 S6 H6=>?_)));replace H6:Holds w6 (blk rb tRq [nv f.ty,nv f.jb,S_ f.da,S_ [],iv 0,iv 0,iv 0]::blk ob tRq [iv 0,iv 0,S_ [],S_ [],iv 0,iv 0,iv 0]::blk fb tFr (cellsF f)::L):=H6;refine r_vt (r_fo0 (r_ld 2 H6 rfl rfl (r_eql (r_ifE (λg2=>?_) λg2=>?_))))
   ·refine r_fo0 (r_ld 2 H6 rfl rfl ?_);refine J33.Zf6 H6 hT.up.up.up (by rw[dl];exact hA) (by rw[sz];omega) λz w7 S7 H7 hz=>?_;rw[dl] at hz;exact r_ke ⟨z,_,_,_,_,_,rfl,rfl,λ_=>⟨hz.trans ⟨λq=>⟨t1,by omega,q⟩,λq=>q.2.2⟩,rfl,rfl,rfl,rfl,rfl⟩,S.trans (S6.trans S7),H7⟩
   ·exact r_ke ⟨false,_,_,_,_,_,rfl,rfl,λ_=>⟨⟨λq=>(by cases q),λq=>absurd q.2.1 (by omega)⟩,rfl,rfl,rfl,rfl,rfl⟩,S.trans S6,H6⟩
  have t1:f.ty≠1:=by omega
  refine r_eql (r_ifE (λg2=>?_) λg2=>?_)
  ·refine r_fo0 (r_ld 2 H5 rfl rfl ?_);refine Zpl H5 λx y w6 S6 H6=>?_;refine Za6 (Za5 (r_fo0 (r_st 0 H6 rfl (by simp) rfl λw7 S7 H7=>?_)));refine r_fo0 (r_st 0 H7 rfl (by simp) rfl λw8 S8 H8=>?_);replace H8:Holds w8 (blk rb tRq [nv f.ty,nv f.jb,S_ [],S_ [],iv x,iv y,iv 0]::blk ob tRq [iv 0,iv 0,S_ [],S_ [],iv 0,iv 0,iv 0]::blk fb tFr (cellsF f)::L):=H8;exact r_vt (r_neq (r_ke ⟨_,_,_,_,_,_,rfl,rfl,λq=>absurd q t1,S.trans (S6.trans (S7.trans S8)),H8⟩))
  refine r_eql (r_ifE (λg3=>?_) λg3=>?_)
  ·refine r_fo0 (r_ld 2 H5 rfl rfl (r_fo0 (r_st 0 H5 rfl (by simp) rfl λw6 S6 H6=>?_)));replace H6:Holds w6 (blk rb tRq [nv f.ty,nv f.jb,S_ [],S_ f.da,iv 0,iv 0,iv 0]::blk ob tRq [iv 0,iv 0,S_ [],S_ [],iv 0,iv 0,iv 0]::blk fb tFr (cellsF f)::L):=H6;exact r_ke ⟨true,_,_,_,_,_,rfl,rfl,λq=>absurd q t1,S.trans S6,H6⟩
  refine Za0 (λv w'=>w5=w'/\∃ z:Bool,v=.bool z) ?_ ?_
  rotate_left
  ·exact r_eql (r_ifE (λ_=>r_ke ⟨rfl,_,rfl⟩) λ_=>r_eql (r_ke ⟨rfl,_,rfl⟩))
  rintro _ _ _ ⟨rfl,z,rfl⟩;refine r_vif (λ_=>?_) λ_=>?_
  ·exact r_vt (r_fo0 (r_ld 2 H5 rfl rfl (Zdm (r_ke ⟨_,_,_,_,_,_,rfl,rfl,λq=>absurd q t1,S,H5⟩))))
  refine r_eql (r_ifE (λg4=>?_) λg4=>?_)
  ·refine r_fo0 (r_ld 2 H5 rfl rfl ?_);refine r_cl (K:=λv w'=>w5=w'/\∃ x y:Int,v=.tuple #[iv x,iv y]) (Zdl (λ_=>⟨rfl,_,_,rfl⟩) λ_=>⟨rfl,_,_,rfl⟩) ?_;rintro _ _ ⟨rfl,x,y,rfl⟩;refine Za6 (Za5 (r_fo0 (r_st 0 H5 rfl (by simp) rfl λw7 S7 H7=>?_)));replace H7:Holds w7 (blk rb tRq [nv f.ty,nv f.jb,S_ [],S_ [],iv 0,iv 0,iv x]::blk ob tRq [iv 0,iv 0,S_ [],S_ [],iv 0,iv 0,iv 0]::blk fb tFr (cellsF f)::L):=H7;exact r_vt (r_eql (r_ke ⟨_,_,_,_,_,_,rfl,rfl,λq=>absurd q t1,S.trans S7,H7⟩))
  refine r_eql (r_ifE (λg5=>?_) λg5=>r_ke ⟨false,_,_,_,_,_,rfl,rfl,λq=>absurd q t1,S,H5⟩);refine r_vt (r_fo0 (r_ld 2 H5 rfl rfl (r_eql (r_ifE (λg6=>?_) λg6=>r_ke ⟨false,_,_,_,_,_,rfl,rfl,λq=>absurd q t1,S,H5⟩))));exact r_fo0 (r_ld 2 H5 rfl rfl (Zdm (r_ke ⟨_,_,_,_,_,_,rfl,rfl,λq=>absurd q t1,S,H5⟩)))
 clear H5 S;rintro _ _ w6 ⟨z,c,d,e,g,h,rfl,hsg,hz,S,H6⟩;refine r_not (r_vif (λq=>?_) λq=>?_)
 ·have q':z=false:=by simpa using q
  refine r_bd (v:=.agg #[iv 0,iv 0,S_ [],S_ [],iv 0,iv 0,iv 0]) (by kernel_rfl) ?_;refine r_stA 1 H6 (vs:=[iv 0,iv 0,S_ [],S_ [],iv 0,iv 0,iv 0]) rfl (Nat.le_refl 7) rfl rfl λw7 S7 H7=>?_;refine r_ldA 1 H7 [iv 0,iv 0,S_ [],S_ [],iv 0,iv 0,iv 0] rfl rfl rfl ?_;refine k2 (λhl=>?_) _ _ _ _ _ _ _ 35 w7 rfl (.inl (by decide)) (S.trans S7) H7.drop.drop.drop;have:=(hz hl.1).1.2 hl;rw[q'] at this;cases this
 ·have q':z=true:=by simpa using q
  refine r_ldA 0 H6 [nv f.ty,nv f.jb,c,d,e,g,h] rfl rfl rfl ?_;refine r_stA 1 H6 (vs:=[nv f.ty,nv f.jb,c,d,e,g,h]) rfl (Nat.le_refl 7) rfl hsg λw7 S7 H7=>?_;refine r_ldA 1 H7 [nv f.ty,nv f.jb,c,d,e,g,h] rfl rfl rfl ?_
  by_cases t1:f.ty=1
  ·obtain⟨e1,rfl,rfl,rfl,rfl,rfl⟩:=hz t1;have:=k1 (e1.1 q') w7 (S.trans S7) H7.drop.drop.drop;rw[<-t1] at this;exact this
  ·exact k2 (λhl=>t1 hl.1) _ _ _ _ _ _ _ 0 w7 hsg (.inr ⟨f.ty,rfl,t1⟩) (S.trans S7) H7.drop.drop.drop
end F33
end Go.Proofs.YtgdfganaoehokaaGreatDoor
namespace Go.Proofs.YtgdfganaoehokaaGreatDoor
open Go Go.Vc Go.Proofs.Tryz
section
variable {α:Type}{P:Program}{w:World}{L:List HProp}
theorem r_apG {t e:TypeId}{k:Nat} [hr:RowN P t e k] (H:Holds w L){F:α->List Value}{ys:List α}{a:Option Addr}{b c':Nat}{ty:TypeId}{K:KT}(hT:S4r.InG F k L a ys) (hF:∀ y,(F y).length=k) (hn:0 < ys.length) (hs:ys.length<=1000)
  (h:∀ v w',Same w w'->Holds w' (RW F k e v ys::L)->K v w'):Ap P #[t,t] ty #[.slice (some ⟨b,0,none⟩) 0 0,.slice a ys.length c'] w K:=by
 obtain⟨inf,z,hinf,hsz,hby,hzz,hzk⟩:=hr.inf;obtain⟨p,rfl,_⟩:=hT w H 0 ys[0] (gA hn);have hlen:=Zaz (k:=k) hF
 have hnews:∀ q u,(flatL F ys)[q]?=some u->w.cell? (p.add q)=some u:=by
  intro q u hu;obtain⟨i,j,x,h1,h2,rfl⟩:=S4r.flatL_in hF ys q u hu;obtain⟨p',hp,h3⟩:=hT w H i x h1;obtain rfl:=Option.some.inj hp;rw[<-Addr.add_add];exact h3 j u h2
 have hmul:ys.length*inf.bytes<=140737488355328:=Nat.le_trans (Nat.mul_le_mul_left _ hby) (by omega);have hrun:=run_append_grow (P:=P) w t ty e inf z hr.und hinf hzz ⟨b,0,none⟩ 0 0 [] (by simp) (λj v hv=>by simp at hv) p ys.length c' (flatL F ys) (by rw[hlen,hsz]) hnews (by omega) (by omega) (growslice_fits (by omega) (by rw[Nat.zero_add];exact hmul));rw[Nat.zero_add] at hrun;refine⟨_,_,hrun,?_⟩;have hcap:=grownCap_ge w ys.length 0 e;generalize grownCap w ys.length 0 e=cap at hcap ⊢;have H2:=(H.same (w':=w.drew) rfl).alloc (.cells (([]:List Value).toArray++(flatL F ys).toArray++Builtin.zeroCells z.cells (cap - ys.length)) e)
 have hc:(([]:List Value).toArray++(flatL F ys).toArray++Builtin.zeroCells z.cells (cap - ys.length))=(flatL F ys++(Builtin.zeroCells z.cells (cap - ys.length)).toList).toArray:=by simp
 rw[hc] at H2 ⊢;refine h _ _ ((Same.drew w).trans (.alloc _ _)) (Holds.imp H2 λg hg=>⟨some ⟨_,0,none⟩,cap - ys.length,(Builtin.zeroCells z.cells (cap - ys.length)).toList,?_,rfl,rfl,?_,hg⟩)
 ·congr 1;omega
 ·rw[Zci,hzk]
end
attribute [local irreducible] Vc.Nc Vc.Ld Vc.LdA Vc.St Vc.StA Vc.Fo Vc.Iaa Vc.Ias Vc.Ixs Vc.Ixa Vc.Fd Vc.FdA Vc.Bp Vc.Bb Vc.Bn Vc.Up Vc.Ci Vc.Lns Vc.Lnl Vc.Ex Vc.Sst Vc.Ssl Vc.New Vc.Vif Vc.VJoin Vc.VLoop Vc.KE Vc.Dr Vc.Rk Vc.Cl Vc.Cx Vc.Inv Vc.Be Vc.Cv Vc.Cw Vc.Mf Vc.Sl Vc.Lk Vc.Bd Vc.Bs Vc.Ms Vc.Mm Vc.Mu Vc.Me Vc.Es Vc.Rg Vc.Nx Vc.Ta Vc.Ap Vc.Usd Vc.Ust Vc.Cp Vc.Ln Vc.Bc Vc.Bmin Vc.Bmax Vc.Bdel Vc.Bclr Vc.Pk
namespace F33
open Go.M31 J30 J31 J32
variable {w:World}{L:List HProp}{K:KT}
theorem Zuy {a b:Nat}:a ||| b=0↔a=0/\b=0:=by
 constructor
 ·intro h;have h1:a<=a ||| b:=Nat.left_le_or;have h2:b<=a ||| b:=Nat.right_le_or;omega
 ·rintro⟨rfl,rfl⟩;rfl
theorem xor_zero {a b:Nat}:a ^^^ b=0↔a=b:=by
 constructor
 ·intro h
  have:a ^^^ b ^^^ b=0 ^^^ b:=by rw[h]
  rwa [Nat.xor_assoc,Nat.xor_self,Nat.xor_zero,Nat.zero_xor] at this
 ·rintro rfl;exact Nat.xor_self a
theorem Zr1 {s t:List UInt8}(H:Holds w L) (hs:s.length<=1000000) (k:∀ w',Same w w'->Holds w' L->K (.bool (decide (s=t))) w'):Cl prog 174 #[S_ s,S_ t] w K:=by
 refine Tz174 ?_;unfold Vz174;refine q_len (q_len (r_min ?_));rw[show min (s.length:Int) (t.length:Int)=((min s.length t.length:Nat):Int) by omega];generalize hm:min s.length t.length=m
 refine Zam (λx y w'=>∃ u i:Nat,u < 256/\i<=m/\x=.int .u8 (u:Int)/\y=nv i/\(u=0↔∀ j,j < i->s.getD j 0=t.getD j 0)/\Same w w'/\Holds w' L) (λ_ y _=>m - (intOf y).toNat)
  ⟨0,0,by decide,Nat.zero_le _,rfl,rfl,⟨λ_ j hj=>absurd hj (Nat.not_lt_zero _),λ_=>rfl⟩,.refl w,H⟩ ?_
 clear H;rintro _ _ _ w2 ⟨u,i,hu,hi,rfl,rfl,heq,S,H⟩;refine r_lss (r_ifD (λh=>?_) λh=>?_)
 ·have hlt:i < m:=by omega
  have h1:=(s.getD i 0).toNat_lt;have h2:=(t.getD i 0).toNat_lt;refine r_dr H λw3 S3 H3=>?_;refine q_ix (by omega) (q_ix (by omega) ?_);refine Zu0 h1 h2 ?_;have hx:(s.getD i 0).toNat ^^^ (t.getD i 0).toNat < 2^8:=Nat.xor_lt_two_pow (n:=8) (by omega) (by omega);refine Zt3 hu (by omega) ?_;have ho:u ||| ((s.getD i 0).toNat ^^^ (t.getD i 0).toNat) < 2^8:=Nat.or_lt_two_pow (by omega) hx;refine Za7 (by omega) (r_ke ⟨⟨_,i+1,by omega,by omega,rfl,rfl,?_,S.trans S3,H3⟩,?_⟩)
  ·rw[Zuy,xor_zero,heq]
   constructor
   ·rintro⟨g1,g2⟩ j hj
    by_cases hji:j < i
    ·exact g1 j hji
    ·obtain rfl:j=i:=by omega
     exact UInt8.toNat_inj.1 g2
   ·intro g;exact⟨λj hj=>g j (by omega),by rw[g i (by omega)]⟩
  ·simp only[intOf,gC];omega
 ·obtain rfl:i=m:=by omega
  have hb:∀ z:Bool,(z=true↔s=t)->K (.bool z) w2:=λz hz=>by
   have:=k w2 S H
   rwa [show decide (s=t)=z by rw[Bool.eq_iff_iff,decide_eq_true_iff];exact hz.symm] at this
  refine r_eql (r_ifE (λh3=>?_) λh3=>?_)
  ·have hall:=heq.1 (by omega);refine q_len (q_len (r_eql (hb _ ?_)));rw[beq_iff_eq]
   constructor
   ·intro hl
    have hl':s.length=t.length:=by omega
    apply List.ext_getElem?;intro j
    by_cases hj:j < s.length
    ·have:=hall j (by omega);rw[gB,gB,gA hj,gA (by omega)] at this;rw[gA hj,gA (by omega)];exact congrArg some this
    ·rw[gX (by omega),gX (by omega)]
   ·rintro rfl;rfl
  ·refine hb false ⟨λe=>(by cases e),?_⟩;rintro rfl;exact absurd (heq.2 λj _=>rfl) (by omega)
def First (ts:List Tn) (s:List UInt8) (i:Nat):Prop:=(∃ t,ts[i]?=some t/\t.tk.data.toList=s)/\∀ (j:Nat) u,j < i->ts[j]?=some u->u.tk.data.toList≠s
def Nobody (ts:List Tn) (s:List UInt8):Prop:=∀ (j:Nat) u,ts[j]?=some u->u.tk.data.toList≠s
theorem S_of (b:ByteArray):Value.string b=S_ b.data.toList:=by simp
theorem Find_spec {a:Option Addr}{ts:List Tn}{c:Nat}{s:List UInt8}(H:Holds w L) (hT:TsIn L a ts) (hl:ts.length<=1000) (hs:∀ t∈ts,szT t)
  (k1:∀ i w',First ts s i->Same w w'->Holds w' L->K (.tuple #[nv i,iv 0]) w') (k2:∀ w',Nobody ts s->Same w w'->Holds w' L->K (.tuple #[iv 0,iv 30]) w') :
  Cl prog 123 #[.slice a ts.length c,S_ s] w K:=by
 refine Tz123 ?_;unfold Vz123
 have hzT:(zeroP prog tT).cells.toList=[.string ⟨#[]⟩,.string ⟨#[]⟩,iv 0,iv 0,iv 0]:=by kernel_rfl
 refine r_lnl ?_
 refine Zam (λx y w'=>∃ (at_:Int) (i:Nat),i<=ts.length/\x=iv at_/\y=nv i/\((at_=-1/\∀ (j:Nat) u,j < i->ts[j]?=some u->u.tk.data.toList≠s)\/∃ q:Nat,at_=(q:Int)/\First ts s q)/\Same w w'/\Holds w' L) (λ_ y _=>ts.length - (intOf y).toNat)
  ⟨-1,0,Nat.zero_le _,rfl,rfl,.inl ⟨rfl,λj u hj=>absurd hj (Nat.not_lt_zero _)⟩,.refl w,H⟩ ?_
 clear H;rintro _ _ _ w2 ⟨at_,i,hi,rfl,rfl,hat,S,H⟩;refine r_lss (r_ifD (λh=>?_) λh=>?_)
 ·have hlt:i < ts.length:=by omega
  have ht:ts[i]?=some ts[i]:=gA hlt;have hz:=hs _ (List.getElem_mem hlt);generalize ts[i]=t at ht hz;refine r_ldT hT H ht hlt ?_;refine r_new H λtb w3 S3 H3=>?_;rw[hzT] at H3;refine r_stA 0 H3 (vs:=cellsT t) rfl (Nat.le_refl 5) rfl (Zb8 t) λw4 S4 H4=>?_;replace H4:Holds w4 (blk tb tT (cellsT t)::L):=H4;have S':=S.trans (S3.trans S4);refine Za0 (λv w'=>∃ z:Bool,v=.bool z/\(z=true↔t.tk.data.toList=s/\at_=-1)/\Same w w'/\Holds w' L) ?_ ?_
  rotate_left
  ·refine r_fo0 (r_ld 0 H4 rfl rfl ?_);rw[S_of]
   have hsz:t.tk.data.toList.length<=1000:=by have:=hz.2;simpa using this
   refine Zr1 H4 (by omega) λw5 S5 H5=>?_;refine r_ifD (λg=>?_) λg=>?_
   ·refine r_eql (r_ke ⟨_,rfl,?_,S'.trans S5,H5.drop⟩);rw[beq_iff_eq];exact⟨λq=>⟨g,q⟩,λq=>q.2⟩
   ·exact r_ke ⟨false,rfl,⟨λq=>(by cases q),λq=>absurd q.1 g⟩,S'.trans S5,H5.drop⟩
  rintro _ _ w5 ⟨z,rfl,hz2,S5,H5⟩
  cases z with
  |true=>
   obtain⟨g1,g2⟩:=hz2.1 rfl;refine r_vt (Za7 (by omega) (r_ke ⟨⟨(i:Int),i+1,by omega,rfl,rfl,.inr ⟨i,rfl,⟨t,ht,g1⟩,?_⟩,S5,H5⟩,?_⟩))
   ·rcases hat with⟨_,hno⟩|⟨q,hq,_⟩
    ·exact hno
    ·omega
   ·simp only[intOf,gC];omega
  |false=>
   refine r_vf (Za7 (by omega) (r_ke ⟨⟨at_,i+1,by omega,rfl,rfl,?_,S5,H5⟩,?_⟩))
   ·rcases hat with⟨h1,hno⟩|hq
    ·refine .inl ⟨h1,λj u hj hu=>?_⟩
     by_cases hji:j < i
     ·exact hno j u hji hu
     ·obtain rfl:j=i:=by omega
      rw[ht] at hu;obtain rfl:=Option.some.inj hu;intro e;have:=hz2.2 ⟨e,h1⟩;cases this
    ·exact .inr hq
   ·simp only[intOf,gC];omega
 ·obtain rfl:i=ts.length:=by omega
  rcases hat with⟨rfl,hno⟩|⟨q,rfl,hq⟩
  ·exact r_eql (r_vtE rfl (k2 w2 (λj u hu=>hno j u (gH.1 hu).1 hu) S H))
  ·exact r_eql (r_vfE (by omega) (k1 q w2 hq S H))
end F33
namespace F33
open Go.M31 J30 J31 J32
structure Ac where
 wh:Int
 jb:Int
 tn:Int
 kd:Int
 lv:Int
 nn:Int
 tx:ByteArray
 er:Int
def cellsA (x:Ac):List Value:=[iv x.wh,iv x.jb,iv x.tn,iv x.kd,iv x.lv,iv x.nn,.string x.tx,iv x.er]
structure Rq where
 ty:Int
 jb:Int
 tk:ByteArray
 tx:ByteArray
 kd:Int
 lv:Int
 nn:Int
def cellsQ (r:Rq):List Value:=[iv r.ty,iv r.jb,.string r.tk,.string r.tx,iv r.kd,iv r.lv,iv r.nn]
def askV (r:Rq) (ok:Bool):List Value:=[iv r.ty,iv r.jb,.string r.tk,.string r.tx,iv r.kd,iv r.lv,iv r.nn,.bool ok]
def rq0:Rq:=⟨0,0,⟨#[]⟩,⟨#[]⟩,0,0,0⟩
def ac0:Ac:=⟨0,0,0,0,0,0,⟨#[]⟩,0⟩
abbrev AsIn:=S4r.InG cellsA 8
def whoD:List Ac->Option Int
 |[]=>none
 |x::r=>if x.wh=2 then some x.tn else whoD r
theorem Zhv (acs:List Ac) (x:Ac):whoD (acs++[x])=match whoD acs with
  |some t=>some t
  |none=>if x.wh=2 then some x.tn else none:=by
 induction acs with
 |nil=>simp[whoD]
 |cons y r ih=>
  rw[List.cons_append,whoD,whoD]
  by_cases h:y.wh=2
  ·simp[h]
  ·rw[if_neg h,if_neg h,ih]
abbrev BA (l:List UInt8):ByteArray:=⟨l.toArray⟩
def kindF (s:List UInt8):Nat × Nat:=if s=[120] then (2,0) else if s=[116] then (3,0) else if s.length=2/\(s.getD 0 0).toNat=99/\49<=(s.getD 1 0).toNat/\(s.getD 1 0).toNat<=57 then (1,(s.getD 1 0).toNat - 48) else (0,0)
theorem Ziu (s:List UInt8):(kindF s).1=0/\(kindF s).2=0\/(kindF s).1=1/\1<=(kindF s).2/\(kindF s).2<=9\/((kindF s).1=2\/(kindF s).1=3)/\(kindF s).2=0:=by
 unfold kindF;split
 ·exact .inr (.inr ⟨.inl rfl,rfl⟩)
 ·split
  ·exact .inr (.inr ⟨.inr rfl,rfl⟩)
  ·split
   ·rename_i h;exact .inr (.inl ⟨rfl,by show 1<=_ - 48;omega,by show _ - 48<=9;omega⟩)
   ·exact .inl ⟨rfl,rfl⟩
def okF (f:Fr):Prop:=(f.ty=1/\f.jb=0/\word f.da)\/(f.ty=2/\(kindF f.da).1≠0)\/f.ty=3\/((f.ty=4\/f.ty=5)/\f.da=[])\/(f.ty=6/\f.da.length=4)\/(f.ty=7/\f.jb=0/\f.da=[])
def rqF (f:Fr):Rq:=⟨(f.ty:Int),(f.jb:Int),if f.ty=1 then BA f.da else BA [],if f.ty=3 then BA f.da else BA [],if f.ty=2 then ((kindF f.da).1:Int) else 0,if f.ty=2 then ((kindF f.da).2:Int) else 0,if f.ty=6 then (numK f.da 4:Int) else 0⟩
theorem Zhu {f:Fr}:(okF f/\f.ty=1)↔logs f:=by
 unfold okF logs
 constructor
 ·rintro⟨h,h1⟩;rcases h with h|h|h|h|h|h
  ·exact h
  all_goals omega
 ·intro h;exact⟨.inl h,h.1⟩
def whoT (ts:List Tn) (s:List UInt8):Option Nat:=ts.findIdx? λt=>decide (t.tk.data.toList=s)
theorem Zmu {ts:List Tn}{s:List UInt8}{i:Nat}(h:First ts s i):whoT ts s=some i:=by
 obtain⟨⟨t,ht,he⟩,hn⟩:=h;obtain⟨hlt,hx⟩:=gH.1 ht;unfold whoT;rw[List.findIdx?_eq_some_iff_getElem];refine⟨hlt,by rw[hx];exact decide_eq_true he,λj hj=>?_⟩;simpa using hn j ts[j] hj (gA (by omega))
theorem Zqg {ts:List Tn}{s:List UInt8}(h:Nobody ts s):whoT ts s=none:=by
 unfold whoT;rw[List.findIdx?_eq_none_iff];intro t ht;obtain⟨j,hj⟩:=List.getElem?_of_mem ht;simpa using h j t hj
theorem Ztz {ts:List Tn}{s:List UInt8}{i:Nat}(h:whoT ts s=some i):i < ts.length:=by
 unfold whoT at h;rw[List.findIdx?_eq_some_iff_getElem] at h;exact h.1
def refF (f:Fr) (e:Nat):Ac:=⟨1,(f.jb:Int),0,0,0,0,BA [],(e:Int)⟩
open Classical in
noncomputable def loginF (ts:List Tn) (f:Fr):Ac:=if logs f then (match whoT ts f.da with
 |some i=>⟨2,0,(i:Int),0,0,0,BA [],0⟩
 |none=>refF f 30) else refF f 30
def hadF (wh jb:Nat) (acs:List Ac):Bool:=acs.any λx=>decide (x.wh=(wh:Int)/\x.jb=(jb:Int))
theorem Zbs (wh jb:Nat) (acs:List Ac) (x:Ac):hadF wh jb (acs++[x])=(hadF wh jb acs||decide (x.wh=(wh:Int)/\x.jb=(jb:Int))):=by
 unfold hadF;rw[List.any_append];simp
open Classical in
noncomputable def actF (acs:List Ac) (f:Fr):Ac:=
 if ¬ okF f then refF f 35
 else if f.ty=1 then refF f 8
 else if f.ty=2 then (if hadF 3 f.jb acs then refF f 8 else ⟨3,(f.jb:Int),0,((kindF f.da).1:Int),((kindF f.da).2:Int),0,BA [],0⟩)
 else if f.ty=7 then ⟨8,0,0,0,0,0,BA [],0⟩
 else if hadF 3 f.jb acs=false then refF f 31
 else if hadF 6 f.jb acs=true\/(f.ty=3\/f.ty=4)/\hadF 5 f.jb acs=true then refF f 32
 else if f.ty=3 then ⟨4,(f.jb:Int),0,0,0,0,BA f.da,0⟩
 else if f.ty=6 then ⟨7,(f.jb:Int),0,0,0,(numK f.da 4:Int),BA [],0⟩
 else ⟨(f.ty:Int)+1,(f.jb:Int),0,0,0,0,BA [],0⟩
noncomputable def stepF (ts:List Tn) (acs:List Ac) (f:Fr):Ac:=match whoD acs with
 |none=>loginF ts f
 |some _=>actF acs f
def fourF (n:Nat):List UInt8:=[UInt8.ofNat (n/16777216),UInt8.ofNat (n/65536%256),UInt8.ofNat (n/256%256),UInt8.ofNat (n%256)]
def encF (f:Fr):List UInt8:=UInt8.ofNat f.ty::(fourF f.jb++fourF f.da.length++f.da)
theorem Zby (f:Fr):(encF f).length=9+f.da.length:=by
 unfold encF fourF;simp;omega
structure Cf where
 un:Nat
 wi:Nat
 bu:Nat
 sp:Nat
 jo:Nat
 ch:Nat
def cnF (n:Cf):Cn:=⟨(n.un:Int),(n.wi:Int),(n.bu:Int),(n.sp:Int),(n.jo:Int),(n.ch:Int)⟩
structure Lv where
 id:Nat
 need:Nat
 room:Nat
 head:List UInt8
 cr:Nat
structure Qt where
 acs:List Ac
 xs:List Lv
 out:List UInt8
 wt:Bool
def sendF (q:Qt) (ty jb:Nat) (da:List UInt8):Qt:={ q with out:=q.out++encF ⟨ty,jb,da⟩ }
def usedF (xs:List Lv):Nat:=(xs.map (·.need)).sum
def needF (n:Cf) (kd lv:Nat):Nat:=if kd=1 then n.wi+8*(lv*n.un - 19)+12000+3*(lv*n.un - 19)+1024 else if kd=2 then n.wi+4096+36*n.un+40960 else n.wi+4096+36*n.un+40960+32
def joinF (l:List Nat):List UInt8:=Go.Tx.joinC 32 (l.map Go.Tx.dig)
def headF (kd lv:Nat):List UInt8:=if kd=1 then [66,90,104,UInt8.ofNat (48+lv)] else []
def openF (t:Tn) (n:Cf) (q:Qt) (jb kd lv:Nat):Qt:=
 if t.me.toNat < needF n kd lv then sendF q 69 jb [33]
 else if q.xs.length=n.jo\/t.me.toNat - usedF q.xs < needF n kd lv then sendF q 69 jb [34]
 else { q with xs:=q.xs++[⟨jb,needF n kd lv,n.wi,headF kd lv,0⟩] }
def chunksF (ch:Nat):Nat->Lv->List UInt8->Lv × List UInt8
 |0,x,out=>(x,out)
 |k+1,x,out=>
  let m:=min (min x.head.length x.cr) ch
  if m=0 then (x,out) else chunksF ch k { x with head:=x.head.drop m,cr:=x.cr - m } (out++encF ⟨66,x.id,x.head.take m⟩)
def withF (x:Lv) (gone:Bool) (xs:List Lv):List Lv:=xs.flatMap λy=>if y.id≠x.id then [y] else if gone then [] else [x]
def useF (n:Cf) (q:Qt) (x:Ac):Qt:=match q.xs.find? λy=>decide ((y.id:Int)=x.jb) with
 |none=>q
 |some y=>
  if x.wh=4 then { q with wt:=decide (y.room < x.tx.data.toList.length),xs:=withF { y with room:=y.room - x.tx.data.toList.length } false q.xs }
  else if x.wh=6 then { q with xs:=withF y true q.xs }
  else if x.wh=7 then
   let r:=chunksF n.ch 5 { y with cr:=y.cr+x.nn.toNat } q.out
   { q with xs:=withF r.1 false q.xs,out:=r.2 }
  else q
def doF (ts:List Tn) (n:Cf) (q:Qt) (x:Ac):Qt:=
 if x.wh=1 then sendF q 69 x.jb.toNat [UInt8.ofNat x.er.toNat]
 else if x.wh=2 then sendF q 65 0 ((ts[x.tn.toNat]?.map λt=>t.nm.data.toList).getD [])
 else if x.wh=3 then (match whoD q.acs with
  |none=>q
  |some i=>match ts[i.toNat]? with
   |none=>q
   |some t=>openF t n q x.jb.toNat x.kd.toNat x.lv.toNat)
 else if x.wh=8 then (match whoD q.acs with
  |none=>q
  |some i=>match ts[i.toNat]? with
   |none=>q
   |some t=>sendF q 70 0 (joinF [0,q.xs.length,usedF q.xs,t.me.toNat,t.st.toNat]))
 else useF n q x
noncomputable def quiF (ts:List Tn) (n:Cf) (q:Qt) (f:Fr):Qt:=doF ts n { q with acs:=q.acs++[stepF ts q.acs f] } (stepF ts q.acs f)
noncomputable def nextF (ts:List Tn) (n:Cf) (q:Qt) (f:Fr):Qt:=if q.wt then q else quiF ts n q f
end F33
namespace F33
open Go.M31 J30 J31 J32
variable {w:World}{L:List HProp}{K:KT}
theorem Znw {s:List UInt8}(H:Holds w L) (k:∀ w',Same w w'->Holds w' L->K (.tuple #[nv (kindF s).1,nv (kindF s).2]) w'):Cl prog 125 #[S_ s] w K:=by
 refine Tz125 ?_;unfold Vz125
 have go:∀ (a b:Nat) w',kindF s=(a,b)->Same w w'->Holds w' L->K (.tuple #[nv a,nv b]) w':=by
  intro a b w' e S' H';rw[e] at k;exact k w' S' H'
 refine q_eqs (r_ifD (λh=>go 2 0 w (by rw[h];rfl) (.refl _) H) λhs1=>?_);refine q_eqs (r_ifD (λh=>go 3 0 w (by rw[h];rfl) (.refl _) H) λhs2=>?_);refine Za0 (λv w'=>w=w'/\∃ c:Bool,v=.bool c/\(c=true↔s.length=2/\(s.getD 0 0).toNat=99/\49<=(s.getD 1 0).toNat/\(s.getD 1 0).toNat<=57)) ?_ ?_
 rotate_left
 ·refine q_len (r_eql (r_ifE (λh2=>?_) λh2=>r_ke ⟨rfl,false,rfl,⟨λe=>(by cases e),λq=>absurd q.1 (by omega)⟩⟩));refine q_ix (m:=0) (by omega) (r_eql (r_ifE (λh3=>?_) λh3=>r_ke ⟨rfl,false,rfl,⟨λe=>(by cases e),λq=>absurd q.2.1 (by omega)⟩⟩));refine q_ix (m:=1) (by omega) (r_geq (r_ifD (λh4=>?_) λh4=>r_ke ⟨rfl,false,rfl,⟨λe=>(by cases e),λq=>absurd q.2.2.1 (by omega)⟩⟩));refine q_ix (m:=1) (by omega) (r_leq (r_ke ⟨rfl,_,rfl,?_⟩));rw[decide_eq_true_iff];omega
 rintro _ _ _ ⟨rfl,c,rfl,hc⟩;refine r_vif (λh2=>?_) λh2=>?_
 rotate_left
 ·refine go 0 0 w ?_ (.refl _) H;unfold kindF;rw[if_neg hs1,if_neg hs2,if_neg λq=>by rw[hc.2 q] at h2;cases h2]
 have hy:=hc.1 h2;have hb:=(s.getD 1 0).toNat_lt;refine r_dr H λw1 S1 H1=>?_;refine q_ix (m:=1) (by omega) ?_;refine r_bpK (.int .u8 (((s.getD 1 0).toNat - 48:Nat):Int)) ?_ ?_
 ·simp only[bp,if_true]
  congr 2
  show (((s.getD 1 0).toNat:Int) - 48)%256=_;omega
 ·refine Zdc (by omega) (by omega) (go 1 _ w1 ?_ S1 H1);unfold kindF;rw[if_neg hs1,if_neg hs2,if_pos hy]
theorem Znp {z:Bool}{f:Fr}(H:Holds w L) (hT:J33.TabZ z L) (hA:J33.Asc z f.da) (h1:f.jb<=4294967295) (h2:f.da.length<=65536)
  (k1:okF f->∀ w',Same w w'->Holds w' L->K (.tuple #[.agg (cellsQ (rqF f)).toArray,iv 0]) w')
  (k2:¬ okF f->∀ w',Same w w'->Holds w' L->K (.tuple #[.agg (cellsQ rq0).toArray,iv 35]) w') :
  Cl prog 85 #[.agg (cellsF f).toArray] w K:=by
 refine Tz85 ?_;unfold Vz85;refine r_new H λfb w1 S1 H1=>?_;replace H1:Holds w1 (blk fb tFr (cellsF f)::L):=H1;refine r_new H1 λob w2 S2 H2=>?_;rw[Zct] at H2;refine r_fo0 (r_ld 1 H2 rfl rfl (r_fo0 (r_ld 1 H2 rfl rfl ?_)));refine r_bd (v:=.agg #[nv f.ty,nv f.jb,S_ [],S_ [],iv 0,iv 0,iv 0]) (by kernel_rfl) ?_;refine r_new H2 λrb w3 S3 H3=>?_;rw[Zct] at H3;refine r_stA 0 H3 (vs:=[nv f.ty,nv f.jb,S_ [],S_ [],iv 0,iv 0,iv 0]) rfl (Nat.le_refl 7) rfl rfl λw4 S4 H4=>?_;replace H4:Holds w4 (blk rb tRq [nv f.ty,nv f.jb,S_ [],S_ [],iv 0,iv 0,iv 0]::blk ob tRq [iv 0,iv 0,S_ [],S_ [],iv 0,iv 0,iv 0]::blk fb tFr (cellsF f)::L):=H4;refine r_ldA 2 H4 (cellsF f) rfl rfl rfl ?_;refine Zd1 H4 h1 h2 λw5 S5 H5=>?_;have S:=S1.trans (S2.trans (S3.trans (S4.trans S5)));clear S1 S2 S3 S4 S5 H H1 H2 H3 H4
 refine Za0 (λv w'=>∃ (z:Bool) (r:Rq),v=.bool z/\(z=true↔okF f)/\(okF f->r=rqF f)/\Same w w'/\
   Holds w' (blk rb tRq (cellsQ r)::blk ob tRq [iv 0,iv 0,S_ [],S_ [],iv 0,iv 0,iv 0]::blk fb tFr (cellsF f)::L)) ?_ ?_
 rotate_left
 ·have fin:∀ (z:Bool) (r:Rq) w',(z=true↔okF f)->(okF f->r=rqF f)->Same w w'->Holds w' (blk rb tRq (cellsQ r)::blk ob tRq [iv 0,iv 0,S_ [],S_ [],iv 0,iv 0,iv 0]::blk fb tFr (cellsF f)::L)->
    ∃ (z':Bool) (r:Rq),Value.bool z=.bool z'/\(z'=true↔okF f)/\(okF f->r=rqF f)/\Same w w'/\Holds w' (blk rb tRq (cellsQ r)::blk ob tRq [iv 0,iv 0,S_ [],S_ [],iv 0,iv 0,iv 0]::blk fb tFr (cellsF f)::L):=
   λz r w' a b c d=>⟨z,r,rfl,a,b,c,d⟩
  have H5':Holds w5 (blk rb tRq (cellsQ ⟨(f.ty:Int),(f.jb:Int),BA [],BA [],0,0,0⟩)::blk ob tRq [iv 0,iv 0,S_ [],S_ [],iv 0,iv 0,iv 0]::blk fb tFr (cellsF f)::L):=H5;have no:¬ okF f->(false=true↔okF f):=λh=>⟨λe=>(by cases e),λq=>absurd q h⟩;refine r_fo0 (r_ld 2 H5 rfl rfl ?_);refine r_eql (r_ifE (λg1=>?_) λg1=>?_)
  ·have t1:f.ty=1:=by omega
   refine r_fo0 (r_ld 2 H5 rfl rfl (r_fo0 (r_st 0 H5 rfl (by simp) rfl λw6 S6 H6=>?_)));replace H6:Holds w6 (blk rb tRq (cellsQ ⟨(f.ty:Int),(f.jb:Int),BA f.da,BA [],0,0,0⟩)::blk ob tRq [iv 0,iv 0,S_ [],S_ [],iv 0,iv 0,iv 0]::blk fb tFr (cellsF f)::L):=H6
   have hr:okF f->(⟨(f.ty:Int),(f.jb:Int),BA f.da,BA [],0,0,0⟩:Rq)=rqF f:=λ_=>by
    unfold rqF;simp[t1]
   refine r_vt (r_fo0 (r_ld 2 H6 rfl rfl (r_eql (r_ifE (λg2=>?_) λg2=>?_))))
   ·refine r_fo0 (r_ld 2 H6 rfl rfl ?_);refine J33.Zf6 H6 hT.up.up.up (by rw[dl];exact hA) (by rw[sz];omega) λz w7 S7 H7 hz=>?_;rw[dl] at hz;refine r_ke (fin z _ w7 (hz.trans ⟨λq=>(Zhu.2 ⟨t1,by omega,q⟩).1,λq=>(Zhu.1 ⟨q,t1⟩).2.2⟩) hr (S.trans (S6.trans S7)) H7)
   ·exact r_ke (fin false _ w6 (no λq=>by have:=(Zhu.1 ⟨q,t1⟩).2.1;omega) hr (S.trans S6) H6)
  have t1:f.ty≠1:=by omega
  refine r_eql (r_ifE (λg2=>?_) λg2=>?_)
  ·have t2:f.ty=2:=by omega
   refine r_fo0 (r_ld 2 H5 rfl rfl ?_);refine Znw H5 λw6 S6 H6=>?_;refine Za6 (Za5 (r_fo0 (r_st 0 H6 rfl (by simp) rfl λw7 S7 H7=>?_)));refine r_fo0 (r_st 0 H7 rfl (by simp) rfl λw8 S8 H8=>?_);replace H8:Holds w8 (blk rb tRq (cellsQ ⟨(f.ty:Int),(f.jb:Int),BA [],BA [],((kindF f.da).1:Int),((kindF f.da).2:Int),0⟩)::blk ob tRq [iv 0,iv 0,S_ [],S_ [],iv 0,iv 0,iv 0]::blk fb tFr (cellsF f)::L):=H8;refine r_vt (r_neq (r_ke (fin _ _ w8 ?_ (λ_=>?_) (S.trans (S6.trans (S7.trans S8))) H8)))
   ·rw[bne_iff_ne,ne_eq]
    constructor
    ·intro h;exact .inr (.inl ⟨t2,λe=>h (by rw[e];rfl)⟩)
    ·intro h e;unfold okF at h
     have:(kindF f.da).1=0:=by omega
     omega
   ·unfold rqF;simp[t2]
  have t2:f.ty≠2:=by omega
  refine r_eql (r_ifE (λg3=>?_) λg3=>?_)
  ·have t3:f.ty=3:=by omega
   refine r_fo0 (r_ld 2 H5 rfl rfl (r_fo0 (r_st 0 H5 rfl (by simp) rfl λw6 S6 H6=>?_)));replace H6:Holds w6 (blk rb tRq (cellsQ ⟨(f.ty:Int),(f.jb:Int),BA [],BA f.da,0,0,0⟩)::blk ob tRq [iv 0,iv 0,S_ [],S_ [],iv 0,iv 0,iv 0]::blk fb tFr (cellsF f)::L):=H6;refine r_ke (fin true _ w6 ⟨λ_=>.inr (.inr (.inl t3)),λ_=>rfl⟩ (λ_=>?_) (S.trans S6) H6);unfold rqF;simp[t3]
  have t3:f.ty≠3:=by omega
  have hrq:f.ty≠6->(⟨(f.ty:Int),(f.jb:Int),BA [],BA [],0,0,0⟩:Rq)=rqF f:=λt6=>by
   unfold rqF;rw[if_neg t1,if_neg t3,if_neg t2,if_neg t2,if_neg t6]
  refine Za0 (λv w'=>w5=w'/\v=.bool (decide (f.ty=4\/f.ty=5))) ?_ ?_
  rotate_left
  ·refine r_eql (r_ifE (λg=>r_ke ⟨rfl,by rw[decide_eq_true (by omega),g];rfl⟩) λg=>r_eql (r_ke ⟨rfl,?_⟩))
   congr 1
   rw[Bool.eq_iff_iff,beq_iff_eq,decide_eq_true_iff];omega
  rintro _ _ _ ⟨rfl,rfl⟩;refine r_ifD (λg=>?_) λg=>?_
  ·refine r_vt (r_fo0 (r_ld 2 H5 rfl rfl (Zdm (r_ke (fin _ _ w5 ?_ (λ_=>hrq (by omega)) S H5')))));rw[decide_eq_true_iff]
   have:(⟨f.da.toArray⟩:ByteArray).size=0↔f.da=[]:=by rw[sz];exact List.length_eq_zero_iff
   rw[this]
   constructor
   ·exact λe=>.inr (.inr (.inr (.inl ⟨g,e⟩)))
   ·intro q;unfold okF at q;rcases q with q|q|q|q|q|q
    ·omega
    ·omega
    ·omega
    ·exact q.2
    ·omega
    ·exact q.2.2
  refine r_eql (r_ifE (λg4=>?_) λg4=>?_)
  ·have t6:f.ty=6:=by omega
   refine r_fo0 (r_ld 2 H5 rfl rfl ?_);refine Zdl (λg=>?_) λg=>?_
   ·refine Za6 (Za5 (r_fo0 (r_st 0 H5 rfl (by simp) rfl λw7 S7 H7=>?_)));replace H7:Holds w7 (blk rb tRq (cellsQ ⟨(f.ty:Int),(f.jb:Int),BA [],BA [],0,0,(numK f.da 4:Int)⟩)::blk ob tRq [iv 0,iv 0,S_ [],S_ [],iv 0,iv 0,iv 0]::blk fb tFr (cellsF f)::L):=H7;refine r_vt (r_eql (r_ke (fin _ _ w7 ⟨λ_=>.inr (.inr (.inr (.inr (.inl ⟨t6,g⟩)))),λ_=>rfl⟩ (λ_=>?_) (S.trans S7) H7)));unfold rqF;simp[t6]
   ·refine Za6 (Za5 (r_fo0 (r_st 0 H5 rfl (by simp) rfl λw7 S7 H7=>?_)));replace H7:Holds w7 (blk rb tRq (cellsQ ⟨(f.ty:Int),(f.jb:Int),BA [],BA [],0,0,0⟩)::blk ob tRq [iv 0,iv 0,S_ [],S_ [],iv 0,iv 0,iv 0]::blk fb tFr (cellsF f)::L):=H7
    have hn:¬ okF f:=λq=>by unfold okF at q;omega
    exact r_vt (r_eql (r_ke (fin _ _ w7 (no hn) (λq=>absurd q hn) (S.trans S7) H7)))
  have t6:f.ty≠6:=by omega
  refine r_eql (r_ifE (λg5=>?_) λg5=>?_)
  ·have t7:f.ty=7:=by omega
   refine r_vt (r_fo0 (r_ld 2 H5 rfl rfl (r_eql (r_ifE (λg6=>?_) λg6=>?_))))
   ·refine r_fo0 (r_ld 2 H5 rfl rfl (Zdm (r_ke (fin _ _ w5 ?_ (λ_=>hrq t6) S H5'))));rw[decide_eq_true_iff]
    have:(⟨f.da.toArray⟩:ByteArray).size=0↔f.da=[]:=by rw[sz];exact List.length_eq_zero_iff
    rw[this]
    constructor
    ·exact λe=>.inr (.inr (.inr (.inr (.inr ⟨t7,by omega,e⟩))))
    ·intro q;unfold okF at q;rcases q with q|q|q|q|q|q
     ·omega
     ·omega
     ·omega
     ·exact q.2
     ·omega
     ·exact q.2.2
   ·exact r_ke (fin false _ w5 (no λq=>by unfold okF at q;omega) (λ_=>hrq t6) S H5')
  ·exact r_ke (fin false _ w5 (no λq=>by unfold okF at q;omega) (λ_=>hrq t6) S H5')
 clear H5 S;rintro _ _ w6 ⟨z,r,rfl,hz,hr,S,H6⟩;refine r_not (r_vif (λq=>?_) λq=>?_)
 ·have q':z=false:=by simpa using q
  refine r_bd (v:=.agg #[iv 0,iv 0,S_ [],S_ [],iv 0,iv 0,iv 0]) (by kernel_rfl) ?_;refine r_stA 1 H6 (vs:=[iv 0,iv 0,S_ [],S_ [],iv 0,iv 0,iv 0]) rfl (Nat.le_refl 7) rfl rfl λw7 S7 H7=>?_;refine r_ldA 1 H7 [iv 0,iv 0,S_ [],S_ [],iv 0,iv 0,iv 0] rfl rfl rfl ?_;exact k2 (λhl=>by rw[hz.2 hl] at q';cases q') w7 (S.trans S7) H7.drop.drop.drop
 ·have q':z=true:=by simpa using q
  have hok:=hz.1 q';obtain rfl:=hr hok;refine r_ldA 0 H6 (cellsQ (rqF f)) rfl rfl rfl ?_;refine r_stA 1 H6 (vs:=cellsQ (rqF f)) rfl (Nat.le_refl 7) rfl rfl λw7 S7 H7=>?_;refine r_ldA 1 H7 (cellsQ (rqF f)) rfl rfl rfl ?_;exact k1 hok w7 (S.trans S7) H7.drop.drop.drop
end F33
namespace F33
open Go.M31 J30 J31 J32
def WfA (acs:List Ac):Prop:=∀ k:Nat,hadF 3 k acs=false->hadF 5 k acs=false/\hadF 6 k acs=false
def bitN (b:Bool) (n:Nat):Nat:=if b then n else 0
def markN (k:Nat) (acs:List Ac):Nat:=1+bitN (hadF 5 k acs) 2+bitN (hadF 6 k acs) 4
def MkF (f:Int->Option Value) (acs:List Ac):Prop:=∀ k:Nat,f k=if hadF 3 k acs then some (nv (markN k acs)) else none
theorem Zum:WfA []:=λk _=>⟨rfl,rfl⟩
theorem Zv9:MkF (λ_=>none) []:=λk=>rfl
theorem Zfx (ts:List Tn) (acs:List Ac) (f:Fr) :
  (∃ e:Nat,stepF ts acs f=refF f e/\1<=e/\e<=255)\/(whoD acs=none/\∃ i:Nat,i < ts.length/\stepF ts acs f=⟨2,0,(i:Int),0,0,0,BA [],0⟩) \/
  (whoD acs≠none/\((hadF 3 f.jb acs=false/\((kindF f.da).1≠0)/\stepF ts acs f=⟨3,(f.jb:Int),0,((kindF f.da).1:Int),((kindF f.da).2:Int),0,BA [],0⟩)\/stepF ts acs f=⟨8,0,0,0,0,0,BA [],0⟩ \/
   (hadF 3 f.jb acs=true/\hadF 6 f.jb acs=false/\((hadF 5 f.jb acs=false/\stepF ts acs f=⟨4,(f.jb:Int),0,0,0,0,BA f.da,0⟩)\/(hadF 5 f.jb acs=false/\stepF ts acs f=⟨5,(f.jb:Int),0,0,0,0,BA [],0⟩) \/
    stepF ts acs f=⟨6,(f.jb:Int),0,0,0,0,BA [],0⟩\/(∃ n:Nat,n < 4294967296/\stepF ts acs f=⟨7,(f.jb:Int),0,0,0,(n:Int),BA [],0⟩))))):=by
 unfold stepF
 cases hw:whoD acs with
 |none=>
  show (∃ e:Nat,loginF ts f=refF f e/\_)\/(_/\∃ i:Nat,i < ts.length/\loginF ts f=_)\/_;unfold loginF
  by_cases hl:logs f
  ·rw[if_pos hl]
   cases hi:whoT ts f.da with
   |none=>exact .inl ⟨30,rfl,by decide,by decide⟩
   |some i=>exact .inr (.inl ⟨rfl,i,Ztz hi,rfl⟩)
  ·rw[if_neg hl];exact .inl ⟨30,rfl,by decide,by decide⟩
 |some t=>
  show (∃ e:Nat,actF acs f=refF f e/\_)\/_\/(_/\((_/\_/\actF acs f=_)\/actF acs f=_\/_/\_/\(_/\actF acs f=_\/_/\actF acs f=_\/actF acs f=_\/∃ n:Nat,_/\actF acs f=_)));unfold actF
  by_cases h0:okF f
  rotate_left
  ·rw[if_pos h0];exact .inl ⟨35,rfl,by decide,by decide⟩
  rw[if_neg (λq=>q h0)]
  by_cases h1:f.ty=1
  ·rw[if_pos h1];exact .inl ⟨8,rfl,by decide,by decide⟩
  rw[if_neg h1]
  by_cases h2:f.ty=2
  ·rw[if_pos h2]
   by_cases h3:hadF 3 f.jb acs=true
   ·rw[if_pos h3];exact .inl ⟨8,rfl,by decide,by decide⟩
   ·rw[if_neg h3];refine .inr (.inr ⟨(λe=>by cases e),.inl ⟨by simpa using h3,?_,rfl⟩⟩);unfold okF at h0;omega
  rw[if_neg h2]
  by_cases h7:f.ty=7
  ·rw[if_pos h7];exact .inr (.inr ⟨(λe=>by cases e),.inr (.inl rfl)⟩)
  rw[if_neg h7]
  by_cases h3:hadF 3 f.jb acs=false
  ·rw[if_pos h3];exact .inl ⟨31,rfl,by decide,by decide⟩
  rw[if_neg h3]
  by_cases h6:hadF 6 f.jb acs=true\/(f.ty=3\/f.ty=4)/\hadF 5 f.jb acs=true
  ·rw[if_pos h6];exact .inl ⟨32,rfl,by decide,by decide⟩
  rw[if_neg h6]
  have h6':hadF 6 f.jb acs=false:=by
   cases e:hadF 6 f.jb acs with
   |false=>rfl
   |true=>exact absurd (.inl e) h6
  have h5':(f.ty=3\/f.ty=4)->hadF 5 f.jb acs=false:=λt=>by
   cases e:hadF 5 f.jb acs with
   |false=>rfl
   |true=>exact absurd (.inr ⟨t,e⟩) h6
  have h3':hadF 3 f.jb acs=true:=by simpa using h3
  by_cases t3:f.ty=3
  ·rw[if_pos t3];exact .inr (.inr ⟨(λe=>by cases e),.inr (.inr ⟨h3',h6',.inl ⟨h5' (.inl t3),rfl⟩⟩)⟩)
  rw[if_neg t3]
  by_cases t6:f.ty=6
  ·rw[if_pos t6];have:=Zgk f.da 4;exact .inr (.inr ⟨(λe=>by cases e),.inr (.inr ⟨h3',h6',.inr (.inr (.inr ⟨numK f.da 4,this,rfl⟩))⟩)⟩)
  rw[if_neg t6]
  have hty:f.ty=4\/f.ty=5:=by unfold okF at h0;omega
  rcases hty with t|t
  ·rw[t];exact .inr (.inr ⟨(λe=>by cases e),.inr (.inr ⟨h3',h6',.inr (.inl ⟨h5' (.inr t),rfl⟩)⟩)⟩)
  ·rw[t];exact .inr (.inr ⟨(λe=>by cases e),.inr (.inr ⟨h3',h6',.inr (.inr (.inl rfl))⟩)⟩)
theorem Zad {acs:List Ac}{x:Ac}{wh k:Nat}(h:¬ (x.wh=(wh:Int)/\x.jb=(k:Int))):hadF wh k (acs++[x])=hadF wh k acs:=by
 rw[Zbs,decide_eq_false h,Bool.or_false]
theorem Zdv {acs:List Ac}{x:Ac}{wh k:Nat}(h:x.wh=(wh:Int)/\x.jb=(k:Int)):hadF wh k (acs++[x])=true:=by
 rw[Zbs,decide_eq_true h,Bool.or_true]
theorem Zba {f:Int->Option Value}{acs:List Ac}{x:Ac}(h:x.wh≠3/\x.wh≠5/\x.wh≠6):(WfA acs->WfA (acs++[x]))/\(MkF f acs->MkF f (acs++[x])):=by
 have h3:∀ k:Nat,hadF 3 k (acs++[x])=hadF 3 k acs:=λk=>Zad λq=>h.1 q.1;have h5:∀ k:Nat,hadF 5 k (acs++[x])=hadF 5 k acs:=λk=>Zad λq=>h.2.1 q.1;have h6:∀ k:Nat,hadF 6 k (acs++[x])=hadF 6 k acs:=λk=>Zad λq=>h.2.2 q.1
 constructor
 ·intro g k;rw[h3,h5,h6];exact g k
 ·intro g k;unfold markN;rw[h3,h5,h6];exact g k
theorem Zpd {f:Int->Option Value}{acs:List Ac}{x:Ac}{j:Nat}(h:x.wh=3) (hj:x.jb=(j:Int)) (hw:WfA acs) (hn:hadF 3 j acs=false):WfA (acs++[x])/\(MkF f acs->MkF (λi=>if i=(j:Int) then some (nv 1) else f i) (acs++[x])):=by
 have h5:∀ k:Nat,hadF 5 k (acs++[x])=hadF 5 k acs:=λk=>Zad λq=>by have:=q.1;omega
 have h6:∀ k:Nat,hadF 6 k (acs++[x])=hadF 6 k acs:=λk=>Zad λq=>by have:=q.1;omega
 have h3:∀ k:Nat,k≠j->hadF 3 k (acs++[x])=hadF 3 k acs:=λk hk=>Zad λq=>hk (by have:=q.2;omega);have h3j:hadF 3 j (acs++[x])=true:=Zdv ⟨h,hj⟩
 constructor
 ·intro k hk;rw[h5,h6]
  by_cases e:k=j
  ·subst e;rw[h3j] at hk;cases hk
  ·rw[h3 k e] at hk;exact hw k hk
 ·intro g k;unfold markN
  dsimp only
  rw[h5,h6]
  by_cases e:k=j
  ·subst e;obtain⟨a,b⟩:=hw k hn;rw[if_pos rfl,h3j,a,b];rfl
  ·rw[if_neg (by omega),h3 k e];exact g k
theorem Zqe {f:Int->Option Value}{acs:List Ac}{x:Ac}{j n:Nat}(h:x.wh=5/\n=markN j acs+2/\hadF 5 j acs=false\/x.wh=6/\n=markN j acs+4/\hadF 6 j acs=false) (hj:x.jb=(j:Int)) (hw:WfA acs) (hn:hadF 3 j acs=true):WfA (acs++[x])/\(MkF f acs->MkF (λi=>if i=(j:Int) then some (nv n) else f i) (acs++[x])):=by
 have h3:∀ k:Nat,hadF 3 k (acs++[x])=hadF 3 k acs:=λk=>Zad λq=>by have:=q.1;omega
 have h5:∀ k:Nat,k≠j->hadF 5 k (acs++[x])=hadF 5 k acs:=λk hk=>Zad λq=>hk (by have:=q.2;omega);have h6:∀ k:Nat,k≠j->hadF 6 k (acs++[x])=hadF 6 k acs:=λk hk=>Zad λq=>hk (by have:=q.2;omega)
 constructor
 ·intro k hk;rw[h3] at hk
  by_cases e:k=j
  ·subst e;rw[hn] at hk;cases hk
  ·rw[h5 k e,h6 k e];exact hw k hk
 ·intro g k
  dsimp only
  by_cases e:k=j
  ·subst e;rw[if_pos rfl,h3,hn,if_pos rfl]
   congr 2
   rcases h with⟨h1,h2,h4⟩|⟨h1,h2,h4⟩
   ·unfold markN at h2 ⊢;rw[Zdv (wh:=5) ⟨h1,hj⟩,Zad (wh:=6) λq=>by have:=q.1;omega];rw[h4] at h2;rw[h2];unfold bitN;simp;omega
   ·unfold markN at h2 ⊢;rw[Zdv (wh:=6) ⟨h1,hj⟩,Zad (wh:=5) λq=>by have:=q.1;omega];rw[h4] at h2;rw[h2];unfold bitN;simp
  ·rw[if_neg (by omega)];unfold markN;rw[h3,h5 k e,h6 k e];exact g k
end F33
namespace F33
open Go.M31 J30 J31 J32
variable {w:World}{L:List HProp}{K:KT}{cb:Nat}{v m:Value}{ts:List Tn}{f:Fr}
abbrev tCo:Nat:=158
set_option maxRecDepth 1000000 in
instance rowTn:RowN prog 22 tT 5:=⟨underlying22,_,_,rfl,rfl,by decide,rfl,rfl⟩
theorem Zkf {a:Option Addr}{c:Nat}(H:Holds w L) (hT:TsIn L a ts) (hl:ts.length<=1000) (h0:0 < ts.length) (k:∀ v w',Same w w'->Holds w' (RW cellsT 5 tT v ts::L)->K v w') :
  Cl prog 77 #[.slice a ts.length c] w K:=by
 refine Tz77 ?_;unfold Vz77;obtain⟨p,rfl,_⟩:=hT w H 0 ts[0] (gA h0);refine r_be (v:=.bool false) (by kernel_rfl) (r_vf ?_);refine r_bsK (e:=tT) [] H (by kernel_rfl) λbz w1 S1 H1=>?_;have hT1:S4r.InG cellsT 5 (blk bz tT []::L) (some p) ts:=hT.up;refine r_apG (F:=cellsT) (k:=5) (e:=tT) H1 hT1 (λ_=>rfl) h0 hl λv w2 S2 H2=>?_;exact k v w2 (S1.trans S2) (Holds.dropAt H2 1)
theorem Zpg {z:Bool}{a:Option Addr}{c:Nat}(H:Holds w L) (hT:TsIn L a ts) (hU:J33.TabZ z L) (hA:∀ t∈ts,J33.AscT z t) (hs:∀ t∈ts,szT t) (hc:ts.length<=c) (hok:goodTs ts)
  (k:∀ cb v m w',Same w w'->Holds w' (blk cb tCo [v,iv (-1),.map (some m)]::RW cellsT 5 tT v ts::MD m (λ_=>none) 0::L)->K (.tuple #[pt cb,iv 0]) w'):Cl prog 55 #[.slice a ts.length c] w K:=by
 refine Tz55 ?_;unfold Vz55;refine J33.Zde H hT hU hA hs hc λx e w1 S1 H1 hch=>?_;obtain rfl:e=0:=Zem hch (.inr (.inr (.inr ⟨hok,rfl⟩)));refine Za6 (Za5 (r_neq (r_vfN rfl ?_)));have h3:=hok.2.2;refine Zkf H1 hT (by omega) h3.1 λv w2 S2 H2=>?_;refine r_mmD H2 λmb w3 S3 H3=>?_;obtain⟨oa,q,sp,rfl,_⟩:=H2.openRW 0 rfl;refine r_bd (v:=.agg #[.slice oa ts.length (ts.length+q),iv (-1),.map (some mb)]) (by kernel_rfl) ?_;refine r_new H3 λcb w4 S4 H4=>?_;exact k cb _ mb w4 (S1.trans (S2.trans (S3.trans S4))) (by have h_:=Holds.ord 3 [0,2,1] H4 rfl;exact h_)
def actL (i:Nat):List Value:=[iv 2,iv 0,nv i,iv 0,iv 0,iv 0,S_ [],iv 0]
def actR (jb:Nat) (e:Int):List Value:=[iv 1,nv jb,iv 0,iv 0,iv 0,iv 0,S_ [],iv e]
theorem Zgg {jb:Nat}{e:Int}(H:Holds w L) (k:∀ w',Same w w'->Holds w' L->K (.agg (actR jb e).toArray) w'):Cl prog 86 #[nv jb,iv e] w K:=by
 refine Tz86 ?_;unfold Vz86;refine r_new H λb w1 S1 H1=>?_;rw[Zcn] at H1;refine r_bd (v:=.agg (actR jb e).toArray) (by kernel_rfl) ?_;refine r_stA 0 H1 (vs:=actR jb e) rfl (Nat.le_refl 8) rfl rfl λw2 S2 H2=>?_;refine r_ldA 0 H2 (actR jb e) rfl rfl rfl ?_;exact k _ (S1.trans S2) H2.drop
theorem Zno {z:Bool}(H:Holds w (blk cb tCo [v,iv (-1),m]::RW cellsT 5 tT v ts::L)) (hU:J33.TabZ z L) (hA:J33.Asc z f.da) (h1:f.jb<=4294967295) (h2:f.da.length<=65536) (hl:ts.length<=1000) (hs:∀ t∈ts,szT t)
  (k1:logs f->∀ i w',First ts f.da i->Same w w'->Holds w' (blk cb tCo [v,nv i,m]::RW cellsT 5 tT v ts::L)->K (.agg (actL i).toArray) w')
  (k2:¬ logs f\/Nobody ts f.da->∀ w',Same w w'->Holds w' (blk cb tCo [v,iv (-1),m]::RW cellsT 5 tT v ts::L)->K (.agg (actR f.jb 30).toArray) w') :
  Cl prog 84 #[pt cb,.agg (cellsF f).toArray] w K:=by
 refine Tz84 ?_;unfold Vz84;refine r_new H λfb w1 S1 H1=>?_;replace H1:Holds w1 (blk fb tFr (cellsF f)::blk cb tCo [v,iv (-1),m]::RW cellsT 5 tT v ts::L):=H1;refine r_new H1 λob w2 S2 H2=>?_;rw[Zcn] at H2;refine r_ldA 1 H2 (cellsF f) rfl rfl rfl ?_;have S:=S1.trans S2;clear S1 S2 H H1
 have no:∀ (rb:Nat) (rc:List Value) w',(¬ logs f\/Nobody ts f.da)->Same w w'->Holds w' (blk rb tRq rc::blk ob tAc zAct::blk fb tFr (cellsF f)::blk cb tCo [v,iv (-1),m]::RW cellsT 5 tT v ts::L)->
   Fo 1 (pt fb) λx_9=>Ld x_9 w' λx_10=>Cl prog 86 #[x_10,iv 30] w' λx_11 w7=>StA 8 (pt ob) x_11 w7 λw8=>LdA 8 (pt ob) w8 λx_12=>K x_12 w8:=by
  intro rb rc w' hno Sz Hz;refine r_fo0 (r_ld 2 Hz rfl rfl ?_);refine Zgg Hz λw7 S7 H7=>?_;refine r_stA 1 H7 (vs:=actR f.jb 30) rfl (Nat.le_refl 8) rfl rfl λw8 S8 H8=>?_;refine r_ldA 1 H8 (actR f.jb 30) rfl rfl rfl ?_;exact k2 hno w8 (Sz.trans (S7.trans S8)) H8.drop.drop.drop
 refine Zqs H2 hU.up.up.up.up hA h1 h2 (λhlg w3 S3 H3=>?_) λhlg a b c d e g h r w3 hsg hr S3 H3=>?_
 ·refine Za6 (Za5 ?_);refine r_new H3 λrb w4 S4 H4=>?_;rw[Zct] at H4;refine r_stA 0 H4 (vs:=[nv 1,nv f.jb,S_ f.da,S_ [],iv 0,iv 0,iv 0]) rfl (Nat.le_refl 7) rfl rfl λw5 S5 H5=>?_;replace H5:Holds w5 (blk rb tRq [nv 1,nv f.jb,S_ f.da,S_ [],iv 0,iv 0,iv 0]::blk ob tAc zAct::blk fb tFr (cellsF f)::blk cb tCo [v,iv (-1),m]::RW cellsT 5 tT v ts::L):=H5;have S':=S.trans (S3.trans (S4.trans S5));refine Za0 (λx w'=>w5=w'/\x=.bool false) ?_ ?_
  rotate_left
  ·refine r_neq (r_vfN rfl (r_fo0 (r_ld 0 H5 rfl rfl (r_neq (r_ke ⟨rfl,rfl⟩)))))
  rintro _ _ _ ⟨rfl,rfl⟩;refine r_vf (r_dr H5 λw6 S6 H6=>?_);obtain⟨oa,q,sp,rfl,_⟩:=H6.openRW 4 rfl;refine r_nc (r_fo0 (r_ld 3 H6 rfl rfl (r_fo0 (r_ld 0 H6 rfl rfl ?_))));have hT:TsIn (blk rb tRq [nv 1,nv f.jb,S_ f.da,S_ [],iv 0,iv 0,iv 0]::blk ob tAc zAct::blk fb tFr (cellsF f)::blk cb tCo [.slice oa ts.length (ts.length+q),iv (-1),m]::RW cellsT 5 tT (.slice oa ts.length (ts.length+q)) ts::L) oa ts:=S4r.InG.own 4 rfl (λ_=>rfl);refine Find_spec H6 hT hl hs (λi w7 hi S7 H7=>?_) λw7 hno S7 H7=>?_
  ·refine Za6 (Za5 (r_neq (r_vfN rfl ?_)));refine r_nc (r_fo0 (r_st 3 H7 rfl (by simp) rfl λw8 S8 H8=>?_));replace H8:Holds w8 (blk rb tRq [nv 1,nv f.jb,S_ f.da,S_ [],iv 0,iv 0,iv 0]::blk ob tAc zAct::blk fb tFr (cellsF f)::blk cb tCo [.slice oa ts.length (ts.length+q),nv i,m]::RW cellsT 5 tT (.slice oa ts.length (ts.length+q)) ts::L):=H8;refine r_bd (v:=.agg (actL i).toArray) (by kernel_rfl) ?_;refine r_stA 1 H8 (vs:=actL i) rfl (Nat.le_refl 8) rfl rfl λw9 S9 H9=>?_;refine r_ldA 1 H9 (actL i) rfl rfl rfl ?_;exact k1 hlg i w9 hi (S'.trans (S6.trans (S7.trans (S8.trans S9)))) H9.drop.drop.drop
  ·refine Za6 (Za5 (r_neq (r_vtN (by decide) ?_)));exact no rb _ w7 (.inr hno) (S'.trans (S6.trans S7)) H7
 ·refine Za6 (Za5 ?_);refine r_new H3 λrb w4 S4 H4=>?_;rw[Zct] at H4;refine r_stA 0 H4 (vs:=[a,b,c,d,e,g,h]) rfl (Nat.le_refl 7) rfl hsg λw5 S5 H5=>?_;replace H5:Holds w5 (blk rb tRq [a,b,c,d,e,g,h]::blk ob tAc zAct::blk fb tFr (cellsF f)::blk cb tCo [v,iv (-1),m]::RW cellsT 5 tT v ts::L):=H5;have S':=S.trans (S3.trans (S4.trans S5));refine Za0 (λx w'=>w5=w'/\x=.bool true) ?_ ?_
  rotate_left
  ·refine r_neq (r_ifN (λ_=>r_ke ⟨rfl,rfl⟩) λh0=>?_);rcases hr with hr|⟨t,rfl,ht⟩
   ·exact absurd h0 hr
   ·refine r_fo0 (r_ld 0 H5 rfl rfl (r_neq (r_ke ⟨rfl,congrArg Value.bool ?_⟩)));rw[bne_iff_ne];omega
  rintro _ _ _ ⟨rfl,rfl⟩;exact r_vt (no rb _ w5 (.inl hlg) S' H5)
abbrev tMk:Nat:=156
section
variable {mb n t:Nat}{fm:Int->Option Value}{acs:List Ac}{cv:Int}
theorem Zto {k:Nat}(hm:MkF fm acs):(fm (k:Int)).getD (nv 0)=nv (if hadF 3 k acs then markN k acs else 0):=by
 rw[hm k]
 split <;> rfl
theorem r_lkC {i:Nat}(H:Holds w L) (hi:L[i]?=some (MD mb fm n)) (hm:MkF fm acs){k:Nat}{K:Value->Prop}(h:K (nv (if hadF 3 k acs then markN k acs else 0))):Lk prog tMk (.map (some mb)) (nv k) false w K:=by
 refine r_lkD (t:=tMk) (kt:=3) (et:=213) (x:=.i .i64 0) (z:=nv 0) (by kernel_rfl) (by kernel_rfl) (by kernel_rfl) rfl i H hi ?_;rw[Zto hm];exact h
theorem Zb6 {jb e:Nat}(H:Holds w L) (k:∀ w',Same w w'->Holds w' L->K (.agg (cellsA ⟨1,(jb:Int),0,0,0,0,BA [],(e:Int)⟩).toArray) w'):Cl prog 86 #[nv jb,nv e] w K:=Zgg (e:=(e:Int)) H k
theorem Zmv {f:Fr}(H:Holds w (blk cb tCo [v,iv cv,.map (some mb)]::RW cellsT 5 tT v ts::MD mb fm n::L)) (hm:MkF fm acs) (hn:n<=1000)
  (k1:hadF 3 f.jb acs=true->∀ w',Same w w'->Holds w' (blk cb tCo [v,iv cv,.map (some mb)]::RW cellsT 5 tT v ts::MD mb fm n::L)->K (.agg (cellsA (refF f 8)).toArray) w')
  (k2:hadF 3 f.jb acs=false->∀ w',Same w w'->Holds w' (blk cb tCo [v,iv cv,.map (some mb)]::RW cellsT 5 tT v ts::MD mb (λi=>if i=(f.jb:Int) then some (nv 1) else fm i) (n+1)::L)->K (.agg (cellsA ⟨3,(f.jb:Int),0,(rqF f).kd,(rqF f).lv,0,BA [],0⟩).toArray) w') :
  Cl prog 126 #[pt cb,.agg (cellsQ (rqF f)).toArray] w K:=by
 refine Tz126 ?_;unfold Vz126;refine r_new H λrb w1 S1 H1=>?_;replace H1:Holds w1 (blk rb tRq (cellsQ (rqF f))::blk cb tCo [v,iv cv,.map (some mb)]::RW cellsT 5 tT v ts::MD mb fm n::L):=H1;refine r_new H1 λob w2 S2 H2=>?_;rw[Zcn] at H2;refine r_dr H2 λw3 S3 H3=>?_;have S:=S1.trans (S2.trans S3);clear S1 S2 S3 H H1 H2;refine r_nc (r_fo0 (r_ld 2 H3 rfl rfl (r_fo0 (r_ld 1 H3 rfl rfl ?_))));refine r_lkC (k:=f.jb) (i:=4) H3 rfl hm ?_
 cases h3:hadF 3 f.jb acs with
 |true=>
  refine r_neq (r_ifN (λ_=>?_) λh=>?_)
  ·refine r_fo0 (r_ld 1 H3 rfl rfl ?_);refine Zb6 (jb:=f.jb) (e:=8) H3 λw4 S4 H4=>?_;refine r_stA 0 H4 (vs:=cellsA (refF f 8)) rfl (Nat.le_refl 8) rfl rfl λw5 S5 H5=>?_;refine r_ldA 0 H5 (cellsA (refF f 8)) rfl rfl rfl ?_;exact k1 h3 w5 (S.trans (S4.trans S5)) H5.drop.drop
  ·exfalso;rw[if_pos rfl] at h;unfold markN at h;omega
 |false=>
  refine r_neq (r_ifN (λh=>absurd rfl h) λ_=>?_);refine r_nc (r_fo0 (r_ld 2 H3 rfl rfl ?_));refine r_lnD (kt:=3) (et:=213) (by kernel_rfl) 4 H3 rfl λm hm'=>?_;refine r_eql (r_ifE (λh=>by omega) λ_=>?_);refine r_dr H3 λw4 S4 H4=>?_;refine r_nc (r_fo0 (r_ld 2 H4 rfl rfl (r_fo0 (r_ld 1 H4 rfl rfl ?_))));refine r_muD (t:=tMk) (kt:=3) (et:=213) (by kernel_rfl) (by kernel_rfl) 4 H4 rfl λw5 S5 H5=>?_;refine r_fo0 (r_ld 1 H5 rfl rfl (r_fo0 (r_ld 1 H5 rfl rfl (r_fo0 (r_ld 1 H5 rfl rfl ?_)))));refine r_bd (v:=.agg (cellsA ⟨3,(f.jb:Int),0,(rqF f).kd,(rqF f).lv,0,BA [],0⟩).toArray) (by kernel_rfl) ?_;refine r_stA 0 H5 (vs:=cellsA ⟨3,(f.jb:Int),0,(rqF f).kd,(rqF f).lv,0,BA [],0⟩) rfl (Nat.le_refl 8) rfl rfl λw6 S6 H6=>?_;refine r_ldA 0 H6 (cellsA ⟨3,(f.jb:Int),0,(rqF f).kd,(rqF f).lv,0,BA [],0⟩) rfl rfl rfl ?_;exact k2 h3 w6 (S.trans (S4.trans (S5.trans S6))) H6.drop.drop
theorem Zls {a b:Bool}{m:Nat}(h:m=2/\True\/m=4/\True){K:Value->Prop}(k:K (.bool (if m=2 then a else b))):Bp .and (nv (1+bitN a 2+bitN b 4)) (nv m) λx=>Bp .neq x (iv 0) K:=by
 rcases h with⟨rfl,_⟩|⟨rfl,_⟩
 ·cases a <;> cases b <;> exact r_bpK _ rfl (r_bpK _ rfl k)
 ·cases a <;> cases b <;> exact r_bpK _ rfl (r_bpK _ rfl k)
theorem Znv {f:Fr}(H:Holds w (blk cb tCo [v,iv cv,.map (some mb)]::RW cellsT 5 tT v ts::MD mb fm n::L)) (hm:MkF fm acs) (h3:hadF 3 f.jb acs=true)
  (k:∀ z w',(z=true↔hadF 6 f.jb acs=true\/(f.ty=3\/f.ty=4)/\hadF 5 f.jb acs=true)->Same w w'->Holds w' (blk cb tCo [v,iv cv,.map (some mb)]::RW cellsT 5 tT v ts::MD mb fm n::L)->K (.bool z) w') :
  Cl prog 127 #[pt cb,.agg (cellsQ (rqF f)).toArray] w K:=by
 refine Tz127 ?_;unfold Vz127;refine r_new H λrb w1 S1 H1=>?_;replace H1:Holds w1 (blk rb tRq (cellsQ (rqF f))::blk cb tCo [v,iv cv,.map (some mb)]::RW cellsT 5 tT v ts::MD mb fm n::L):=H1;refine r_dr H1 λw2 S2 H2=>?_;have S:=S1.trans S2;clear S1 S2 H H1;refine r_nc (r_fo0 (r_ld 1 H2 rfl rfl (r_fo0 (r_ld 0 H2 rfl rfl ?_))));refine r_lkC (k:=f.jb) (i:=3) H2 rfl hm ?_;rw[if_pos h3];refine Za0 (λx w'=>w2=w'/\x=.bool (decide (f.ty=3\/f.ty=4))) ?_ ?_
 rotate_left
 ·refine r_fo0 (r_ld 0 H2 rfl rfl (r_eql (r_ifE (λg=>r_ke ⟨rfl,by have g':(f.ty:Int)=3:=g;rw[decide_eq_true (by omega)]⟩) λg=>?_)));refine r_fo0 (r_ld 0 H2 rfl rfl (r_eql (r_ke ⟨rfl,?_⟩)))
  congr 1
  rw[Bool.eq_iff_iff,beq_iff_eq,decide_eq_true_iff];have g':¬ (f.ty:Int)=3:=g;show (f.ty:Int)=4↔_;omega
 rintro _ _ _ ⟨rfl,rfl⟩;unfold markN;refine Zls (m:=4) (.inr ⟨rfl,trivial⟩) ?_;rw[if_neg (by decide)];refine r_vif (λe6=>k true w2 ⟨λ_=>.inl e6,λ_=>rfl⟩ S H2.drop) λe6=>?_;refine r_ifD (λg=>?_) λg=>?_
 ·refine Zls (m:=2) (.inl ⟨rfl,trivial⟩) ?_;rw[if_pos rfl];refine k _ w2 ?_ S H2.drop;rw[e6];exact⟨λq=>.inr ⟨g,q⟩,λq=>(q.resolve_left λh=>by cases h).2⟩
 ·refine k false w2 ⟨λq=>(by cases q),λq=>?_⟩ S H2.drop;rw[e6] at q;rcases q with q|q
  ·cases q
  ·exact absurd q.1 g
theorem Zsb {b:Bool}{K:Value->Prop}(k:K (nv (1+bitN false 2+bitN b 4+2))):Bp .or (nv (1+bitN false 2+bitN b 4)) (iv 2) K:=by
 cases b <;> exact r_bpK _ rfl k
theorem Zrb {a:Bool}{K:Value->Prop}(k:K (nv (1+bitN a 2+bitN false 4+4))):Bp .or (nv (1+bitN a 2+bitN false 4)) (iv 4) K:=by
 cases a <;> exact r_bpK _ rfl k
theorem Zqd {f:Fr}(H:Holds w (blk cb tCo [v,iv cv,.map (some mb)]::RW cellsT 5 tT v ts::MD mb fm n::L)) (hm:MkF fm acs) (h3:hadF 3 f.jb acs=true) (h6:hadF 6 f.jb acs=false) (h5:f.ty=4->hadF 5 f.jb acs=false) (hty:f.ty=3\/f.ty=4\/f.ty=5\/f.ty=6)
  (k3:f.ty=3\/f.ty=6->∀ x w',x=(if f.ty=3 then ⟨4,(f.jb:Int),0,0,0,0,BA f.da,0⟩ else ⟨7,(f.jb:Int),0,0,0,(numK f.da 4:Int),BA [],0⟩)->Same w w'->Holds w' (blk cb tCo [v,iv cv,.map (some mb)]::RW cellsT 5 tT v ts::MD mb fm n::L)->K (.agg (cellsA x).toArray) w')
  (k4:f.ty=4\/f.ty=5->∀ w',Same w w'->Holds w' (blk cb tCo [v,iv cv,.map (some mb)]::RW cellsT 5 tT v ts::MD mb (λi=>if i=(f.jb:Int) then some (nv (markN f.jb acs+if f.ty=4 then 2 else 4)) else fm i) (n+1)::L)->K (.agg (cellsA ⟨(f.ty:Int)+1,(f.jb:Int),0,0,0,0,BA [],0⟩).toArray) w') :
  Cl prog 128 #[pt cb,.agg (cellsQ (rqF f)).toArray] w K:=by
 refine Tz128 ?_;unfold Vz128;refine r_new H λrb w1 S1 H1=>?_;replace H1:Holds w1 (blk rb tRq (cellsQ (rqF f))::blk cb tCo [v,iv cv,.map (some mb)]::RW cellsT 5 tT v ts::MD mb fm n::L):=H1;refine r_new H1 λob w2 S2 H2=>?_;rw[Zcn] at H2;have S:=S1.trans S2;clear S1 S2 H H1;refine r_fo0 (r_ld 1 H2 rfl rfl (r_eql (r_ifE (λt=>?_) λt=>?_)))
 ·have t3:f.ty=3:=by have:(f.ty:Int)=3:=t;omega
  refine r_fo0 (r_ld 1 H2 rfl rfl (r_fo0 (r_ld 1 H2 rfl rfl ?_)));refine r_bd (v:=.agg (cellsA ⟨4,(f.jb:Int),0,0,0,0,(rqF f).tx,0⟩).toArray) (by kernel_rfl) ?_;refine r_stA 0 H2 (vs:=cellsA ⟨4,(f.jb:Int),0,0,0,0,(rqF f).tx,0⟩) rfl (Nat.le_refl 8) rfl rfl λw6 S6 H6=>?_;refine r_ldA 0 H6 (cellsA ⟨4,(f.jb:Int),0,0,0,0,(rqF f).tx,0⟩) rfl rfl rfl ?_;refine k3 (.inl t3) _ w6 ?_ (S.trans S6) H6.drop.drop;unfold rqF;rw[if_pos t3,if_pos t3]
 have n3:f.ty≠3:=λe=>t (by show (f.ty:Int)=3;omega);refine r_eql (r_ifE (λt=>?_) λt=>?_)
 ·have t4:f.ty=4:=by have:(f.ty:Int)=4:=t;omega
  have hm5:=h5 t4;refine r_dr H2 λw4 S4 H4=>?_;refine r_nc (r_fo0 (r_ld 2 H4 rfl rfl (r_fo0 (r_ld 1 H4 rfl rfl ?_))));refine r_lkC (k:=f.jb) (i:=4) H4 rfl hm ?_;rw[if_pos h3]
  have he:markN f.jb acs=1+bitN false 2+bitN (hadF 6 f.jb acs) 4:=by unfold markN;rw[hm5]
  rw[he];refine Zsb ?_;rw[<-he];refine r_muD (t:=tMk) (kt:=3) (et:=213) (by kernel_rfl) (by kernel_rfl) 4 H4 rfl λw5 S5 H5=>?_;refine r_fo0 (r_ld 1 H5 rfl rfl ?_);refine r_bd (v:=.agg (cellsA ⟨5,(f.jb:Int),0,0,0,0,BA [],0⟩).toArray) (by kernel_rfl) ?_;refine r_stA 0 H5 (vs:=cellsA ⟨5,(f.jb:Int),0,0,0,0,BA [],0⟩) rfl (Nat.le_refl 8) rfl rfl λw6 S6 H6=>?_;refine r_ldA 0 H6 (cellsA ⟨5,(f.jb:Int),0,0,0,0,BA [],0⟩) rfl rfl rfl ?_;have:=k4 (.inl t4) w6 (S.trans (S4.trans (S5.trans S6)));rw[if_pos t4,t4] at this;exact this H6.drop.drop
 have n4:f.ty≠4:=λe=>t (by show (f.ty:Int)=4;omega);refine r_eql (r_ifE (λt=>?_) λt=>?_)
 ·have t5:f.ty=5:=by have:(f.ty:Int)=5:=t;omega
  refine r_dr H2 λw4 S4 H4=>?_;refine r_nc (r_fo0 (r_ld 2 H4 rfl rfl (r_fo0 (r_ld 1 H4 rfl rfl ?_))));refine r_lkC (k:=f.jb) (i:=4) H4 rfl hm ?_;rw[if_pos h3]
  have he:markN f.jb acs=1+bitN (hadF 5 f.jb acs) 2+bitN false 4:=by unfold markN;rw[h6]
  rw[he];refine Zrb ?_;rw[<-he];refine r_muD (t:=tMk) (kt:=3) (et:=213) (by kernel_rfl) (by kernel_rfl) 4 H4 rfl λw5 S5 H5=>?_;refine r_fo0 (r_ld 1 H5 rfl rfl ?_);refine r_bd (v:=.agg (cellsA ⟨6,(f.jb:Int),0,0,0,0,BA [],0⟩).toArray) (by kernel_rfl) ?_;refine r_stA 0 H5 (vs:=cellsA ⟨6,(f.jb:Int),0,0,0,0,BA [],0⟩) rfl (Nat.le_refl 8) rfl rfl λw6 S6 H6=>?_;refine r_ldA 0 H6 (cellsA ⟨6,(f.jb:Int),0,0,0,0,BA [],0⟩) rfl rfl rfl ?_;have:=k4 (.inr t5) w6 (S.trans (S4.trans (S5.trans S6)));rw[if_neg n4,t5] at this;exact this H6.drop.drop
 have n5:f.ty≠5:=λe=>t (by show (f.ty:Int)=5;omega)
 have t6:f.ty=6:=by omega
 refine r_fo0 (r_ld 1 H2 rfl rfl (r_fo0 (r_ld 1 H2 rfl rfl ?_)));refine r_bd (v:=.agg (cellsA ⟨7,(f.jb:Int),0,0,0,(rqF f).nn,BA [],0⟩).toArray) (by kernel_rfl) ?_;refine r_stA 0 H2 (vs:=cellsA ⟨7,(f.jb:Int),0,0,0,(rqF f).nn,BA [],0⟩) rfl (Nat.le_refl 8) rfl rfl λw6 S6 H6=>?_;refine r_ldA 0 H6 (cellsA ⟨7,(f.jb:Int),0,0,0,(rqF f).nn,BA [],0⟩) rfl rfl rfl ?_;refine k3 (.inr t6) _ w6 ?_ (S.trans S6) H6.drop.drop;show (⟨7,(f.jb:Int),0,0,0,(if f.ty=6 then (numK f.da 4:Int) else 0),BA [],0⟩:Ac)=_;rw[if_pos t6,if_neg n3]
end
section
variable {acs:List Ac}
def ConR (cb:Nat) (ts:List Tn) (acs:List Ac):HProp:=λh=>∃ v m f,MkF f acs/\Sat [blk cb tCo [v,iv ((whoD acs).getD (-1)),.map (some m)],RW cellsT 5 tT v ts,MD m f acs.length] h
theorem Zjg (H:Holds w L){j:Nat}(hj:L[j]?=some (ConR cb ts acs)):∃ v m f,MkF f acs/\Holds w (blk cb tCo [v,iv ((whoD acs).getD (-1)),.map (some m)]::RW cellsT 5 tT v ts::MD m f acs.length::L.eraseIdx j):=by
 obtain⟨v,H1⟩:=Holds.ex (H.front j hj);obtain⟨m,H1⟩:=Holds.ex H1;obtain⟨f,H1⟩:=Holds.ex H1;obtain⟨hm,H1⟩:=Holds.pure H1;exact⟨v,m,f,hm,Holds.unpack (A:=[_,_,_]) H1⟩
theorem Zhc {Q:HProp}{j m:Nat}{fm:Int->Option Value}(hj:L[j]?=some Q) (hm:MkF fm acs) (H:Holds w (blk cb tCo [v,iv ((whoD acs).getD (-1)),.map (some m)]::RW cellsT 5 tT v ts::MD m fm acs.length::L.eraseIdx j)):Holds w (L.set j (ConR cb ts acs)):=
 Sat.push j hj (Holds.imp (Holds.pack (A:=[_,_,_]) H) λh hh=>⟨v,m,fm,hm,hh⟩)
theorem Zk4 {j:Nat}(H:Holds w L) (hj:L[j]?=some (ConR cb ts acs)) (k:K (iv ((whoD acs).getD (-1))) w):Cl prog 89 #[pt cb] w K:=by
 obtain⟨v,m,f,hm,H1⟩:=Zjg H hj;refine Tz89 ?_;unfold Vz89;exact Za3 (r_vf (r_nc (r_fo0 (r_ld 0 H1 rfl rfl k))))
theorem Zbo {acs:List Ac}{x:Ac}{t:Int}(h:whoD acs=some t):whoD (acs++[x])=some t:=by rw[Zhv,h]
theorem Zix {acs:List Ac}{x:Ac}(h:whoD acs=none) (hx:x.wh≠2):whoD (acs++[x])=none:=by rw[Zhv,h];simp[hx]
theorem Zj5 {acs:List Ac}{x:Ac}(h:whoD acs=none) (hx:x.wh=2):whoD (acs++[x])=some x.tn:=by rw[Zhv,h];simp[hx]
theorem Zma {z:Bool}{j:Nat}{f:Fr}(H:Holds w L) (hj:L[j]?=some (ConR cb ts acs)) (hU:J33.TabZ z (L.eraseIdx j)) (hA:J33.Asc z f.da) (h1:f.jb<=4294967295) (h2:f.da.length<=65536) (hl:ts.length<=1000) (hs:∀ t∈ts,szT t) (hn:acs.length<=900) (hwf:WfA acs) (hw:∀ t,whoD acs=some t->0<=t)
  (k:∀ w',Same w w'->Holds w' (L.set j (ConR cb ts (acs++[stepF ts acs f])))->K (.tuple #[.agg (cellsA (stepF ts acs f)).toArray,iv 0]) w') :
  Cl prog 59 #[pt cb,.agg (cellsF f).toArray] w K:=by
 obtain⟨v,m,fm,hm,H0⟩:=Zjg H hj
 have hlen:(acs++[stepF ts acs f]).length=acs.length+1:=by simp
 refine Tz59 ?_;unfold Vz59;refine r_new H0 λfb w1 S1 H1=>?_;replace H1:Holds w1 (blk fb tFr (cellsF f)::blk cb tCo [v,iv ((whoD acs).getD (-1)),.map (some m)]::RW cellsT 5 tT v ts::MD m fm acs.length::L.eraseIdx j):=H1;refine r_new H1 λob w2 S2 H2=>?_;rw[Zcn] at H2;have S:=S1.trans S2;clear S1 S2 H1 H0;refine Za3 (r_vf (r_nc (r_fo0 (r_ld 2 H2 rfl rfl ?_))))
 cases hwho:whoD acs with
 |none=>
  rw[hwho] at H2
  have hst:stepF ts acs f=loginF ts f:=by unfold stepF;rw[hwho]
  rw[hst] at k;refine r_eql (r_vtE rfl ?_);refine r_ldA 1 H2 (cellsF f) rfl rfl rfl ?_;have H3:Holds w2 (blk cb tCo [v,iv (-1),.map (some m)]::RW cellsT 5 tT v ts::MD m fm acs.length::blk ob tAc zAct::blk fb tFr (cellsF f)::L.eraseIdx j):=(by have h_:=Holds.ord 5 [2,3,4,0,1] H2 rfl;exact h_)
  have fin:∀ (x:Ac) w',x=loginF ts f->(x.wh=1\/x.wh=2)->Same w w'->Holds w' (blk cb tCo [v,iv (if x.wh=2 then x.tn else -1),.map (some m)]::RW cellsT 5 tT v ts::MD m fm acs.length::blk ob tAc zAct::blk fb tFr (cellsF f)::L.eraseIdx j)->
    StA 8 (pt ob) (.agg (cellsA x).toArray) w' λw5=>LdA 8 (pt ob) w5 λx_11=>K (.tuple #[x_11,iv 0]) w5:=by
   intro x w' hx hc Sz Hz;refine r_stA 3 Hz (vs:=cellsA x) rfl (Nat.le_refl 8) rfl rfl λw5 S5 H5=>?_;refine r_ldA 3 H5 (cellsA x) rfl rfl rfl ?_;subst hx;refine k w5 (Sz.trans S5) ?_
   have hlen:acs.length<=(acs++[loginF ts f]).length:=by simp
   have H6:Holds w5 (blk cb tCo [v,iv (if (loginF ts f).wh=2 then (loginF ts f).tn else -1),.map (some m)]::RW cellsT 5 tT v ts::MD m fm acs.length::L.eraseIdx j):=Holds.dropAt (Holds.dropAt H5 3) 3;refine Zhc (v:=v) (m:=m) hj ((Zba (by omega)).2 hm) ?_
   have hwd:(whoD (acs++[loginF ts f])).getD (-1)=if (loginF ts f).wh=2 then (loginF ts f).tn else -1:=by
    rcases hc with hc|hc
    ·rw[Zix hwho (by omega),if_neg (by omega)];rfl
    ·rw[Zj5 hwho hc,if_pos hc];rfl
   rw[hwd];exact H6.at 2 rfl λg ⟨l,c,a1,a2,a3,a4,a5⟩=>⟨l,c,a1,a2,a3,a4,Nat.le_trans a5 hlen⟩
  refine Zno H3 hU.up.up.up hA h1 h2 hl hs (λhlg i w4 hi S4 H4=>?_) λhno w4 S4 H4=>?_
  ·have e:loginF ts f=⟨2,0,(i:Int),0,0,0,BA [],0⟩:=by unfold loginF;rw[if_pos hlg,Zmu hi]
   exact fin ⟨2,0,(i:Int),0,0,0,BA [],0⟩ w4 e.symm (.inr rfl) (S.trans S4) H4
  ·have e:loginF ts f=refF f 30:=by
    unfold loginF
    by_cases hg:logs f
    ·rw[if_pos hg,Zqg (hno.resolve_left λq=>q hg)]
    ·rw[if_neg hg]
   exact fin (refF f 30) w4 e.symm (.inl rfl) (S.trans S4) H4
 |some t=>
  have ht:=hw t hwho;rw[hwho] at H2
  have hst:stepF ts acs f=actF acs f:=by unfold stepF;rw[hwho]
  have hk:∀ x w',x=actF acs f->∀ (fm':Int->Option Value) (n:Nat),n<=acs.length+1->(MkF fm acs->MkF fm' (acs++[x]))->Same w w'->Holds w' (blk cb tCo [v,iv t,.map (some m)]::RW cellsT 5 tT v ts::MD m fm' n::L.eraseIdx j)->K (.tuple #[.agg (cellsA x).toArray,iv 0]) w':=by
   intro x w' hx fm' n hn' hmk Sz Hz;subst hx;rw[hst] at k;refine k w' Sz (Zhc (v:=v) (m:=m) hj (hmk hm) ?_);rw[Zbo hwho];exact Hz.at 2 rfl λg ⟨l,c,a1,a2,a3,a4,a5⟩=>⟨l,c,a1,a2,a3,a4,by rw[gD,gQ];omega⟩
  clear k;refine r_eql (r_vfE (by show ¬ (t=-1);omega) ?_);refine r_ldA 1 H2 (cellsF f) rfl rfl rfl ?_;unfold actF at hk;refine Znp H2 hU.up.up.up.up.up hA h1 h2 (λhok w3 S3 H3=>?_) λhok w3 S3 H3=>?_
  rotate_left
  ·refine Za6 (Za5 ?_);refine r_new H3 λrb w4 S4 H4=>?_;rw[Zct] at H4;refine r_stA 0 H4 (vs:=cellsQ rq0) rfl (Nat.le_refl 7) rfl rfl λw5 S5 H5=>?_;refine r_neq (r_vtN (by decide) (r_fo0 (r_ld 2 H5 rfl rfl ?_)));refine Zb6 (jb:=f.jb) (e:=35) H5 λw6 S6 H6=>?_;refine r_stA 1 H6 (vs:=cellsA (refF f 35)) rfl (Nat.le_refl 8) rfl rfl λw7 S7 H7=>?_;refine r_ldA 1 H7 (cellsA (refF f 35)) rfl rfl rfl ?_;exact hk (refF f 35) w7 (by rw[if_pos hok]) fm acs.length (by omega) (Zba (by show (1:Int)≠3/\(1:Int)≠5/\(1:Int)≠6;decide)).2 (S.trans (S3.trans (S4.trans (S5.trans (S6.trans S7))))) H7.drop.drop.drop
  rw[if_neg (λg=>g hok)] at hk;refine Za6 (Za5 ?_);refine r_new H3 λrb w4 S4 H4=>?_;rw[Zct] at H4;refine r_stA 0 H4 (vs:=cellsQ (rqF f)) rfl (Nat.le_refl 7) rfl rfl λw5 S5 H5=>?_;replace H5:Holds w5 (blk rb tRq (cellsQ (rqF f))::blk ob tAc zAct::blk fb tFr (cellsF f)::blk cb tCo [v,iv t,.map (some m)]::RW cellsT 5 tT v ts::MD m fm acs.length::L.eraseIdx j):=H5;replace S:=S.trans (S3.trans (S4.trans S5));clear S3 S4 S5 H2 H3 H4;refine r_neq (r_vfN rfl ?_);refine r_ldA 0 H5 (cellsQ (rqF f)) rfl rfl rfl ?_;refine Tz87 ?_;unfold Vz87;have H6:Holds w5 (blk cb tCo [v,iv t,.map (some m)]::RW cellsT 5 tT v ts::MD m fm acs.length::blk rb tRq (cellsQ (rqF f))::blk ob tAc zAct::blk fb tFr (cellsF f)::L.eraseIdx j):=(by have h_:=Holds.ord 6 [3,4,5,0,1,2] H5 rfl;exact h_);refine r_new H6 λqb w6 S6 H7=>?_;replace H7:Holds w6 (blk qb tRq (cellsQ (rqF f))::blk cb tCo [v,iv t,.map (some m)]::RW cellsT 5 tT v ts::MD m fm acs.length::blk rb tRq (cellsQ (rqF f))::blk ob tAc zAct::blk fb tFr (cellsF f)::L.eraseIdx j):=H7;refine r_new H7 λpb w7 S7 H8=>?_;rw[Zcn] at H8;have H9:Holds w7 (blk cb tCo [v,iv t,.map (some m)]::RW cellsT 5 tT v ts::MD m fm acs.length::blk pb tAc zAct::blk qb tRq (cellsQ (rqF f))::blk rb tRq (cellsQ (rqF f))::blk ob tAc zAct::blk fb tFr (cellsF f)::L.eraseIdx j):=(by have h_:=Holds.ord 5 [2,3,4,0,1] H8 rfl;exact h_);replace S:=S.trans (S6.trans S7);clear S6 S7 H5 H6 H7 H8
  have fin:∀ x w',x=actF acs f->∀ (fm':Int->Option Value) (n:Nat),n<=acs.length+1->(MkF fm acs->MkF fm' (acs++[x]))->Same w w'->Holds w' (blk cb tCo [v,iv t,.map (some m)]::RW cellsT 5 tT v ts::MD m fm' n::blk pb tAc zAct::blk qb tRq (cellsQ (rqF f))::blk rb tRq (cellsQ (rqF f))::blk ob tAc zAct::blk fb tFr (cellsF f)::L.eraseIdx j)->
    StA 8 (pt pb) (.agg (cellsA x).toArray) w' λw7=>LdA 8 (pt pb) w7 λx_20=>StA 8 (pt ob) x_20 w7 λw12=>LdA 8 (pt ob) w12 λx_24=>K (.tuple #[x_24,iv 0]) w12:=by
   intro x w' hx fm' n hn' hmk Sz Hz;refine r_stA 3 Hz (vs:=cellsA x) rfl (Nat.le_refl 8) rfl rfl λw8 S8 H8=>?_;refine r_ldA 3 H8 (cellsA x) rfl rfl rfl ?_;refine r_stA 6 H8 (vs:=cellsA x) rfl (Nat.le_refl 8) rfl rfl λw9 S9 H9=>?_;refine r_ldA 6 H9 (cellsA x) rfl rfl rfl ?_;refine hk x w9 ?_ fm' n hn' hmk (Sz.trans (S8.trans S9)) (Holds.dropAt (Holds.dropAt (Holds.dropAt (Holds.dropAt (Holds.dropAt H9 3) 3) 3) 3) 3);rw[hx];unfold actF;rw[if_neg (λg=>g hok)]
  clear hk;unfold actF at fin;rw[if_neg (λg=>g hok)] at fin;refine r_fo0 (r_ld 4 H9 rfl rfl (r_eql (r_ifE (λh=>?_) λh=>?_)))
  ·have t1:f.ty=1:=by have:(f.ty:Int)=1:=h;omega
   rw[if_pos t1] at fin;refine r_fo0 (r_ld 4 H9 rfl rfl ?_);refine Zb6 (jb:=f.jb) (e:=8) H9 λw8 S8 H8=>?_;exact fin (refF f 8) w8 rfl fm acs.length (by omega) (Zba (by show (1:Int)≠3/\(1:Int)≠5/\(1:Int)≠6;decide)).2 (S.trans S8) H8
  have n1:f.ty≠1:=λe=>h (by show (f.ty:Int)=1;omega);rw[if_neg n1] at fin;refine r_fo0 (r_ld 4 H9 rfl rfl (r_eql (r_ifE (λh=>?_) λh=>?_)))
  ·have t2:f.ty=2:=by have:(f.ty:Int)=2:=h;omega
   rw[if_pos t2] at fin;refine r_ldA 4 H9 (cellsQ (rqF f)) rfl rfl rfl ?_;refine Zmv H9 hm (by omega) (λg w8 S8 H8=>?_) λg w8 S8 H8=>?_
   ·exact fin (refF f 8) w8 (by rw[if_pos g]) fm acs.length (by omega) (Zba (by show (1:Int)≠3/\(1:Int)≠5/\(1:Int)≠6;decide)).2 (S.trans S8) H8
   ·refine fin ⟨3,(f.jb:Int),0,(rqF f).kd,(rqF f).lv,0,BA [],0⟩ w8 ?_ _ (acs.length+1) (Nat.le_refl _) (Zpd (j:=f.jb) rfl rfl hwf g).2 (S.trans S8) H8;rw[if_neg (by rw[g];exact λe=>by cases e)];unfold rqF;rw[if_pos t2,if_pos t2]
  have n2:f.ty≠2:=λe=>h (by show (f.ty:Int)=2;omega);rw[if_neg n2] at fin;refine r_fo0 (r_ld 4 H9 rfl rfl (r_eql (r_ifE (λh=>?_) λh=>?_)))
  ·have t7:f.ty=7:=by have:(f.ty:Int)=7:=h;omega
   rw[if_pos t7] at fin;refine r_bd (v:=.agg (cellsA ⟨8,0,0,0,0,0,BA [],0⟩).toArray) (by kernel_rfl) ?_;exact fin ⟨8,0,0,0,0,0,BA [],0⟩ w7 rfl fm acs.length (by omega) (Zba (by show (8:Int)≠3/\(8:Int)≠5/\(8:Int)≠6;decide)).2 S H9
  have n7:f.ty≠7:=λe=>h (by show (f.ty:Int)=7;omega);rw[if_neg n7] at fin;refine r_dr H9 λw8 S8 H8=>?_;replace S:=S.trans S8;clear S8 H9;refine r_nc (r_fo0 (r_ld 0 H8 rfl rfl (r_fo0 (r_ld 4 H8 rfl rfl ?_))));refine r_lkC (k:=f.jb) (i:=2) H8 rfl hm ?_
  cases h3:hadF 3 f.jb acs with
  |false=>
   rw[if_pos h3] at fin;refine r_eql (r_vtE rfl (r_fo0 (r_ld 4 H8 rfl rfl ?_)));refine Zb6 (jb:=f.jb) (e:=31) H8 λw9 S9 H9=>?_;exact fin (refF f 31) w9 rfl fm acs.length (by omega) (Zba (by show (1:Int)≠3/\(1:Int)≠5/\(1:Int)≠6;decide)).2 (S.trans S9) H9
  |true=>
   rw[if_neg (by rw[h3];exact λe=>by cases e)] at fin;refine r_eql (r_vfE (by rw[if_pos rfl];unfold markN;omega) ?_);refine r_ldA 4 H8 (cellsQ (rqF f)) rfl rfl rfl ?_;refine Znv H8 hm h3 λz w9 hz S9 H9=>?_;replace S:=S.trans S9;clear S9 H8;refine r_vif (λe=>?_) λe=>?_
   ·rw[if_pos (hz.1 e)] at fin;refine r_fo0 (r_ld 4 H9 rfl rfl ?_);refine Zb6 (jb:=f.jb) (e:=32) H9 λw10 S10 H10=>?_;exact fin (refF f 32) w10 rfl fm acs.length (by omega) (Zba (by show (1:Int)≠3/\(1:Int)≠5/\(1:Int)≠6;decide)).2 (S.trans S10) H10
   have hz0:¬ (hadF 6 f.jb acs=true\/(f.ty=3\/f.ty=4)/\hadF 5 f.jb acs=true):=λq=>by rw[hz.2 q] at e;cases e
   rw[if_neg hz0] at fin
   have h6:hadF 6 f.jb acs=false:=by
    cases e:hadF 6 f.jb acs with
    |false=>rfl
    |true=>exact absurd (.inl e) hz0
   have h5:(f.ty=3\/f.ty=4)->hadF 5 f.jb acs=false:=λt=>by
    cases e:hadF 5 f.jb acs with
    |false=>rfl
    |true=>exact absurd (.inr ⟨t,e⟩) hz0
   refine r_ldA 4 H9 (cellsQ (rqF f)) rfl rfl rfl ?_;refine Zqd H9 hm h3 h6 (λt=>h5 (.inr t)) (by unfold okF at hok;omega) (λt x w10 hx S10 H10=>?_) λt w10 S10 H10=>?_
   ·refine fin x w10 ?_ fm acs.length (by omega) (Zba ?_).2 (S.trans S10) H10
    ·rw[hx];rcases t with t|t
     ·rw[if_pos t,if_pos t]
     ·rw[if_neg (by omega),if_neg (by omega),if_pos t]
    ·rw[hx];rcases t with t|t
     ·rw[if_pos t];show (4:Int)≠3/\(4:Int)≠5/\(4:Int)≠6;decide
     ·rw[if_neg (by omega)];show (7:Int)≠3/\(7:Int)≠5/\(7:Int)≠6;decide
   ·refine fin ⟨(f.ty:Int)+1,(f.jb:Int),0,0,0,0,BA [],0⟩ w10 ?_ _ (acs.length+1) (Nat.le_refl _) (Zqe (j:=f.jb) ?_ rfl hwf h3).2 (S.trans S10) H10
    ·rw[if_neg (by omega),if_neg (by omega)]
    ·rcases t with t|t
     ·exact .inl ⟨by show (f.ty:Int)+1=5;omega,by rw[if_pos t],h5 (.inr t)⟩
     ·exact .inr ⟨by show (f.ty:Int)+1=6;omega,by rw[if_neg (by omega)],h6⟩
end
end F33
end Go.Proofs.YtgdfganaoehokaaGreatDoor
namespace Go.Vc
section
variable {P:Program}{w:World}{L:List HProp}
theorem r_slW {t e n:Nat}{inf:TypeInfo}{a:Addr}{K:Value->Prop}(hu:P.underlying t=some (.array n e)) (hi:P.info? e=some inf) (h:K (.slice (some a) n n)):Sl P t (.pointer (some a)) none none none w K:=by
 refine⟨.slice (some a) n n,?_,h⟩
 have ha:a.add 0=a:=by unfold Addr.add;rw[if_pos rfl]
 simp[Instr.sliceAt,Instr.sureAddr,Instr.sliceBounds,run_underlying hu,Zaj hi,ha]
theorem Zvu {t e d ty:TypeId} [hr:Bytes P t e d] (H:Holds w L) (i:Nat){b:Nat}{xs:List UInt8}{l c:Nat}{K:KT}
  (hi:L[i]?=some (blk b ty (xs.map bv))) (hl:l=xs.length) (h:K (.string ⟨xs.toArray⟩) w):Cw P t d (.slice (some ⟨b,0,none⟩) l c) w K:=by
 subst hl;refine⟨_,w,?_,h⟩;rw[run_convert_bytes_string (P:=P) w t d e _ _ c hr.und hr.el hr.str]
 have hload:(loadCells (⟨b,0,none⟩:Addr) xs.length).run P w=.ok ((xs.map λc=>(c.toNat:Int)).map (Value.int .u8)).toArray w:=by
  have hcells:((xs.map λc=>(c.toNat:Int)).map (Value.int .u8))=xs.map bv:=by rw[List.map_map];rfl
  rw[hcells]
  have:=Zay (P:=P) (w:=w) (a:=⟨b,0,none⟩) (cs:=(xs.map bv).toArray) (λj v hv=>by
   have e1:(⟨b,0,none⟩:Addr).add j=⟨b,j,none⟩:=by
    unfold Addr.add;split
    ·rename_i h;rw[h]
    ·simp
   rw[e1,H.cell i hi j]
   simpa using hv)
  simpa using this
 rw[run_bytesToString (P:=P) w _ xs.length c _ hload,Zh3];rfl
open Ev in
theorem Ze9 {eq : TypeId → X → X → Option Bool} {xs : List X} {f : Field} {fs : List Field} {a : X} {r : Option Bool} (hn : (f.name == "_") = false) (hp : partX P f.type xs f.offset = some a) (he : eq f.type a a = some true) (h : eqFs P eq xs xs fs = r) : eqFs P eq xs xs (f :: fs) = r := by
 rw[<-h];simp only[eqFs,hn,hp,he]
open Ev in
theorem Zko {t:TypeId}{d:Nat}{k:IntKind}{n:Int}{k':IntKind}(hu:P.underlying t=some (.int k')):eqT P (d+1) t (.i k n) (.i k n)=some true:=by
 simp[eqT,hu,eq1]
open Ev in
theorem Zv7 {t:TypeId}{d:Nat}{l:List Nat}(hu:P.underlying t=some .string):eqT P (d+1) t (.s l) (.s l)=some true:=by
 simp only[eqT,hu,eq1,Option.some.injEq]
 induction l with
 |nil=>rfl
 |cons x r ih=>simp[eqN,ih]
end
end Go.Vc
namespace Go.Proofs.YtgdfganaoehokaaGreatDoor
open Go Go.Vc Go.Proofs.Tryz
attribute [local irreducible] Vc.Nc Vc.Ld Vc.LdA Vc.St Vc.StA Vc.Fo Vc.Iaa Vc.Ias Vc.Ixs Vc.Ixa Vc.Fd Vc.FdA Vc.Bp Vc.Bb Vc.Bn Vc.Up Vc.Ci Vc.Lns Vc.Lnl Vc.Ex Vc.Sst Vc.Ssl Vc.New Vc.Vif Vc.VJoin Vc.VLoop Vc.KE Vc.Dr Vc.Rk Vc.Cl Vc.Cx Vc.Inv Vc.Be Vc.Cv Vc.Cw Vc.Mf Vc.Sl Vc.Lk Vc.Bd Vc.Bs Vc.Ms Vc.Mm Vc.Mu Vc.Me Vc.Es Vc.Rg Vc.Nx Vc.Ta Vc.Ap Vc.Usd Vc.Ust Vc.Cp Vc.Ln Vc.Bc Vc.Bmin Vc.Bmax Vc.Bdel Vc.Bclr Vc.Pk
namespace F33
open Go.M31 J30 J31 J32
variable {w:World}{L:List HProp}{K:KT}
abbrev tA4:Nat:=265
abbrev tAn:Nat:=164
theorem Zuz:(zeroP prog tA4).cells.toList=[.int .u8 0,.int .u8 0,.int .u8 0,.int .u8 0]:=by kernel_rfl
theorem Zeo:(zeroP prog tAn).cells.toList=[iv 0,iv 0,S_ [],iv 0]:=by kernel_rfl
theorem bvN (n:Nat):bv (UInt8.ofNat n)=.int .u8 ((n:Int)%256):=by
 show Value.int .u8 ((UInt8.ofNat n).toNat:Int)=_;rw[UInt8.toNat_ofNat']
 congr 1
theorem Zrt {n i:Nat}(hn:n < 4294967296) (hi:i < 4):(fourF n).getD i 0=UInt8.ofNat (n/2^(8*(3 - i))):=by
 have h:∀ a b:Nat,a%256=b%256->UInt8.ofNat a=UInt8.ofNat b:=λa b e=>UInt8.toNat_inj.1 (by rw[UInt8.toNat_ofNat',UInt8.toNat_ofNat'];exact e)
 match i,hi with
 |0,_=>rfl
 |1,_=>exact h _ _ (by show n/65536%256%256=n/65536%256;omega)
 |2,_=>exact h _ _ (by show n/256%256%256=n/256%256;omega)
 |3,_=>exact h _ _ (by show n%256%256=n/1%256;omega)
theorem put_spec {n:Nat}(hn:n < 4294967296) (H:Holds w L) (k:∀ w',Same w w'->Holds w' L->K (S_ (fourF n)) w'):Cl prog 167 #[nv n] w K:=by
 refine Tz167 ?_;unfold Vz167;refine r_new H λob w1 S1 H1=>?_;rw[Zuz] at H1;refine Zac (λx w'=>∃ i:Nat,i<=4/\x=nv i/\Same w w'/\Holds w' (blk ob tA4 (((fourF n).take i).map bv++List.replicate (4 - i) (Value.int .u8 0))::L)) (λx _=>4 - (intOf x).toNat) ⟨0,by omega,rfl,S1,H1⟩ ?_;clear H H1 S1;rintro _ _ w2 ⟨i,hi,rfl,S,H⟩;refine r_lss (r_ifD (λh=>?_) λh=>?_)
 ·have hlt:i < 4:=by omega
  refine r_sub (by omega) (by omega) (Zep ((8*(3 - i):Nat):Int) (by omega) (by omega) (by omega) ?_);refine Zm6 (by show _<=64;omega) ?_;refine r_ciK (((n/2^(8*(3 - i)):Nat):Int)%256) rfl ?_;refine Zt4 hlt ?_;rw[Nat.zero_add,<-bvN,<-Zrt hn hlt];refine r_st 0 H rfl (by simp[fourF];omega) rfl λw3 S3 H3=>?_;refine Za7 (by omega) (r_ke ⟨⟨i+1,by omega,rfl,S.trans S3,?_⟩,?_⟩)
  ·have e:(((fourF n).take i).map bv++List.replicate (4 - i) (Value.int .u8 0)).set i (bv ((fourF n).getD i 0))=((fourF n).take (i+1)).map bv++List.replicate (4 - (i+1)) (Value.int .u8 0):=by
    match i,hlt with
    |0,_=>rfl
    |1,_=>rfl
    |2,_=>rfl
    |3,_=>rfl
   rw[gJ,e] at H3;exact H3
  ·simp only[intOf,gC];omega
 ·obtain rfl:i=4:=by omega
  refine r_slW (inf:=t5) (n:=4) (e:=5) (by kernel_rfl) (by kernel_rfl) ?_;exact Zvu (e:=L42.tU8) (xs:=fourF n) H 0 rfl rfl (k w2 S H.drop)
theorem Zlf {f:Fr}(H:Holds w L) (hm:cli f.ty\/srv f.ty) (h1:f.jb<=4294967295) (h2:f.da.length<=65536) (k:∀ w',Same w w'->Holds w' L->K (.tuple #[S_ (encF f),iv 0]) w'):Cl prog 116 #[.agg (cellsF f).toArray] w K:=by
 have hty:f.ty < 256:=by unfold cli srv at hm;omega
 have he:encF f=[UInt8.ofNat f.ty]++fourF f.jb++fourF f.da.length++f.da:=by unfold encF;simp
 rw[he] at k;have l4:∀ n,(fourF n).length=4:=λn=>rfl;refine Tz116 ?_;unfold Vz116;refine r_new H λfb w1 S1 H1=>?_;replace H1:Holds w1 (blk fb tFr (cellsF f)::L):=H1;refine r_ldA 0 H1 (cellsF f) rfl rfl rfl ?_;refine may_spec H1 λw2 S2 H2=>?_;rw[decide_eq_true hm];refine r_not (r_vf ?_);refine Za0 (λx w'=>w2=w'/\x=.bool false) ?_ ?_
 rotate_left
 ·refine r_fo0 (r_ld 0 H2 rfl rfl (r_lss (r_vfD (by omega) ?_)));refine r_fo0 (r_ld 0 H2 rfl rfl (r_gtr (r_ke ⟨rfl,?_⟩)));rw[decide_eq_false (by omega)]
 rintro _ _ _ ⟨rfl,rfl⟩;refine r_vf (r_fo0 (r_ld 0 H2 rfl rfl (q_len (r_gtr (r_vfD (by omega) ?_)))));refine r_dr H2 λw4 S4 H4=>?_;have S:=S1.trans (S2.trans S4);clear S1 S2 S4 H H1 H2;refine r_fo0 (r_ld 0 H4 rfl rfl (Zk5 (by omega) (by omega) ?_));refine r_fo0 (r_ld 0 H4 rfl rfl (r_fo0 (r_ld 0 H4 rfl rfl (q_len (r_fo0 (r_ld 0 H4 rfl rfl ⟨?_,?_⟩))))))
 ·refine L42.Zk2 (n:=f.ty) hty H4 λb w5 S5 H5=>?_;refine r_rk (r_ld 1 H5 rfl rfl rfl) (r_rk (q_len rfl) (r_rk (r_ld 1 H5 rfl rfl rfl) (r_rk (r_ld 1 H5 rfl rfl rfl) ?_)));refine L42.r_cvb H5 0 rfl rfl ?_;refine put_spec (n:=f.jb) (by omega) H5 λw6 S6 H6=>?_;refine r_rk (L42.r_cvb H6 0 rfl rfl rfl) (r_rk (r_ld 1 H6 rfl rfl rfl) (r_rk (q_len rfl) (r_rk (r_ld 1 H6 rfl rfl rfl) (r_rk (r_ld 1 H6 rfl rfl rfl) ?_))));refine Zbr (by rw[l4];simp) ?_;refine put_spec (n:=f.da.length) (by omega) H6 λw7 S7 H7=>?_;refine r_rk (L42.r_cvb H7 0 rfl rfl rfl) (r_rk (r_ld 1 H7 rfl rfl rfl) (r_rk (r_ld 1 H7 rfl rfl rfl) ?_));refine Zbr (by simp[l4]) (Zbr (by simp[l4];omega) ?_);exact k w7 (S.trans (S5.trans (S6.trans S7))) H7.drop.drop
 ·refine put_spec (n:=f.jb) (by omega) H4 λw8 S8 H8=>?_;refine r_rk (r_ld 0 H8 rfl rfl rfl) (r_rk (q_len rfl) (r_rk (r_ld 0 H8 rfl rfl rfl) (r_rk (r_ld 0 H8 rfl rfl rfl) ⟨?_,?_⟩)))
  ·refine L42.Zk2 (n:=f.ty) hty H8 λb w5 S5 H5=>?_;refine r_rk (r_ld 1 H5 rfl rfl rfl) (r_rk (q_len rfl) (r_rk (r_ld 1 H5 rfl rfl rfl) (r_rk (r_ld 1 H5 rfl rfl rfl) ?_)));refine L42.r_cvb H5 0 rfl rfl ?_;refine Zbr (by rw[l4];simp) ?_;refine put_spec (n:=f.da.length) (by omega) H5 λw7 S7 H7=>?_;refine r_rk (L42.r_cvb H7 0 rfl rfl rfl) (r_rk (r_ld 1 H7 rfl rfl rfl) (r_rk (r_ld 1 H7 rfl rfl rfl) ?_));refine Zbr (by simp[l4]) (Zbr (by simp[l4];omega) ?_);exact k w7 (S.trans (S8.trans (S5.trans S7))) H7.drop.drop
  ·refine put_spec (n:=f.da.length) (by omega) H8 λw7 S7 H7=>?_;refine r_rk (r_ld 0 H7 rfl rfl rfl) (r_rk (r_ld 0 H7 rfl rfl rfl) ?_);refine L42.Zk2 (n:=f.ty) hty H7 λb w5 S5 H5=>?_;refine r_rk (r_ld 1 H5 rfl rfl rfl) (r_rk (q_len rfl) (r_rk (r_ld 1 H5 rfl rfl rfl) (r_rk (r_ld 1 H5 rfl rfl rfl) ?_)));refine L42.r_cvb H5 0 rfl rfl ?_;refine Zbr (by rw[l4];simp) (Zbr (by simp[l4]) (Zbr (by simp[l4];omega) ?_));exact k w5 (S.trans (S8.trans (S7.trans S5))) H5.drop.drop
def cellsN (ty jb:Nat) (t:List UInt8) (e:Nat):List Value:=[nv ty,nv jb,S_ t,nv e]
theorem Znz {ty jb:Nat}{t:List UInt8}(H:Holds w L) (h1:jb<=4294967295) (h2:t.length<=65536) (hc:(ty=65\/ty=70)/\jb=0\/ty=66) (k:∀ w',Same w w'->Holds w' L->K (.tuple #[.agg (cellsN ty jb t 0).toArray,iv 0]) w') :
  Cl prog 166 #[.agg (cellsF ⟨ty,jb,t⟩).toArray] w K:=by
 refine Tz166 ?_;unfold Vz166;refine r_new H λfb w1 S1 H1=>?_;replace H1:Holds w1 (blk fb tFr (cellsF ⟨ty,jb,t⟩)::L):=H1;refine r_new H1 λob w2 S2 H2=>?_;rw[Zeo] at H2;refine r_fo0 (r_ld 1 H2 rfl rfl (r_fo0 (r_ld 1 H2 rfl rfl ?_)));refine r_bd (v:=.agg (cellsN ty jb [] 0).toArray) (by kernel_rfl) ?_;refine r_new H2 λab w3 S3 H3=>?_;rw[Zeo] at H3;refine r_stA 0 H3 (vs:=cellsN ty jb [] 0) rfl (Nat.le_refl 4) rfl rfl λw4 S4 H4=>?_;replace H4:Holds w4 (blk ab tAn (cellsN ty jb [] 0)::blk ob tAn [iv 0,iv 0,S_ [],iv 0]::blk fb tFr (cellsF ⟨ty,jb,t⟩)::L):=H4;refine r_ldA 2 H4 (cellsF ⟨ty,jb,t⟩) rfl rfl rfl ?_;refine Zd1 (f:=⟨ty,jb,t⟩) H4 h1 h2 λw5 S5 H5=>?_;have S:=S1.trans (S2.trans (S3.trans (S4.trans S5)));clear S1 S2 S3 S4 S5 H H1 H2 H3 H4;refine Za0 (λv w'=>v=.bool true/\Same w w'/\Holds w' (blk ab tAn (cellsN ty jb t 0)::blk ob tAn [iv 0,iv 0,S_ [],iv 0]::blk fb tFr (cellsF ⟨ty,jb,t⟩)::L)) ?_ ?_
 rotate_left
 ·refine r_fo0 (r_ld 2 H5 rfl rfl ?_);refine Za0 (λv w'=>w5=w'/\v=.bool (decide (ty=65\/ty=70))) ?_ ?_
  rotate_left
  ·refine r_eql (r_ifE (λg=>r_ke ⟨rfl,by have g':(ty:Int)=65:=g;rw[decide_eq_true (.inl (by omega)),g];rfl⟩) λg=>r_eql (r_ke ⟨rfl,?_⟩))
   congr 1
   rw[Bool.eq_iff_iff,beq_iff_eq,decide_eq_true_iff];have g':¬ (ty:Int)=65:=g;show (ty:Int)=70↔_;omega
  rintro _ _ _ ⟨rfl,rfl⟩;refine r_ifD (λg=>?_) λg=>?_
  ·refine r_fo0 (r_ld 2 H5 rfl rfl (r_fo0 (r_st 0 H5 rfl (by simp[cellsN]) rfl λw6 S6 H6=>?_)));refine r_vt (r_fo0 (r_ld 2 H6 rfl rfl (r_eql (r_ke ⟨?_,S.trans S6,H6⟩))))
   congr 1
   rw[beq_iff_eq];show (jb:Int)=0;omega
  ·refine r_eql (r_vtE (by show (ty:Int)=66;omega) ?_);refine r_fo0 (r_ld 2 H5 rfl rfl (r_fo0 (r_st 0 H5 rfl (by simp[cellsN]) rfl λw6 S6 H6=>?_)));exact r_ke ⟨rfl,S.trans S6,H6⟩
 clear H5 S;rintro _ _ w6 ⟨rfl,S,H6⟩;refine r_not (r_vf ?_);refine r_ldA 0 H6 (cellsN ty jb t 0) rfl rfl rfl ?_;refine r_stA 1 H6 (vs:=cellsN ty jb t 0) rfl (Nat.le_refl 4) rfl rfl λw7 S7 H7=>?_;refine r_ldA 1 H7 (cellsN ty jb t 0) rfl rfl rfl ?_;exact k w7 (S.trans S7) H7.drop.drop.drop
theorem Zn5 {jb e:Nat}(H:Holds w L) (h1:jb<=4294967295) (he:1<=e) (h2:e<=255) (k:∀ w',Same w w'->Holds w' L->K (.tuple #[.agg (cellsN 69 jb [] e).toArray,iv 0]) w') :
  Cl prog 166 #[.agg (cellsF ⟨69,jb,[UInt8.ofNat e]⟩).toArray] w K:=by
 have hb:([UInt8.ofNat e].getD 0 0).toNat=e:=by
  show (UInt8.ofNat e).toNat=e;rw[UInt8.toNat_ofNat'];omega
 refine Tz166 ?_;unfold Vz166;refine r_new H λfb w1 S1 H1=>?_;replace H1:Holds w1 (blk fb tFr (cellsF ⟨69,jb,[UInt8.ofNat e]⟩)::L):=H1;refine r_new H1 λob w2 S2 H2=>?_;rw[Zeo] at H2;refine r_fo0 (r_ld 1 H2 rfl rfl (r_fo0 (r_ld 1 H2 rfl rfl ?_)));refine r_bd (v:=.agg (cellsN 69 jb [] 0).toArray) (by kernel_rfl) ?_;refine r_new H2 λab w3 S3 H3=>?_;rw[Zeo] at H3;refine r_stA 0 H3 (vs:=cellsN 69 jb [] 0) rfl (Nat.le_refl 4) rfl rfl λw4 S4 H4=>?_;replace H4:Holds w4 (blk ab tAn (cellsN 69 jb [] 0)::blk ob tAn [iv 0,iv 0,S_ [],iv 0]::blk fb tFr (cellsF ⟨69,jb,[UInt8.ofNat e]⟩)::L):=H4;refine r_ldA 2 H4 (cellsF ⟨69,jb,[UInt8.ofNat e]⟩) rfl rfl rfl ?_;refine Zd1 (f:=⟨69,jb,[UInt8.ofNat e]⟩) H4 h1 (by show 1<=65536;decide) λw5 S5 H5=>?_;have S:=S1.trans (S2.trans (S3.trans (S4.trans S5)));clear S1 S2 S3 S4 S5 H H1 H2 H3 H4;refine Za0 (λv w'=>v=.bool true/\Same w w'/\Holds w' (blk ab tAn (cellsN 69 jb [] e)::blk ob tAn [iv 0,iv 0,S_ [],iv 0]::blk fb tFr (cellsF ⟨69,jb,[UInt8.ofNat e]⟩)::L)) ?_ ?_
 rotate_left
 ·refine r_fo0 (r_ld 2 H5 rfl rfl ?_);refine Za0 (λv w'=>w5=w'/\v=.bool false) ?_ ?_
  rotate_left
  ·exact r_eql (r_vfE (by show ¬ (69:Int)=65;decide) (r_eql (r_ke ⟨rfl,rfl⟩)))
  rintro _ _ _ ⟨rfl,rfl⟩;refine r_vf (r_eql (r_vfE (by show ¬ (69:Int)=66;decide) (r_eql (r_vfE (by show ¬ (69:Int)=67;decide) ?_))));refine Za0 (λv w'=>w5=w'/\v=.bool true) ?_ ?_
  rotate_left
  ·exact r_eql (r_vfE (by show ¬ (69:Int)=68;decide) (r_eql (r_ke ⟨rfl,rfl⟩)))
  rintro _ _ _ ⟨rfl,rfl⟩;refine r_vt ?_;refine Za0 (λv w'=>w5=w'/\v=.bool true) ?_ ?_
  rotate_left
  ·refine r_vt (r_fo0 (r_ld 2 H5 rfl rfl (q_len (r_eql (r_vtE rfl ?_)))));refine r_fo0 (r_ld 2 H5 rfl rfl (q_ix (m:=0) (by show 0 < 1;decide) ?_));rw[hb];refine r_gtr (r_ke ⟨rfl,?_⟩);rw[decide_eq_true (by omega)]
  rintro _ _ _ ⟨rfl,rfl⟩;refine r_vt (r_fo0 (r_ld 2 H5 rfl rfl (q_ix (m:=0) (by show 0 < 1;decide) ?_)));rw[hb];refine Zdc (by omega) (by omega) (r_fo0 (r_st 0 H5 rfl (by simp[cellsN]) rfl λw6 S6 H6=>?_));exact r_ke ⟨rfl,S.trans S6,H6⟩
 clear H5 S;rintro _ _ w6 ⟨rfl,S,H6⟩;refine r_not (r_vf ?_);refine r_ldA 0 H6 (cellsN 69 jb [] e) rfl rfl rfl ?_;refine r_stA 1 H6 (vs:=cellsN 69 jb [] e) rfl (Nat.le_refl 4) rfl rfl λw7 S7 H7=>?_;refine r_ldA 1 H7 (cellsN 69 jb [] e) rfl rfl rfl ?_;exact k w7 (S.trans S7) H7.drop.drop.drop
end F33
end Go.Proofs.YtgdfganaoehokaaGreatDoor
namespace Go.Proofs.YtgdfganaoehokaaGreatDoor
open Go Go.Vc Go.Proofs.Tryz
theorem Zgx {α:Type}{F:α->List Value}{k:Nat}(hF:∀ x,(F x).length=k):∀ (xs:List α) (j:Nat) (x x':α) (q:Nat) (v:Value) (sp:List Value),xs[j]?=some x->q < k->F x'=(F x).set q v->
  (flatL F xs++sp).set (j*k+q) v=flatL F (xs.set j x')++sp
 |[],j,x,x',q,v,sp,h,_,_=>by simp at h
 |y::r,0,x,x',q,v,sp,h,hq,he=>by
  obtain rfl:y=x:=by simpa using h
  rw[gJ,flatL,flatL,he,Nat.zero_mul,Nat.zero_add,gI,gI,List.set_append_left _ _ (by rw[hF];exact hq)]
 |y::r,j+1,x,x',q,v,sp,h,hq,he=>by
  have ih:=Zgx hF r j x x' q v sp (by simpa using h) hq he;rw[gW,flatL,flatL,gI,gI,<-ih,List.set_append_right _ _ (by rw[hF,Nat.add_mul];omega)]
  congr 2
  rw[hF,Nat.add_mul];omega
attribute [local irreducible] Vc.Nc Vc.Ld Vc.LdA Vc.St Vc.StA Vc.Fo Vc.Iaa Vc.Ias Vc.Ixs Vc.Ixa Vc.Fd Vc.FdA Vc.Bp Vc.Bb Vc.Bn Vc.Up Vc.Ci Vc.Lns Vc.Lnl Vc.Ex Vc.Sst Vc.Ssl Vc.New Vc.Vif Vc.VJoin Vc.VLoop Vc.KE Vc.Dr Vc.Rk Vc.Cl Vc.Cx Vc.Inv Vc.Be Vc.Cv Vc.Cw Vc.Mf Vc.Sl Vc.Lk Vc.Bd Vc.Bs Vc.Ms Vc.Mm Vc.Mu Vc.Me Vc.Es Vc.Rg Vc.Nx Vc.Ta Vc.Ap Vc.Usd Vc.Ust Vc.Cp Vc.Ln Vc.Bc Vc.Bmin Vc.Bmax Vc.Bdel Vc.Bclr Vc.Pk
namespace G40
open J31 J32 J34
variable {w:World}{L:List HProp}{K:KT}
abbrev tLd:Nat:=109
abbrev tAc:Nat:=111
abbrev ptr (b:Nat):Value:=.pointer (some ⟨b,0,none⟩)
structure Ak where
 li:Nat
 us:Nat
 pk:Nat
def cellsK (a:Ak):List Value:=[nv a.li,nv a.us,nv a.pk]
variable {b:Nat}{u:Value}{as_:List Ak}{i:Nat}{a:Ak}
theorem of_spec (H:Holds w (blk b tLd [u]::RW cellsK 3 tAc u as_::L)) (hi:as_[i]?=some a)
  (k:∀ ba sp,Holds w (blk b tLd [u]::blk ba tAc (flatL cellsK as_++sp)::L)->K (.pointer (some ⟨ba,i*3,none⟩)) w):Cl prog 92 #[ptr b,nv i] w K:=by
 have hlt:i < as_.length:=(gH.1 hi).1;have H0:=H;obtain⟨oa,m,sp,hu,H1⟩:=H0.openRW 1 rfl;obtain⟨ba,rfl,hsp,Hb⟩:=H1.rwb 1 rfl (.inl (by omega));refine Tz92 ?_;unfold Vz92;refine Za0 (λx w'=>w=w'/\x=.bool false) ?_ ?_
 rotate_left
 ·repeat (first|refine r_nc ?_|refine r_fo0 ?_|refine r_lss ?_|(with_reducible first|refine Za3 ?_|refine r_vf ?_)|refine r_ld 0 H rfl rfl ?_|((with_reducible refine r_vfD ?h ?_);(case h=>omega)))
  rw[hu]
  repeat (first|refine r_ke ?_|refine r_lnl ?_|refine r_geq ?_)
  exact⟨rfl,by rw[decide_eq_false (by omega)]⟩
 rintro _ _ _ ⟨rfl,rfl⟩
 repeat (first|refine r_nc ?_|refine r_fo0 ?_|(with_reducible refine r_vf ?_)|refine r_ld 0 H rfl rfl ?_)
 rw[hu];refine Zg9 (by omega) ?_;exact k ba sp Hb
theorem flatK {sp:List Value}(hi:as_[i]?=some a):((flatL cellsK as_++sp).drop (i*3)).take 3=cellsK a:=by
 have hlt:i < as_.length:=(gH.1 hi).1;have h1:=Zco (F:=cellsK) (k:=3) (λ_=>rfl) as_ i a hi
 have hq:i*3+3<=as_.length*3:=by omega
 have hlen:=Zaz (F:=cellsK) (k:=3) (λ_=>rfl) as_;rw[List.drop_append_of_le_length (by omega),List.take_append_of_le_length (by rw[gS];omega)];exact h1
theorem Zne (H:Holds w (blk b tLd [u]::RW cellsK 3 tAc u as_::L)) (hi:as_[i]?=some a)
  (k:∀ w',Same w w'->Holds w' (blk b tLd [u]::RW cellsK 3 tAc u as_::L)->K (nv a.li) w'):Cl prog 130 #[ptr b,nv i] w K:=by
 refine Tz130 ?_;unfold Vz130;refine Tz61 ?_;unfold Vz61;refine of_spec H hi λba sp Hb=>?_
 repeat (first|refine r_nc ?_|(with_reducible first|refine Za3 ?_|refine r_vf ?_))
 refine r_ldA 1 Hb (cellsK a) rfl (flatK hi) rfl ?_;refine r_inv (f:=177) (args:=#[.agg (cellsK a).toArray]) (by kernel_rfl) ?_;refine Tz177 ?_;unfold Vz177;refine r_new H λbx w2 S2 H2=>?_;replace H2:Holds w2 (blk bx tAc (cellsK a)::blk b tLd [u]::RW cellsK 3 tAc u as_::L):=H2;refine r_fo0 (r_ld 0 H2 rfl rfl ?_);exact k _ S2 H2.drop
theorem Zql (H:Holds w (blk b tLd [u]::RW cellsK 3 tAc u as_::L)) (hi:as_[i]?=some a)
  (k:∀ w',Same w w'->Holds w' (blk b tLd [u]::RW cellsK 3 tAc u as_::L)->K (nv a.us) w'):Cl prog 35 #[ptr b,nv i] w K:=by
 refine Tz35 ?_;unfold Vz35;refine Tz61 ?_;unfold Vz61;refine of_spec H hi λba sp Hb=>?_
 repeat (first|refine r_nc ?_|(with_reducible first|refine Za3 ?_|refine r_vf ?_))
 refine r_ldA 1 Hb (cellsK a) rfl (flatK hi) rfl ?_;refine r_inv (f:=62) (args:=#[.agg (cellsK a).toArray]) (by kernel_rfl) ?_;refine Tz62 ?_;unfold Vz62;refine r_new H λbx w2 S2 H2=>?_;replace H2:Holds w2 (blk bx tAc (cellsK a)::blk b tLd [u]::RW cellsK 3 tAc u as_::L):=H2;refine r_fo (r_ld 0 H2 rfl rfl ?_);exact k _ S2 H2.drop
theorem may_spec {n:Nat}(hn:n<=1099511627776) (k:K (.bool true) w):Cl prog 48 #[nv n] w K:=by
 refine Tz48 ?_;unfold Vz48;refine r_geq (r_vtd (decide_eq_true (show (0:Int)<=(n:Int) by omega)) (r_leq ?_));rw[show decide ((n:Int)<=1099511627776)=true from decide_eq_true (by omega)];exact k
theorem Zed {ba:Nat}{sp:List Value}{a':Ak}{q:Nat}{v:Value}(hi:as_[i]?=some a) (hq:q < 3) (he:cellsK a'=(cellsK a).set q v) (H:Holds w (blk b tLd [u]::blk ba tAc ((flatL cellsK as_++sp).set (i*3+q) v)::L)) :
  Holds w (blk b tLd [u]::blk ba tAc (flatL cellsK (as_.set i a')++sp)::L):=by
 rw[Zgx (F:=cellsK) (k:=3) (λ_=>rfl) as_ i a a' q v sp hi hq he] at H;exact H
end G40
end Go.Proofs.YtgdfganaoehokaaGreatDoor
