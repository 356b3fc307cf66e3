/- Chapter 43: who logs in by a stream, by the program: a range over a function. -/
import Derived.Test.YtbhbdleffackaaaGreatDoorTn
set_option linter.unusedVariables false
set_option linter.unusedSimpArgs false
namespace Go.Proofs.YtbhbdleffackaaaGreatDoor
open Go Go.Vc
section
variable {P : Program} {w : World} {M Lr : List HProp}
theorem r_yd {l : Nat} {x : Value} {K : Value → World → Prop} (h : YdTo P l x w fun b w' => K (.bool b) w') : InvR P (do let d ← Deferred.ofValue (yv l) #[x]; invoke d.target d.args) w K := by
  obtain ⟨fn, tmps, assign, body, h1, h2⟩ := h
  refine .inr ⟨l, fn, tmps, assign, body, ?_, h2.mono ?_⟩
  · rw [← h1]
    rfl
  · rintro e w' ⟨b, rfl, h⟩
    exact ⟨_, rfl, h⟩
theorem app_get {i : Nat} {Q : HProp} (hi : Lr[i]? = some Q) : (M ++ Lr)[M.length + i]? = some Q := by
  rw [List.getElem?_append_right (by omega), show M.length + i - M.length = i by omega]
  exact hi
theorem app_set (i : Nat) (Q : HProp) : (M ++ Lr).set (M.length + i) Q = M ++ Lr.set i Q := by
  rw [List.set_append_right _ _ (by omega), show M.length + i - M.length = i by omega]
theorem Holds.putR (i : Nat) {b : Nat} {o : Obj} (o' : Obj) (H : Holds w (M ++ Lr)) (hi : Lr[i]? = some (blkO b o)) : Holds (w.putObj b o') (M ++ Lr.set i (blkO b o')) := by
  have h1 := app_get (M := M) hi
  have ho := H.obj _ h1
  have := H.upd (w' := w.putObj b o') (M.length + i) h1 (o' := o') (World.putObj_heap_same (Array.getElem?_eq_some_iff.1 ho).1) fun c hc => World.putObj_heap_other hc
  rwa [app_set] at this
theorem cl_calls {f : FuncId} {args : Array Value} {K : Value → World → Prop} (h : Cl P f args w K) : Calls P f args w fun e w' => ∃ v, e = .returned v ∧ K v w' := h.2
theorem same_put {b : Nat} {o : Obj} : Same w (w.putObj b o) := ⟨rfl, rfl, rfl, by simp⟩
end
attribute [local irreducible] Go.Vc.Nc Go.Vc.Ld Go.Vc.LdA Go.Vc.St Go.Vc.StA Go.Vc.Fo Go.Vc.Iaa Go.Vc.Ias Go.Vc.Ixs Go.Vc.Ixa Go.Vc.Fd Go.Vc.FdA Go.Vc.Bp Go.Vc.Bb Go.Vc.Bn Go.Vc.Up Go.Vc.Ci Go.Vc.Lns Go.Vc.Lnl Go.Vc.Ex Go.Vc.Sst Go.Vc.Ssl Go.Vc.New Go.Vc.Vif Go.Vc.VJoin Go.Vc.VLoop Go.Vc.KE Go.Vc.Dr Go.Vc.Rk Go.Vc.Cl Go.Vc.Cx Go.Vc.Inv Go.Vc.Be Go.Vc.Cv Go.Vc.Cw Go.Vc.Mf Go.Vc.Sl Go.Vc.Lk Go.Vc.Bd Go.Vc.Bs Go.Vc.Ms Go.Vc.Mm Go.Vc.Mu Go.Vc.Me Go.Vc.Es Go.Vc.Rg Go.Vc.Nx Go.Vc.Ta Go.Vc.Ap Go.Vc.Usd Go.Vc.Ust Go.Vc.Cp Go.Vc.Ln Go.Vc.Bc Go.Vc.Bmin Go.Vc.Bmax Go.Vc.Bdel Go.Vc.Bclr Go.Vc.Pk
namespace F33
open Go.M31 J30 J31 J32
variable {w : World} {L : List HProp} {K : Value → World → Prop} {ts : List Tn}
/-- Who logs in first by a stream's frames. -/
inductive TnR (ts : List Tn) : List UInt8 → Option Nat → Prop
  | stop {B : List UInt8} {e : Nat} (h : dec B = .no e) : TnR ts B none
  | hit {B : List UInt8} {f : Fr} {n i : Nat} (h : dec B = .ok f n) (hl : logs f) (hi : First ts f.da i) : TnR ts B (some i)
  | go {B : List UInt8} {f : Fr} {n : Nat} {r : Option Nat} (h : dec B = .ok f n) (hn : ¬ logs f ∨ Nobody ts f.da) (t : TnR ts (B.drop n) r) : TnR ts B r
abbrev tSt : Nat := 9
theorem dec_sub {s : List UInt8} {f : Fr} {n : Nat} (h : dec s = .ok f n) : ∀ b ∈ f.da, b ∈ s := by
  unfold dec at h
  split at h
  · cases h
  split at h
  · cases h
  split at h
  · cases h
  split at h
  · cases h
  split at h
  · cases h
  · cases h
    intro b hb
    exact List.mem_of_mem_take (List.mem_of_mem_drop hb)
theorem acts1_spec {z : Bool} {l cb2 sb2 : Nat} {Lr : List HProp} {Lx : Nat → List HProp} {a : Option Addr} {c : Nat} {n : Cn} {s : List UInt8}
    (H : Holds w (blk cb2 tC (cellsC a ts.length c n) :: blk sb2 tSt [S_ s] :: Lr)) (hT : TsIn Lr a ts) (hU : J33.TabZ z Lr) (hA : ∀ t ∈ ts, J33.AscT z t) (hAs : J33.Asc z s) (hs : ∀ t ∈ ts, szT t) (hc : ts.length ≤ c) (hok : goodTs ts) (hl : s.length ≤ 65536)
    (y1 : ∀ (jb : Nat) (e : Int) (M : List HProp) (W : World) (R : Bool → World → Prop), Holds W (M ++ Lr) → (∀ W', Same W W' → Holds W' (M ++ Lr) → R true W') → YdTo Tryz.prog l (.agg (actR jb e).toArray) W R)
    (y2 : ∀ (i : Nat) (M : List HProp) (W : World) (R : Bool → World → Prop), Holds W (M ++ Lr) → (∀ W', Same W W' → Holds W' (M ++ Lx i) → R false W') → YdTo Tryz.prog l (.agg (actL i).toArray) W R)
    (k : ∀ r w', TnR ts s r → Same w w' → Holds w' (match r with | none => Lr | some i => Lx i) → K (.tuple #[]) w') :
    Cl Tryz.prog F.oracle_acts_1 #[yv l, pt cb2, pt sb2] w K := by
  refine Tie.oracle_acts_1 ?_
  unfold Vcf.oracle_acts_1
  have hlen := hok.2.2
  refine r_fo0 (r_ld 0 H rfl rfl ?_)
  refine CNew_spec H hT.up.up hU.up.up hA hs hc hok fun cb v m w1 S1 H1 => ?_
  refine r_ex20 (r_ex21 ?_)
  refine PNew_spec H1 fun p w2 S2 H2 => ?_
  refine r_ex20 (r_ex21 ?_)
  refine r_loopL (fun j y w' => ∃ (q : Nat) (Bp : List UInt8), j = (Bp ++ s.drop q).length ∧ q ≤ s.length ∧ Bp.length + (s.drop q).length ≤ 65536 ∧ y = nv q ∧ ((∀ r, TnR ts (Bp ++ s.drop q) r → TnR ts s r) ∧ ∀ b ∈ Bp ++ s.drop q, b ∈ s) ∧ Same w w' ∧
      Holds w' (blk p tPa (paC Bp 0) :: blk cb tCo [v, iv (-1), m] :: RW cellsT 5 tT v ts :: blk cb2 tC (cellsC a ts.length c n) :: blk sb2 tSt [S_ s] :: Lr)) s.length
    ⟨0, [], rfl, Nat.zero_le _, by simpa using hl, rfl, ⟨fun r h => h, fun b h => by simpa using h⟩, S1.trans S2, H2⟩ ?_
  clear H H1 H2 S1 S2
  rintro _ j _ w3 _ ⟨q, Bp, rfl, hq, hsum, rfl, ⟨hre, hsub⟩, S3, H3⟩ hgo
  refine r_ld 4 H3 rfl rfl (q_D hq ?_)
  refine Feed_spec H3 (by omega) fun w4 S4 H4 => ?_
  rw [List.length_drop] at hsum ⊢
  refine r_addN (a := q) (b := s.length - q) (by omega) ?_
  have hB : (Bp ++ s.drop q).length ≤ 65536 := by rw [List.length_append, List.length_drop]; omega
  generalize hBq : Bp ++ s.drop q = B at *
  refine Next_spec H4 (by omega) fun w5 S5 H5 => ?_
  have S := S3.trans (S4.trans S5)
  clear S3 S4 S5 H3 H4
  cases hd : dec B with
  | no e =>
    rw [hd] at H5
    have stop := hre none (.stop hd)
    by_cases h3 : e = 3
    · subst h3
      refine r_ex30 (r_ex31 (r_ex32 ?_))
      refine r_new H5 fun fb w6 S6 H6 => ?_
      rw [fr_zero] at H6
      refine r_stA 0 H6 (vs := cellsF fr0) rfl (Nat.le_refl 3) rfl rfl fun w7 S7 H7 => ?_
      refine r_neq (r_vfN rfl (r_not (r_vt ?_)))
      exact k none w7 stop (S.trans (S6.trans S7)) H7.drop.drop.drop.drop.drop.drop
    · simp only [nextV]
      rw [if_neg h3]
      have he := dec_no hd
      refine r_ex30 (r_ex31 (r_ex32 ?_))
      refine r_new H5 fun fb w6 S6 H6 => ?_
      rw [fr_zero] at H6
      refine r_stA 0 H6 (vs := cellsF fr0) rfl (Nat.le_refl 3) rfl rfl fun w7 S7 H7 => ?_
      refine r_neq (r_vtN (by omega) ?_)
      refine r_bd (v := .agg (actR 0 e).toArray) (by kernel_rfl) ?_
      refine r_yd (y1 0 e [_, _, _, _, _, _] w7 _ H7 fun w8 S8 H8 => ?_)
      exact k none w8 stop (S.trans (S6.trans (S7.trans S8))) (Holds.drop (Holds.drop (Holds.drop (Holds.drop (Holds.drop (Holds.drop H8))))))
  | ok f nn =>
    rw [hd] at H5
    obtain ⟨g1, g2, g3, g4, g5⟩ := dec_ok hd
    refine r_ex30 (r_ex31 (r_ex32 ?_))
    refine r_new H5 fun fb w6 S6 H6 => ?_
    rw [fr_zero] at H6
    refine r_stA 0 H6 (vs := cellsF f) rfl (Nat.le_refl 3) rfl rfl fun w7 S7 H7 => ?_
    replace H7 : Holds w7 (blk fb tFr (cellsF f) :: blk p tPa (paC (B.drop nn) 0) :: blk cb tCo [v, iv (-1), m] :: RW cellsT 5 tT v ts :: blk cb2 tC (cellsC a ts.length c n) :: blk sb2 tSt [S_ s] :: Lr) := H7
    refine r_neq (r_vfN rfl (r_not (r_vf ?_)))
    refine r_ldA 0 H7 (cellsF f) rfl rfl rfl ?_
    have H8 : Holds w7 (blk cb tCo [v, iv (-1), m] :: RW cellsT 5 tT v ts :: blk fb tFr (cellsF f) :: blk p tPa (paC (B.drop nn) 0) :: blk cb2 tC (cellsC a ts.length c n) :: blk sb2 tSt [S_ s] :: Lr) := by have h_ := Holds.ord 4 [2, 3, 0, 1] H7 rfl; exact h_
    refine Step_spec H8 hU.up.up.up.up (fun hz b hb => hAs hz b (hsub b (dec_sub hd b hb))) g4 g5 (by omega) hs (fun hlg i w8 hi S8 H9 => ?_) fun hno e w8 S8 H9 => ?_
    · refine r_ex20 (r_ex21 ?_)
      refine r_new H9 fun ab w9 S9 Ha => ?_
      rw [ac_zero] at Ha
      refine r_stA 0 Ha (vs := actL i) rfl (Nat.le_refl 8) rfl rfl fun wa Sa Hb => ?_
      refine r_ldA 0 Hb (actL i) rfl rfl rfl ?_
      refine r_yd (y2 i [_, _, _, _, _, _, _] wa _ Hb fun wb Sb Hc => ?_)
      refine r_not (r_vt ?_)
      exact k (some i) wb (hre _ (.hit hd hlg hi)) (S.trans (S6.trans (S7.trans (S8.trans (S9.trans (Sa.trans Sb)))))) (Holds.drop (Holds.drop (Holds.drop (Holds.drop (Holds.drop (Holds.drop (Holds.drop Hc)))))))
    · refine r_ex20 (r_ex21 ?_)
      refine r_new H9 fun ab w9 S9 Ha => ?_
      rw [ac_zero] at Ha
      refine r_stA 0 Ha (vs := actR f.jb e) rfl (Nat.le_refl 8) rfl rfl fun wa Sa Hb => ?_
      refine r_ldA 0 Hb (actR f.jb e) rfl rfl rfl ?_
      refine r_yd (y1 f.jb e [_, _, _, _, _, _, _] wa _ Hb fun wb Sb Hc => ?_)
      refine r_not (r_vf ⟨rfl, r_ke ?_⟩)
      have hds : s.drop (q + (s.length - q)) = [] := List.drop_of_length_le (by omega)
      have hdl : (B.drop nn).length = B.length - nn := List.length_drop
      refine hgo ((B.drop nn) ++ s.drop (q + (s.length - q))).length _ _ (by rw [hds, List.append_nil]; omega) ⟨q + (s.length - q), B.drop nn, rfl, by omega, by rw [hds]; simp; omega, rfl, ⟨fun r hr => hre r (.go hd hno (by rw [hds, List.append_nil] at hr; exact hr)), fun b hb => hsub b (List.mem_of_mem_drop (by rw [hds, List.append_nil] at hb; exact hb))⟩, S.trans (S6.trans (S7.trans (S8.trans (S9.trans (Sa.trans Sb))))), ?_⟩
      have Hd := Holds.dropAt (Holds.dropAt Hc 3) 0
      have h_ := Holds.ord 3 [2, 0, 1] Hd rfl
      exact h_
end F33
end Go.Proofs.YtbhbdleffackaaaGreatDoor
/- wanted: Vcf.oracle_Tenant Vcf.oracle_acts Vcf.oracle_acts_1 -/
