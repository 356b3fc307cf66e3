/- Several texts in one: Ws, Se, Dt, Dz. -/
import Derived.Test.YtepdgangngmmhaaGreatDoorMG2
import Derived.Test.YtepdgangngmmhaaGreatDoorT46Z
set_option linter.unusedVariables false
set_option linter.unusedSimpArgs false
namespace Go.Proofs.YtepdgangngmmhaaGreatDoor
open Go Go.Vc
attribute [local irreducible] Vc.Nc Vc.Ld Vc.LdA Vc.St Vc.StA Vc.Fo Vc.Iaa Vc.Ias Vc.Ixs Vc.Ixa Vc.Fd Vc.FdA Vc.Bp Vc.Bb Vc.Bn Vc.Up Vc.Ci Vc.Lns Vc.Lnl Vc.Ex Vc.Sst Vc.Ssl Vc.New Vc.Vif Vc.VJoin Vc.VLoop Vc.KE Vc.Dr Vc.Rk Vc.Cl Vc.Cx Vc.Inv Vc.Be Vc.Cv Vc.Cw Vc.Mf Vc.Sl Vc.Lk Vc.Bd Vc.Bs Vc.Ms Vc.Mm Vc.Mu Vc.Me Vc.Es Vc.Rg Vc.Nx Vc.Ta Vc.Ap Vc.Usd Vc.Ust Vc.Cp Vc.Ln Vc.Bc Vc.Bmin Vc.Bmax Vc.Bdel Vc.Bclr Vc.Pk
namespace S46
open Go.Mh Go.Ms P46 O46 A46
variable {w : World} {L : List HProp} {K : Value → World → Prop} {v f : Value} {W : List Nat} {E : List En}
def e0 : En := ⟨0, false, ⟨#[]⟩, 0⟩
def cE (E : List En) (i : Nat) : List Value := cellsEn (E.getD i e0)
def vE (E : List En) (i : Nat) : Value := .agg (cE E i).toArray
def RE (E : List En) (v : Value) (D : List Nat) : HProp := RW (cE E) 4 tEn v D
theorem g_len (i : Nat) (H : Holds w L) {D : List Nat} {K : Value → Prop} (hi : L[i]? = some (RE E v D)) (h : K (nv D.length)) : Lnl v K := by
 obtain ⟨oa, m, sp, rfl, _⟩ := H.openRW (F := cE E) (k := 4) (e := tEn) i hi; exact r_lnl h
theorem g_get (i : Nat) (H : Holds w L) {D : List Nat} {k : IntKind} {j x : Nat} {K : Value → Prop} (hi : L[i]? = some (RE E v D)) (hx : D[j]? = some x) (h : K (vE E x)) : Ias 4 v (.int k (j : Int)) fun p => LdA 4 p w K := by
 obtain ⟨oa, m, sp, rfl, _⟩ := H.openRW (F := cE E) (k := 4) (e := tEn) i hi; have hin : S4r.InG (cE E) 4 L oa D := S4r.InG.own (e := tEn) i hi fun _ => rfl; exact S4r.r_ldG hin H hx rfl (List.getElem?_eq_some_iff.1 hx).1 h
theorem flatL_set {α : Type} {F : α → List Value} {k : Nat} (hF : ∀ x, (F x).length = k) : ∀ (xs : List α) (j : Nat) (x : α) (sp : List Value), j < xs.length → setL (flatL F xs ++ sp) (j * k) (F x) = flatL F (xs.set j x) ++ sp := by
 intro xs j x sp hj; have hl : (flatL F xs).length = xs.length * k := flatL_len hF xs
 have hjk : j * k + k ≤ xs.length * k := by rw [← Nat.succ_mul]; exact Nat.mul_le_mul_right _ hj
 rw [setL_mid _ _ _ (by rw [List.length_append, hl, hF]; omega), hF]
 have key : ∀ (xs : List α) (j : Nat), j < xs.length → (flatL F xs ++ sp).take (j * k) ++ F x ++ (flatL F xs ++ sp).drop (j * k + k) = flatL F (xs.set j x) ++ sp := by
   intro xs
   induction xs with
   | nil => intro j hj; exact absurd hj (Nat.not_lt_zero _)
   | cons y r ih =>
     intro j hj
     cases j with
     | zero =>
       rw [Nat.zero_mul, List.take_zero, List.nil_append, Nat.zero_add, List.set_cons_zero, flatL, flatL, List.append_assoc (F y), List.drop_append_of_le_length (by rw [hF]; exact Nat.le_refl _), List.drop_of_length_le (by rw [hF]; exact Nat.le_refl _), List.nil_append, List.append_assoc (F x)]
     | succ j =>
       have := ih j (by simpa using hj); rw [List.set_cons_succ, flatL, flatL, List.append_assoc (F y), List.append_assoc (F y), ← this, show (j + 1) * k = k + j * k by rw [Nat.add_mul]; omega]; rw [List.take_append, hF, List.take_of_length_le (by rw [hF]; omega), show k + j * k - k = j * k by omega, show k + j * k + k = k + (j * k + k) by omega, List.drop_append, hF, List.drop_of_length_le (by rw [hF]; omega), List.nil_append, show k + (j * k + k) - k = j * k + k by omega]; simp only [List.append_assoc]
 exact key xs j hj
theorem g_set (i : Nat) (H : Holds w L) {D : List Nat} {k : IntKind} {j : Nat} (x : Nat) {K : World → Prop} (hi : L[i]? = some (RE E v D)) (hj : j < D.length) (hs : sg (.bool true) = true)
   (h : ∀ w', Same w w' → Holds w' (L.set i (RE E v (D.set j x))) → K w') : Ias 4 v (.int k (j : Int)) fun p => StA 4 p (vE E x) w K := by
 obtain ⟨oa, m, sp, rfl, H1⟩ := H.openRW (F := cE E) (k := 4) (e := tEn) i hi; obtain ⟨b, rfl, hsp, H2⟩ := H1.rwb i (set_get hi) (.inl (by omega)); rw [List.set_set] at H2; have hl : (flatL (cE E) D).length = D.length * 4 := flatL_len (F := cE E) (k := 4) (fun _ => rfl) D; refine r_ias0 hj ?_; refine r_stA i H2 (vs := cE E x) (set_get hi) (by rw [List.length_append, hl]; omega) rfl rfl fun w' S' H' => h w' S' ?_; rw [List.set_set, flatL_set (F := cE E) (k := 4) (fun _ => rfl) D j x sp hj] at H'; have H3 := H'.at i (set_get hi) (Q := RE E (.slice (some ⟨b, 0, none⟩) D.length (D.length + m)) (D.set j x)) fun g hg => ⟨some ⟨b, 0, none⟩, m, sp, by rw [List.length_set], rfl, rfl, hsp, hg⟩; rw [List.set_set] at H3; exact H3
theorem r_subN {a b : Nat} {K : Value → Prop} (h1 : b ≤ a) (h2 : a ≤ 1000000000000) (h : K (.int .i64 ((a - b : Nat) : Int))) : Bp .sub (.int .i64 (a : Int)) (.int .i64 (b : Int)) K :=
 r_sub (by omega) (by omega) (by rw [show (a : Int) - (b : Int) = ((a - b : Nat) : Int) by omega]; exact h)
theorem swapRange_spec {A U M V B : List Nat} {a b n : Nat} (H : Holds w (RE E v (A ++ (U ++ (M ++ (V ++ B)))) :: L)) (ha : A.length = a) (hu : U.length = n) (hm : a + n + M.length = b) (hv : V.length = n) (hb : b + n ≤ 1000000000)
   (k : ∀ w', Same w w' → Holds w' (RE E v (A ++ (V ++ (M ++ (U ++ B)))) :: L) → K (.tuple #[]) w') : Cl Tryz.prog F.slices_swapRangeCmpFunc_project_End #[v, nv a, nv b, nv n, f] w K := by
 refine Tie.slices_swapRangeCmpFunc_project_End ?_; unfold Vcf.slices_swapRangeCmpFunc_project_End
 refine r_loop1 (fun x w' => ∃ i : Nat, i ≤ n ∧ x = nv i ∧ Same w w' ∧ Holds w' (RE E v (A ++ (V.take i ++ (U.drop i ++ (M ++ (U.take i ++ (V.drop i ++ B)))))) :: L)) (fun x _ => n - (RowKit.intOf x).toNat)
   ⟨0, Nat.zero_le _, rfl, .refl _, by simpa using H⟩ ?_
 clear H; rintro _ _ w1 ⟨i, hi, rfl, S1, H1⟩; refine r_lss (r_ifD (fun h => ?_) fun h => ?_)
 rotate_left
 · obtain rfl : i = n := by omega
   refine k _ S1 ?_; rw [List.take_of_length_le (by omega), List.drop_of_length_le (by omega), List.take_of_length_le (by omega), List.drop_of_length_le (by omega)] at H1; simpa using H1
 have hU : i < U.length := by omega
 have hV : i < V.length := by omega
 rw [drop_at hU, drop_at hV, show A ++ (V.take i ++ (U[i] :: U.drop (i + 1) ++ (M ++ (U.take i ++ (V[i] :: V.drop (i + 1) ++ B))))) = (A ++ V.take i) ++ U[i] :: ((U.drop (i + 1) ++ (M ++ U.take i)) ++ V[i] :: (V.drop (i + 1) ++ B)) by simp only [List.append_assoc, List.cons_append]] at H1; obtain ⟨e1, e2, e3, e4, e5⟩ := sw (P := A ++ V.take i) (Q := U.drop (i + 1) ++ (M ++ U.take i)) (R := V.drop (i + 1) ++ B) (x := U[i]) (y := V[i]) (p := a + i) (q := b + i) (by simp; omega) (by simp; omega); refine r_dr H1 fun w2 S2 H2 => ?_; refine r_addN (by omega) (r_addN (by omega) (r_addN (by omega) ?_)); refine g_get 0 H2 rfl e2 ?_; refine r_addN (by omega) ?_; refine g_get 0 H2 rfl e1 ?_; refine g_set 0 H2 V[i] rfl e4 rfl fun w3 S3 H3 => ?_; refine g_set 0 H3 U[i] rfl e5 rfl fun w4 S4 H4 => ?_; refine r_add1N (by omega) ?_; refine r_ke ⟨⟨i + 1, by omega, rfl, S1.trans (S2.trans (S3.trans S4)), ?_⟩, ?_⟩
 · replace H4 : Holds w4 (RE E v (((A ++ V.take i ++ U[i] :: ((U.drop (i + 1) ++ (M ++ U.take i)) ++ V[i] :: (V.drop (i + 1) ++ B))).set (a + i) V[i]).set (b + i) U[i]) :: L) := H4; rw [e3] at H4; rw [take_at hU, take_at hV]; simpa only [List.append_assoc, List.cons_append, List.nil_append] using H4
 · simp only [nv, RowKit.intOf, Int.toNat_natCast]; omega
theorem rotate_spec {A U V B : List Nat} {a m b : Nat} (H : Holds w (RE E v (A ++ (U ++ (V ++ B))) :: L)) (ha : A.length = a) (hm : a + U.length = m) (hb : m + V.length = b) (hU : U ≠ []) (hV : V ≠ []) (hbb : b ≤ 100000000)
   (k : ∀ w', Same w w' → Holds w' (RE E v (A ++ (V ++ (U ++ B))) :: L) → K (.tuple #[]) w') : Cl Tryz.prog F.slices_rotateCmpFunc_project_End #[v, nv a, nv m, nv b, f] w K := by
 refine Tie.slices_rotateCmpFunc_project_End ?_; unfold Vcf.slices_rotateCmpFunc_project_End; have hU0 := List.length_pos_iff.2 hU; have hV0 := List.length_pos_iff.2 hV; refine r_subN (by omega) (by omega) (r_subN (by omega) (by omega) ?_)
 refine r_loop2 (fun x y w' => ∃ P U' V' S : List Nat, x = nv U'.length ∧ y = nv V'.length ∧ 0 < U'.length ∧ 0 < V'.length ∧ P.length + U'.length = U.length ∧ V'.length + S.length = V.length ∧ P ++ (V' ++ (U' ++ S)) = V ++ U ∧ Same w w' ∧
     Holds w' (RE E v (A ++ (P ++ (U' ++ (V' ++ (S ++ B))))) :: L)) (fun x y _ => (RowKit.intOf x).toNat + (RowKit.intOf y).toNat)
   ⟨[], U, V, [], by rw [show m - a = U.length by omega], by rw [show b - m = V.length by omega], hU0, hV0, by simp, by simp, by simp, .refl _, by simpa using H⟩ ?_
 clear H; rintro _ _ _ w1 ⟨P, U', V', S, rfl, rfl, h1, h2, h3, h4, h5, S1, H1⟩; refine r_neq (r_ifN (fun h => ?_) fun h => ?_)
 rotate_left
 · refine r_subN (by omega) (by omega) ?_; refine swapRange_spec (A := A ++ P) (U := U') (M := []) (V := V') (B := S ++ B) (by simpa using H1) (by simp; omega) rfl (by simp; omega) (by omega) (by omega) fun w2 S2 H2 => ?_; refine k _ (S1.trans S2) ?_; rw [show A ++ (V ++ (U ++ B)) = A ++ ((V ++ U) ++ B) by simp, ← h5]; simpa using H2
 refine r_gtr (r_ifD (fun hg => ?_) fun hg => ?_)
 · obtain ⟨u1, u2, rfl, e1, e2⟩ := cut_le (D := U') (i := V'.length) (by omega); rw [List.length_append] at *; refine r_subN (by omega) (by omega) ?_; refine swapRange_spec (A := A ++ P) (U := u1) (M := u2) (V := V') (B := S ++ B) (by simpa using H1) (by simp; omega) e1 (by omega) rfl (by omega) fun w2 S2 H2 => ?_; refine r_subN (by omega) (by omega) ?_; refine r_ke ⟨⟨P ++ V', u2, u1, S, by rw [show u1.length + u2.length - V'.length = u2.length by omega], by rw [e1], by omega, by omega, by rw [List.length_append]; omega, by omega, by rw [← h5]; simp, S1.trans S2, by simpa using H2⟩, ?_⟩; simp only [nv, RowKit.intOf, Int.toNat_natCast]; omega
 · obtain ⟨v1, v2, rfl, e1, e2⟩ := cut_le (D := V') (i := V'.length - U'.length) (by omega); rw [List.length_append] at *; refine r_subN (by omega) (by omega) (r_addN (by omega) (r_subN (by omega) (by omega) ?_)); refine swapRange_spec (A := A ++ P) (U := U') (M := v1) (V := v2) (B := S ++ B) (by simpa using H1) (by simp; omega) rfl (by omega) (by omega) (by omega) fun w2 S2 H2 => ?_; refine r_subN (by omega) (by omega) ?_; refine r_ke ⟨⟨P, v2, v1, U' ++ S, by rw [show v2.length = U'.length by omega], by rw [show v1.length + v2.length - U'.length = v1.length by omega], by omega, by omega, by omega, by rw [List.length_append]; omega, by rw [← h5]; simp, S1.trans S2, by simpa using H2⟩, ?_⟩; simp only [nv, RowKit.intOf, Int.toNat_natCast]; omega
def CmpOk (E : List P46.En) (W : List Nat) (v f : Value) (L : List HProp) : Prop := ∀ {D : List Nat} {w : World} {x y : Nat} {Q : Value → World → Prop}, Holds w (RE E v D :: L) → x < W.length → y < W.length →
 (∀ (z : Int) w', (z < 0 ↔ W.getD x 0 < W.getD y 0) → Same w w' → Holds w' (RE E v D :: L) → Q (iv z) w') → Inv Tryz.prog (do let d ← Deferred.ofValue f #[vE E x, vE E y]; invoke d.target d.args) w Q
theorem less_of {x y : Nat} (h : y < x) : W.getD x 0 < W.getD y 0 ↔ lt W x y := by unfold lt; omega
theorem lt_of_not {x y : Nat} (h : y < x) (hn : ¬ W.getD x 0 < W.getD y 0) : lt W y x := by unfold lt; omega
theorem insertion_spec {A X B : List Nat} {a b : Nat} (hc : CmpOk E W v f L) (H : Holds w (RE E v (A ++ (X ++ B)) :: L)) (ha : A.length = a) (hb : a + X.length = b) (hx : ∀ x ∈ X, x < W.length) (hn : X.Pairwise (· < ·)) (hbb : b ≤ 100000000)
   (k : ∀ Z w', Z.Perm X → Srt W Z → Same w w' → Holds w' (RE E v (A ++ (Z ++ B)) :: L) → K (.tuple #[]) w') : Cl Tryz.prog F.slices_insertionSortCmpFunc_project_End #[v, nv a, nv b, f] w K := by
 refine Tie.slices_insertionSortCmpFunc_project_End ?_; unfold Vcf.slices_insertionSortCmpFunc_project_End; refine r_add1N (by omega) ?_
 refine r_loop1 (fun x w' => ∃ (n : Nat) (Z : List Nat), x = nv (a + 1 + n) ∧ n ≤ X.length ∧ Z.Perm (X.take (n + 1)) ∧ Srt W Z ∧ Same w w' ∧ Holds w' (RE E v (A ++ (Z ++ (X.drop (n + 1) ++ B))) :: L)) (fun x _ => b - (RowKit.intOf x).toNat)
   ⟨0, X.take 1, rfl, Nat.zero_le _, .refl _, by
     cases X with
     | nil => exact List.Pairwise.nil
     | cons x l => exact List.pairwise_singleton _ _, .refl _, by rw [← List.append_assoc (X.take 1), List.take_append_drop]; exact H⟩ ?_
 clear H; rintro _ _ w1 ⟨n, Z, rfl, hnX, hp, hs, S1, H1⟩; refine r_lss (r_ifD (fun h => ?_) fun h => ?_)
 rotate_left
 · rw [List.take_of_length_le (by omega)] at hp; rw [List.drop_of_length_le (by omega)] at H1; exact k Z _ hp hs S1 H1
 have hlt : n + 1 < X.length := by omega
 have hZl : Z.length = n + 1 := by rw [hp.length_eq, List.length_take]; omega
 have hxW : X[n + 1] < W.length := hx _ (List.getElem_mem hlt)
 have hZx : ∀ z ∈ Z, z < X[n + 1] ∧ z < W.length := by
   intro z hz; have := hp.mem_iff.1 hz; refine ⟨?_, hx _ (List.mem_of_mem_take this)⟩; obtain ⟨i, hi, rfl⟩ := List.getElem_of_mem this; rw [List.length_take] at hi; rw [List.getElem_take]; exact List.pairwise_iff_getElem.1 hn i (n + 1) (by omega) hlt (by omega)
 rw [drop_at hlt] at H1
 have hpx : (X.take (n + 1 + 1)).Perm (X[n + 1] :: Z) := by
   rw [take_at hlt]; exact (List.perm_append_singleton _ _).trans (hp.symm.cons _)
 generalize X[n + 1] = x at *; generalize hT : X.drop (n + 1 + 1) = T at *
 refine r_loop1 (fun y w' => ∃ Z1 Z2 : List Nat, y = nv (a + Z1.length) ∧ Z = Z1 ++ Z2 ∧ (∀ z ∈ Z2, lt W x z) ∧ Same w w' ∧ Holds w' (RE E v (A ++ (Z1 ++ (x :: (Z2 ++ (T ++ B))))) :: L)) (fun y _ => (RowKit.intOf y).toNat)
   ⟨Z, [], by rw [hZl, show a + 1 + n = a + (n + 1) by omega], by simp, by simp, S1, by simpa using H1⟩ ?_
 clear H1 S1; rintro _ _ w2 ⟨Z1, Z2, rfl, rfl, hZ2, S2, H2⟩; rw [List.length_append] at hZl; refine r_join1 (fun t w' => Same w w' ∧ Holds w' (RE E v (A ++ (Z1 ++ (x :: (Z2 ++ (T ++ B))))) :: L) ∧ ((t = .bool false ∧ ∀ z ∈ Z1, lt W z x) ∨ (t = .bool true ∧ ∃ Z1' z, Z1 = Z1' ++ [z] ∧ lt W x z))) ?_ ?_
 rotate_left
 · refine r_dr H2 fun w3 S3 H3 => ?_; refine r_gtr (r_ifD (fun h => ?_) fun h => ?_)
   · have hne : Z1 ≠ [] := fun e => by rw [e, List.length_nil] at h; omega
     obtain ⟨Z1', z, rfl⟩ : ∃ Z1' z, Z1 = Z1' ++ [z] := ⟨Z1.dropLast, Z1.getLast hne, (List.dropLast_concat_getLast hne).symm⟩; have hz := hZx z (by simp); rw [List.length_append, List.length_singleton] at *
     have e1 : (A ++ (Z1' ++ [z] ++ (x :: (Z2 ++ (T ++ B)))))[a + (Z1'.length + 1)]? = some x := by
       rw [show A ++ (Z1' ++ [z] ++ (x :: (Z2 ++ (T ++ B)))) = (A ++ Z1' ++ [z]) ++ x :: (Z2 ++ (T ++ B)) by simp]; exact mid_at (by simp; omega)
     have e2 : (A ++ (Z1' ++ [z] ++ (x :: (Z2 ++ (T ++ B)))))[a + (Z1'.length + 1) - 1]? = some z := by
       rw [show A ++ (Z1' ++ [z] ++ (x :: (Z2 ++ (T ++ B)))) = (A ++ Z1') ++ z :: (x :: (Z2 ++ (T ++ B))) by simp]; exact mid_at (by simp; omega)
     refine g_get 0 H3 rfl e1 ?_; refine r_sub1N (by omega) (by omega) ?_; refine g_get 0 H3 rfl e2 ?_; refine hc H3 hxW hz.2 fun c w4 hcc S4 H4 => ?_; refine r_lss (r_ke ⟨S2.trans (S3.trans S4), H4, ?_⟩)
     by_cases q : c < 0
     · exact .inr ⟨by rw [decide_eq_true q], Z1', z, rfl, (less_of hz.1).1 (hcc.1 q)⟩
     · refine .inl ⟨by rw [decide_eq_false q], ?_⟩; have hl := lt_of_not hz.1 fun e => q (hcc.2 e); have h5 := (List.pairwise_append.1 hs).1; intro u hu; rcases List.mem_append.1 hu with hu | hu
       · exact lt_trans ((List.pairwise_append.1 h5).2.2 u hu z (by simp)) hl
       · rw [List.mem_singleton.1 hu]; exact hl
   · have : Z1 = [] := List.eq_nil_of_length_eq_zero (by omega); subst this; exact r_ke ⟨S2.trans S3, H3, .inl ⟨rfl, by simp⟩⟩
 rintro _ _ w3 ⟨S3, H3, ⟨rfl, hz1⟩ | ⟨rfl, Z1', z, rfl, hxz⟩⟩
 · refine r_vf ?_; refine r_add1N (by omega) ?_; refine r_ke ⟨⟨n + 1, Z1 ++ x :: Z2, by rw [show a + 1 + (n + 1) = a + 1 + n + 1 by omega], by omega, ?_, srt_ins hs hz1 hZ2, S3, ?_⟩, ?_⟩
   · exact List.perm_middle.trans hpx.symm
   · rw [hT]; simpa using H3
   · simp only [nv, RowKit.intOf, Int.toNat_natCast]; omega
 · refine r_vt ?_; rw [List.length_append, List.length_singleton] at *; rw [show A ++ (Z1' ++ [z] ++ (x :: (Z2 ++ (T ++ B)))) = (A ++ Z1') ++ z :: ([] ++ x :: (Z2 ++ (T ++ B))) by simp] at H3; obtain ⟨e1, e2, _, _, _⟩ := sw (P := A ++ Z1') (Q := []) (R := Z2 ++ (T ++ B)) (x := z) (y := x) (p := a + (Z1'.length + 1) - 1) (q := a + (Z1'.length + 1)) (by simp; omega) (by rw [List.length_nil]; omega); obtain ⟨e3, e4, e5⟩ := sw' (P := A ++ Z1') (Q := []) (R := Z2 ++ (T ++ B)) (x := z) (y := x) (p := a + (Z1'.length + 1) - 1) (q := a + (Z1'.length + 1)) (by simp; omega) (by rw [List.length_nil]; omega); refine r_dr H3 fun w4 S4 H4 => ?_; refine r_sub1N (by omega) (by omega) (r_sub1N (by omega) (by omega) ?_); refine g_get 0 H4 rfl e1 (g_get 0 H4 rfl e2 ?_); refine g_set 0 H4 z rfl e4 rfl fun w5 S5 H5 => ?_; refine g_set 0 H5 x rfl e5 rfl fun w6 S6 H6 => ?_; refine r_sub1N (by omega) (by omega) ?_; refine r_ke ⟨⟨Z1', z :: Z2, by rw [show a + (Z1'.length + 1) - 1 = a + Z1'.length by omega], by simp, ?_, S3.trans (S4.trans (S5.trans S6)), ?_⟩, ?_⟩
   · intro u hu; rcases List.mem_cons.1 hu with rfl | hu
     · exact hxz
     · exact hZ2 u hu
   · replace H6 : Holds w6 (RE E v (((A ++ Z1' ++ z :: ([] ++ x :: (Z2 ++ (T ++ B)))).set (a + (Z1'.length + 1)) z).set (a + (Z1'.length + 1) - 1) x) :: L) := H6; rw [e3] at H6; simpa using H6
   · simp only [nv, RowKit.intOf, Int.toNat_natCast]; omega
theorem half_rule {s : Nat} {K : Value → Prop} (hs : s ≤ 1000000000) (h : K (nv (s / 2))) : Ci .u64 (.int .i64 (s : Int)) fun y => Bp .shr y (.int .u64 1) fun z => Ci .i64 z K := by
 refine r_ciu64 (by omega) (by omega) ?_; refine r_shrU (n := 1) (by decide) ?_; exact r_ci64 (by omega) (by omega) h
theorem symX {x : Nat} {A Y B : List Nat} {a m b : Nat} (hc : CmpOk E W v f L) (H : Holds w (RE E v (A ++ ([x] ++ (Y ++ B))) :: L)) (ha : A.length = a) (hm : a + 1 = m) (hb : m + Y.length = b) (hs : Srt W Y) (hxW : x < W.length) (hY : ∀ y ∈ Y, x < y ∧ y < W.length) (hbb : b ≤ 100000000)
   (k : ∀ Z w', Z.Perm (x :: Y) → Srt W Z → Same w w' → Holds w' (RE E v (A ++ (Z ++ B)) :: L) → K (.tuple #[]) w') : Cl Tryz.prog F.slices_symMergeCmpFunc_project_End #[v, nv a, nv m, nv b, f] w K := by
 refine Tie.slices_symMergeCmpFunc_project_End ?_; unfold Vcf.slices_symMergeCmpFunc_project_End; refine r_subN (by omega) (by omega) ?_; refine r_eql (r_vtE (by omega) ?_)
 refine r_loop2 (fun i j w' => ∃ p q : Nat, i = nv (m + p) ∧ j = nv (m + q) ∧ p ≤ q ∧ q ≤ Y.length ∧ (∀ y ∈ Y.take p, lt W y x) ∧ (∀ y ∈ Y.drop q, lt W x y) ∧ Same w w' ∧ Holds w' (RE E v (A ++ ([x] ++ (Y ++ B))) :: L)) (fun i j _ => (RowKit.intOf j).toNat - (RowKit.intOf i).toNat)
   ⟨0, Y.length, rfl, by rw [hb], Nat.zero_le _, Nat.le_refl _, by simp, by simp, .refl _, H⟩ ?_
 clear H; rintro _ _ _ w1 ⟨p, q, rfl, rfl, hpq, hq, h1, h2, S1, H1⟩; refine r_lss (r_ifD (fun h => ?_) fun h => ?_)
 · have hlt : p < q := by omega
   refine r_addN (by omega) (half_rule (by omega) ?_); rw [show (m + p + (m + q)) / 2 = m + (p + q) / 2 by omega]
   have hc1 : p ≤ (p + q) / 2 := by omega
   have hc2 : (p + q) / 2 < q := by omega
   generalize (p + q) / 2 = c at *
   have hcY : c < Y.length := by omega
   have hy := hY _ (List.getElem_mem hcY)
   have e1 : (A ++ ([x] ++ (Y ++ B)))[m + c]? = some Y[c] := by
     rw [← List.append_assoc A]; exact mid_in (by simp; omega) hcY
   have e2 : (A ++ ([x] ++ (Y ++ B)))[a]? = some x := mid_at ha; refine r_dr H1 fun w2 S2 H2 => ?_; refine g_get 0 H2 rfl e1 (g_get 0 H2 rfl e2 ?_); refine hc H2 hy.2 hxW fun z w3 hz S3 H3 => ?_; refine r_lss (r_ifD (fun hl => ?_) fun hl => ?_)
   · refine r_add1N (by omega) (r_ke ⟨⟨c + 1, q, rfl, rfl, by omega, hq, all_before hs (fun y e => ?_) hcY, h2, S1.trans (S2.trans S3), H3⟩, ?_⟩)
     · rw [List.getElem?_eq_getElem hcY] at e; cases e; exact (less_of hy.1).1 (hz.1 hl)
     · simp only [nv, RowKit.intOf, Int.toNat_natCast]; omega
   · refine r_ke ⟨⟨p, c, rfl, rfl, by omega, by omega, h1, all_behind hs fun y e => ?_, S1.trans (S2.trans S3), H3⟩, ?_⟩
     · rw [List.getElem?_eq_getElem hcY] at e; cases e; exact lt_of_not hy.1 fun e => hl (hz.2 e)
     · simp only [nv, RowKit.intOf, Int.toNat_natCast]; omega
 obtain rfl : p = q := by omega
 refine r_loop1 (fun y w' => ∃ t : Nat, y = nv (a + t) ∧ t ≤ p ∧ Same w w' ∧ Holds w' (RE E v (A ++ (Y.take t ++ (x :: (Y.drop t ++ B)))) :: L)) (fun y _ => b - (RowKit.intOf y).toNat)
   ⟨0, rfl, Nat.zero_le _, S1, by simpa using H1⟩ ?_
 clear H1 S1; rintro _ _ w2 ⟨t, rfl, htp, S2, H2⟩; refine r_sub1N (by omega) (by omega) (r_lss (r_ifD (fun hl => ?_) fun hl => ?_))
 · have hlt : t < p := by omega
   have htY : t < Y.length := by omega
   rw [drop_at htY, show A ++ (Y.take t ++ (x :: (Y[t] :: Y.drop (t + 1) ++ B))) = (A ++ Y.take t) ++ x :: ([] ++ Y[t] :: (Y.drop (t + 1) ++ B)) by simp only [List.append_assoc, List.cons_append, List.nil_append]] at H2; obtain ⟨e1, e2, e3, e4, e5⟩ := sw (P := A ++ Y.take t) (Q := []) (R := Y.drop (t + 1) ++ B) (x := x) (y := Y[t]) (p := a + t) (q := a + t + 1) (by simp; omega) (by rw [List.length_nil]); refine r_dr H2 fun w3 S3 H3 => ?_; refine r_add1N (by omega) (r_add1N (by omega) ?_); refine g_get 0 H3 rfl e2 (g_get 0 H3 rfl e1 ?_); refine g_set 0 H3 Y[t] rfl e4 rfl fun w4 S4 H4 => ?_; refine g_set 0 H4 x rfl e5 rfl fun w5 S5 H5 => ?_; refine r_add1N (by omega) (r_ke ⟨⟨t + 1, rfl, by omega, S2.trans (S3.trans (S4.trans S5)), ?_⟩, ?_⟩)
   · replace H5 : Holds w5 (RE E v (((A ++ Y.take t ++ x :: ([] ++ Y[t] :: (Y.drop (t + 1) ++ B))).set (a + t) Y[t]).set (a + t + 1) x) :: L) := H5; rw [e3] at H5; rw [take_at htY]; simpa only [List.append_assoc, List.cons_append, List.nil_append] using H5
   · simp only [nv, RowKit.intOf, Int.toNat_natCast]; omega
 · obtain rfl : t = p := by omega
   refine k (Y.take t ++ x :: Y.drop t) _ ?_ (srt_ins (by rw [List.take_append_drop]; exact hs) h1 h2) S2 (by simpa only [List.append_assoc, List.cons_append] using H2); refine List.perm_middle.trans ?_; rw [List.take_append_drop]
theorem symY {y : Nat} {A X B : List Nat} {a m b : Nat} (hc : CmpOk E W v f L) (H : Holds w (RE E v (A ++ (X ++ ([y] ++ B))) :: L)) (ha : A.length = a) (hm : a + X.length = m) (hb : m + 1 = b) (hX2 : X.length ≠ 1) (hs : Srt W X) (hyW : y < W.length) (hX : ∀ x ∈ X, x < y ∧ x < W.length) (hbb : b ≤ 100000000)
   (k : ∀ Z w', Z.Perm (X ++ [y]) → Srt W Z → Same w w' → Holds w' (RE E v (A ++ (Z ++ B)) :: L) → K (.tuple #[]) w') : Cl Tryz.prog F.slices_symMergeCmpFunc_project_End #[v, nv a, nv m, nv b, f] w K := by
 refine Tie.slices_symMergeCmpFunc_project_End ?_; unfold Vcf.slices_symMergeCmpFunc_project_End; refine r_subN (by omega) (by omega) ?_; refine r_eql (r_vfE (by omega) ?_); refine r_subN (by omega) (by omega) ?_; refine r_eql (r_vtE (by omega) ?_)
 refine r_loop2 (fun i j w' => ∃ p q : Nat, i = nv (a + p) ∧ j = nv (a + q) ∧ p ≤ q ∧ q ≤ X.length ∧ (∀ x ∈ X.take p, lt W x y) ∧ (∀ x ∈ X.drop q, lt W y x) ∧ Same w w' ∧ Holds w' (RE E v (A ++ (X ++ ([y] ++ B))) :: L)) (fun i j _ => (RowKit.intOf j).toNat - (RowKit.intOf i).toNat)
   ⟨0, X.length, rfl, by rw [hm], Nat.zero_le _, Nat.le_refl _, by simp, by simp, .refl _, H⟩ ?_
 clear H; rintro _ _ _ w1 ⟨p, q, rfl, rfl, hpq, hq, h1, h2, S1, H1⟩; refine r_lss (r_ifD (fun h => ?_) fun h => ?_)
 · have hlt : p < q := by omega
   refine r_addN (by omega) (half_rule (by omega) ?_); rw [show (a + p + (a + q)) / 2 = a + (p + q) / 2 by omega]
   have hc1 : p ≤ (p + q) / 2 := by omega
   have hc2 : (p + q) / 2 < q := by omega
   generalize (p + q) / 2 = c at *
   have hcX : c < X.length := by omega
   have hx := hX _ (List.getElem_mem hcX)
   have e1 : (A ++ (X ++ ([y] ++ B)))[a + c]? = some X[c] := by
     exact mid_in ha hcX
   have e2 : (A ++ (X ++ ([y] ++ B)))[m]? = some y := by
     rw [show A ++ (X ++ ([y] ++ B)) = (A ++ X) ++ y :: B by simp]; exact mid_at (by simp; omega)
   refine r_dr H1 fun w2 S2 H2 => ?_; refine g_get 0 H2 rfl e2 (g_get 0 H2 rfl e1 ?_); refine hc H2 hyW hx.2 fun z w3 hz S3 H3 => ?_; refine r_lss ?_
   by_cases hl : z < 0
   · rw [decide_eq_true hl]; refine r_notT (r_vf ?_); refine r_ke ⟨⟨p, c, rfl, rfl, by omega, by omega, h1, all_behind hs fun x e => ?_, S1.trans (S2.trans S3), H3⟩, ?_⟩
     · rw [List.getElem?_eq_getElem hcX] at e; cases e; exact (less_of hx.1).1 (hz.1 hl)
     · simp only [nv, RowKit.intOf, Int.toNat_natCast]; omega
   · rw [decide_eq_false hl]; refine r_notF (r_vt ?_); refine r_add1N (by omega) (r_ke ⟨⟨c + 1, q, rfl, rfl, by omega, hq, all_before hs (fun x e => ?_) hcX, h2, S1.trans (S2.trans S3), H3⟩, ?_⟩)
     · rw [List.getElem?_eq_getElem hcX] at e; cases e; exact lt_of_not hx.1 fun e => hl (hz.2 e)
     · simp only [nv, RowKit.intOf, Int.toNat_natCast]; omega
 obtain rfl : p = q := by omega
 refine r_loop1 (fun x w' => ∃ t : Nat, x = nv (a + t) ∧ p ≤ t ∧ t ≤ X.length ∧ Same w w' ∧ Holds w' (RE E v (A ++ (X.take t ++ (y :: (X.drop t ++ B)))) :: L)) (fun x _ => (RowKit.intOf x).toNat)
   ⟨X.length, by rw [hm], hq, Nat.le_refl _, S1, by simpa using H1⟩ ?_
 clear H1 S1; rintro _ _ w2 ⟨t, rfl, htp, htX, S2, H2⟩; refine r_gtr (r_ifD (fun hl => ?_) fun hl => ?_)
 · have hlt : p < t := by omega
   obtain ⟨u, rfl⟩ : ∃ u, t = u + 1 := ⟨t - 1, by omega⟩
   have hu : u < X.length := by omega
   rw [take_at hu, show A ++ (X.take u ++ [X[u]] ++ (y :: (X.drop (u + 1) ++ B))) = (A ++ X.take u) ++ X[u] :: ([] ++ y :: (X.drop (u + 1) ++ B)) by simp only [List.append_assoc, List.cons_append, List.nil_append]] at H2; obtain ⟨e1, e2, _, _, _⟩ := sw (P := A ++ X.take u) (Q := []) (R := X.drop (u + 1) ++ B) (x := X[u]) (y := y) (p := a + (u + 1) - 1) (q := a + (u + 1)) (by simp; omega) (by rw [List.length_nil]; omega); obtain ⟨e3, e4, e5⟩ := sw' (P := A ++ X.take u) (Q := []) (R := X.drop (u + 1) ++ B) (x := X[u]) (y := y) (p := a + (u + 1) - 1) (q := a + (u + 1)) (by simp; omega) (by rw [List.length_nil]; omega); refine r_dr H2 fun w3 S3 H3 => ?_; refine r_sub1N (by omega) (by omega) (r_sub1N (by omega) (by omega) ?_); refine g_get 0 H3 rfl e1 (g_get 0 H3 rfl e2 ?_); refine g_set 0 H3 X[u] rfl e4 rfl fun w4 S4 H4 => ?_; refine g_set 0 H4 y rfl e5 rfl fun w5 S5 H5 => ?_; refine r_sub1N (by omega) (by omega) (r_ke ⟨⟨u, by rw [show a + (u + 1) - 1 = a + u by omega], by omega, by omega, S2.trans (S3.trans (S4.trans S5)), ?_⟩, ?_⟩)
   · replace H5 : Holds w5 (RE E v (((A ++ X.take u ++ X[u] :: ([] ++ y :: (X.drop (u + 1) ++ B))).set (a + (u + 1)) X[u]).set (a + (u + 1) - 1) y) :: L) := H5; rw [e3] at H5; rw [drop_at hu]; simpa only [List.append_assoc, List.cons_append, List.nil_append] using H5
   · simp only [nv, RowKit.intOf, Int.toNat_natCast]; omega
 · obtain rfl : t = p := by omega
   refine k (X.take t ++ y :: X.drop t) _ ?_ (srt_ins (by rw [List.take_append_drop]; exact hs) h1 h2) S2 (by simpa only [List.append_assoc, List.cons_append] using H2); refine List.perm_middle.trans ?_; rw [List.take_append_drop]; exact (List.perm_append_singleton _ _).symm
theorem sym_spec : ∀ (N : Nat) {w : World} {K : Value → World → Prop} {A X Y B : List Nat} {a m b : Nat}, X.length + Y.length ≤ N → CmpOk E W v f L → Holds w (RE E v (A ++ (X ++ (Y ++ B))) :: L) → A.length = a → a + X.length = m → m + Y.length = b → X ≠ [] → Y ≠ [] →
   Srt W X → Srt W Y → (∀ x ∈ X, x < W.length) → (∀ y ∈ Y, y < W.length) → (∀ x ∈ X, ∀ y ∈ Y, x < y) → b ≤ 100000000 →
   (∀ Z w', Z.Perm (X ++ Y) → Srt W Z → Same w w' → Holds w' (RE E v (A ++ (Z ++ B)) :: L) → K (.tuple #[]) w') → Cl Tryz.prog F.slices_symMergeCmpFunc_project_End #[v, nv a, nv m, nv b, f] w K := by
 intro N
 induction N with
 | zero =>
   intro w K A X Y B a m b hN _ _ _ _ _ hX _ _ _ _ _ _ _ _; have := List.length_pos_iff.2 hX; omega
 | succ N ih =>
   intro w K A X Y B a m b hN hc H ha hm hb hX hY hsX hsY hXW hYW hXY hbb k; have hX0 := List.length_pos_iff.2 hX; have hY0 := List.length_pos_iff.2 hY
   by_cases hX1 : X.length = 1
   · obtain ⟨x, rfl⟩ := List.length_eq_one_iff.1 hX1; exact symX hc H ha (by simpa using hm) hb hsY (hXW x (by simp)) (fun y hy => ⟨hXY x (by simp) y hy, hYW y hy⟩) hbb k
   by_cases hY1 : Y.length = 1
   · obtain ⟨y, rfl⟩ := List.length_eq_one_iff.1 hY1; exact symY hc H ha hm (by simpa using hb) hX1 hsX (hYW y (by simp)) (fun x hx => ⟨hXY x hx y (by simp), hXW x hx⟩) hbb k
   refine Tie.slices_symMergeCmpFunc_project_End ?_; unfold Vcf.slices_symMergeCmpFunc_project_End; refine r_subN (by omega) (by omega) ?_; refine r_eql (r_vfE (by omega) ?_); refine r_subN (by omega) (by omega) ?_; refine r_eql (r_vfE (by omega) ?_); refine r_addN (by omega) (half_rule (by omega) ?_); obtain ⟨h, hh⟩ : ∃ h, h = (X.length + Y.length) / 2 := ⟨_, rfl⟩; rw [show (a + b) / 2 = a + h by omega]; refine r_addN (by omega) ?_; refine r_join2 (fun s r w' => ∃ lo hi : Nat, s = nv (a + lo) ∧ r = nv (a + hi) ∧ lo ≤ hi ∧ hi ≤ h ∧ hi ≤ X.length ∧ h - lo ≤ Y.length ∧ w = w' ∧ ((lo = h - Y.length ∧ Y.length ≤ h ∧ hi = h) ∨ (lo = 0 ∧ hi = X.length))) ?_ ?_
   rotate_left
   · refine r_gtr (r_ifD (fun hg => ?_) fun hg => ?_)
     · refine r_subN (by omega) (by omega) ?_; exact r_ke ⟨h - Y.length, h, by rw [show a + h + m - b = a + (h - Y.length) by omega], rfl, by omega, by omega, by omega, by omega, rfl, .inl ⟨rfl, by omega, rfl⟩⟩
     · exact r_ke ⟨0, X.length, rfl, by rw [hm], by omega, by omega, by omega, by omega, rfl, .inr ⟨rfl, rfl⟩⟩
   rintro _ _ _ _ ⟨lo, hi, rfl, rfl, hlh, hhh, hhX, hlY, rfl, hcase⟩; refine r_sub1N (by omega) (by omega) ?_
   refine r_loop2 (fun s r w' => ∃ σ ρ : Nat, s = nv (a + σ) ∧ r = nv (a + ρ) ∧ lo ≤ σ ∧ σ ≤ ρ ∧ ρ ≤ hi ∧ (lo < σ → lt W (X.getD (σ - 1) 0) (Y.getD (h - σ) 0)) ∧ (ρ < hi → lt W (Y.getD (h - 1 - ρ) 0) (X.getD ρ 0)) ∧ Same w w' ∧ Holds w' (RE E v (A ++ (X ++ (Y ++ B))) :: L)) (fun s r _ => (RowKit.intOf r).toNat - (RowKit.intOf s).toNat)
     ⟨lo, hi, rfl, rfl, Nat.le_refl _, hlh, Nat.le_refl _, fun e => absurd e (Nat.lt_irrefl _), fun e => absurd e (Nat.lt_irrefl _), .refl _, H⟩ ?_
   clear H; rintro _ _ _ w1 ⟨σ, ρ, rfl, rfl, b0, b1, b2, b3, b4, S1, H1⟩; refine r_lss (r_ifD (fun hl => ?_) fun hl => ?_)
   · have hlt : σ < ρ := by omega
     refine r_addN (by omega) (half_rule (by omega) ?_); rw [show (a + σ + (a + ρ)) / 2 = a + (σ + ρ) / 2 by omega]
     have hc1 : σ ≤ (σ + ρ) / 2 := by omega
     have hc2 : (σ + ρ) / 2 < ρ := by omega
     generalize (σ + ρ) / 2 = c at *
     have hcX : c < X.length := by omega
     have hcY : h - 1 - c < Y.length := by omega
     have e1 : (A ++ (X ++ (Y ++ B)))[a + c]? = some X[c] := mid_in ha hcX
     have e2 : (A ++ (X ++ (Y ++ B)))[a + h + m - 1 - (a + c)]? = some Y[h - 1 - c] := by
       rw [show a + h + m - 1 - (a + c) = m + (h - 1 - c) by omega, ← List.append_assoc A]; exact mid_in (by simp; omega) hcY
     have gX : X.getD c 0 = X[c] := by rw [List.getD_eq_getElem?_getD, List.getElem?_eq_getElem hcX]; rfl
     have gY : Y.getD (h - 1 - c) 0 = Y[h - 1 - c] := by rw [List.getD_eq_getElem?_getD, List.getElem?_eq_getElem hcY]; rfl
     have hxy := hXY _ (List.getElem_mem hcX) _ (List.getElem_mem hcY); refine r_dr H1 fun w2 S2 H2 => ?_; refine r_subN (by omega) (by omega) ?_; refine g_get 0 H2 rfl e2 (g_get 0 H2 rfl e1 ?_); refine hc H2 (hYW _ (List.getElem_mem hcY)) (hXW _ (List.getElem_mem hcX)) fun z w3 hz S3 H3 => ?_; refine r_lss ?_
     by_cases hz0 : z < 0
     · rw [decide_eq_true hz0]; refine r_notT (r_vf ?_); refine r_ke ⟨⟨σ, c, rfl, rfl, b0, by omega, by omega, b3, fun _ => ?_, S1.trans (S2.trans S3), H3⟩, ?_⟩
       · rw [gX, gY]; exact (less_of hxy).1 (hz.1 hz0)
       · simp only [nv, RowKit.intOf, Int.toNat_natCast]; omega
     · rw [decide_eq_false hz0]; refine r_notF (r_vt ?_); refine r_add1N (by omega) (r_ke ⟨⟨c + 1, ρ, rfl, rfl, by omega, by omega, b2, fun _ => ?_, b4, S1.trans (S2.trans S3), H3⟩, ?_⟩)
       · rw [show c + 1 - 1 = c by omega, show h - (c + 1) = h - 1 - c by omega, gX, gY]; exact lt_of_not hxy fun e => hz0 (hz.2 e)
       · simp only [nv, RowKit.intOf, Int.toNat_natCast]; omega
   obtain rfl : σ = ρ := by omega
   obtain ⟨c1, c2⟩ := sym_cut hsX hsY hcase b0 b2 (by omega) b3 b4 (by omega) (by omega)
   have lX1 : (X.take σ).length = σ := by rw [List.length_take]; omega
   have lX2 : (X.drop σ).length = X.length - σ := List.length_drop ..
   have lY1 : (Y.take (h - σ)).length = h - σ := by rw [List.length_take]; omega
   have lY2 : (Y.drop (h - σ)).length = Y.length - (h - σ) := List.length_drop ..; have eX : X = X.take σ ++ X.drop σ := (List.take_append_drop _ _).symm; have eY : Y = Y.take (h - σ) ++ Y.drop (h - σ) := (List.take_append_drop _ _).symm; have oX1 : ∀ x ∈ X.take σ, x ∈ X := fun x hx => List.mem_of_mem_take hx; have oX2 : ∀ x ∈ X.drop σ, x ∈ X := fun x hx => List.mem_of_mem_drop hx; have oY1 : ∀ x ∈ Y.take (h - σ), x ∈ Y := fun x hx => List.mem_of_mem_take hx; have oY2 : ∀ x ∈ Y.drop (h - σ), x ∈ Y := fun x hx => List.mem_of_mem_drop hx; have sX1 : Srt W (X.take σ) := hsX.sublist (List.take_sublist _ _); have sX2 : Srt W (X.drop σ) := hsX.sublist (List.drop_sublist _ _); have sY1 : Srt W (Y.take (h - σ)) := hsY.sublist (List.take_sublist _ _); have sY2 : Srt W (Y.drop (h - σ)) := hsY.sublist (List.drop_sublist _ _); rw [eX] at hsX; rw [eY] at hsY; have fin := fun Z1 Z2 p1 p2 s1 s2 => halves (Z1 := Z1) (Z2 := Z2) hsX hsY c1 c2 p1 p2 s1 s2; rw [← eX, ← eY] at fin
   have H1 : Holds w1 (RE E v (A ++ (X.take σ ++ (X.drop σ ++ (Y.take (h - σ) ++ (Y.drop (h - σ) ++ B))))) :: L) := by
     rw [eX, eY] at H1; simpa only [List.append_assoc] using H1
   generalize X.take σ = X1 at *; generalize X.drop σ = X2 at *; generalize Y.take (h - σ) = Y1 at *; generalize Y.drop (h - σ) = Y2 at *; refine r_subN (by omega) (by omega) ?_; rw [show a + h + m - (a + σ) = m + Y1.length by omega]; refine r_join0 (fun w' => Same w w' ∧ Holds w' (RE E v (A ++ (X1 ++ (Y1 ++ (X2 ++ (Y2 ++ B))))) :: L)) ?_ ?_
   rotate_left
   · refine r_join1 (fun t w' => w1 = w' ∧ t = .bool (decide (0 < X2.length ∧ 0 < Y1.length))) ?_ ?_
     rotate_left
     · refine r_lss (r_ifD (fun q => ?_) fun q => ?_)
       · refine r_lss (r_ke ⟨rfl, ?_⟩)
         congr 1
         exact decide_eq_decide.2 (by omega)
       · exact r_ke ⟨rfl, by rw [decide_eq_false (by omega)]⟩
     rintro _ _ _ ⟨rfl, rfl⟩; refine r_ifD (fun q => ?_) fun q => ?_
     · refine rotate_spec (A := A ++ X1) (U := X2) (V := Y1) (B := Y2 ++ B) (by simpa only [List.append_assoc] using H1) (by simp; omega) (by omega) rfl (List.length_pos_iff.1 q.1) (List.length_pos_iff.1 q.2) (by omega) fun w2 S2 H2 => ?_; exact r_ke ⟨S1.trans S2, by simpa only [List.append_assoc] using H2⟩
     · refine r_ke ⟨S1, ?_⟩
       by_cases q1 : X2.length = 0
       · rw [List.eq_nil_of_length_eq_zero q1] at H1 ⊢; exact H1
       · rw [List.eq_nil_of_length_eq_zero (show Y1.length = 0 by omega)] at H1 ⊢; exact H1
   clear H1 S1; rintro _ w2 ⟨S2, H2⟩; refine r_join0 (fun w' => ∃ Z1, Z1.Perm (X1 ++ Y1) ∧ Srt W Z1 ∧ Same w w' ∧ Holds w' (RE E v (A ++ (Z1 ++ (X2 ++ (Y2 ++ B)))) :: L)) ?_ ?_
   rotate_left
   · refine r_join1 (fun t w' => w2 = w' ∧ t = .bool (decide (0 < X1.length ∧ 0 < Y1.length))) ?_ ?_
     rotate_left
     · refine r_lss (r_ifD (fun q => ?_) fun q => ?_)
       · refine r_lss (r_ke ⟨rfl, ?_⟩)
         congr 1
         exact decide_eq_decide.2 (by omega)
       · exact r_ke ⟨rfl, by rw [decide_eq_false (by omega)]⟩
     rintro _ _ _ ⟨rfl, rfl⟩; refine r_ifD (fun q => ?_) fun q => ?_
     · refine ih (X := X1) (Y := Y1) (B := X2 ++ (Y2 ++ B)) (by omega) hc H2 ha (by omega) (by omega) (List.length_pos_iff.1 q.1) (List.length_pos_iff.1 q.2) sX1 sY1 (fun x hx => hXW x (oX1 x hx)) (fun x hx => hYW x (oY1 x hx)) (fun x hx y hy => hXY x (oX1 x hx) y (oY1 y hy)) (by omega) fun Z w3 p3 s3 S3 H3 => ?_; exact r_ke ⟨Z, p3, s3, S2.trans S3, H3⟩
     · refine r_ke ⟨X1 ++ Y1, .refl _, ?_, S2, by simpa only [List.append_assoc] using H2⟩
       by_cases q1 : X1.length = 0
       · rw [List.eq_nil_of_length_eq_zero q1, List.nil_append]; exact sY1
       · rw [List.eq_nil_of_length_eq_zero (show Y1.length = 0 by omega), List.append_nil]; exact sX1
   clear H2 S2; rintro _ w3 ⟨Z1, p1, s1, S3, H3⟩
   have lZ1 : Z1.length = h := by rw [p1.length_eq, List.length_append]; omega
   refine r_join1 (fun t w' => w3 = w' ∧ t = .bool (decide (0 < X2.length ∧ 0 < Y2.length))) ?_ ?_
   rotate_left
   · refine r_lss (r_ifD (fun q => ?_) fun q => ?_)
     · refine r_lss (r_ke ⟨rfl, ?_⟩)
       congr 1
       exact decide_eq_decide.2 (by omega)
     · exact r_ke ⟨rfl, by rw [decide_eq_false (by omega)]⟩
   rintro _ _ _ ⟨rfl, rfl⟩; refine r_ifD (fun q => ?_) fun q => ?_
   · refine ih (A := A ++ Z1) (X := X2) (Y := Y2) (B := B) (by omega) hc (by simpa only [List.append_assoc] using H3) (by simp; omega) (by omega) (by omega) (List.length_pos_iff.1 q.1) (List.length_pos_iff.1 q.2) sX2 sY2 (fun x hx => hXW x (oX2 x hx)) (fun x hx => hYW x (oY2 x hx)) (fun x hx y hy => hXY x (oX2 x hx) y (oY2 y hy)) (by omega) fun Z w4 p4 s4 S4 H4 => ?_; obtain ⟨f1, f2⟩ := fin Z1 Z p1 p4 s1 s4; exact k _ _ f1 f2 (S3.trans S4) (by simpa only [List.append_assoc] using H4)
   · obtain ⟨f1, f2⟩ := fin Z1 (X2 ++ Y2) p1 (.refl _) s1 (by
       by_cases q1 : X2.length = 0
       · rw [List.eq_nil_of_length_eq_zero q1, List.nil_append]; exact sY2
       · rw [List.eq_nil_of_length_eq_zero (show Y2.length = 0 by omega), List.append_nil]; exact sX2)
     exact k _ _ f1 f2 S3 (by simpa only [List.append_assoc] using H3)
theorem stable_spec {n : Nat} (hc : CmpOk E W v f L) (H : Holds w (RE E v (List.range' 0 n) :: L)) (hW : n ≤ W.length) (hn : n ≤ 1000000)
   (k : ∀ Z w', Seg W 0 Z → Z.length = n → Same w w' → Holds w' (RE E v Z :: L) → K (.tuple #[]) w') : Cl Tryz.prog F.slices_stableCmpFunc_project_End #[v, nv n, f] w K := by
 refine Tie.slices_stableCmpFunc_project_End ?_; unfold Vcf.slices_stableCmpFunc_project_End
 refine r_loop2 (fun x y w' => ∃ (a : Nat) (Dn : List Nat), x = nv a ∧ y = nv (a + 20) ∧ a ≤ n ∧ Dn.length = a ∧ (∀ R, Runs W 20 a R → Runs W 20 0 (Dn ++ R)) ∧ Same w w' ∧ Holds w' (RE E v (Dn ++ List.range' a (n - a)) :: L)) (fun x _ _ => n - (RowKit.intOf x).toNat)
   ⟨0, [], rfl, rfl, Nat.zero_le _, rfl, fun _ r => r, .refl _, H⟩ ?_
 clear H; rintro _ _ _ w1 ⟨a, Dn, rfl, rfl, ha, hl, hr, S1, H1⟩; have hinc : ∀ lo m, (List.range' lo m).Pairwise (· < ·) := fun lo m => List.pairwise_lt_range'
 have hmem : ∀ lo m, lo + m ≤ n → ∀ x ∈ List.range' lo m, x < W.length := fun lo m h x hx => by
   have := List.mem_range'_1.1 hx; omega
 refine r_leq (r_ifD (fun h => ?_) fun h => ?_)
 · rw [range_cut a (n - a) 20 (by omega)] at H1; refine insertion_spec (A := Dn) (X := List.range' a 20) hc H1 hl (by simp) (hmem _ _ (by omega)) (hinc _ _) (by omega) fun Z w2 p s S2 H2 => ?_
   have hZ : Z.length = 20 := by rw [p.length_eq]; simp
   refine r_addN (b := 20) (by omega) (r_ke ⟨⟨a + 20, Dn ++ Z, rfl, rfl, by omega, by rw [List.length_append]; omega, fun R r => ?_, S1.trans S2, ?_⟩, ?_⟩)
   · rw [List.append_assoc]; exact hr _ (.cons ⟨by rw [hZ]; exact p, s⟩ hZ r)
   · rw [show n - (a + 20) = n - a - 20 by omega, List.append_assoc]; exact H2
   · simp only [nv, RowKit.intOf, Int.toNat_natCast]; omega
 rw [show Dn ++ List.range' a (n - a) = Dn ++ (List.range' a (n - a) ++ []) by simp] at H1; refine insertion_spec (A := Dn) (X := List.range' a (n - a)) hc H1 hl (by simp; omega) (hmem _ _ (by omega)) (hinc _ _) (by omega) fun Z w2 p s S2 H2 => ?_
 have hZ : Z.length = n - a := by rw [p.length_eq]; simp
 have hruns := hr Z (.last ⟨by rw [hZ]; exact p, s⟩ (by omega)); rw [List.append_nil] at H2
 refine r_loop1 (fun x w' => ∃ (s : Nat) (D : List Nat), x = nv s ∧ 20 ≤ s ∧ s ≤ 10000000 ∧ Runs W s 0 D ∧ D.length = n ∧ Same w w' ∧ Holds w' (RE E v D :: L)) (fun x _ => n - (RowKit.intOf x).toNat)
   ⟨20, _, rfl, by omega, by omega, hruns, by rw [List.length_append]; omega, S1.trans S2, H2⟩ ?_
 clear H1 S1 H2 S2 hruns hr; rintro _ _ w3 ⟨bs, D, rfl, hs20, hsb, hru, hDl, S3, H3⟩; refine r_lss (r_ifD (fun hlt => ?_) fun hlt => ?_)
 rotate_left
 · exact k D _ (runs_whole hru (by omega) (by omega)) hDl S3 H3
 have hbn : bs < n := by omega
 refine r_mulE ((2 * bs : Nat) : Int) (by omega) (by omega) (by omega) ?_
 refine r_loop2 (fun x y w' => ∃ (a : Nat) (Dn R : List Nat), x = nv a ∧ y = nv (a + 2 * bs) ∧ Dn.length = a ∧ a + R.length = n ∧ Runs W bs a R ∧ (∀ R, Runs W (2 * bs) a R → Runs W (2 * bs) 0 (Dn ++ R)) ∧ Same w w' ∧ Holds w' (RE E v (Dn ++ R) :: L)) (fun x _ _ => n - (RowKit.intOf x).toNat)
   ⟨0, [], D, rfl, by rw [Nat.zero_add], rfl, by omega, hru, fun _ r => r, S3, H3⟩ ?_
 clear H3 S3 hru hDl; rintro _ _ _ w4 ⟨a2, Dn2, R, rfl, rfl, hl2, hR, hru, hr2, S4, H4⟩; refine r_leq (r_ifD (fun h2 => ?_) fun h2 => ?_)
 · obtain ⟨X, R1, rfl, gX, lX, r1⟩ := runs_head hru (by omega); rw [List.length_append] at hR; obtain ⟨Y, R2, rfl, gY, lY, r2⟩ := runs_head r1 (by omega); rw [List.length_append] at hR; refine r_addN (by omega) ?_
   refine sym_spec _ (A := Dn2) (X := X) (Y := Y) (B := R2) (Nat.le_refl _) hc H4 hl2 (by omega) (by omega) (fun e => by rw [e, List.length_nil] at lX; omega) (fun e => by rw [e, List.length_nil] at lY; omega) gX.2 gY.2
     (fun x hx => Nat.lt_of_lt_of_le (seg_lt gX (Nat.le_refl _) x hx) (by omega)) (fun x hx => Nat.lt_of_lt_of_le (seg_lt gY (Nat.le_refl _) x hx) (by omega)) (seg_less gX lX gY) (by omega) fun Z w5 p s S5 H5 => ?_
   have lZ : Z.length = 2 * bs := by rw [p.length_eq, List.length_append]; omega
   refine r_mulE ((2 * bs : Nat) : Int) (by omega) (by omega) (by omega) ?_; refine r_addN (by omega) (r_ke ⟨⟨a2 + 2 * bs, Dn2 ++ Z, R2, rfl, rfl, by rw [List.length_append]; omega, by omega, ?_, fun Q q => ?_, S4.trans S5, ?_⟩, ?_⟩)
   · rw [show a2 + 2 * bs = a2 + bs + bs by omega]; exact r2
   · rw [List.append_assoc]; exact hr2 _ (.cons (gX.join lX gY p s) lZ q)
   · rw [List.append_assoc]; exact H5
   · simp only [nv, RowKit.intOf, Int.toNat_natCast]; omega
 refine r_addN (by omega) (r_lss (r_ifD (fun h3 => ?_) fun h3 => ?_))
 · obtain ⟨X, Y, rfl, gX, lX, r1⟩ := runs_head hru (by omega); rw [List.length_append] at hR; have gY := runs_whole r1 (by omega) (by omega); rw [show Dn2 ++ (X ++ Y) = Dn2 ++ (X ++ (Y ++ [])) by rw [List.append_nil]] at H4
   refine sym_spec _ (A := Dn2) (X := X) (Y := Y) (B := []) (Nat.le_refl _) hc H4 hl2 (by omega) (by omega) (fun e => by rw [e, List.length_nil] at lX; omega) (fun e => by rw [e, List.length_nil] at hR; omega) gX.2 gY.2
     (fun x hx => Nat.lt_of_lt_of_le (seg_lt gX (Nat.le_refl _) x hx) (by omega)) (fun x hx => Nat.lt_of_lt_of_le (seg_lt gY (Nat.le_refl _) x hx) (by omega)) (seg_less gX lX gY) (by omega) fun Z w5 p s S5 H5 => ?_
   have lZ : Z.length = bs + Y.length := by rw [p.length_eq, List.length_append]; omega
   rw [List.append_nil] at H5; refine r_mulE ((2 * bs : Nat) : Int) (by omega) (by omega) (by omega) ?_; refine r_ke ⟨⟨2 * bs, Dn2 ++ Z, rfl, by omega, by omega, hr2 Z (.last (gX.join lX gY p s) (by omega)), by rw [List.length_append]; omega, S4.trans S5, H5⟩, ?_⟩; simp only [nv, RowKit.intOf, Int.toNat_natCast]; omega
 · refine r_mulE ((2 * bs : Nat) : Int) (by omega) (by omega) (by omega) ?_; refine r_ke ⟨⟨2 * bs, Dn2 ++ R, rfl, by omega, by omega, hr2 R (.last (runs_whole hru (by omega) (by omega)) (by omega)), by rw [List.length_append]; omega, S4, H4⟩, ?_⟩; simp only [nv, RowKit.intOf, Int.toNat_natCast]; omega
theorem sort_spec {n : Nat} (hc : CmpOk E W v f L) (H : Holds w (RE E v (List.range' 0 n) :: L)) (hW : n ≤ W.length) (hn : n ≤ 1000000)
   (k : ∀ Z w', Seg W 0 Z → Z.length = n → Same w w' → Holds w' (RE E v Z :: L) → K (.tuple #[]) w') : Cl Tryz.prog F.slices_SortStableFunc_project_End_project_End #[v, f] w K := by
 refine Tie.slices_SortStableFunc_project_End_project_End ?_; unfold Vcf.slices_SortStableFunc_project_End_project_End; refine g_len 0 H rfl ?_; rw [List.length_range']; refine stable_spec hc H hW hn fun Z w' g l S' H' => ?_; exact k Z w' g l S' H'
theorem cmp_ok {f : Value} (hf : f = .func (.func F.project_see_1) #[] #[]) (hW : W = E.map fun e => e.id.toNat) (hE : ∀ e ∈ E, 0 ≤ e.id) : CmpOk E W v f L := by
 intro D w x y Q H hx hy k; subst hf hW; rw [List.length_map] at hx hy
 have gx : ∀ x, x < E.length → E.getD x e0 ∈ E ∧ (((E.map fun e => e.id.toNat).getD x 0 : Nat) : Int) = (E.getD x e0).id := by
   intro x hx; have h1 : E[x]? = some E[x] := List.getElem?_eq_getElem hx; rw [List.getD_eq_getElem?_getD, List.getD_eq_getElem?_getD, List.getElem?_map, h1]; have := hE E[x] (List.getElem_mem hx); exact ⟨List.getElem_mem hx, by show ((E[x].id.toNat : Nat) : Int) = E[x].id; omega⟩
 obtain ⟨_, ex⟩ := gx x hx; obtain ⟨_, ey⟩ := gx y hy; refine r_inv (f := F.project_see_1) (args := #[vE E x, vE E y]) (by kernel_rfl) ?_; refine Tie.project_see_1 ?_; unfold Vcf.project_see_1; refine r_new H fun xb w1 S1 H1 => ?_; replace H1 : Holds w1 (blk xb tEn (cE E x) :: RE E v D :: L) := H1; refine r_new H1 fun yb w2 S2 H2 => ?_; replace H2 : Holds w2 (blk yb tEn (cE E y) :: blk xb tEn (cE E x) :: RE E v D :: L) := H2; refine r_fo0 (r_ld 1 H2 (v := iv (E.getD x e0).id) rfl rfl (r_fo0 (r_ld 0 H2 (v := iv (E.getD y e0).id) rfl rfl ?_))); generalize hp : (E.getD x e0).id = p; generalize hq : (E.getD y e0).id = q; rw [hp] at ex; rw [hq] at ey
 have nan : ∀ (c : Int) {K : Value → World → Prop}, K (.bool false) w2 → Cl Tryz.prog F.cmp_isNaN_int #[iv c] w2 K := by
   intro c K h; refine Tie.cmp_isNaN_int ?_; unfold Vcf.cmp_isNaN_int; refine r_neq ?_; rw [show (c != c) = false by simp]; exact h
 refine r_cl (K := fun z w' => w2 = w' ∧ ∃ c : Int, z = iv c ∧ (c < 0 ↔ p < q)) ?_ ?_
 · refine Tie.cmp_Compare_int ?_; unfold Vcf.cmp_Compare_int; refine nan p (nan q (r_vf (r_vf ?_))); refine r_lss (r_ifD (fun h => ?_) fun h => ?_)
   · exact ⟨rfl, -1, rfl, by omega⟩
   · refine r_gtr (r_ifD (fun h2 => ?_) fun h2 => ?_)
     · exact ⟨rfl, 1, rfl, by omega⟩
     · exact ⟨rfl, 0, rfl, by omega⟩
 rintro _ _ ⟨rfl, c, rfl, hcc⟩; exact k c _ (by rw [hcc]; omega) (S1.trans S2) H2.drop.drop
end S46
namespace S46
open Go.Mh Go.Ms P46 O46 A46
variable {w : World} {L : List HProp} {K : Value → World → Prop}
abbrev tU8 : Nat := 5
abbrev tMb : Nat := 125
abbrev tMi : Nat := 126
instance rowEn : RowN Tryz.prog 42 tEn 4 := ⟨by kernel_rfl, ⟨Tryz.t67, .agg (cellsEn En0).toArray, by kernel_rfl, by kernel_rfl, by decide, by kernel_rfl, by kernel_rfl⟩⟩
instance rowU8 : Row Tryz.prog 127 5 (.int .u8 0) := ⟨by kernel_rfl, ⟨Tryz.t5, by kernel_rfl, by kernel_rfl, by decide, by kernel_rfl⟩, rfl⟩
instance bytesU8 : Bytes Tryz.prog 127 5 9 := ⟨by kernel_rfl, by kernel_rfl, by kernel_rfl⟩
def feOk (E : List En) (fe : Int → Option Value) : Prop := ∀ k, (hasId E k ∧ ∃ n : Nat, fe k = some (nv n) ∧ 0 < n) ∨ (¬ hasId E k ∧ fe k = none)
theorem texts_len {l : List An} (h : ∀ x ∈ l, x.tx.data.toList.length ≤ 65536) (k : Int) : (textsOf l k).length ≤ l.length * 65536 := by
 unfold textsOf
 induction l with
 | nil => simp
 | cons a r ih =>
   have h1 := ih fun x hx => h x (List.mem_cons_of_mem _ hx); have h2 := h a (List.mem_cons_self ..)
   by_cases hk : isTx a k
   · rw [List.filter_cons_of_pos (by simpa using hk), List.flatMap_cons, List.length_append, List.length_cons, Nat.succ_mul]; exact Nat.le_trans (Nat.add_le_add h2 h1) (Nat.le_of_eq (Nat.add_comm ..))
   · rw [List.filter_cons_of_neg (by simpa using hk), List.length_cons, Nat.succ_mul]; exact Nat.le_trans h1 (Nat.le_add_right ..)
theorem RE_of (i : Nat) {v : Value} {E : List En} (H : Holds w L) (hi : L[i]? = some (RW cellsEn 4 tEn v E)) : Holds w (L.set i (RE E v (List.range' 0 E.length))) := by
 refine H.at i hi fun g hg => ?_; obtain ⟨oa, m, sp, hv, hg⟩ := hg
 have hf : flatL (cE E) (List.range' 0 E.length) = flatL cellsEn E := by
   have key : ∀ (xs : List Nat), flatL (cE E) xs = flatL cellsEn (xs.map fun i => E.getD i e0) := by
     intro xs
     induction xs with
     | nil => rfl
     | cons x r ih => rw [flatL, List.map_cons, flatL, ih]; rfl
   rw [key]
   congr 1
   apply List.ext_getElem?; intro i; rw [List.getElem?_map]
   by_cases h : i < E.length
   · rw [List.getElem?_range' (by omega)]; simp [List.getD_eq_getElem?_getD, List.getElem?_eq_getElem h]
   · rw [List.getElem?_eq_none (by simpa using h), List.getElem?_eq_none (by omega)]; rfl
 refine ⟨oa, m, sp, by rw [List.length_range']; exact hv, ?_⟩
 cases oa with
 | none =>
   obtain ⟨h1, h2⟩ := hg; subst h1; exact ⟨rfl, h2⟩
 | some a =>
   obtain ⟨h1, h2, h3, h4⟩ := hg; exact ⟨h1, h2, h3, by rw [hf]; exact h4⟩
theorem RW_of (i : Nat) {v : Value} {E : List En} {Z : List Nat} (H : Holds w L) (hi : L[i]? = some (RE E v Z)) : Holds w (L.set i (RW cellsEn 4 tEn v (Z.map fun i => E.getD i e0))) := by
 refine H.at i hi fun g hg => ?_; obtain ⟨oa, m, sp, hv, hg⟩ := hg
 have key : ∀ (xs : List Nat), flatL (cE E) xs = flatL cellsEn (xs.map fun i => E.getD i e0) := by
   intro xs
   induction xs with
   | nil => rfl
   | cons x r ih => rw [flatL, List.map_cons, flatL, ih]; rfl
 refine ⟨oa, m, sp, by rw [List.length_map]; exact hv, ?_⟩
 cases oa with
 | none =>
   obtain ⟨h1, h2⟩ := hg; subst h1; exact ⟨rfl, h2⟩
 | some a =>
   obtain ⟨h1, h2, h3, h4⟩ := hg; exact ⟨h1, h2, h3, by rw [← key]; exact h4⟩
theorem see_spec {a : Option Addr} {l : List An} {c : Nat} (H : Holds w L) (hA : AnIn L a l) (hl : l.length ≤ 900) (hb : ∀ x ∈ l, 0 ≤ x.jb ∧ x.tx.data.toList.length ≤ 65536)
   (k : ∀ o1 q1 o2 q2 w', Same w w' → Holds w' (RW cellsEn 4 tEn (.slice o1 (seeD l).length q1) (seeD l) :: RW cellsAn 4 tAn (.slice o2 (refsOf l).length q2) (refsOf l) :: L) → K (.agg (cellsV o1 (seeD l).length q1 o2 (refsOf l).length q2).toArray) w') :
   Cl Tryz.prog F.project_see #[.slice a l.length c] w K := by
 refine Tie.project_see ?_; unfold Vcf.project_see; refine r_new H fun xb w1 S1 H1 => ?_; rw [vi_zero] at H1; refine r_new H1 fun vb w2 S2 H2 => ?_; rw [vi_zero] at H2; refine r_mmM H2 fun mb w3 S3 H3 => ?_; refine r_mmM H3 fun eb w4 S4 H4 => ?_; refine r_lnl ?_
 have H5 : Holds w4 (TM tU8 mb [] :: MP eb (fun _ => none) :: RW cellsEn 4 tEn (.slice none 0 0) [] :: RW cellsAn 4 tAn (.slice none 0 0) [] :: blk vb tVi (cellsV none 0 0 none 0 0) :: blk xb tVi (cellsV none 0 0 none 0 0) :: L) := by
   have g1 : Holds w4 (MP mb (fmT []) :: MP eb (fun _ => none) :: blk vb tVi (cellsV none 0 0 none 0 0) :: blk xb tVi (cellsV none 0 0 none 0 0) :: L) := Holds.swap H4; have g2 := Holds.pack (A := [MP mb (fmT [])]) g1; have g3 := (g2.nilRW cellsAn 4 tAn).nilRW cellsEn 4 tEn; have h_ := Holds.ord 4 [2, 3, 0, 1] g3 rfl; exact h_
 refine r_loop1 (fun y w' => ∃ (i : Nat) (es : List Tx) (fe : Int → Option Value) (o1 : Option Addr) (q1 : Nat) (o2 : Option Addr) (q2 : Nat), i ≤ l.length ∧ y = nv i ∧ (∀ k, byT es k = textsOf (l.take i) k) ∧ feOk (seeP (l.take i)) fe ∧ Same w w' ∧
     Holds w' (TM tU8 mb es :: MP eb fe :: RW cellsEn 4 tEn (.slice o1 (seeP (l.take i)).length q1) (seeP (l.take i)) :: RW cellsAn 4 tAn (.slice o2 (refsOf (l.take i)).length q2) (refsOf (l.take i)) ::
       blk vb tVi (cellsV o1 (seeP (l.take i)).length q1 o2 (refsOf (l.take i)).length q2) :: blk xb tVi (cellsV none 0 0 none 0 0) :: L))
   (fun y _ => l.length - (RowKit.intOf y).toNat) ⟨0, [], _, none, 0, none, 0, by omega, rfl, fun k => rfl, fun k => .inr ⟨fun ⟨e, he, _⟩ => (by cases he), rfl⟩, S1.trans (S2.trans (S3.trans S4)), H5⟩ ?_
 clear S1 S2 S3 S4 H H1 H2 H3 H4 H5; rintro _ _ w5 ⟨i, es, fe, o1, q1, o2, q2, hi, rfl, hes, hfe, S, H⟩; refine r_lss (r_ifD (fun h => ?_) fun h => ?_)
 rotate_left
 · obtain rfl : i = l.length := by omega
   rw [List.take_length] at *; refine r_fo0 (r_ld 4 H rfl rfl ?_); have hn := seeP_len l
   have hid : ∀ e ∈ seeP l, 0 ≤ e.id := by
     have key : ∀ (m : List An), (∀ x ∈ m, 0 ≤ x.jb) → ∀ e ∈ seeP m.reverse, 0 ≤ e.id := by
       intro m
       induction m with
       | nil => intro _ e he; cases he
       | cons x r ih =>
         intro hm e he; rw [List.reverse_cons, seeP_app] at he; split at he
         · rcases List.mem_append.1 he with he | he
           · exact ih (fun y hy => hm y (List.mem_cons_of_mem _ hy)) e he
           · rw [List.mem_singleton.1 he]; exact hm x (List.mem_cons_self ..)
         · exact ih (fun y hy => hm y (List.mem_cons_of_mem _ hy)) e he
     have := key l.reverse (fun x hx => (hb x (List.mem_reverse.1 hx)).1)
     rwa [List.reverse_reverse] at this
   have H6 := RE_of 2 H rfl
   have H7 : Holds w5 (RE (seeP l) (.slice o1 (seeP l).length q1) (List.range' 0 (seeP l).length) :: TM tU8 mb es :: MP eb fe :: RW cellsAn 4 tAn (.slice o2 (refsOf l).length q2) (refsOf l) ::
       blk vb tVi (cellsV o1 (seeP l).length q1 o2 (refsOf l).length q2) :: blk xb tVi (cellsV none 0 0 none 0 0) :: L) := by
     have h_ := Holds.ord 3 [2, 0, 1] H6 rfl; exact h_
   refine sort_spec (cmp_ok (E := seeP l) rfl rfl hid) H7 (by rw [List.length_map]; exact Nat.le_refl _) (by omega) fun Z w6 hs hZ S6 H8 => ?_; have hsee := sorted_see e0 rfl hid rfl hs hZ; have hlen : (seeD l).length = (seeP l).length := (see_sort l).2.length_eq; have H9 := RW_of 0 H8 rfl; rw [hsee] at H9
   replace H9 : Holds w6 (RW cellsEn 4 tEn (.slice o1 (seeP l).length q1) (seeD l) :: TM tU8 mb es :: MP eb fe :: RW cellsAn 4 tAn (.slice o2 (refsOf l).length q2) (refsOf l) ::
       blk vb tVi (cellsV o1 (seeP l).length q1 o2 (refsOf l).length q2) :: blk xb tVi (cellsV none 0 0 none 0 0) :: L) := H9
   rw [← hlen] at H9; refine r_ldA 4 H9 (cellsV o1 (seeD l).length q1 o2 (refsOf l).length q2) rfl rfl rfl ?_; refine r_stA 5 H9 (vs := cellsV o1 (seeD l).length q1 o2 (refsOf l).length q2) rfl (Nat.le_refl 2) rfl rfl fun w7 S7 H10 => ?_; refine r_ldA 5 H10 (cellsV o1 (seeD l).length q1 o2 (refsOf l).length q2) rfl rfl rfl ?_; exact k o1 q1 o2 q2 w7 (S.trans (S6.trans S7)) (Holds.dropAt (Holds.dropAt (Holds.dropAt (Holds.dropAt H10 4) 4) 1) 1)
 have hlt : i < l.length := by omega
 obtain ⟨x, hx⟩ : ∃ x, l[i]? = some x := ⟨_, List.getElem?_eq_getElem hlt⟩; obtain ⟨hx0, hxt⟩ := hb x (List.mem_of_getElem? hx)
 have htk : l.take (i + 1) = l.take i ++ [x] := by rw [List.take_add_one, hx]; rfl
 have et := fun k => texts_app (l.take i) x k; have ep := seeP_app (l.take i) x; have er := refs_app (l.take i) x; simp only [← htk] at et ep er; have hpl := seeP_len (l.take i); have hrl := refs_len (l.take i); rw [List.length_take] at hpl hrl; refine S4r.r_ldG hA.up.up.up.up.up.up H hx rfl hlt ?_; refine r_new H fun ab w6 S6 H6 => ?_; rw [an_zero] at H6; refine r_stA 0 H6 (vs := cellsAn x) rfl (Nat.le_refl 4) rfl rfl fun w7 S7 H7 => ?_; replace S := S.trans (S6.trans S7)
 replace H7 : Holds w7 (blk ab tAn (cellsAn x) :: TM tU8 mb es :: MP eb fe :: RW cellsEn 4 tEn (.slice o1 (seeP (l.take i)).length q1) (seeP (l.take i)) :: RW cellsAn 4 tAn (.slice o2 (refsOf (l.take i)).length q2) (refsOf (l.take i)) ::
       blk vb tVi (cellsV o1 (seeP (l.take i)).length q1 o2 (refsOf (l.take i)).length q2) :: blk xb tVi (cellsV none 0 0 none 0 0) :: L) := H7
 clear S6 S7 H H6
 -- a round that changes neither ends nor refusals
 have idle : ∀ (es' : List Tx) w', ¬ (isEnd x ∧ ¬ hasId (seeP (l.take i)) x.jb) → ¬ isRef x → (∀ k, byT es' k = textsOf (l.take (i + 1)) k) → Same w w' → Holds w' (TM tU8 mb es' :: MP eb fe :: RW cellsEn 4 tEn (.slice o1 (seeP (l.take i)).length q1) (seeP (l.take i)) :: RW cellsAn 4 tAn (.slice o2 (refsOf (l.take i)).length q2) (refsOf (l.take i)) ::
       blk vb tVi (cellsV o1 (seeP (l.take i)).length q1 o2 (refsOf (l.take i)).length q2) :: blk xb tVi (cellsV none 0 0 none 0 0) :: L) →
     (∃ (i_1 : Nat) (es : List Tx) (fe : Int → Option Value) (o1 : Option Addr) (q1 : Nat) (o2 : Option Addr) (q2 : Nat), i_1 ≤ l.length ∧ nv (i + 1) = nv i_1 ∧ (∀ k, byT es k = textsOf (l.take i_1) k) ∧ feOk (seeP (l.take i_1)) fe ∧ Same w w' ∧
     Holds w' (TM tU8 mb es :: MP eb fe :: RW cellsEn 4 tEn (.slice o1 (seeP (l.take i_1)).length q1) (seeP (l.take i_1)) :: RW cellsAn 4 tAn (.slice o2 (refsOf (l.take i_1)).length q2) (refsOf (l.take i_1)) ::
       blk vb tVi (cellsV o1 (seeP (l.take i_1)).length q1 o2 (refsOf (l.take i_1)).length q2) :: blk xb tVi (cellsV none 0 0 none 0 0) :: L)) := by
   intro es' w' n1 n2 g1 Sz Hz; rw [if_neg n1] at ep; rw [if_neg n2, List.append_nil] at er; refine ⟨i + 1, es', fe, o1, q1, o2, q2, by omega, rfl, g1, by rw [ep]; exact hfe, Sz, ?_⟩; rw [ep, er]; exact Hz
 have mu : l.length - (RowKit.intOf (nv (i + 1))).toNat < l.length - (RowKit.intOf (nv i)).toNat := by
   simp only [RowKit.intOf, Int.toNat_natCast]; omega
 refine r_fo0 (r_ld 0 H7 (v := iv x.ty) rfl rfl (r_eql (r_ifE (fun g1 => ?_) fun g1 => ?_)))
 · refine r_dr H7 fun w8 S8 H8 => ?_; refine r_fo0 (r_ld 0 H8 (v := iv x.jb) rfl rfl (r_fo0 (r_ld 0 H8 (v := iv x.jb) rfl rfl ?_))); refine r_lkT (t := tMb) (kt := tIn) (et := 127) (x := .l none 0 0) (by kernel_rfl) (by kernel_rfl) (by kernel_rfl) rfl 1 H8 rfl ?_; refine r_fo0 (r_ld 0 H8 (v := .string ⟨x.tx.data.toList.toArray⟩) rfl rfl ?_); have hle := texts_len (l := l.take i) (fun y hy => (hb y (List.mem_of_mem_take hy)).2) x.jb; rw [List.length_take] at hle; refine r_apT (es := es) (k := x.jb) (by kernel_rfl) (Holds.swap H8) (by rw [hes]; omega) fun v w9 S9 H9 => ?_; refine r_rk (r_ld 1 H9 (v := iv x.jb) rfl rfl rfl) ?_; refine r_muT (t := tMb) (kt := tIn) (et := 127) (by kernel_rfl) (by kernel_rfl) H9 fun w10 S10 H10 => ?_; refine r_add1N (by omega) (r_ke ⟨idle _ w10 (fun q => by have := q.1; unfold isEnd at this; omega) (fun q => by have := q.1; omega) (fun k => ?_) (S.trans (S8.trans (S9.trans S10))) (Holds.dropAt H10 1), mu⟩); rw [byT_put, et, hes, hes]
   by_cases hk : k = x.jb
   · subst hk; rw [if_pos rfl, if_pos ⟨g1, rfl⟩]
   · rw [if_neg hk, if_neg fun q => hk q.2.symm, List.append_nil]
 have et' : ∀ k, textsOf (l.take (i + 1)) k = textsOf (l.take i) k := fun k => by rw [et, if_neg fun q => g1 q.1, List.append_nil]
 refine r_join1 (fun y w' => w7 = w' ∧ y = .bool (decide (isEnd x))) ?_ ?_
 rotate_left
 · refine r_eql (r_ifE (fun h => r_ke ⟨rfl, by rw [show decide (isEnd x) = true from decide_eq_true (.inl h)]; congr 1; exact beq_iff_eq.2 h⟩) fun h => ?_); refine r_eql (r_ke ⟨rfl, ?_⟩)
   congr 1
   rw [Bool.eq_iff_iff, decide_eq_true_iff, beq_iff_eq]; unfold isEnd; omega
 rintro _ _ _ ⟨rfl, rfl⟩; refine r_ifD (fun g2 => ?_) fun g2 => ?_
 · refine r_fo0 (r_ld 0 H7 (v := iv x.jb) rfl rfl ?_); refine r_lkM (t := tMi) (kt := tIn) (et := tIn) (x := .i .i64 0) (z := nv 0) (by kernel_rfl) (by kernel_rfl) (by kernel_rfl) rfl 2 H7 rfl ?_; rcases hfe x.jb with ⟨hid, n, hfn, hn0⟩ | ⟨hid, hfn⟩
   · rw [hfn, Option.getD_some]; refine r_gtr (r_vtD (by omega) ?_); refine r_add1N (by omega) (r_ke ⟨idle es w7 (fun q => q.2 hid) (fun q => by unfold isEnd at g2; have := q.1; omega) (fun k => by rw [hes, et']) S H7.drop, mu⟩)
   rw [hfn, Option.getD_none]; refine r_gtr (r_vfD (by decide) ?_); refine r_fo0 (r_ld 0 H7 (v := iv x.jb) rfl rfl (r_fo0 (r_ld 0 H7 (v := iv x.ty) rfl rfl (r_eql ?_)))); refine r_fo0 (r_ld 0 H7 (v := iv x.er) rfl rfl ?_); refine r_bd (v := .agg (cellsEn ⟨x.jb, x.ty == 67, ⟨#[]⟩, x.er⟩).toArray) (by kernel_rfl) ?_; refine r_new H7 fun cb w8 S8 H8 => ?_; rw [en_zero] at H8; refine r_stA 0 H8 (vs := cellsEn ⟨x.jb, x.ty == 67, ⟨#[]⟩, x.er⟩) rfl (Nat.le_refl 4) rfl rfl fun w9 S9 H9 => ?_; replace S := S.trans (S8.trans S9)
   replace H9 : Holds w9 (blk cb tEn (cellsEn ⟨x.jb, x.ty == 67, ⟨#[]⟩, x.er⟩) :: blk ab tAn (cellsAn x) :: TM tU8 mb es :: MP eb fe :: RW cellsEn 4 tEn (.slice o1 (seeP (l.take i)).length q1) (seeP (l.take i)) :: RW cellsAn 4 tAn (.slice o2 (refsOf (l.take i)).length q2) (refsOf (l.take i)) ::
       blk vb tVi (cellsV o1 (seeP (l.take i)).length q1 o2 (refsOf (l.take i)).length q2) :: blk xb tVi (cellsV none 0 0 none 0 0) :: L) := H9
   clear S8 S9 H7 H8
   refine r_join0 (fun w' => Same w w' ∧ Holds w' (blk cb tEn (cellsEn (endOf (l.take i) x)) :: blk ab tAn (cellsAn x) :: TM tU8 mb es :: MP eb fe :: RW cellsEn 4 tEn (.slice o1 (seeP (l.take i)).length q1) (seeP (l.take i)) :: RW cellsAn 4 tAn (.slice o2 (refsOf (l.take i)).length q2) (refsOf (l.take i)) ::
       blk vb tVi (cellsV o1 (seeP (l.take i)).length q1 o2 (refsOf (l.take i)).length q2) :: blk xb tVi (cellsV none 0 0 none 0 0) :: L)) ?_ ?_
   rotate_left
   · refine r_fo0 (r_ld 0 H9 (v := .bool (x.ty == 67)) rfl rfl (r_vif (fun g3 => ?_) fun g3 => ?_))
     · refine r_fo0 (r_ld 1 H9 (v := iv x.jb) rfl rfl ?_); refine r_lkT (t := tMb) (kt := tIn) (et := 127) (x := .l none 0 0) (by kernel_rfl) (by kernel_rfl) (by kernel_rfl) rfl 2 H9 rfl ?_; refine r_cwT (es := es) (k := x.jb) 2 H9 rfl ?_; refine r_fo0 (r_st 0 H9 rfl (by simp [cellsEn]) rfl fun w10 S10 H10 => ?_); refine r_ke ⟨S.trans S10, ?_⟩
       have he : endOf (l.take i) x = ⟨x.jb, x.ty == 67, ⟨(byT es x.jb).toArray⟩, x.er⟩ := by
         unfold endOf; rw [if_pos (beq_iff_eq.1 g3), hes]
       rw [he]; exact H10
     · refine r_ke ⟨S, ?_⟩
       have he : endOf (l.take i) x = ⟨x.jb, x.ty == 67, ⟨#[]⟩, x.er⟩ := by
         unfold endOf; rw [if_neg (beq_eq_false_iff_ne.1 g3)]
       rw [he]; exact H9
   clear S H9; rintro _ w10 ⟨S, H⟩; rw [if_pos ⟨g2, hid⟩] at ep
   have nr : ¬ isRef x := fun q => by unfold isEnd at g2; have := q.1; omega
   rw [if_neg nr, List.append_nil] at er; refine r_fo0 (r_ld 6 H rfl rfl ?_); refine r_ldA 0 H (cellsEn (endOf (l.take i) x)) rfl rfl rfl ?_; refine r_appN H 4 (endOf (l.take i) x) rfl (by kernel_rfl) (fun _ => rfl) en_sg (by omega) (by decide) fun v w11 S11 H11 => ?_; obtain ⟨o4, m4, sp4, rfl, _⟩ := H11.openRW 4 rfl; refine r_fo0 (r_st 6 H11 rfl (by simp [cellsV]) rfl fun w12 S12 H12 => ?_); refine r_fo0 (r_ld 1 H12 (v := iv x.jb) rfl rfl (r_fo0 (r_ld 6 H12 rfl rfl (r_lnl ?_)))); refine r_muM (t := tMi) (kt := tIn) (et := tIn) (by kernel_rfl) (by kernel_rfl) 3 H12 rfl fun w13 S13 H13 => ?_; refine r_add1N (by omega) (r_ke ⟨⟨i + 1, es, (fun j => if j = x.jb then some (nv (seeP (l.take i) ++ [endOf (l.take i) x]).length) else fe j), o4, (seeP (l.take i) ++ [endOf (l.take i) x]).length + m4, o2, q2, by omega, rfl, fun k => by rw [hes, et'], ?_, S.trans (S11.trans (S12.trans S13)), ?_⟩, mu⟩)
   rotate_left
   · rw [ep, er]; exact H13.drop.drop
   · rw [ep]; intro k
     by_cases hk : k = x.jb
     · refine .inl ⟨⟨endOf (l.take i) x, by simp, hk.symm⟩, (seeP (l.take i) ++ [endOf (l.take i) x]).length, if_pos hk, by simp⟩
     · rcases hfe k with ⟨⟨e, he, hi2⟩, n, g, g'⟩ | ⟨g, g'⟩
       · exact .inl ⟨⟨e, List.mem_append_left _ he, hi2⟩, n, by simp only [if_neg hk]; exact g, g'⟩
       · refine .inr ⟨fun ⟨e, he, hi2⟩ => ?_, by simp only [if_neg hk]; exact g'⟩; rcases List.mem_append.1 he with he | he
         · exact g ⟨e, he, hi2⟩
         · rw [List.mem_singleton.1 he] at hi2; exact hk hi2.symm
 have nend : ¬ (isEnd x ∧ ¬ hasId (seeP (l.take i)) x.jb) := fun q => g2 q.1; refine r_eql (r_ifE (fun g3 => ?_) fun g3 => ?_)
 · refine r_fo0 (r_ld 0 H7 (v := iv x.er) rfl rfl (r_neq (r_ifN (fun g4 => ?_) fun g4 => ?_)))
   · rw [if_neg nend] at ep; rw [if_pos ⟨g3, g4⟩] at er; refine r_fo0 (r_ld 5 H7 rfl rfl ?_); refine r_ldA 0 H7 (cellsAn x) rfl rfl rfl ?_; refine r_appN H7 4 x rfl (by kernel_rfl) (fun _ => rfl) an_sg (by omega) (by decide) fun v w11 S11 H11 => ?_; obtain ⟨o4, m4, sp4, rfl, _⟩ := H11.openRW 4 rfl; refine r_fo0 (r_st 5 H11 rfl (by simp [cellsV]) rfl fun w12 S12 H12 => ?_); refine r_add1N (by omega) (r_ke ⟨⟨i + 1, es, fe, o1, q1, o4, (refsOf (l.take i) ++ [x]).length + m4, by omega, rfl, fun k => by rw [hes, et'], by rw [ep]; exact hfe, S.trans (S11.trans S12), ?_⟩, mu⟩); rw [ep, er]; exact H12.drop
   · exact r_add1N (by omega) (r_ke ⟨idle es w7 nend (fun q => q.2 g4) (fun k => by rw [hes, et']) S H7.drop, mu⟩)
 · exact r_add1N (by omega) (r_ke ⟨idle es w7 nend (fun q => g3 q.1) (fun k => by rw [hes, et']) S H7.drop, mu⟩)
end S46
namespace D46
open Go.M31 J30 P46 O46 S46 F33 S4r
open A46 hiding pt
variable {w : World} {L : List HProp} {K : Value → World → Prop} {s : List UInt8}
noncomputable instance hasDec (E : List En) (k : Int) : Decidable (hasId E k) := Classical.propDecidable _
theorem insE_all (x : En) : ∀ (d r : List En), (∀ y ∈ d, ¬ x.id < y.id) → insE x (d ++ r) = d ++ insE x r
 | [], _, _ => rfl
 | y :: d, r, h => by
   rw [List.cons_append, insE, if_neg (h y (List.mem_cons_self ..)), insE_all x d r fun z hz => h z (List.mem_cons_of_mem _ hz)]; rfl
theorem insE_put (x y : En) (d r : List En) (h : ∀ y ∈ d, ¬ x.id < y.id) (hy : x.id < y.id) : insE x (d ++ y :: r) = d ++ x :: y :: r := by
 rw [insE_all x d _ h, insE, if_pos hy]
def wOk (x : En) (l : List En) (i : Nat) (z : Bool) (d : List En) : Prop := (z = false ∧ d = l.take i ∧ ∀ y ∈ d, ¬ x.id < y.id) ∨ (z = true ∧ d = insE x (l.take i) ∧ ∃ y ∈ l.take i, x.id < y.id)
theorem insE_snoc (x y : En) : ∀ (d : List En), (∃ z ∈ d, x.id < z.id) → insE x (d ++ [y]) = insE x d ++ [y]
 | [], ⟨_, h, _⟩ => by cases h
 | u :: d, ⟨z, hz, hlt⟩ => by
   rw [List.cons_append, insE, insE]
   by_cases h : x.id < u.id
   · rw [if_pos h, if_pos h]; rfl
   · rw [if_neg h, if_neg h]; rcases List.mem_cons.1 hz with rfl | hz
     · exact absurd hlt h
     · rw [insE_snoc x y d ⟨z, hz, hlt⟩]; rfl
theorem with_spec {a : Option Addr} {l : List En} {c : Nat} {x : En} (H : Holds w L) (hl : l.length ≤ 900) (hT : EnIn L a l)
   (k : ∀ v w', Same w w' → Holds w' (RW cellsEn 4 tRE v (insE x l) :: L) → K v w') :
   Cl Tryz.prog F.balerref46_with #[.slice a l.length c, .agg (cellsEn x).toArray] w K := by
 refine Tie.balerref46_with ?_
 unfold Vcf.balerref46_with
 refine r_new H fun xb w1 S1 H1 => ?_; replace H1 : Holds w1 (blk xb tRE (cellsEn x) :: L) := H1; refine r_lnl ?_
 refine r_loop3 (fun u p y w' => ∃ (i : Nat) (z : Bool) (d : List En) (o : Option Addr) (q : Nat), i ≤ l.length ∧ y = nv i ∧ p = .bool z ∧ u = .slice o d.length q ∧ d.length ≤ i + 1 ∧ wOk x l i z d ∧ Same w w' ∧
     Holds w' (RW cellsEn 4 tRE (.slice o d.length q) d :: blk xb tRE (cellsEn x) :: L))
   (fun _ _ y _ => l.length - (RowKit.intOf y).toNat) ⟨0, false, [], none, 0, by omega, rfl, rfl, rfl, by simp, .inl ⟨rfl, rfl, fun y h => (by cases h)⟩, S1, H1.nilRW cellsEn 4 tRE⟩ ?_
 clear S1 H H1; rintro _ _ _ _ w2 ⟨i, z, d, o, q, hi, rfl, rfl, rfl, hd, hw, S, H⟩; refine r_lss (r_ifD (fun h => ?_) fun h => ?_)
 · have hlt : i < l.length := by omega
   obtain ⟨y, hy⟩ : ∃ y, l[i]? = some y := ⟨_, List.getElem?_eq_getElem hlt⟩
   have htk : l.take (i + 1) = l.take i ++ [y] := by rw [List.take_add_one, hy]; rfl
   refine r_ldG hT.up.up H hy rfl hlt ?_; refine r_new H fun yb w3 S3 H3 => ?_; rw [re_zero] at H3; refine r_stA 0 H3 (vs := cellsEn y) rfl (Nat.le_refl 4) rfl rfl fun w4 S4 H4 => ?_; replace H4 : Holds w4 (blk yb tRE (cellsEn y) :: RW cellsEn 4 tRE (.slice o d.length q) d :: blk xb tRE (cellsEn x) :: L) := H4; replace S := S.trans (S3.trans S4); clear S3 S4 H H3
   refine r_join2 (fun u p w' => ∃ (z : Bool) (d : List En) (o : Option Addr) (q : Nat), u = .slice o d.length q ∧ p = .bool z ∧ d.length ≤ i + 1 ∧ wOk x l (i + 1) z (d ++ [y]) ∧ Same w w' ∧
     Holds w' (RW cellsEn 4 tRE (.slice o d.length q) d :: blk yb tRE (cellsEn y) :: blk xb tRE (cellsEn x) :: L)) ?_ ?_
   rotate_left
   · have H5 : Holds w4 (RW cellsEn 4 tRE (.slice o d.length q) d :: blk yb tRE (cellsEn y) :: blk xb tRE (cellsEn x) :: L) := Holds.swap H4; refine r_join1 (fun v w' => w4 = w' ∧ v = .bool (!z && decide (x.id < y.id))) ?_ ?_
     rotate_left
     · cases z with
       | true => exact r_not (r_vf (r_ke ⟨rfl, rfl⟩))
       | false =>
         refine r_not (r_vt (r_fo0 (r_ld 0 H4 (v := iv y.id) rfl rfl (r_fo0 (r_ld 2 H4 (v := iv x.id) rfl rfl (r_gtr (r_ke ⟨rfl, ?_⟩))))))); rfl
     rintro _ _ _ ⟨rfl, rfl⟩; rcases hw with ⟨rfl, rfl, hn⟩ | ⟨rfl, rfl, hn⟩
     · by_cases hxy : x.id < y.id
       · rw [decide_eq_true hxy]; refine r_vt ?_; refine r_ldA 2 H5 (cellsEn x) rfl rfl rfl ?_; refine r_appN H5 0 x rfl (by kernel_rfl) (fun _ => rfl) en_sg (by omega) (by decide) fun v w5 S5 H6 => ?_; obtain ⟨o4, m4, sp4, rfl, _⟩ := H6.openRW 0 rfl; refine r_ke ⟨true, l.take i ++ [x], o4, _, rfl, rfl, by rw [List.length_append, List.length_take]; simp; omega, .inr ⟨rfl, ?_, y, ?_, hxy⟩, S.trans S5, H6⟩
         · rw [htk, insE_put x y _ [] hn hxy]; simp
         · rw [htk]; simp
       · rw [decide_eq_false hxy]; refine r_vf (r_ke ⟨false, l.take i, o, q, rfl, rfl, by rw [List.length_take]; omega, .inl ⟨rfl, htk.symm, fun u hu => ?_⟩, S, H5⟩); rcases List.mem_append.1 hu with hu | hu
         · exact hn u hu
         · rw [List.mem_singleton.1 hu]; exact hxy
     · refine r_vf (r_ke ⟨true, insE x (l.take i), o, q, rfl, rfl, hd, .inr ⟨rfl, ?_, ?_⟩, S, H5⟩)
       · rw [htk, insE_snoc x y _ hn]
       · obtain ⟨u, hu, hlt⟩ := hn; exact ⟨u, by rw [htk]; exact List.mem_append_left _ hu, hlt⟩
   clear H4 S hw hd; rintro _ _ _ w5 ⟨z, d, o, q, rfl, rfl, hd, hw, S, H⟩; refine r_ldA 1 H (cellsEn y) rfl rfl rfl ?_; refine r_appN H 0 y rfl (by kernel_rfl) (fun _ => rfl) en_sg (by omega) (by decide) fun v w6 S6 H6 => ?_; obtain ⟨o4, m4, sp4, rfl, _⟩ := H6.openRW 0 rfl; refine r_add1N (by omega) (r_ke ⟨⟨i + 1, z, d ++ [y], o4, _, by omega, rfl, rfl, rfl, by rw [List.length_append, List.length_singleton]; omega, hw, S.trans S6, Holds.dropAt H6 1⟩, ?_⟩); simp only [RowKit.intOf, Int.toNat_natCast]; omega
 · obtain rfl : i = l.length := by omega
   unfold wOk at hw; rw [List.take_length] at hw; rcases hw with ⟨rfl, rfl, hn⟩ | ⟨rfl, rfl, hn⟩
   · refine r_not (r_vt ?_); refine r_ldA 1 H (cellsEn x) rfl rfl rfl ?_; refine r_appN H 0 x rfl (by kernel_rfl) (fun _ => rfl) en_sg (by omega) (by decide) fun v w6 S6 H6 => ?_
     have e : insE x d = d ++ [x] := by
       have := insE_all x d [] hn
       rwa [List.append_nil] at this
     refine k v w6 (S.trans S6) ?_; rw [e]; exact Holds.dropAt H6 1
   · refine r_not (r_vf ?_); exact k _ w2 S (Holds.dropAt H 1)
theorem seeD_len (l : List An) : (seeD l).length ≤ l.length := by
 rw [(see_sort l).2.length_eq]; exact seeP_len l
theorem seeD_id {l : List An} {a : Int} (h0 : 0 ≤ a) : (((findE (seeD l) a).getD En1).id == a) = decide (hasId (seeD l) a) := by
 rw [Bool.eq_iff_iff, beq_iff_eq, decide_eq_true_iff]
 cases hf : findE (seeD l) a with
 | none =>
   constructor
   · intro h; have : (-1 : Int) = a := h; omega
   · rintro ⟨e, he, rfl⟩; obtain ⟨i, hi⟩ := List.getElem?_of_mem he; obtain ⟨z, hz⟩ := findE_mem hi; rw [hz] at hf; cases hf
 | some x =>
   refine ⟨fun h => ⟨x, List.mem_of_find?_eq_some hf, h⟩, fun _ => findE_id hf⟩
def tOf (x : An) (l : List An) : List UInt8 := if x.ty = 67 then textsOf l x.jb else []
theorem RSee_spec {a : Option Addr} {l : List An} {c : Nat} (H : Holds w L) (hA : AnIn L a l) (hl : l.length ≤ 900) (hcl : l.length ≤ c) (hb : ∀ x ∈ l, 0 ≤ x.jb ∧ x.tx.data.toList.length ≤ 65536)
   (k : ∀ o1 q1 o2 q2 w', Same w w' → Holds w' (RW cellsEn 4 tRE (.slice o1 (seeD l).length q1) (seeD l) :: RW cellsAn 4 tRA (.slice o2 (refsOf l).length q2) (refsOf l) :: L) → K (.agg (cellsV o1 (seeD l).length q1 o2 (refsOf l).length q2).toArray) w') :
   Cl Tryz.prog F.balerref46_See #[.slice a l.length c] w K := by
 refine Tie.balerref46_See ?_; unfold Vcf.balerref46_See; refine r_new H fun rb w1 S1 H1 => ?_; rw [rv_zero] at H1; refine r_bd (v := .agg (cellsV none 0 0 none 0 0).toArray) (by kernel_rfl) ?_; refine r_new H1 fun vb w2 S2 H2 => ?_; rw [rv_zero] at H2; refine r_stA 0 H2 (vs := cellsV none 0 0 none 0 0) rfl (Nat.le_refl 2) rfl rfl fun w3 S3 H3 => ?_; replace H3 : Holds w3 (blk vb tRV (cellsV none 0 0 none 0 0) :: blk rb tRV (cellsV none 0 0 none 0 0) :: L) := H3; refine r_lnl ?_
 refine r_loop1 (fun y w' => ∃ (i : Nat) (o1 : Option Addr) (q1 : Nat) (o2 : Option Addr) (q2 : Nat), i ≤ l.length ∧ y = nv i ∧ Same w w' ∧
     Holds w' (RW cellsEn 4 tRE (.slice o1 (seeD (l.take i)).length q1) (seeD (l.take i)) :: RW cellsAn 4 tRA (.slice o2 (refsOf (l.take i)).length q2) (refsOf (l.take i)) ::
       blk vb tRV (cellsV o1 (seeD (l.take i)).length q1 o2 (refsOf (l.take i)).length q2) :: blk rb tRV (cellsV none 0 0 none 0 0) :: L))
   (fun y _ => l.length - (RowKit.intOf y).toNat) ⟨0, none, 0, none, 0, by omega, rfl, S1.trans (S2.trans S3), (H3.nilRW cellsAn 4 tRA).nilRW cellsEn 4 tRE⟩ ?_
 clear S1 S2 S3 H H1 H2 H3; rintro _ _ w5 ⟨i, o1, q1, o2, q2, hi, rfl, S, H⟩; refine r_lss (r_ifD (fun h => ?_) fun h => ?_)
 rotate_left
 · obtain rfl : i = l.length := by omega
   rw [List.take_length] at *; refine r_ldA 2 H (cellsV o1 (seeD l).length q1 o2 (refsOf l).length q2) rfl rfl rfl ?_; refine r_stA 3 H (vs := cellsV o1 (seeD l).length q1 o2 (refsOf l).length q2) rfl (Nat.le_refl 2) rfl rfl fun w7 S7 H7 => ?_; refine r_ldA 3 H7 (cellsV o1 (seeD l).length q1 o2 (refsOf l).length q2) rfl rfl rfl ?_; exact k o1 q1 o2 q2 w7 (S.trans S7) (Holds.dropAt (Holds.dropAt H7 2) 2)
 have hlt : i < l.length := by omega
 obtain ⟨x, hx⟩ : ∃ x, l[i]? = some x := ⟨_, List.getElem?_eq_getElem hlt⟩; obtain ⟨hx0, hxt⟩ := hb x (List.mem_of_getElem? hx)
 have htk : l.take (i + 1) = l.take i ++ [x] := by rw [List.take_add_one, hx]; rfl
 have ep := seeD_app (l.take i) x; have er := refs_app (l.take i) x; simp only [← htk] at ep er; have hpl := seeD_len (l.take i); have hrl := refs_len (l.take i); rw [List.length_take] at hpl hrl; refine r_ldG hA.up.up.up.up H hx rfl hlt ?_; refine r_new H fun ab w6 S6 H6 => ?_; rw [ra_zero] at H6; refine r_stA 0 H6 (vs := cellsAn x) rfl (Nat.le_refl 4) rfl rfl fun w7 S7 H7 => ?_; replace S := S.trans (S6.trans S7)
 replace H7 : Holds w7 (blk ab tRA (cellsAn x) :: RW cellsEn 4 tRE (.slice o1 (seeD (l.take i)).length q1) (seeD (l.take i)) :: RW cellsAn 4 tRA (.slice o2 (refsOf (l.take i)).length q2) (refsOf (l.take i)) ::
       blk vb tRV (cellsV o1 (seeD (l.take i)).length q1 o2 (refsOf (l.take i)).length q2) :: blk rb tRV (cellsV none 0 0 none 0 0) :: L) := H7
 clear S6 S7 H H6
 refine r_join0 (fun w' => ∃ (o2 : Option Addr) (q2 : Nat), Same w w' ∧ Holds w' (blk ab tRA (cellsAn x) :: RW cellsEn 4 tRE (.slice o1 (seeD (l.take i)).length q1) (seeD (l.take i)) :: RW cellsAn 4 tRA (.slice o2 (refsOf (l.take (i + 1))).length q2) (refsOf (l.take (i + 1))) ::
       blk vb tRV (cellsV o1 (seeD (l.take i)).length q1 o2 (refsOf (l.take (i + 1))).length q2) :: blk rb tRV (cellsV none 0 0 none 0 0) :: L)) ?_ ?_
 rotate_left
 · refine r_join1 (fun v w' => w7 = w' ∧ v = .bool (decide (isRef x))) ?_ ?_
   rotate_left
   · refine r_fo0 (r_ld 0 H7 (v := iv x.ty) rfl rfl (r_eql (r_ifE (fun h => ?_) fun h => r_ke ⟨rfl, by rw [show decide (isRef x) = false from decide_eq_false fun g => h g.1]⟩))); refine r_fo0 (r_ld 0 H7 (v := iv x.er) rfl rfl (r_neq (r_ke ⟨rfl, ?_⟩)))
     congr 1
     rw [Bool.eq_iff_iff, decide_eq_true_iff, bne_iff_ne]; exact ⟨fun g => ⟨h, g⟩, fun g => g.2⟩
   rintro _ _ _ ⟨rfl, rfl⟩; refine r_ifD (fun g => ?_) fun g => ?_
   · rw [if_pos g] at er; refine r_fo0 (r_ld 3 H7 rfl rfl ?_); refine r_ldA 0 H7 (cellsAn x) rfl rfl rfl ?_; refine r_appN H7 2 x rfl (by kernel_rfl) (fun _ => rfl) an_sg (by omega) (by decide) fun v w8 S8 H8 => ?_; obtain ⟨o4, m4, sp4, rfl, _⟩ := H8.openRW 2 rfl; refine r_fo0 (r_st 3 H8 rfl (by simp [cellsV]) rfl fun w9 S9 H9 => ?_); refine r_ke ⟨o4, (refsOf (l.take i) ++ [x]).length + m4, S.trans (S8.trans S9), ?_⟩; rw [er]; exact H9
   · rw [if_neg g, List.append_nil] at er; refine r_ke ⟨o2, q2, S, ?_⟩; rw [er]; exact H7
 clear H7 S hrl er o2 q2; rintro _ w8 ⟨o2, q2, S, H⟩
 have mu : l.length - (RowKit.intOf (nv (i + 1))).toNat < l.length - (RowKit.intOf (nv i)).toNat := by
   simp only [RowKit.intOf, Int.toNat_natCast]; omega
 refine r_join1 (fun v w' => Same w w' ∧ (v = .bool (decide (¬ (isEnd x ∧ ¬ hasId (seeD (l.take i)) x.jb)))) ∧ Holds w' (blk ab tRA (cellsAn x) :: RW cellsEn 4 tRE (.slice o1 (seeD (l.take i)).length q1) (seeD (l.take i)) :: RW cellsAn 4 tRA (.slice o2 (refsOf (l.take (i + 1))).length q2) (refsOf (l.take (i + 1))) ::
       blk vb tRV (cellsV o1 (seeD (l.take i)).length q1 o2 (refsOf (l.take (i + 1))).length q2) :: blk rb tRV (cellsV none 0 0 none 0 0) :: L)) ?_ ?_
 rotate_left
 · refine r_dr H fun w9 S9 H9 => ?_
   have ask : isEnd x → ∀ {Q : Value → World → Prop}, (∀ w', Same w w' → Holds w' (blk ab tRA (cellsAn x) :: RW cellsEn 4 tRE (.slice o1 (seeD (l.take i)).length q1) (seeD (l.take i)) :: RW cellsAn 4 tRA (.slice o2 (refsOf (l.take (i + 1))).length q2) (refsOf (l.take (i + 1))) ::
       blk vb tRV (cellsV o1 (seeD (l.take i)).length q1 o2 (refsOf (l.take (i + 1))).length q2) :: blk rb tRV (cellsV none 0 0 none 0 0) :: L) → Q (.agg (cellsEn ((findE (seeD (l.take i)) x.jb).getD En1)).toArray) w') →
       Cl Tryz.prog F.balerref46_Find #[.slice o1 (seeD (l.take i)).length q1, iv x.jb] w9 Q := fun _ Q hQ => Find_spec (by omega) H9 (InG.own 1 rfl fun _ => rfl) fun w' S' H' => hQ w' (S.trans (S9.trans S')) H'
   have fd : ∀ {e : En} {Q : Value → Prop}, Q (iv e.id) → Vc.Fd 0 (.agg (cellsEn e).toArray) Q := by
     intro e Q h; unfold Vc.Fd; exact ⟨_, _, rfl, rfl, h⟩
   have val : isEnd x → (((findE (seeD (l.take i)) x.jb).getD En1).id == x.jb) = decide (¬ (isEnd x ∧ ¬ hasId (seeD (l.take i)) x.jb)) := by
     intro he; rw [seeD_id hx0, Bool.eq_iff_iff, decide_eq_true_iff, decide_eq_true_iff]; exact ⟨fun g q => q.2 g, fun g => Classical.byContradiction fun q => g ⟨he, q⟩⟩
   refine r_fo0 (r_ld 0 H9 (v := iv x.ty) rfl rfl (r_neq (r_ifN (fun g1 => ?_) fun g1 => ?_)))
   · refine r_fo0 (r_ld 0 H9 (v := iv x.ty) rfl rfl (r_neq (r_ifN (fun g2 => ?_) fun g2 => ?_)))
     · refine r_ke ⟨S.trans S9, ?_, H9⟩; rw [show decide (¬ (isEnd x ∧ ¬ hasId (seeD (l.take i)) x.jb)) = true from decide_eq_true fun q => by have := q.1; unfold isEnd at this; omega]
     · refine r_fo0 (r_ld 3 H9 rfl rfl (r_fo0 (r_ld 0 H9 (v := iv x.jb) rfl rfl ?_))); refine ask (.inr g2) fun w10 S10 H10 => ?_; refine fd (r_fo0 (r_ld 0 H10 (v := iv x.jb) rfl rfl ?_)); refine r_rk (r_ld 0 H9 (v := iv x.jb) rfl rfl rfl) ?_; refine r_eql (r_ke ⟨S10, ?_, H10⟩); rw [val (.inr g2)]
   · refine r_fo0 (r_ld 3 H9 rfl rfl (r_fo0 (r_ld 0 H9 (v := iv x.jb) rfl rfl ?_))); refine ask (.inl g1) fun w10 S10 H10 => ?_; refine fd (r_fo0 (r_ld 0 H10 (v := iv x.jb) rfl rfl ?_)); refine r_rk (r_ld 0 H9 (v := iv x.jb) rfl rfl rfl) ?_; refine r_eql (r_ke ⟨S10, ?_, H10⟩); rw [val (.inl g1)]
 clear H S; rintro _ _ w9 ⟨S, rfl, H⟩; refine r_ifD (fun g => ?_) fun g => ?_
 · rw [if_neg g] at ep; refine r_add1N (by omega) (r_ke ⟨⟨i + 1, o1, q1, o2, q2, by omega, rfl, S, ?_⟩, mu⟩); rw [ep]; exact H.drop
 have hh : isEnd x ∧ ¬ hasId (seeD (l.take i)) x.jb := Classical.not_not.1 g; rw [if_pos hh] at ep; refine r_fo0 (r_ld 0 H (v := iv x.jb) rfl rfl (r_fo0 (r_ld 0 H (v := iv x.ty) rfl rfl (r_eql ?_)))); refine r_fo0 (r_ld 0 H (v := iv x.er) rfl rfl ?_); refine r_bd (v := .agg (cellsEn ⟨x.jb, x.ty == 67, ⟨#[]⟩, x.er⟩).toArray) (by kernel_rfl) ?_; refine r_new H fun cb w10 S10 H10 => ?_; rw [re_zero] at H10; refine r_stA 0 H10 (vs := cellsEn ⟨x.jb, x.ty == 67, ⟨#[]⟩, x.er⟩) rfl (Nat.le_refl 4) rfl rfl fun w11 S11 H11 => ?_; replace S := S.trans (S10.trans S11)
 have t0 : tOf x (l.take 0) = [] := by unfold tOf; split <;> rfl
 replace H11 : Holds w11 (blk cb tRE (cellsEn ⟨x.jb, x.ty == 67, ⟨(tOf x (l.take 0)).toArray⟩, x.er⟩) :: blk ab tRA (cellsAn x) :: RW cellsEn 4 tRE (.slice o1 (seeD (l.take i)).length q1) (seeD (l.take i)) :: RW cellsAn 4 tRA (.slice o2 (refsOf (l.take (i + 1))).length q2) (refsOf (l.take (i + 1))) ::
       blk vb tRV (cellsV o1 (seeD (l.take i)).length q1 o2 (refsOf (l.take (i + 1))).length q2) :: blk rb tRV (cellsV none 0 0 none 0 0) :: L) := by
   rw [t0]; exact H11
 clear S10 S11 H H10; refine r_ssl0 (by omega) (r_lnl ?_)
 refine r_loop1 (fun y w' => ∃ j : Nat, j ≤ i ∧ y = nv j ∧ Same w w' ∧
     Holds w' (blk cb tRE (cellsEn ⟨x.jb, x.ty == 67, ⟨(tOf x (l.take j)).toArray⟩, x.er⟩) :: blk ab tRA (cellsAn x) :: RW cellsEn 4 tRE (.slice o1 (seeD (l.take i)).length q1) (seeD (l.take i)) :: RW cellsAn 4 tRA (.slice o2 (refsOf (l.take (i + 1))).length q2) (refsOf (l.take (i + 1))) ::
       blk vb tRV (cellsV o1 (seeD (l.take i)).length q1 o2 (refsOf (l.take (i + 1))).length q2) :: blk rb tRV (cellsV none 0 0 none 0 0) :: L))
   (fun y _ => i - (RowKit.intOf y).toNat) ⟨0, by omega, rfl, S, H11⟩ ?_
 clear H11 S; rintro _ _ w12 ⟨j, hj, rfl, S, H⟩; refine r_lss (r_ifD (fun h2 => ?_) fun h2 => ?_)
 · have hji : j < i := by omega
   obtain ⟨y, hy⟩ : ∃ y, l[j]? = some y := ⟨_, List.getElem?_eq_getElem (by omega)⟩; obtain ⟨hy0, hyt⟩ := hb y (List.mem_of_getElem? hy)
   have htj : l.take (j + 1) = l.take j ++ [y] := by rw [List.take_add_one, hy]; rfl
   have et := texts_app (l.take j) y x.jb; have hle := texts_len (l := l.take j) (fun z hz => (hb z (List.mem_of_mem_take hz)).2) x.jb; rw [List.length_take] at hle; refine r_ldG hA.up.up.up.up.up.up H hy rfl hji ?_; refine r_new H fun yb w13 S13 H13 => ?_; rw [ra_zero] at H13; refine r_stA 0 H13 (vs := cellsAn y) rfl (Nat.le_refl 4) rfl rfl fun w14 S14 H14 => ?_; replace S := S.trans (S13.trans S14)
   replace H14 : Holds w14 (blk yb tRA (cellsAn y) :: blk cb tRE (cellsEn ⟨x.jb, x.ty == 67, ⟨(tOf x (l.take j)).toArray⟩, x.er⟩) :: blk ab tRA (cellsAn x) :: RW cellsEn 4 tRE (.slice o1 (seeD (l.take i)).length q1) (seeD (l.take i)) :: RW cellsAn 4 tRA (.slice o2 (refsOf (l.take (i + 1))).length q2) (refsOf (l.take (i + 1))) ::
       blk vb tRV (cellsV o1 (seeD (l.take i)).length q1 o2 (refsOf (l.take (i + 1))).length q2) :: blk rb tRV (cellsV none 0 0 none 0 0) :: L) := H14
   clear S13 S14 H H13
   have mu2 : i - (RowKit.intOf (nv (j + 1))).toNat < i - (RowKit.intOf (nv j)).toNat := by
     simp only [RowKit.intOf, Int.toNat_natCast]; omega
   refine r_join1 (fun v w' => w14 = w' ∧ v = .bool (decide (x.ty = 67 ∧ isTx y x.jb))) ?_ ?_
   rotate_left
   · refine r_fo0 (r_ld 1 H14 (v := .bool (x.ty == 67)) rfl rfl (r_vif (fun g3 => ?_) fun g3 => ?_))
     · have g3' := beq_iff_eq.1 g3; refine r_fo0 (r_ld 0 H14 (v := iv y.ty) rfl rfl (r_eql (r_ifE (fun g4 => ?_) fun g4 => ?_)))
       · refine r_fo0 (r_ld 0 H14 (v := iv y.jb) rfl rfl (r_fo0 (r_ld 2 H14 (v := iv x.jb) rfl rfl (r_eql (r_ke ⟨rfl, ?_⟩)))))
         congr 1
         rw [Bool.eq_iff_iff, decide_eq_true_iff, beq_iff_eq]; exact ⟨fun q => ⟨g3', g4, q⟩, fun q => q.2.2⟩
       · refine r_ke ⟨rfl, ?_⟩; rw [show decide (x.ty = 67 ∧ isTx y x.jb) = false from decide_eq_false fun q => g4 q.2.1]
     · have g3' := beq_eq_false_iff_ne.1 g3; refine r_ke ⟨rfl, ?_⟩; rw [show decide (x.ty = 67 ∧ isTx y x.jb) = false from decide_eq_false fun q => g3' q.1]
   rintro _ _ _ ⟨rfl, rfl⟩; refine r_ifD (fun g3 => ?_) fun g3 => ?_
   · have hto : tOf x (l.take (j + 1)) = tOf x (l.take j) ++ y.tx.data.toList := by
       unfold tOf; rw [if_pos g3.1, if_pos g3.1, htj, et, if_pos g3.2]
     have htl : (tOf x (l.take j)).length ≤ 900 * 65536 := by
       unfold tOf; rw [if_pos g3.1]; exact Nat.le_trans hle (Nat.mul_le_mul_right _ (by omega))
     refine r_fo0 (r_ld 1 H14 (v := .string ⟨(tOf x (l.take j)).toArray⟩) rfl rfl (r_fo0 (r_ld 0 H14 (v := .string ⟨y.tx.data.toList.toArray⟩) rfl rfl (r_catL (by omega) (r_fo0 ?_))))); rw [← hto]; refine r_st 1 H14 rfl (by simp [cellsEn]) rfl fun w15 S15 H15 => ?_; exact r_add1N (by omega) (r_ke ⟨⟨j + 1, by omega, rfl, S.trans S15, H15.drop⟩, mu2⟩)
   · have hto : tOf x (l.take (j + 1)) = tOf x (l.take j) := by
       unfold tOf
       by_cases h67 : x.ty = 67
       · rw [if_pos h67, if_pos h67, htj, et, if_neg fun q => g3 ⟨h67, q⟩, List.append_nil]
       · rw [if_neg h67, if_neg h67]
     rw [← hto] at H14; exact r_add1N (by omega) (r_ke ⟨⟨j + 1, by omega, rfl, S, H14.drop⟩, mu2⟩)
 · obtain rfl : j = i := by omega
   have hto : (⟨x.jb, x.ty == 67, ⟨(tOf x (l.take j)).toArray⟩, x.er⟩ : En) = endOf (l.take j) x := by
     unfold tOf endOf
     by_cases h67 : x.ty = 67
     · rw [if_pos h67, if_pos h67]
     · rw [if_neg h67, if_neg h67]
   rw [hto] at H; refine r_fo0 (r_ld 4 H rfl rfl ?_); refine r_ldA 0 H (cellsEn (endOf (l.take j) x)) rfl rfl rfl ?_; refine with_spec H (by omega) (InG.own 2 rfl fun _ => rfl) fun v w13 S13 H13 => ?_; obtain ⟨o4, m4, sp4, rfl, _⟩ := H13.openRW 0 rfl; refine r_fo0 (r_st 5 H13 rfl (by simp [cellsV]) rfl fun w14 S14 H14 => ?_); refine r_add1N (by omega) (r_ke ⟨⟨j + 1, o4, (insE (endOf (l.take j) x) (seeD (l.take j))).length + m4, o2, q2, by omega, rfl, S.trans (S13.trans S14), ?_⟩, mu⟩); rw [ep]; have h_ := Holds.dropAt (Holds.dropAt (Holds.dropAt H14 1) 1) 1; exact h_
theorem same_spec {a1 a2 b1 b2 : Option Addr} {es fs : List En} {rs ts : List An} {c1 c2 d1 d2 : Nat} (H : Holds w L) (hE1 : EnIn L a1 es) (hA1 : AnIn L a2 rs) (hE2 : EnIn L b1 fs) (hA2 : AnIn L b2 ts) (he : es = fs) (hr : rs = ts) (hel : es.length ≤ 1000) (hrl : rs.length ≤ 1000)
   (k : ∀ w', Same w w' → Holds w' L → K (.bool true) w') :
   Cl Tryz.prog F.balerlaw46_same #[.agg (cellsV a1 es.length c1 a2 rs.length c2).toArray, .agg (cellsV b1 fs.length d1 b2 ts.length d2).toArray] w K := by
 subst he hr; refine Tie.balerlaw46_same ?_; unfold Vcf.balerlaw46_same; refine r_new H fun ab w1 S1 H1 => ?_; replace H1 : Holds w1 (blk ab tRV (cellsV a1 es.length c1 a2 rs.length c2) :: L) := H1; refine r_new H1 fun bb w2 S2 H2 => ?_; replace H2 : Holds w2 (blk bb tRV (cellsV b1 es.length d1 b2 rs.length d2) :: blk ab tRV (cellsV a1 es.length c1 a2 rs.length c2) :: L) := H2; have S := S1.trans S2; clear S1 S2 H H1; refine r_join1 (fun v w' => w2 = w' ∧ v = .bool false) ?_ ?_
 rotate_left
 · refine r_fo0 (r_ld 1 H2 rfl rfl (r_lnl (r_fo0 (r_ld 0 H2 rfl rfl (r_lnl (r_neq (r_vfN rfl ?_))))))); refine r_fo0 (r_ld 1 H2 rfl rfl (r_lnl (r_fo0 (r_ld 0 H2 rfl rfl (r_lnl (r_neq (r_ke ⟨rfl, ?_⟩))))))); simp
 rintro _ _ _ ⟨rfl, rfl⟩; refine r_vf ?_; refine r_fo0 (r_ld 1 H2 rfl rfl (r_lnl ?_)); refine r_loop1 (fun y w' => ∃ i : Nat, i ≤ es.length ∧ y = nv i ∧ Same w w' ∧ Holds w' (blk bb tRV (cellsV b1 es.length d1 b2 rs.length d2) :: blk ab tRV (cellsV a1 es.length c1 a2 rs.length c2) :: L)) (fun y _ => es.length - (RowKit.intOf y).toNat) ⟨0, by omega, rfl, S, H2⟩ ?_; clear H2 S; rintro _ _ w3 ⟨i, hi, rfl, S, H⟩; refine r_lss (r_ifD (fun h => ?_) fun h => ?_)
 · have hlt : i < es.length := by omega
   obtain ⟨x, hx⟩ : ∃ x, es[i]? = some x := ⟨_, List.getElem?_eq_getElem hlt⟩; refine r_ldG hE1.up.up H hx rfl hlt ?_; refine r_new H fun xb w4 S4 H4 => ?_; rw [re_zero] at H4; refine r_stA 0 H4 (vs := cellsEn x) rfl (Nat.le_refl 4) rfl rfl fun w5 S5 H5 => ?_; replace H5 : Holds w5 (blk xb tRE (cellsEn x) :: blk bb tRV (cellsV b1 es.length d1 b2 rs.length d2) :: blk ab tRV (cellsV a1 es.length c1 a2 rs.length c2) :: L) := H5; refine r_dr H5 fun w6 S6 H6 => ?_; refine r_ldA 0 H6 (cellsEn x) rfl rfl rfl ?_; refine r_fo0 (r_ld 1 H6 rfl rfl ?_); refine r_ldG hE2.up.up.up H6 hx rfl hlt ?_; refine beE (by decide) (.inr rfl) ?_; rw [decide_eq_true rfl]; refine r_vf (r_add1N (by omega) (r_ke ⟨⟨i + 1, by omega, rfl, S.trans (S4.trans (S5.trans S6)), H6.drop⟩, ?_⟩)); simp only [RowKit.intOf, Int.toNat_natCast]; omega
 · refine r_fo0 (r_ld 1 H rfl rfl (r_lnl ?_)); refine r_loop1 (fun y w' => ∃ i : Nat, i ≤ rs.length ∧ y = nv i ∧ Same w w' ∧ Holds w' (blk bb tRV (cellsV b1 es.length d1 b2 rs.length d2) :: blk ab tRV (cellsV a1 es.length c1 a2 rs.length c2) :: L)) (fun y _ => rs.length - (RowKit.intOf y).toNat) ⟨0, by omega, rfl, S, H⟩ ?_; clear H S h hi i; rintro _ _ w3 ⟨i, hi, rfl, S, H⟩; refine r_lss (r_ifD (fun h => ?_) fun h => ?_)
   · have hlt : i < rs.length := by omega
     obtain ⟨x, hx⟩ : ∃ x, rs[i]? = some x := ⟨_, List.getElem?_eq_getElem hlt⟩; refine r_ldG hA1.up.up H hx rfl hlt ?_; refine r_new H fun xb w4 S4 H4 => ?_; rw [ra_zero] at H4; refine r_stA 0 H4 (vs := cellsAn x) rfl (Nat.le_refl 4) rfl rfl fun w5 S5 H5 => ?_; replace H5 : Holds w5 (blk xb tRA (cellsAn x) :: blk bb tRV (cellsV b1 es.length d1 b2 rs.length d2) :: blk ab tRV (cellsV a1 es.length c1 a2 rs.length c2) :: L) := H5; refine r_dr H5 fun w6 S6 H6 => ?_; refine r_ldA 0 H6 (cellsAn x) rfl rfl rfl ?_; refine r_fo0 (r_ld 1 H6 rfl rfl ?_); refine r_ldG hA2.up.up.up H6 hx rfl hlt ?_; refine beA (by decide) (.inr rfl) ?_; rw [decide_eq_true rfl]; refine r_vf (r_add1N (by omega) (r_ke ⟨⟨i + 1, by omega, rfl, S.trans (S4.trans (S5.trans S6)), H6.drop⟩, ?_⟩)); simp only [RowKit.intOf, Int.toNat_natCast]; omega
   · exact k w3 S H.drop.drop
theorem Ans_bds {l : List An} (h : AnsR s l 0) : ∀ x ∈ l, 0 ≤ x.jb ∧ x.tx.data.toList.length ≤ 65536 := by
 cases h with
 | bad _ he => exact absurd rfl he
 | ok hf hl =>
   have hb := AllR_bds hf; clear hf; rename_i fs
   induction fs generalizing l with
   | nil =>
     rw [hearL] at hl; cases hl; intro x hx; cases hx
   | cons f r ih =>
     rw [hearL] at hl
     cases hf : hear f with
     | none => rw [hf] at hl; cases hl
     | some a =>
       cases hr : hearL r with
       | none => rw [hf, hr] at hl; cases hl
       | some m =>
         rw [hf, hr] at hl; cases hl; intro x hx; rcases List.mem_cons.1 hx with rfl | hx
         · have := hb f (List.mem_cons_self ..); unfold hear at hf
           repeat' (split at hf)
           all_goals first
             | (cases hf; done)
             | (cases hf; exact ⟨Int.natCast_nonneg _, this.2⟩)
             | (cases hf; exact ⟨Int.natCast_nonneg _, Nat.zero_le _⟩)
         · exact ih hr (fun g hg => hb g (List.mem_cons_of_mem _ hg)) x hx
theorem PSee_spec (H : Holds w L) (hs : s.length ≤ 900)
   (k1 : ∀ (e : Nat) w', AnsR s [] e → e ≠ 0 → Same w w' → Holds w' L → K (.tuple #[.agg (cellsV none 0 0 none 0 0).toArray, nv e]) w')
   (k2 : ∀ l o1 q1 o2 q2 w', AnsR s l 0 → l.length ≤ 900 → Same w w' → Holds w' (RW cellsEn 4 tEn (.slice o1 (seeD l).length q1) (seeD l) :: RW cellsAn 4 tAn (.slice o2 (refsOf l).length q2) (refsOf l) :: L) → K (.tuple #[.agg (cellsV o1 (seeD l).length q1 o2 (refsOf l).length q2).toArray, iv 0]) w') :
   Cl Tryz.prog F.project_See #[S_ s] w K := by
 refine Tie.project_See ?_; unfold Vcf.project_See; refine r_new H fun xb w1 S1 H1 => ?_; rw [vi_zero] at H1; refine Answers_spec H1 hs (fun e w2 hr he S2 H2 => ?_) fun v l w2 hr hl S2 H2 => ?_
 · refine r_ex20 (r_ex21 (r_neq (r_ifN (fun _ => ?_) fun g => absurd g (by show ¬ ((e : Int) = 0); omega)))); refine r_bd (v := .agg (cellsV none 0 0 none 0 0).toArray) (by kernel_rfl) ?_; refine r_stA 0 H2 (vs := cellsV none 0 0 none 0 0) rfl (Nat.le_refl 2) rfl rfl fun w3 S3 H3 => ?_; refine r_ldA 0 H3 (cellsV none 0 0 none 0 0) rfl rfl rfl ?_; exact k1 e w3 hr he (S1.trans (S2.trans S3)) H3.drop
 · obtain ⟨o4, m4, sp4, rfl, _⟩ := H2.openRW 0 rfl; refine r_ex20 (r_ex21 (r_neq (r_vfN rfl ?_))); refine see_spec H2 (InG.own 0 rfl fun _ => rfl) hl (Ans_bds hr) fun o1 q1 o2 q2 w3 S3 H3 => ?_; refine r_stA 3 H3 (vs := cellsV o1 (seeD l).length q1 o2 (refsOf l).length q2) rfl (Nat.le_refl 2) rfl rfl fun w4 S4 H4 => ?_; refine r_ldA 3 H4 (cellsV o1 (seeD l).length q1 o2 (refsOf l).length q2) rfl rfl rfl ?_; exact k2 l o1 q1 o2 q2 w4 hr hl (S1.trans (S2.trans (S3.trans S4))) (Holds.dropAt (Holds.dropAt H4 2) 2)
theorem Sees_of (hb : ∀ {w : World} {L : List HProp} {K : Value → World → Prop}, Holds w L → (∀ w', Same w w' → Holds w' L → K (.bool true) w') → Cl Tryz.prog F.balerlaw46_bob #[] w K)
   (H : Holds w L) (a0 : ByteArray) (h0 : a0.size ≤ maxLen) (post : ∀ w', Same w w' → Holds w' L → K (.bool true) w') :
   Cl Tryz.prog F.balerlaw46_ProjectSees #[.string a0] w K := by
 refine Tie.balerlaw46_ProjectSees ?_; unfold Vcf.balerlaw46_ProjectSees; obtain ⟨s, rfl⟩ : ∃ s : List UInt8, a0 = ⟨s.toArray⟩ := ⟨a0.data.toList, rfl⟩
 have bob : ∀ (M : List HProp) w', Same w w' → Holds w' (M ++ L) → Cl Tryz.prog F.balerlaw46_bob #[] w' fun x w2 => K x w2 := by
   intro M w' Sx Hx
   have Hy : ∀ (M : List HProp) {L' : List HProp}, Holds w' (M ++ L') → Holds w' L' := by
     intro M
     induction M with
     | nil => exact fun h => h
     | cons m r ih => exact fun h => ih (Holds.drop h)
   exact hb (Hy M Hx) fun w3 S3 H3 => post w3 (Sx.trans S3) H3
 refine q_len (r_gtr (r_ifD (fun h => bob [] w (.refl _) H) fun h => ?_))
 have hs : s.length ≤ 400 := by omega
 refine PSee_spec H (by omega) (fun e w1 hr he S1 H1 => ?_) fun l o1 q1 o2 q2 w1 hr hl S1 H1 => ?_
 · refine r_ex20 (r_ex21 ?_); refine r_new H1 fun vb w2 S2 H2 => ?_; rw [vi_zero] at H2; refine r_stA 0 H2 (vs := cellsV none 0 0 none 0 0) rfl (Nat.le_refl 2) rfl rfl fun w3 S3 H3 => ?_; refine R35All_spec H3 (by omega) (fun d w4 hr2 hd S4 H4 => ?_) fun v l w4 hr2 _ S4 H4 => absurd (AnsR_one hr hr2).2 he; obtain ⟨_, rfl⟩ := AnsR_one hr hr2; refine r_new H4 fun rb w5 S5 H5 => ?_; rw [as_zero] at H5; refine r_stA 0 H5 (vs := [.slice none 0 0, nv e]) rfl (Nat.le_refl 2) rfl rfl fun w6 S6 H6 => ?_; refine r_fo0 (r_ld 0 H6 (v := nv e) rfl rfl (r_neq (r_ifN (fun _ => ?_) fun g => absurd g (by show ¬ ((e : Int) = 0); omega)))); refine r_fo0 (r_ld 0 H6 (v := nv e) rfl rfl (r_eql (r_vtE rfl ?_))); refine r_ldA 1 H6 (cellsV none 0 0 none 0 0) rfl rfl rfl ?_; have H7 := (H6.nilRW cellsAn 4 tAn).nilRW cellsEn 4 tEn; refine ref_spec (xs := []) (rs := []) (by simp) (by simp) H7 (InG.own 0 rfl fun _ => rfl) (InG.own 1 rfl fun _ => rfl) fun u v w7 S7 H8 => ?_; obtain ⟨ou, mu, su, rfl, _⟩ := H8.openRW 0 rfl; obtain ⟨ov, mv, sv, rfl, _⟩ := H8.openRW 1 rfl; refine r_bd (v := .agg (cellsV none 0 0 none 0 0).toArray) (by kernel_rfl) ?_; have H9 := (H8.nilRW cellsAn 4 tRA).nilRW cellsEn 4 tRE; refine same_spec (es := []) (fs := []) (rs := []) (ts := []) H9 (InG.own 2 rfl fun _ => rfl) (InG.own 3 rfl fun _ => rfl) (InG.own 0 rfl fun _ => rfl) (InG.own 1 rfl fun _ => rfl) rfl rfl (by simp) (by simp) fun w8 S8 Ha => ?_; refine r_vt ?_; exact bob [_, _, _, _, _, _, _, _] w8 (S1.trans (S2.trans (S3.trans (S4.trans (S5.trans (S6.trans (S7.trans S8))))))) Ha
 · refine r_ex20 (r_ex21 ?_); refine r_new H1 fun vb w2 S2 H2 => ?_; rw [vi_zero] at H2; refine r_stA 0 H2 (vs := cellsV o1 (seeD l).length q1 o2 (refsOf l).length q2) rfl (Nat.le_refl 2) rfl rfl fun w3 S3 H3 => ?_; replace H3 : Holds w3 (blk vb tVi (cellsV o1 (seeD l).length q1 o2 (refsOf l).length q2) :: RW cellsEn 4 tEn (.slice o1 (seeD l).length q1) (seeD l) :: RW cellsAn 4 tAn (.slice o2 (refsOf l).length q2) (refsOf l) :: L) := H3; refine R35All_spec H3 (by omega) (fun d w4 hr2 hd S4 H4 => absurd (AnsR_one hr hr2).2.symm hd) fun v l2 w4 hr2 _ S4 H4 => ?_; obtain ⟨rfl, _⟩ := AnsR_one hr hr2; obtain ⟨o4, m4, sp4, rfl, _⟩ := H4.openRW 0 rfl; refine r_new H4 fun rb w5 S5 H5 => ?_; rw [as_zero] at H5; refine r_stA 0 H5 (vs := [.slice o4 l.length (l.length + m4), nv 0]) rfl (Nat.le_refl 2) rfl rfl fun w6 S6 H6 => ?_; replace H6 : Holds w6 (blk rb tAs [.slice o4 l.length (l.length + m4), nv 0] :: RW cellsAn 4 tRA (.slice o4 l.length (l.length + m4)) l :: blk vb tVi (cellsV o1 (seeD l).length q1 o2 (refsOf l).length q2) :: RW cellsEn 4 tEn (.slice o1 (seeD l).length q1) (seeD l) :: RW cellsAn 4 tAn (.slice o2 (refsOf l).length q2) (refsOf l) :: L) := H6; have hsl := seeD_len l; have hrl := refs_len l; refine r_fo0 (r_ld 0 H6 (v := nv 0) rfl rfl (r_neq (r_vfN rfl ?_))); refine r_dr H6 fun w7 S7 H7 => ?_; refine r_eql (r_vtE rfl ?_); refine r_ldA 2 H7 (cellsV o1 (seeD l).length q1 o2 (refsOf l).length q2) rfl rfl rfl ?_; refine ref_spec (by omega) (by omega) H7 (InG.own 3 rfl fun _ => rfl) (InG.own 4 rfl fun _ => rfl) fun u v w8 S8 H8 => ?_; obtain ⟨ou, mu, su, rfl, _⟩ := H8.openRW 0 rfl; obtain ⟨ov, mv, sv, rfl, _⟩ := H8.openRW 1 rfl; refine r_fo0 (r_ld 2 H8 (v := .slice o4 l.length (l.length + m4)) rfl rfl ?_); refine r_rk (r_ld 0 H7 (v := .slice o4 l.length (l.length + m4)) rfl rfl rfl) ?_; refine RSee_spec H8 (InG.own 3 rfl fun _ => rfl) hl (by omega) (Ans_bds hr) fun o5 q5 o6 q6 w9 S9 H9 => ?_; refine same_spec H9 (InG.own 2 rfl fun _ => rfl) (InG.own 3 rfl fun _ => rfl) (InG.own 0 rfl fun _ => rfl) (InG.own 1 rfl fun _ => rfl) rfl rfl (by omega) (by omega) fun w10 S10 Ha => ?_; refine r_vt ?_; exact bob [_, _, _, _, _, _, _, _, _] w10 (S1.trans (S2.trans (S3.trans (S4.trans (S5.trans (S6.trans (S7.trans (S8.trans (S9.trans S10))))))))) Ha
end D46
end Go.Proofs.YtepdgangngmmhaaGreatDoor
namespace Go.Proofs.YtepdgangngmmhaaGreatDoor
open Go Go.Vc
namespace D46
variable {w : World} {L : List HProp} {K : Value → World → Prop}
theorem ProjectSees_spec (H : Holds w L) (a0 : ByteArray) (h0 : a0.size ≤ maxLen) (post : ∀ w', Same w w' → Holds w' L → K (.bool true) w') :
   Cl Tryz.prog F.balerlaw46_ProjectSees #[.string a0] w K :=
 Sees_of (fun H k => Ev.cl_trueF T46.mixed T46.known_ok T46.test_true H k) H a0 h0 post
end D46
end Go.Proofs.YtepdgangngmmhaaGreatDoor
