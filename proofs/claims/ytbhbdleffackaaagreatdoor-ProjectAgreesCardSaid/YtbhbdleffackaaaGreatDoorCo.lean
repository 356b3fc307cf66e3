/- Chapter 36: a connection until somebody logs in, by the program. -/
import Derived.Test.YtbhbdleffackaaaGreatDoorPr
import Derived.Test.YtbhbdleffackaaaGreatDoorLm
set_option linter.unusedVariables false
set_option linter.unusedSimpArgs false
namespace Go.Proofs.YtbhbdleffackaaaGreatDoor
open Go Go.Vc
section
variable {α : Type} {P : Program} {w : World} {L : List HProp}
/-- append of a row of one's own that is empty, but not nil; what comes behind lies anywhere. -/
theorem r_apG {t e : TypeId} {k : Nat} [hr : RowN P t e k] (H : Holds w L) {F : α → List Value} {ys : List α} {a : Option Addr} {b c' : Nat} {ty : TypeId} {K : Value → World → Prop} (hT : S4r.InG F k L a ys) (hF : ∀ y, (F y).length = k) (hn : 0 < ys.length) (hs : ys.length ≤ 1000)
    (h : ∀ v w', Same w w' → Holds w' (RW F k e v ys :: L) → K v w') : Ap P #[t, t] ty #[.slice (some ⟨b, 0, none⟩) 0 0, .slice a ys.length c'] w K := by
  obtain ⟨inf, z, hinf, hsz, hby, hzz, hzk⟩ := hr.inf
  obtain ⟨p, rfl, _⟩ := hT w H 0 ys[0] (List.getElem?_eq_getElem hn)
  have hlen := flatL_len (k := k) hF
  have hnews : ∀ q u, (flatL F ys)[q]? = some u → w.cell? (p.add q) = some u := by
    intro q u hu
    obtain ⟨i, j, x, h1, h2, rfl⟩ := S4r.flatL_in hF ys q u hu
    obtain ⟨p', hp, h3⟩ := hT w H i x h1
    obtain rfl := Option.some.inj hp
    rw [← Addr.add_add]
    exact h3 j u h2
  have hmul : ys.length * inf.bytes ≤ 140737488355328 := Nat.le_trans (Nat.mul_le_mul_left _ hby) (by omega)
  have hrun := run_append_grow (P := P) w t ty e inf z hr.und hinf hzz ⟨b, 0, none⟩ 0 0 [] (by simp) (fun j v hv => by simp at hv) p ys.length c' (flatL F ys) (by rw [hlen, hsz]) hnews (by omega) (by omega) (growslice_fits (by omega) (by rw [Nat.zero_add]; exact hmul))
  rw [Nat.zero_add] at hrun
  refine ⟨_, _, hrun, ?_⟩
  have hcap := grownCap_ge w ys.length 0 e
  generalize grownCap w ys.length 0 e = cap at hcap ⊢
  have H2 := (H.same (w' := w.drew) rfl).alloc (.cells (([] : List Value).toArray ++ (flatL F ys).toArray ++ Builtin.zeroCells z.cells (cap - ys.length)) e)
  have hc : (([] : List Value).toArray ++ (flatL F ys).toArray ++ Builtin.zeroCells z.cells (cap - ys.length)) = (flatL F ys ++ (Builtin.zeroCells z.cells (cap - ys.length)).toList).toArray := by simp
  rw [hc] at H2 ⊢
  refine h _ _ ((Same.drew w).trans (.alloc _ _)) (Holds.imp H2 fun g hg => ⟨some ⟨_, 0, none⟩, cap - ys.length, (Builtin.zeroCells z.cells (cap - ys.length)).toList, ?_, rfl, rfl, ?_, hg⟩)
  · congr 1; omega
  · rw [zeroCells_len, hzk]
theorem r_mmN {t : TypeId} (H : Holds w L) {K : Value → World → Prop} (h : ∀ b w', Same w w' → Holds w' (blkO b (.map #[] 0) :: L) → K (.map (some b)) w') : Mm P t none w K :=
  ⟨.map (some w.heap.size), w.alloc (.map #[] 0), rfl, h _ _ (.alloc _ _) (H.alloc _)⟩
end
attribute [local irreducible] Go.Vc.Nc Go.Vc.Ld Go.Vc.LdA Go.Vc.St Go.Vc.StA Go.Vc.Fo Go.Vc.Iaa Go.Vc.Ias Go.Vc.Ixs Go.Vc.Ixa Go.Vc.Fd Go.Vc.FdA Go.Vc.Bp Go.Vc.Bb Go.Vc.Bn Go.Vc.Up Go.Vc.Ci Go.Vc.Lns Go.Vc.Lnl Go.Vc.Ex Go.Vc.Sst Go.Vc.Ssl Go.Vc.New Go.Vc.Vif Go.Vc.VJoin Go.Vc.VLoop Go.Vc.KE Go.Vc.Dr Go.Vc.Rk Go.Vc.Cl Go.Vc.Cx Go.Vc.Inv Go.Vc.Be Go.Vc.Cv Go.Vc.Cw Go.Vc.Mf Go.Vc.Sl Go.Vc.Lk Go.Vc.Bd Go.Vc.Bs Go.Vc.Ms Go.Vc.Mm Go.Vc.Mu Go.Vc.Me Go.Vc.Es Go.Vc.Rg Go.Vc.Nx Go.Vc.Ta Go.Vc.Ap Go.Vc.Usd Go.Vc.Ust Go.Vc.Cp Go.Vc.Ln Go.Vc.Bc Go.Vc.Bmin Go.Vc.Bmax Go.Vc.Bdel Go.Vc.Bclr Go.Vc.Pk
namespace F33
open Go.M31 J30 J31 J32
variable {w : World} {L : List HProp} {K : Value → World → Prop}
theorem or_zero {a b : Nat} : a ||| b = 0 ↔ a = 0 ∧ b = 0 := by
  constructor
  · intro h
    have h1 : a ≤ a ||| b := Nat.left_le_or
    have h2 : b ≤ a ||| b := Nat.right_le_or
    omega
  · rintro ⟨rfl, rfl⟩; rfl
theorem xor_zero {a b : Nat} : a ^^^ b = 0 ↔ a = b := by
  constructor
  · intro h
    have : a ^^^ b ^^^ b = 0 ^^^ b := by rw [h]
    rwa [Nat.xor_assoc, Nat.xor_self, Nat.xor_zero, Nat.zero_xor] at this
  · rintro rfl; exact Nat.xor_self a
theorem Same_spec {s t : List UInt8} (H : Holds w L) (hs : s.length ≤ 1000000) (k : ∀ w', Same w w' → Holds w' L → K (.bool (decide (s = t))) w') : Cl Tryz.prog F.token_Same #[S_ s, S_ t] w K := by
  refine Tie.token_Same ?_
  unfold Vcf.token_Same
  refine q_len (q_len (r_min ?_))
  rw [show min (s.length : Int) (t.length : Int) = ((min s.length t.length : Nat) : Int) by omega]
  generalize hm : min s.length t.length = m
  refine r_loop2 (fun x y w' => ∃ u i : Nat, u < 256 ∧ i ≤ m ∧ x = .int .u8 (u : Int) ∧ y = nv i ∧ (u = 0 ↔ ∀ j, j < i → s.getD j 0 = t.getD j 0) ∧ Same w w' ∧ Holds w' L) (fun _ y _ => m - (RowKit.intOf y).toNat)
    ⟨0, 0, by decide, Nat.zero_le _, rfl, rfl, ⟨fun _ j hj => absurd hj (Nat.not_lt_zero _), fun _ => rfl⟩, .refl w, H⟩ ?_
  clear H
  rintro _ _ _ w2 ⟨u, i, hu, hi, rfl, rfl, heq, S, H⟩
  refine r_lss (r_ifD (fun h => ?_) fun h => ?_)
  · have hlt : i < m := by omega
    have h1 := (s.getD i 0).toNat_lt
    have h2 := (t.getD i 0).toNat_lt
    refine r_dr H fun w3 S3 H3 => ?_
    refine q_ix (by omega) (q_ix (by omega) ?_)
    refine r_xorU8 h1 h2 ?_
    have hx : (s.getD i 0).toNat ^^^ (t.getD i 0).toNat < 2 ^ 8 := Nat.xor_lt_two_pow (n := 8) (by omega) (by omega)
    refine r_orU8 hu (by omega) ?_
    have ho : u ||| ((s.getD i 0).toNat ^^^ (t.getD i 0).toNat) < 2 ^ 8 := Nat.or_lt_two_pow (by omega) hx
    refine r_add1N (by omega) (r_ke ⟨⟨_, i + 1, by omega, by omega, rfl, rfl, ?_, S.trans S3, H3⟩, ?_⟩)
    · rw [or_zero, xor_zero, heq]
      constructor
      · rintro ⟨g1, g2⟩ j hj
        by_cases hji : j < i
        · exact g1 j hji
        · obtain rfl : j = i := by omega
          exact UInt8.toNat_inj.1 g2
      · intro g
        exact ⟨fun j hj => g j (by omega), by rw [g i (by omega)]⟩
    · simp only [RowKit.intOf, Int.toNat_natCast]
      omega
  · obtain rfl : i = m := by omega
    have hb : ∀ z : Bool, (z = true ↔ s = t) → K (.bool z) w2 := fun z hz => by
      have := k w2 S H
      rwa [show decide (s = t) = z by rw [Bool.eq_iff_iff, decide_eq_true_iff]; exact hz.symm] at this
    refine r_eql (r_ifE (fun h3 => ?_) fun h3 => ?_)
    · have hall := heq.1 (by omega)
      refine q_len (q_len (r_eql (hb _ ?_)))
      rw [beq_iff_eq]
      constructor
      · intro hl
        have hl' : s.length = t.length := by omega
        apply List.ext_getElem?
        intro j
        by_cases hj : j < s.length
        · have := hall j (by omega)
          rw [List.getD_eq_getElem?_getD, List.getD_eq_getElem?_getD, List.getElem?_eq_getElem hj, List.getElem?_eq_getElem (by omega)] at this
          rw [List.getElem?_eq_getElem hj, List.getElem?_eq_getElem (by omega)]
          exact congrArg some this
        · rw [List.getElem?_eq_none (by omega), List.getElem?_eq_none (by omega)]
      · rintro rfl; rfl
    · refine hb false ⟨fun e => (by cases e), ?_⟩
      rintro rfl
      exact absurd (heq.2 fun j _ => rfl) (by omega)
/-- Whose token a text is. -/
def First (ts : List Tn) (s : List UInt8) (i : Nat) : Prop := (∃ t, ts[i]? = some t ∧ t.tk.data.toList = s) ∧ ∀ (j : Nat) u, j < i → ts[j]? = some u → u.tk.data.toList ≠ s
def Nobody (ts : List Tn) (s : List UInt8) : Prop := ∀ (j : Nat) u, ts[j]? = some u → u.tk.data.toList ≠ s
theorem S_of (b : ByteArray) : Value.string b = S_ b.data.toList := by simp
theorem Find_spec {a : Option Addr} {ts : List Tn} {c : Nat} {s : List UInt8} (H : Holds w L) (hT : TsIn L a ts) (hl : ts.length ≤ 1000) (hs : ∀ t ∈ ts, szT t)
    (k1 : ∀ i w', First ts s i → Same w w' → Holds w' L → K (.tuple #[nv i, iv 0]) w') (k2 : ∀ w', Nobody ts s → Same w w' → Holds w' L → K (.tuple #[iv 0, iv 30]) w') :
    Cl Tryz.prog F.tenants_Find #[.slice a ts.length c, S_ s] w K := by
  refine Tie.tenants_Find ?_
  unfold Vcf.tenants_Find
  have hzT : (zeroP Tryz.prog tT).cells.toList = [.string ⟨#[]⟩, .string ⟨#[]⟩, iv 0, iv 0, iv 0] := by kernel_rfl
  refine r_lnl ?_
  refine r_loop2 (fun x y w' => ∃ (at_ : Int) (i : Nat), i ≤ ts.length ∧ x = iv at_ ∧ y = nv i ∧ ((at_ = -1 ∧ ∀ (j : Nat) u, j < i → ts[j]? = some u → u.tk.data.toList ≠ s) ∨ ∃ q : Nat, at_ = (q : Int) ∧ First ts s q) ∧ Same w w' ∧ Holds w' L) (fun _ y _ => ts.length - (RowKit.intOf y).toNat)
    ⟨-1, 0, Nat.zero_le _, rfl, rfl, .inl ⟨rfl, fun j u hj => absurd hj (Nat.not_lt_zero _)⟩, .refl w, H⟩ ?_
  clear H
  rintro _ _ _ w2 ⟨at_, i, hi, rfl, rfl, hat, S, H⟩
  refine r_lss (r_ifD (fun h => ?_) fun h => ?_)
  · have hlt : i < ts.length := by omega
    have ht : ts[i]? = some ts[i] := List.getElem?_eq_getElem hlt
    have hz := hs _ (List.getElem_mem hlt)
    generalize ts[i] = t at ht hz
    refine r_ldT hT H ht hlt ?_
    refine r_new H fun tb w3 S3 H3 => ?_
    rw [hzT] at H3
    refine r_stA 0 H3 (vs := cellsT t) rfl (Nat.le_refl 5) rfl (cellsT_sg t) fun w4 S4 H4 => ?_
    replace H4 : Holds w4 (blk tb tT (cellsT t) :: L) := H4
    have S' := S.trans (S3.trans S4)
    refine r_join1 (fun v w' => ∃ z : Bool, v = .bool z ∧ (z = true ↔ t.tk.data.toList = s ∧ at_ = -1) ∧ Same w w' ∧ Holds w' L) ?_ ?_
    rotate_left
    · refine r_fo0 (r_ld 0 H4 rfl rfl ?_)
      rw [S_of]
      have hsz : t.tk.data.toList.length ≤ 1000 := by have := hz.2; simpa using this
      refine Same_spec H4 (by omega) fun w5 S5 H5 => ?_
      refine r_ifD (fun g => ?_) fun g => ?_
      · refine r_eql (r_ke ⟨_, rfl, ?_, S'.trans S5, H5.drop⟩)
        rw [beq_iff_eq]
        exact ⟨fun q => ⟨g, q⟩, fun q => q.2⟩
      · exact r_ke ⟨false, rfl, ⟨fun q => (by cases q), fun q => absurd q.1 g⟩, S'.trans S5, H5.drop⟩
    rintro _ _ w5 ⟨z, rfl, hz2, S5, H5⟩
    cases z with
    | true =>
      obtain ⟨g1, g2⟩ := hz2.1 rfl
      refine r_vt (r_add1N (by omega) (r_ke ⟨⟨(i : Int), i + 1, by omega, rfl, rfl, .inr ⟨i, rfl, ⟨t, ht, g1⟩, ?_⟩, S5, H5⟩, ?_⟩))
      · rcases hat with ⟨_, hno⟩ | ⟨q, hq, _⟩
        · exact hno
        · omega
      · simp only [RowKit.intOf, Int.toNat_natCast]
        omega
    | false =>
      refine r_vf (r_add1N (by omega) (r_ke ⟨⟨at_, i + 1, by omega, rfl, rfl, ?_, S5, H5⟩, ?_⟩))
      · rcases hat with ⟨h1, hno⟩ | hq
        · refine .inl ⟨h1, fun j u hj hu => ?_⟩
          by_cases hji : j < i
          · exact hno j u hji hu
          · obtain rfl : j = i := by omega
            rw [ht] at hu
            obtain rfl := Option.some.inj hu
            intro e
            have := hz2.2 ⟨e, h1⟩
            cases this
        · exact .inr hq
      · simp only [RowKit.intOf, Int.toNat_natCast]
        omega
  · obtain rfl : i = ts.length := by omega
    rcases hat with ⟨rfl, hno⟩ | ⟨q, rfl, hq⟩
    · exact r_eql (r_vtE rfl (k2 w2 (fun j u hu => hno j u (List.getElem?_eq_some_iff.1 hu).1 hu) S H))
    · exact r_eql (r_vfE (by omega) (k1 q w2 hq S H))
end F33
end Go.Proofs.YtbhbdleffackaaaGreatDoor
