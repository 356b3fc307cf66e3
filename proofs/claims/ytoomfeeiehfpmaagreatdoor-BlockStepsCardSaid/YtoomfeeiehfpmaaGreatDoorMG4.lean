/- Several texts in one: O2G, O2S. -/
import Derived.Test.YtoomfeeiehfpmaaGreatDoorMG1
import Derived.Test.YtoomfeeiehfpmaaGreatDoorMG2
import Derived.Test.YtoomfeeiehfpmaaGreatDoorT20Z
import Derived.Test.YtoomfeeiehfpmaaGreatDoorRows
import Derived.Lib.LaidTab
import Derived.LaidMore
/- Chapter 20: the closed test, what the row's data say of the variable, what was got in the document's words, and the law BlockReads. -/
set_option linter.unusedVariables false
set_option linter.unusedSimpArgs false
namespace Go.Proofs.YtoomfeeiehfpmaaGreatDoor
open Go Go.Vc
attribute [local irreducible] Go.Vc.Nc Go.Vc.Ld Go.Vc.LdA Go.Vc.St Go.Vc.StA Go.Vc.Fo Go.Vc.Iaa Go.Vc.Ias Go.Vc.Ixs Go.Vc.Ixa Go.Vc.Fd Go.Vc.FdA Go.Vc.Bp Go.Vc.Bb Go.Vc.Bn Go.Vc.Up Go.Vc.Ci Go.Vc.Lns Go.Vc.Lnl Go.Vc.Ex Go.Vc.Sst Go.Vc.Ssl Go.Vc.New Go.Vc.Vif Go.Vc.VJoin Go.Vc.VLoop Go.Vc.KE Go.Vc.Dr Go.Vc.Rk Go.Vc.Cl Go.Vc.Cx Go.Vc.Inv Go.Vc.Be Go.Vc.Cv Go.Vc.Cw Go.Vc.Mf Go.Vc.Sl Go.Vc.Lk Go.Vc.Bd Go.Vc.Bs Go.Vc.Ms Go.Vc.Mm Go.Vc.Mu Go.Vc.Me Go.Vc.Es Go.Vc.Rg Go.Vc.Nx Go.Vc.Ta Go.Vc.Ap Go.Vc.Usd Go.Vc.Ust Go.Vc.Cp Go.Vc.Ln Go.Vc.Bc Go.Vc.Bmin Go.Vc.Bmax Go.Vc.Bdel Go.Vc.Bclr Go.Vc.Pk
namespace P20
open Go.M01 Go.Mb Go.Mp Go.M10 Go.Mc Go.Mz Go.Mk Go.Q20 Go.Q21 Go.Q22 Go.Q23
variable {w : World} {L : List HProp} {K : Value → World → Prop}
abbrev G : List (Nat × List Ev.X) := [(1, [(T20.I 200), (T20.I 600), (T20.I 1200), (T20.I 2400)])]
set_option maxRecDepth 1000000 in
theorem letter_spec (hG : ∀ w', Holds w' L → Ev.GOk G w') (H : Holds w L) (post : ∀ w', Same w w' → Holds w' L → K (.bool true) w') : Cl Tryz.prog F.balerlaw20_letter #[] w K := Ev.cl_trueFG T20.mixed T20.known_ok T20.test_true (hG w H) H post
def BndIn (L : List HProp) : Prop := ∀ w', Holds w' L → Ev.GOk G w'
theorem BndIn.up {Q : HProp} (h : BndIn L) : BndIn (Q :: L) := fun w' H => h w' H.drop
set_option maxRecDepth 1000000 in
theorem laid_one {W : World} (h : laidMet Tryz.prog [("baler/tables.bounds", (Lib.tabData .i64 [200, 600, 1200, 2400] : DataW Unit))] W) : BndIn [whole W] := by
  have ht : Lib.TabIs Tryz.prog W "baler/tables.bounds" .i64 [200, 600, 1200, 2400] := Lib.tabIs_of_head (g := 1) (t := 271) (e := 3) (n := 4) (by kernel_rfl) (by kernel_rfl) Tryz.underlying271 Tryz.underlying3 (by kernel_rfl) (by kernel_rfl) h
  unfold Lib.TabIs World.var? at ht
  rw [show Tryz.prog.globalNamed "baler/tables.bounds" = some 1 by kernel_rfl] at ht
  simp only [Option.bind_some] at ht
  intro w' H' g xs hg
  have hx : g = 1 ∧ xs = [(T20.I 200), (T20.I 600), (T20.I 1200), (T20.I 2400)] := by
    unfold G Ev.lkG at hg
    split at hg
    · rename_i hb
      exact ⟨(Nat.eq_of_beq_eq_true hb).symm, (Option.some.inj hg).symm⟩
    · cases hg
  obtain ⟨rfl, rfl⟩ := hx
  obtain ⟨g, hg, hgs, _⟩ := H'
  cases ho : W.heap[1]? with
  | none => rw [ho] at ht; cases ht
  | some o =>
    rw [ho] at ht
    cases o with
    | cells cs e z =>
      simp only [Option.some.injEq] at ht
      subst ht
      exact ⟨e, z, _, rfl, hgs _ _ (hg _ _ ho)⟩
    | _ => cases ht
theorem tab_laid2 {W : World} (h : laidMetH Tryz.prog Rows.blockStepsRow.laid W) : BndIn [whole W] := laid_one h
abbrev tRg : Nat := 37
def fldsOf (P : Program) (t : Nat) : List Field := match P.underlying t with
  | some (.struct fs) => fs.toList
  | _ => []
theorem eq3 {P : Program} {eq : TypeId → Ev.X → Ev.X → Option Bool} {x0 x1 x2 : Ev.X} {f0 f1 f2 : Field}
    (o : f0.offset = 0 ∧ f1.offset = 1 ∧ f2.offset = 2) (nm : (f0.name == "_") = false ∧ (f1.name == "_") = false ∧ (f2.name == "_") = false)
    (p : ∀ l : List Ev.X, Ev.partX P f0.type l 0 = l[0]? ∧ Ev.partX P f1.type l 1 = l[1]? ∧ Ev.partX P f2.type l 2 = l[2]?)
    (e0 : eq f0.type x0 x0 = some true) (e1 : eq f1.type x1 x1 = some true) (e2 : eq f2.type x2 x2 = some true) :
    Ev.eqFs P eq [x0, x1, x2] [x0, x1, x2] [f0, f1, f2] = some true := by
  obtain ⟨o0, o1, o2⟩ := o
  obtain ⟨n0, n1, n2⟩ := nm
  obtain ⟨p0, p1, p2⟩ := p [x0, x1, x2]
  simp only [Ev.eqFs, n0, n1, n2, o0, o1, o2, p0, p1, p2, List.getElem?_cons_zero, List.getElem?_cons_succ, e0, e1, e2]
def fTy (P : Program) (t i : Nat) : Nat := match (fldsOf P t)[i]? with
  | some f => f.type
  | none => 0
set_option maxRecDepth 1000000 in
theorem be_same {A B : Operand} {t : List UInt8} {o u : Nat} {K : Value → Prop} (h : K (.bool true)) :
    Be Tryz.prog .eql tRg A B (.agg #[S_ t, nv o, uv u]) (.agg #[S_ t, nv o, uv u]) w K := by
  obtain ⟨f0, f1, f2, hfs⟩ : ∃ f0 f1 f2, fldsOf Tryz.prog tRg = [f0, f1, f2] := by
    have hl : (fldsOf Tryz.prog tRg).length = 3 := by kernel_rfl
    match hq : fldsOf Tryz.prog tRg, hl with
    | [a, b, c], _ => exact ⟨a, b, c, rfl⟩
  have hu : Tryz.prog.underlying tRg = some (.struct [f0, f1, f2].toArray) := by
    rw [← hfs]; kernel_rfl
  have ho : (fldsOf Tryz.prog tRg).map (·.offset) = [0, 1, 2] := by kernel_rfl
  have hn : (fldsOf Tryz.prog tRg).map (fun f => f.name == "_") = [false, false, false] := by kernel_rfl
  have ht : (fldsOf Tryz.prog tRg).map (fun f => Tryz.prog.underlying f.type) = [some .string, some (.int .i64), some (.int .u32)] := by kernel_rfl
  rw [hfs] at ho hn ht
  simp only [List.map_cons, List.map_nil, List.cons.injEq, and_true] at ho hn ht
  obtain ⟨o0, o1, o2⟩ := ho
  obtain ⟨n0, n1, n2⟩ := hn
  obtain ⟨t0, t1, t2⟩ := ht
  have hp : ∀ l : List Ev.X, Ev.partX Tryz.prog f0.type l 0 = l[0]? ∧ Ev.partX Tryz.prog f1.type l 1 = l[1]? ∧ Ev.partX Tryz.prog f2.type l 2 = l[2]? := fun l => by
    unfold Ev.partX
    rw [t0, t1, t2]; exact ⟨rfl, rfl, rfl⟩
  have hst : Tryz.prog.stoodInHeld tRg = false := by kernel_rfl
  have hxs : Ev.str (t.map (·.toNat)) = ⟨t.toArray⟩ := by
    unfold Ev.str
    rw [List.map_map, show (UInt8.ofNat ∘ fun x : UInt8 => x.toNat) = id by funext x; simp, List.map_id]
  have he : Ev.eqT Tryz.prog 20 tRg (.g [.s (t.map (·.toNat)), .i .i64 o, .i .u32 u]) (.g [.s (t.map (·.toNat)), .i .i64 o, .i .u32 u]) = some true := by
    rw [Ev.eqT, hu]
    simp only [hst]
    refine eq3 ⟨o0, o1, o2⟩ ⟨n0, n1, n2⟩ hp ?_ ?_ ?_
    · simp only [Ev.eqT, t0, Ev.eq1, Ev.eqN_spec, decide_true]
    · simp only [Ev.eqT, t1, Ev.eq1, decide_true, beq_self_eq_true]
    · simp only [Ev.eqT, t2, Ev.eq1, decide_true, beq_self_eq_true]
  have hgd : Ev.gdE Tryz.prog tRg A B (.g [.s (t.map (·.toNat)), .i .i64 o, .i .u32 u]) (.g [.s (t.map (·.toNat)), .i .i64 o, .i .u32 u]) = true := by
    have : Tryz.prog.eqGuardType Tryz.prog.depth tRg = false := by kernel_rfl
    simp only [Ev.gdE, this]
  have hx : Ev.beX Tryz.prog .eql tRg A B (some (.g [.s (t.map (·.toNat)), .i .i64 o, .i .u32 u])) (some (.g [.s (t.map (·.toNat)), .i .i64 o, .i .u32 u])) = some (.b true) := by
    unfold Ev.beX
    simp only [hgd, he]
  have hv : Ev.vl (fun _ => none) (.g [.s (t.map (·.toNat)), .i .i64 o, .i .u32 u]) = some (.agg #[S_ t, nv o, uv u]) := by
    simp [Ev.vl, Ev.vls, hxs]
  exact Ev.beX_ok (P := Tryz.prog) (σ := fun _ => none) (t := tRg) (A := A) (B := B) (f := fun _ => .agg #[S_ t, nv o, uv u])
    hu (fun k h => by cases h) (fun h => by cases h) (fun h => by cases h) (fun e h => by cases h) hx (fun a ha => by cases ha; exact hv) (fun a ha => by cases ha; exact hv) fun v hv => by
      obtain rfl := Option.some.inj hv
      exact h
theorem ref_spec {t : List UInt8} {o u : Nat} (H : Holds w L) (k : ∀ w', Same w w' → Holds w' L → K (.agg #[S_ t, nv o, uv u]) w') : Cl Tryz.prog F.balerlaw20_ref #[.agg #[S_ t, nv o, uv u]] w K := by
  refine Tie.balerlaw20_ref ?_
  unfold Vcf.balerlaw20_ref
  have hz : (zeroP Tryz.prog tRg).cells.toList = [S_ [], iv 0, uv 0] := by kernel_rfl
  refine r_new H fun b w1 S1 H1 => ?_
  replace H1 : Holds w1 (blk b 34 [S_ t, nv o, uv u] :: L) := H1
  refine r_new H1 fun b2 w2 S2 H2 => ?_
  rw [hz] at H2
  refine r_fo0 (r_ld 1 H2 rfl rfl ?_)
  refine r_fo0 (r_ld 1 H2 rfl rfl ?_)
  refine r_fo0 (r_ld 1 H2 rfl rfl ?_)
  refine r_bd (v := .agg #[S_ t, nv o, uv u]) (by kernel_rfl) ?_
  refine r_stA 0 H2 (vs := [S_ t, nv o, uv u]) rfl (Nat.le_refl 3) rfl rfl fun w3 S3 H3 => ?_
  replace H3 : Holds w3 (blk b2 tRg [S_ t, nv o, uv u] :: blk b 34 [S_ t, nv o, uv u] :: L) := H3
  refine r_ldA 0 H3 [S_ t, nv o, uv u] rfl rfl rfl ?_
  exact k _ ((S1.trans S2).trans S3) H3.drop.drop
def gotT : Out → List UInt8
  | .bad _ => []
  | .got last _ _ _ _ => last
def gotO : Out → Nat
  | .bad _ => 0
  | .got _ o _ _ _ => o
def gotU : Out → Nat
  | .bad _ => 0
  | .got _ _ u _ _ => u
def gotN : Out → Nat
  | .bad _ => 0
  | .got _ _ _ n _ => n
def gotH : Out → Nat
  | .bad _ => 0
  | .got _ _ _ _ h => h
def gotE : Out → Nat
  | .bad e => e
  | .got _ _ _ _ _ => 0
theorem ofL_eq (o : Out) : ofL o = [S_ (gotT o), nv (gotO o), uv (gotU o), nv (gotN o), nv (gotH o), nv (gotE o)] := by cases o <;> rfl
end P20
end Go.Proofs.YtoomfeeiehfpmaaGreatDoor
/- Chapter 20: blocks that are read step by step; the law BlockSteps. -/
set_option linter.unusedVariables false
set_option linter.unusedSimpArgs false
namespace Go.Proofs.YtoomfeeiehfpmaaGreatDoor
open Go Go.Vc
attribute [local irreducible] Go.Vc.Nc Go.Vc.Ld Go.Vc.LdA Go.Vc.St Go.Vc.StA Go.Vc.Fo Go.Vc.Iaa Go.Vc.Ias Go.Vc.Ixs Go.Vc.Ixa Go.Vc.Fd Go.Vc.FdA Go.Vc.Bp Go.Vc.Bb Go.Vc.Bn Go.Vc.Up Go.Vc.Ci Go.Vc.Lns Go.Vc.Lnl Go.Vc.Ex Go.Vc.Sst Go.Vc.Ssl Go.Vc.New Go.Vc.Vif Go.Vc.VJoin Go.Vc.VLoop Go.Vc.KE Go.Vc.Dr Go.Vc.Rk Go.Vc.Cl Go.Vc.Cx Go.Vc.Inv Go.Vc.Be Go.Vc.Cv Go.Vc.Cw Go.Vc.Mf Go.Vc.Sl Go.Vc.Lk Go.Vc.Bd Go.Vc.Bs Go.Vc.Ms Go.Vc.Mm Go.Vc.Mu Go.Vc.Me Go.Vc.Es Go.Vc.Rg Go.Vc.Nx Go.Vc.Ta Go.Vc.Ap Go.Vc.Usd Go.Vc.Ust Go.Vc.Cp Go.Vc.Ln Go.Vc.Bc Go.Vc.Bmin Go.Vc.Bmax Go.Vc.Bdel Go.Vc.Bclr Go.Vc.Pk
namespace B20
open Go.M01 Go.Mb Go.Mp Go.M10 Go.Mc Go.Mz Go.Mk Go.Q20 Go.Q23 Rb
variable {w : World} {L : List HProp} {K : Value → World → Prop} {b r : Nat} {B : List UInt8} {d at_ n k : Nat} {s : BS} {x : RS}
theorem Held_spec (H : Holds w (BkR b s :: L)) (k : ∀ w', Same w w' → Holds w' (BkR b s :: L) → K (nv (BS.held s)) w') : Cl Tryz.prog F.block_Reader_Held #[pt b] w K := by
  refine Tie.block_Reader_Held ?_
  unfold Vcf.block_Reader_Held
  have hs := (BkR_open H).1
  have hlr := last_room hs
  have hroom := hs.room
  have H0 := (BkR_open H).2
  refine r_bnSF (r_vf ?_)
  cases hrow : s.row with
  | none =>
    obtain ⟨lv, H1⟩ := Raw_openN hrow H0
    unfold rawN at H1
    refine r_nc (r_fo0 (r_ld 0 H1 rfl rfl ?_))
    refine r_bnNT (r_vt ?_)
    refine r_nc (r_fo0 (r_ld 0 H1 rfl rfl ?_))
    refine r_lnS 1 H1 rfl ?_
    have e : BS.held s = s.last.length := by unfold BS.held; rw [hrow]
    rw [← e]
    exact k _ (.refl w) H
  | some x =>
    obtain ⟨rb, cb, zb, mb, lv, H1⟩ := Raw_openS hrow H0
    unfold rawS at H1
    refine r_nc (r_fo0 (r_ld 0 H1 rfl rfl ?_))
    refine r_bnSF (r_vf ?_)
    refine r_dr H1 fun w2 S2 H2 => ?_
    refine r_nc (r_fo0 (r_ld 0 H2 rfl rfl ?_))
    refine r_nc (r_fo0 (r_ld 2 H2 rfl rfl ?_))
    have H3 : Holds w2 (C14.CdR cb x.code :: blk b tBk (bkC (pt rb) lv s) :: SL bv tB lv s.last :: blk rb tRw (rwC cb zb mb x) :: Z07.ZrR zb x.zeros :: F06.MtR mb x.list :: L) := (by have h_ := Holds.ord 6 [3, 0, 1, 2, 4, 5] H2 rfl; exact h_)
    have hx := (hs.some_ x hrow).2.1.code
    have h258 := hx.s2
    have htb := hx.pk.tbl
    have h7 := hx.pk.cnt
    have h8 := hx.pk.len
    have hcl := hx.cl
    have hbl : x.code.codes.length ≤ 6 := by
      rcases Nat.eq_zero_or_pos x.code.picks.count with h0 | h0
      · have := (hx.pk.new h0).1; omega
      · have := htb h0; omega
    have hm : x.code.size * x.code.codes.length ≤ 258 * 6 := Nat.mul_le_mul h258 hbl
    refine C14.Held_spec H3 fun w4 S4 H4 => ?_
    refine r_nc (r_fo0 (r_ld 1 H4 rfl rfl ?_))
    refine r_rk (r_ld 0 H2 rfl rfl rfl) ?_
    refine r_lnS 2 H4 rfl ?_
    refine r_rk (r_lnS 1 H2 rfl rfl) ?_
    refine r_addN (by omega) ?_
    have e : BS.held s = x.code.picks.picks.length + x.code.size * x.code.codes.length + s.last.length := by unfold BS.held; rw [hrow]
    rw [← e]
    refine k _ (S2.trans S4) (BkR_close hs (Raw_closeS (rb := rb) (cb := cb) (zb := zb) (mb := mb) (lv := lv) hrow ?_))
    unfold rawS
    exact (by have h_ := Holds.ord 6 [1, 2, 3, 0, 4, 5] H4 rfl; exact h_)
end B20
namespace P20
open Go.M01 Go.Mb Go.Mp Go.M10 Go.Mc Go.Mz Go.Mk Go.Q20 Go.Q21 Go.Q22 Go.Q23
variable {w : World} {L : List HProp} {K : Value → World → Prop}
theorem cut_step {s : BS} {xs : List UInt8} {c q : Nat} {y : Res BS} (hs : s.Ok) (hq : q ≤ 8 * (xs.take c).length) (h : bstep s (rest (xs.take c) q) = y) (hy : y ≠ .short) : bstep s (rest xs q) = y := by
  have e : rest xs q = rest (xs.take c) q ++ bitsL (xs.drop c) := by
    conv => lhs; rw [← List.take_append_drop c xs]
    unfold rest
    rw [bitsL_app, List.drop_append_of_le_length (by rw [bitsL_len]; exact hq)]
  rw [e, bstep_more _ hs (by rw [h]; exact hy), h]
theorem BlockSteps_spec (H : Holds w L) (s : ByteArray) (cut room : Int) (_ : s.size ≤ maxLen) (_ : (Lit.int .i64 cut).wf = true) (_ : (Lit.int .i64 room).wf = true) (hG : BndIn L) (post : ∀ w', Same w w' → Holds w' L → K (.bool true) w') :
    Cl Tryz.prog F.balerlaw20_BlockSteps #[.string s, .int .i64 cut, .int .i64 room] w K := by
  refine Tie.balerlaw20_BlockSteps ?_
  unfold Vcf.balerlaw20_BlockSteps
  obtain ⟨xs, rfl⟩ : ∃ xs : List UInt8, s = ⟨xs.toArray⟩ := ⟨s.data.toList, by simp⟩
  refine r_join1 (fun y w' => w = w' ∧ y = .bool (decide (120 < (xs.length : Int) ∨ cut < 0 ∨ (xs.length : Int) < cut ∨ ¬ (5 ≤ room ∧ room ≤ 900000) ∨ 300 < room))) ?_ ?_
  rotate_left
  · refine q_len ?_
    refine r_gtr (r_ifD (fun h => ?_) fun h => ?_)
    · exact r_ke ⟨rfl, by rw [decide_eq_true (by omega)]⟩
    · refine r_lss (r_ifD (fun h2 => ?_) fun h2 => ?_)
      · exact r_ke ⟨rfl, by rw [decide_eq_true (by omega)]⟩
      · refine q_len ?_
        refine r_gtr (r_ifD (fun h3 => ?_) fun h3 => ?_)
        · exact r_ke ⟨rfl, by rw [decide_eq_true (by omega)]⟩
        · refine Room_spec ?_
          by_cases h4 : 5 ≤ room ∧ room ≤ 900000
          · rw [decide_eq_true h4]
            refine r_notT (r_vf ?_)
            exact r_gtr (r_ke ⟨rfl, congrArg Value.bool (by rw [Bool.eq_iff_iff, decide_eq_true_iff, decide_eq_true_iff]; omega)⟩)
          · rw [decide_eq_false h4]
            refine r_notF (r_vt ?_)
            exact r_ke ⟨rfl, by rw [decide_eq_true (by omega)]⟩
  rintro _ _ _ ⟨rfl, rfl⟩
  refine r_ifD (fun h => ?_) fun h => ?_
  · exact letter_spec hG H post
  obtain ⟨c, rfl⟩ : ∃ c : Nat, cut = (c : Int) := ⟨cut.toNat, by omega⟩
  obtain ⟨rm, rfl⟩ : ∃ rm : Nat, room = (rm : Int) := ⟨room.toNat, by omega⟩
  have hcl : (xs.take c).length = c := by rw [List.length_take]; omega
  refine B20.NewReader_spec H (by omega) (by omega) fun b w1 S1 H1 => ?_
  refine r_ex20 (r_ex21 ?_)
  refine q_T (m := c) (by omega) ?_
  refine Rb.NewReader_spec H1 (by omega) fun r w2 S2 H2 => ?_
  refine Bits_spec (by omega) ?_
  have hbl := bitsL_len xs
  refine Of_spec (l := bitsL xs) H2 (by omega) (by omega) fun o hs w3 S3 H3 => ?_
  have hc := says_comes hs
  rw [ofL_eq]
  have hzo : (zeroP Tryz.prog tOf).cells.toList = ofZ := by kernel_rfl
  have hzg : (zeroP Tryz.prog 34).cells.toList = [S_ [], iv 0, uv 0] := by kernel_rfl
  refine r_new H3 fun ob w4 S4 H4 => ?_
  rw [hzo] at H4
  refine r_stA 0 H4 (vs := [S_ (gotT o), nv (gotO o), uv (gotU o), nv (gotN o), nv (gotH o), nv (gotE o)]) rfl (Nat.le_refl 6) rfl rfl fun w5 S5 H5 => ?_
  replace H5 : Holds w5 (blk ob tOf [S_ (gotT o), nv (gotO o), uv (gotU o), nv (gotN o), nv (gotH o), nv (gotE o)] :: Rb.RdR r (xs.take c) 0 0 :: B20.BkR b (b0 rm) :: L) := H5
  replace H5 : Holds w5 (B20.BkR b (b0 rm) :: Rb.RdR r (xs.take c) 0 0 :: blk ob tOf [S_ (gotT o), nv (gotO o), uv (gotU o), nv (gotN o), nv (gotH o), nv (gotE o)] :: L) := (by have h_ := Holds.ord 3 [2, 1, 0] H5 rfl; exact h_)
  have S := (((S1.trans S2).trans S3).trans S4).trans S5
  clear H H1 H2 H3 H4 S1 S2 S3 S4 S5
  refine r_neq (r_vfN rfl ?_)
  refine q_len ?_
  refine r_mulE (8 * (xs.length : Int)) rfl (by omega) (by omega) ?_
  refine r_addE (8 * (xs.length : Int) + rm) rfl (by omega) (by omega) ?_
  refine r_addE (8 * (xs.length : Int) + rm + 60) rfl (by omega) (by omega) ?_
  refine r_loop2 (fun cv iv_ w' => ∃ (i q : Nat) (s : BS) (come : Bool), cv = .bool come ∧ iv_ = nv i ∧ Run bstep BS.done (b0 rm) (bitsL xs) s q ∧ s.room = rm ∧ i ≤ q + s.last.length + come.toNat ∧ Same w w' ∧
      Holds w' (B20.BkR b s :: Rb.RdR r (if come then xs else xs.take c) 0 q :: blk ob tOf [S_ (gotT o), nv (gotO o), uv (gotU o), nv (gotN o), nv (gotH o), nv (gotE o)] :: L))
    (fun _ iv_ _ => 8 * xs.length + rm + 60 - (RowKit.intOf iv_).toNat) ⟨0, 0, b0 rm, false, rfl, rfl, .start, rfl, by simp, S, H5⟩ ?_
  clear H5 S
  rintro _ _ _ w6 ⟨i, q, s, come, rfl, rfl, hr, hroom, hi, S, H⟩
  have hok := (B20.BkR_open H).1
  have hlr := last_room hok
  have hB : (if come then xs else xs.take c).length ≤ xs.length := by
    cases come with
    | true => exact Nat.le_refl _
    | false => show (xs.take c).length ≤ xs.length; omega
  have hq := (Rb.RdR_open H.drop).1.2.1
  have hct := Bool.toNat_le come
  refine r_lss (r_vtD (by omega) ?_)
  refine B20.Done_spec H ?_
  cases hd : s.done with
  | true =>
    refine r_vt ?_
    obtain rfl : o = .got s.last s.frm s.sum q (BS.held s) := Q20.Comes.det hc ⟨s, q, hr, .inl ⟨hd, rfl⟩⟩
    refine r_dr H fun w7 S7 H7 => ?_
    refine r_fo0 (r_ld 2 H7 rfl rfl ?_)
    refine r_eql (r_vtE rfl ?_)
    refine B20.StepDone_spec H7 hd ?_
    refine r_eql (r_vtE rfl ?_)
    refine Rb.At_spec H7.drop ?_
    refine r_fo0 (r_ld 2 H7 rfl rfl ?_)
    refine r_rk (r_ld 2 H7 rfl rfl rfl) ?_
    refine r_eql (r_vtE rfl ?_)
    refine B20.Got_done H7 hd fun w8 S8 H8 => ?_
    refine ref_spec H8 fun w9 S9 H9 => ?_
    refine r_fo0 (r_ldA 2 H9 [S_ s.last, nv s.frm, uv s.sum] rfl rfl rfl ?_)
    refine r_rk (r_ldA 2 H8 [S_ s.last, nv s.frm, uv s.sum] rfl rfl rfl rfl) ?_
    refine r_rk (r_ldA 2 H7 [S_ s.last, nv s.frm, uv s.sum] rfl rfl rfl rfl) ?_
    refine be_same ?_
    refine r_vt ?_
    refine B20.Held_spec H9 fun wa Sa Ha => ?_
    refine r_fo0 (r_ld 2 Ha rfl rfl ?_)
    refine r_rk (r_ld 2 H9 rfl rfl rfl) ?_
    refine r_eql (r_vtE rfl ?_)
    exact letter_spec hG.up.up.up Ha fun wb Sb Hb => post _ (((((S.trans S7).trans S8).trans S9).trans Sa).trans Sb) Hb.drop.drop.drop
  | false =>
    refine r_vf ?_
    refine B20.Got_none H hd fun w7 S7 H7 => ?_
    refine r_bd (v := .agg #[S_ [], iv 0, uv 0]) (by kernel_rfl) ?_
    refine r_be (v := .bool false) (by kernel_rfl) ?_
    refine r_vf ?_
    refine Rb.At_spec H7.drop ?_
    refine B20.Step_spec H7 hd fun e w8 S8 hA => ?_
    replace S := (S.trans S7).trans S8
    clear H7 S7 S8 H
    have hstep : ∀ y, bstep s (rest (if come then xs else xs.take c) q) = y → y ≠ .short → bstep s ((bitsL xs).drop q) = y := by
      intro y hy hne
      cases come with
      | true => exact hy
      | false => exact cut_step hok hq hy hne
    cases hx : bstep s (rest (if come then xs else xs.take c) q) with
    | short =>
      rw [hx] at hA
      obtain ⟨rfl, H⟩ := hA
      refine r_eql (r_vfE (by decide) ?_)
      refine r_eql (r_vtE rfl ?_)
      refine Rb.At_spec H.drop ?_
      refine r_neq (r_vfN rfl ?_)
      cases come with
      | true =>
        refine r_vt ?_
        obtain rfl : o = .bad 3 := Q20.Comes.det hc ⟨s, q, hr, .inr (.inl ⟨hd, hx, rfl⟩)⟩
        refine r_fo0 (r_ld 2 H rfl rfl ?_)
        refine r_eql (r_vtE rfl ?_)
        exact letter_spec hG.up.up.up H fun wb Sb Hb => post _ (S.trans Sb) Hb.drop.drop.drop
      | false =>
        refine r_vf ?_
        refine q_D (m := c) (by omega) ?_
        replace H : Holds w8 (Rb.RdR r (xs.take c) 0 q :: B20.BkR b s :: blk ob tOf [S_ (gotT o), nv (gotO o), uv (gotU o), nv (gotN o), nv (gotH o), nv (gotE o)] :: L) := H.swap
        refine Rb.More_spec H (by rw [List.length_drop]; omega) fun w9 S9 H9 => ?_
        rw [List.take_append_drop] at H9
        refine r_add1N (by omega) ?_
        refine r_ke ⟨⟨i + 1, q, s, true, rfl, rfl, hr, hroom, by simp at hi ⊢; omega, S.trans S9, H9.swap⟩, ?_⟩
        simp only [nv, RowKit.intOf, Int.toNat_natCast]
        omega
    | bad e' =>
      have hcb := bstep_bad hx
      rw [hx] at hA
      obtain ⟨rfl, q', H⟩ := hA
      refine r_eql (r_vfE (by omega) ?_)
      refine r_eql (r_vfE (by omega) ?_)
      refine Rb.At_spec H.drop ?_
      obtain rfl : o = .bad e' := Q20.Comes.det hc ⟨s, q, hr, .inr (.inr ⟨e', hd, hstep _ hx (by intro h; cases h), rfl⟩)⟩
      refine r_fo0 (r_ld 2 H rfl rfl ?_)
      refine r_eql (r_vtE rfl ?_)
      refine B20.StepBad_spec H (by omega) ?_
      refine r_eql (r_vtE rfl ?_)
      refine Rb.At_spec H.drop ?_
      refine r_eql (r_vtE rfl ?_)
      refine B20.DoneBad_spec H ?_
      refine r_notF (r_vt ?_)
      exact letter_spec hG.up.up.up H fun wb Sb Hb => post _ (S.trans Sb) Hb.drop.drop.drop
    | ok s' n =>
      rw [hx] at hA
      obtain ⟨rfl, H⟩ := hA
      refine r_eql (r_vtE rfl ?_)
      have hp := bstep_prog hok hx
      refine r_add1N (by omega) ?_
      refine r_ke ⟨⟨i + 1, q + n, s', come, rfl, rfl, hr.next hd (hstep _ hx (by intro h; cases h)), by rw [hp.1]; exact hroom, ?_, S, H⟩, ?_⟩
      · rcases hp.2 with ⟨h3, h4⟩ | ⟨h3, h4⟩
        · rw [h4]; omega
        · omega
      · simp only [nv, RowKit.intOf, Int.toNat_natCast]
        omega
end P20
end Go.Proofs.YtoomfeeiehfpmaaGreatDoor
