/- Chapter 20: the closed test, what the row's data say of the variable, what was got in the document's words, and the law BlockReads. -/
import Derived.Test.YtoomfeeiehfpmaaGreatDoorMG1
import Derived.Test.YtoomfeeiehfpmaaGreatDoorMG2
import Derived.Test.YtoomfeeiehfpmaaGreatDoorT20Z
import Derived.Test.YtoomfeeiehfpmaaGreatDoorRows
import Derived.Lib.LaidTab
import Derived.LaidMore
set_option linter.unusedVariables false
set_option linter.unusedSimpArgs false
namespace Go.Proofs.YtoomfeeiehfpmaaGreatDoor
open Go Go.Vc
attribute [local irreducible] Go.Vc.Nc Go.Vc.Ld Go.Vc.LdA Go.Vc.St Go.Vc.StA Go.Vc.Fo Go.Vc.Iaa Go.Vc.Ias Go.Vc.Ixs Go.Vc.Ixa Go.Vc.Fd Go.Vc.FdA Go.Vc.Bp Go.Vc.Bb Go.Vc.Bn Go.Vc.Up Go.Vc.Ci Go.Vc.Lns Go.Vc.Lnl Go.Vc.Ex Go.Vc.Sst Go.Vc.Ssl Go.Vc.New Go.Vc.Vif Go.Vc.VJoin Go.Vc.VLoop Go.Vc.KE Go.Vc.Dr Go.Vc.Rk Go.Vc.Cl Go.Vc.Cx Go.Vc.Inv Go.Vc.Be Go.Vc.Cv Go.Vc.Cw Go.Vc.Mf Go.Vc.Sl Go.Vc.Lk Go.Vc.Bd Go.Vc.Bs Go.Vc.Ms Go.Vc.Mm Go.Vc.Mu Go.Vc.Me Go.Vc.Es Go.Vc.Rg Go.Vc.Nx Go.Vc.Ta Go.Vc.Ap Go.Vc.Usd Go.Vc.Ust Go.Vc.Cp Go.Vc.Ln Go.Vc.Bc Go.Vc.Bmin Go.Vc.Bmax Go.Vc.Bdel Go.Vc.Bclr Go.Vc.Pk
namespace P20
open Go.M01 Go.Mb Go.Mp Go.M10 Go.Mc Go.Mz Go.Mk Go.Q20 Go.Q21 Go.Q22 Go.Q23
variable {w : World} {L : List HProp} {K : Value → World → Prop}
abbrev G : List (Nat × List Ev.X) := [(1, [(T20.I 200), (T20.I 600), (T20.I 1200), (T20.I 2400)])]
set_option maxRecDepth 1000000 in
theorem letter_spec (hG : ∀ w', Holds w' L → Ev.GOk G w') (H : Holds w L) (post : ∀ w', Same w w' → Holds w' L → K (.bool true) w') : Cl Tryz.prog F.balerlaw20_letter #[] w K := Ev.cl_trueFG T20.mixed T20.known_ok T20.test_true (hG w H) H post
def BndIn (L : List HProp) : Prop := ∀ w', Holds w' L → Ev.GOk G w'
theorem BndIn.up {Q : HProp} (h : BndIn L) : BndIn (Q :: L) := fun w' H => h w' H.drop
set_option maxRecDepth 1000000 in
theorem laid_one {W : World} (h : laidMet Tryz.prog [("baler/tables.bounds", (Lib.tabData .i64 [200, 600, 1200, 2400] : DataW Unit))] W) : BndIn [whole W] := by
  have ht : Lib.TabIs Tryz.prog W "baler/tables.bounds" .i64 [200, 600, 1200, 2400] := Lib.tabIs_of_head (g := 1) (t := 271) (e := 3) (n := 4) (by kernel_rfl) (by kernel_rfl) Tryz.underlying271 Tryz.underlying3 (by kernel_rfl) (by kernel_rfl) h
  unfold Lib.TabIs World.var? at ht
  rw [show Tryz.prog.globalNamed "baler/tables.bounds" = some 1 by kernel_rfl] at ht
  simp only [Option.bind_some] at ht
  intro w' H' g xs hg
  have hx : g = 1 ∧ xs = [(T20.I 200), (T20.I 600), (T20.I 1200), (T20.I 2400)] := by
    unfold G Ev.lkG at hg
    split at hg
    · rename_i hb
      exact ⟨(Nat.eq_of_beq_eq_true hb).symm, (Option.some.inj hg).symm⟩
    · cases hg
  obtain ⟨rfl, rfl⟩ := hx
  obtain ⟨g, hg, hgs, _⟩ := H'
  cases ho : W.heap[1]? with
  | none => rw [ho] at ht; cases ht
  | some o =>
    rw [ho] at ht
    cases o with
    | cells cs e z =>
      simp only [Option.some.injEq] at ht
      subst ht
      exact ⟨e, z, _, rfl, hgs _ _ (hg _ _ ho)⟩
    | _ => cases ht
theorem tab_laid1 {W : World} (h : laidMetH Tryz.prog Rows.blockReadsRow.laid W) : BndIn [whole W] := laid_one h
/-! ### Structs of three cells that are the same -/
abbrev tRg : Nat := 37
def fldsOf (P : Program) (t : Nat) : List Field := match P.underlying t with
  | some (.struct fs) => fs.toList
  | _ => []
theorem eq3 {P : Program} {eq : TypeId → Ev.X → Ev.X → Option Bool} {x0 x1 x2 : Ev.X} {f0 f1 f2 : Field}
    (o : f0.offset = 0 ∧ f1.offset = 1 ∧ f2.offset = 2) (nm : (f0.name == "_") = false ∧ (f1.name == "_") = false ∧ (f2.name == "_") = false)
    (p : ∀ l : List Ev.X, Ev.partX P f0.type l 0 = l[0]? ∧ Ev.partX P f1.type l 1 = l[1]? ∧ Ev.partX P f2.type l 2 = l[2]?)
    (e0 : eq f0.type x0 x0 = some true) (e1 : eq f1.type x1 x1 = some true) (e2 : eq f2.type x2 x2 = some true) :
    Ev.eqFs P eq [x0, x1, x2] [x0, x1, x2] [f0, f1, f2] = some true := by
  obtain ⟨o0, o1, o2⟩ := o
  obtain ⟨n0, n1, n2⟩ := nm
  obtain ⟨p0, p1, p2⟩ := p [x0, x1, x2]
  simp only [Ev.eqFs, n0, n1, n2, o0, o1, o2, p0, p1, p2, List.getElem?_cons_zero, List.getElem?_cons_succ, e0, e1, e2]
def fTy (P : Program) (t i : Nat) : Nat := match (fldsOf P t)[i]? with
  | some f => f.type
  | none => 0
set_option maxRecDepth 1000000 in
theorem be_same {A B : Operand} {t : List UInt8} {o u : Nat} {K : Value → Prop} (h : K (.bool true)) :
    Be Tryz.prog .eql tRg A B (.agg #[S_ t, nv o, uv u]) (.agg #[S_ t, nv o, uv u]) w K := by
  obtain ⟨f0, f1, f2, hfs⟩ : ∃ f0 f1 f2, fldsOf Tryz.prog tRg = [f0, f1, f2] := by
    have hl : (fldsOf Tryz.prog tRg).length = 3 := by kernel_rfl
    match hq : fldsOf Tryz.prog tRg, hl with
    | [a, b, c], _ => exact ⟨a, b, c, rfl⟩
  have hu : Tryz.prog.underlying tRg = some (.struct [f0, f1, f2].toArray) := by
    rw [← hfs]; kernel_rfl
  have ho : (fldsOf Tryz.prog tRg).map (·.offset) = [0, 1, 2] := by kernel_rfl
  have hn : (fldsOf Tryz.prog tRg).map (fun f => f.name == "_") = [false, false, false] := by kernel_rfl
  have ht : (fldsOf Tryz.prog tRg).map (fun f => Tryz.prog.underlying f.type) = [some .string, some (.int .i64), some (.int .u32)] := by kernel_rfl
  rw [hfs] at ho hn ht
  simp only [List.map_cons, List.map_nil, List.cons.injEq, and_true] at ho hn ht
  obtain ⟨o0, o1, o2⟩ := ho
  obtain ⟨n0, n1, n2⟩ := hn
  obtain ⟨t0, t1, t2⟩ := ht
  have hp : ∀ l : List Ev.X, Ev.partX Tryz.prog f0.type l 0 = l[0]? ∧ Ev.partX Tryz.prog f1.type l 1 = l[1]? ∧ Ev.partX Tryz.prog f2.type l 2 = l[2]? := fun l => by
    unfold Ev.partX
    rw [t0, t1, t2]; exact ⟨rfl, rfl, rfl⟩
  have hst : Tryz.prog.stoodInHeld tRg = false := by kernel_rfl
  have hxs : Ev.str (t.map (·.toNat)) = ⟨t.toArray⟩ := by
    unfold Ev.str
    rw [List.map_map, show (UInt8.ofNat ∘ fun x : UInt8 => x.toNat) = id by funext x; simp, List.map_id]
  have he : Ev.eqT Tryz.prog 20 tRg (.g [.s (t.map (·.toNat)), .i .i64 o, .i .u32 u]) (.g [.s (t.map (·.toNat)), .i .i64 o, .i .u32 u]) = some true := by
    rw [Ev.eqT, hu]
    simp only [hst]
    refine eq3 ⟨o0, o1, o2⟩ ⟨n0, n1, n2⟩ hp ?_ ?_ ?_
    · simp only [Ev.eqT, t0, Ev.eq1, Ev.eqN_spec, decide_true]
    · simp only [Ev.eqT, t1, Ev.eq1, decide_true, beq_self_eq_true]
    · simp only [Ev.eqT, t2, Ev.eq1, decide_true, beq_self_eq_true]
  have hgd : Ev.gdE Tryz.prog tRg A B (.g [.s (t.map (·.toNat)), .i .i64 o, .i .u32 u]) (.g [.s (t.map (·.toNat)), .i .i64 o, .i .u32 u]) = true := by
    have : Tryz.prog.eqGuardType Tryz.prog.depth tRg = false := by kernel_rfl
    simp only [Ev.gdE, this]
  have hx : Ev.beX Tryz.prog .eql tRg A B (some (.g [.s (t.map (·.toNat)), .i .i64 o, .i .u32 u])) (some (.g [.s (t.map (·.toNat)), .i .i64 o, .i .u32 u])) = some (.b true) := by
    unfold Ev.beX
    simp only [hgd, he]
  have hv : Ev.vl (fun _ => none) (.g [.s (t.map (·.toNat)), .i .i64 o, .i .u32 u]) = some (.agg #[S_ t, nv o, uv u]) := by
    simp [Ev.vl, Ev.vls, hxs]
  exact Ev.beX_ok (P := Tryz.prog) (σ := fun _ => none) (t := tRg) (A := A) (B := B) (f := fun _ => .agg #[S_ t, nv o, uv u])
    hu (fun k h => by cases h) (fun h => by cases h) (fun h => by cases h) (fun e h => by cases h) hx (fun a ha => by cases ha; exact hv) (fun a ha => by cases ha; exact hv) fun v hv => by
      obtain rfl := Option.some.inj hv
      exact h
theorem ref_spec {t : List UInt8} {o u : Nat} (H : Holds w L) (k : ∀ w', Same w w' → Holds w' L → K (.agg #[S_ t, nv o, uv u]) w') : Cl Tryz.prog F.balerlaw20_ref #[.agg #[S_ t, nv o, uv u]] w K := by
  refine Tie.balerlaw20_ref ?_
  unfold Vcf.balerlaw20_ref
  have hz : (zeroP Tryz.prog tRg).cells.toList = [S_ [], iv 0, uv 0] := by kernel_rfl
  refine r_new H fun b w1 S1 H1 => ?_
  replace H1 : Holds w1 (blk b 34 [S_ t, nv o, uv u] :: L) := H1
  refine r_new H1 fun b2 w2 S2 H2 => ?_
  rw [hz] at H2
  refine r_fo0 (r_ld 1 H2 rfl rfl ?_)
  refine r_fo0 (r_ld 1 H2 rfl rfl ?_)
  refine r_fo0 (r_ld 1 H2 rfl rfl ?_)
  refine r_bd (v := .agg #[S_ t, nv o, uv u]) (by kernel_rfl) ?_
  refine r_stA 0 H2 (vs := [S_ t, nv o, uv u]) rfl (Nat.le_refl 3) rfl rfl fun w3 S3 H3 => ?_
  replace H3 : Holds w3 (blk b2 tRg [S_ t, nv o, uv u] :: blk b 34 [S_ t, nv o, uv u] :: L) := H3
  refine r_ldA 0 H3 [S_ t, nv o, uv u] rfl rfl rfl ?_
  exact k _ ((S1.trans S2).trans S3) H3.drop.drop
/-! ### What was got, by an outcome -/
def gotT : Out → List UInt8
  | .bad _ => []
  | .got last _ _ _ _ => last
def gotO : Out → Nat
  | .bad _ => 0
  | .got _ o _ _ _ => o
def gotU : Out → Nat
  | .bad _ => 0
  | .got _ _ u _ _ => u
def gotN : Out → Nat
  | .bad _ => 0
  | .got _ _ _ n _ => n
def gotH : Out → Nat
  | .bad _ => 0
  | .got _ _ _ _ h => h
def gotE : Out → Nat
  | .bad e => e
  | .got _ _ _ _ _ => 0
theorem ofL_eq (o : Out) : ofL o = [S_ (gotT o), nv (gotO o), uv (gotU o), nv (gotN o), nv (gotH o), nv (gotE o)] := by cases o <;> rfl
theorem Reads_spec {r d at_ room : Nat} {B : List UInt8} (H : Holds w (Rb.RdR r B d at_ :: L)) (h1 : 5 ≤ room) (h2 : room ≤ 900000)
    (k : ∀ o, Q20.Comes room (rest B at_) o → ∀ w', Same w w' → Holds w' (Rb.RdR r B d (at_ + gotN o) :: L) → K (.tuple #[.agg #[S_ (gotT o), nv (gotO o), uv (gotU o)], nv (gotE o)]) w') :
    Cl Tryz.prog F.block_Read #[pt r, nv room] w K :=
  B20.Read_spec H h1 h2 (fun e hc w' S' H' => k _ hc w' S' H') fun last o u n held hc w' S' H' => k _ hc w' S' H'
theorem BlockReads_spec (H : Holds w L) (s : ByteArray) (at_ room : Int) (_ : s.size ≤ maxLen) (_ : (Lit.int .i64 at_).wf = true) (_ : (Lit.int .i64 room).wf = true) (hG : BndIn L) (post : ∀ w', Same w w' → Holds w' L → K (.bool true) w') :
    Cl Tryz.prog F.balerlaw20_BlockReads #[.string s, .int .i64 at_, .int .i64 room] w K := by
  refine Tie.balerlaw20_BlockReads ?_
  unfold Vcf.balerlaw20_BlockReads
  obtain ⟨xs, rfl⟩ : ∃ xs : List UInt8, s = ⟨xs.toArray⟩ := ⟨s.data.toList, by simp⟩
  refine r_join1 (fun y w' => w = w' ∧ y = .bool (decide (200 < (xs.length : Int) ∨ at_ < 0 ∨ 8 * (xs.length : Int) < at_))) ?_ ?_
  rotate_left
  · refine q_len ?_
    refine r_gtr (r_ifD (fun h => ?_) fun h => ?_)
    · exact r_ke ⟨rfl, by rw [decide_eq_true (by omega)]⟩
    · refine r_lss (r_ifD (fun h2 => ?_) fun h2 => ?_)
      · exact r_ke ⟨rfl, by rw [decide_eq_true (by omega)]⟩
      · refine q_len ?_
        refine r_mulE (8 * (xs.length : Int)) rfl (by omega) (by omega) ?_
        exact r_gtr (r_ke ⟨rfl, congrArg Value.bool (by rw [Bool.eq_iff_iff, decide_eq_true_iff, decide_eq_true_iff]; omega)⟩)
  rintro _ _ _ ⟨rfl, rfl⟩
  refine r_ifD (fun h => ?_) fun h => ?_
  · exact letter_spec hG H post
  obtain ⟨a, rfl⟩ : ∃ a : Nat, at_ = (a : Int) := ⟨at_.toNat, by omega⟩
  refine Rb.NewReader_spec H (by omega) fun r w1 S1 H1 => ?_
  refine Rb.Seek_spec (p := a) H1 (by omega) (by omega) fun w2 S2 H2 => ?_
  have hzg : (zeroP Tryz.prog 34).cells.toList = [S_ [], iv 0, uv 0] := by kernel_rfl
  have S := S1.trans S2
  clear H H1 S1 S2
  by_cases hroom : 5 ≤ room ∧ room ≤ 900000
  rotate_left
  · refine B20.Read_bad (by omega) H2 fun w3 S3 H3 => ?_
    refine r_ex20 (r_ex21 ?_)
    refine r_new H3 fun gb w4 S4 H4 => ?_
    rw [hzg] at H4
    refine r_stA 0 H4 (vs := [S_ [], iv 0, uv 0]) rfl (Nat.le_refl 3) rfl rfl fun w5 S5 H5 => ?_
    replace H5 : Holds w5 (blk gb 34 [S_ [], iv 0, uv 0] :: Rb.RdR r xs 0 a :: L) := H5
    refine Room_spec ?_
    rw [decide_eq_false hroom]
    refine r_notF (r_vt ?_)
    refine r_eql (r_vtE rfl ?_)
    refine r_eql (r_vtE rfl ?_)
    refine r_ldA 0 H5 [S_ [], iv 0, uv 0] rfl rfl rfl ?_
    refine r_bd (v := .agg #[S_ [], iv 0, uv 0]) (by kernel_rfl) ?_
    refine r_be (v := .bool true) (by kernel_rfl) ?_
    refine r_vt ?_
    refine Rb.At_spec H5.drop ?_
    refine r_eql (r_vtE rfl ?_)
    exact letter_spec hG.up.up H5 fun w6 S6 H6 => post _ ((((S.trans S3).trans S4).trans S5).trans S6) H6.drop.drop
  obtain ⟨rm, rfl⟩ : ∃ rm : Nat, room = (rm : Int) := ⟨room.toNat, by omega⟩
  refine Reads_spec H2 (by omega) (by omega) fun o hc w3 S3 H3 => ?_
  refine r_ex20 (r_ex21 ?_)
  refine r_new H3 fun gb w4 S4 H4 => ?_
  rw [hzg] at H4
  refine r_stA 0 H4 (vs := [S_ (gotT o), nv (gotO o), uv (gotU o)]) rfl (Nat.le_refl 3) rfl rfl fun w5 S5 H5 => ?_
  replace H5 : Holds w5 (blk gb 34 [S_ (gotT o), nv (gotO o), uv (gotU o)] :: Rb.RdR r xs 0 (a + gotN o) :: L) := H5
  replace S := ((S.trans S3).trans S4).trans S5
  clear H2 H3 H4 S3 S4 S5
  refine Room_spec ?_
  rw [decide_eq_true hroom]
  refine r_notT (r_vf ?_)
  refine r_gtr (r_ifD (fun h3 => ?_) fun h3 => ?_)
  · exact letter_spec hG.up.up H5 fun w6 S6 H6 => post _ (S.trans S6) H6.drop.drop
  refine Bits_spec (by omega) ?_
  have hbl := bitsL_len xs
  refine q_D (by rw [txt_len]; omega) ?_
  rw [txt_drop]
  have hrl := rest_len xs a
  have hfn : a + gotN o ≤ 8 * xs.length := (Rb.RdR_open H5.drop).1.2.1
  refine Of_spec (l := rest xs a) H5 (by omega) (by omega) fun o2 hs w6 S6 H6 => ?_
  obtain rfl := Q20.Comes.det (says_comes hs) hc
  rw [ofL_eq]
  have hzo : (zeroP Tryz.prog tOf).cells.toList = ofZ := by kernel_rfl
  refine r_new H6 fun ob w7 S7 H7 => ?_
  rw [hzo] at H7
  refine r_stA 0 H7 (vs := [S_ (gotT o2), nv (gotO o2), uv (gotU o2), nv (gotN o2), nv (gotH o2), nv (gotE o2)]) rfl (Nat.le_refl 6) rfl rfl fun w8 S8 H8 => ?_
  replace H8 : Holds w8 (blk ob tOf [S_ (gotT o2), nv (gotO o2), uv (gotU o2), nv (gotN o2), nv (gotH o2), nv (gotE o2)] :: blk gb 34 [S_ (gotT o2), nv (gotO o2), uv (gotU o2)] :: Rb.RdR r xs 0 (a + gotN o2) :: L) := H8
  refine r_dr H8 fun w9 S9 H9 => ?_
  replace S := (((S.trans S6).trans S7).trans S8).trans S9
  clear H5 H6 H7 H8 S6 S7 S8 S9
  refine r_eql (r_vtE rfl ?_)
  refine r_fo0 (r_ld 0 H9 rfl rfl ?_)
  refine r_eql (r_vtE rfl ?_)
  refine r_ldA 1 H9 [S_ (gotT o2), nv (gotO o2), uv (gotU o2)] rfl rfl rfl ?_
  refine ref_spec H9 fun wa Sa Ha => ?_
  refine r_fo0 (r_ldA 0 Ha [S_ (gotT o2), nv (gotO o2), uv (gotU o2)] rfl rfl rfl ?_)
  refine r_rk (r_ldA 0 H9 [S_ (gotT o2), nv (gotO o2), uv (gotU o2)] rfl rfl rfl rfl) ?_
  refine be_same ?_
  refine r_vt ?_
  refine Rb.At_spec (Holds.dropAt (Holds.dropAt Ha 1) 0) ?_
  refine r_fo0 (r_ld 0 Ha rfl rfl ?_)
  refine r_rk (r_ld 0 Ha rfl rfl rfl) ?_
  refine r_addN (by omega) ?_
  refine r_eql (r_vtE rfl ?_)
  exact letter_spec hG.up.up.up Ha fun wb Sb Hb => post _ ((S.trans Sa).trans Sb) Hb.drop.drop.drop
end P20
end Go.Proofs.YtoomfeeiehfpmaaGreatDoor
