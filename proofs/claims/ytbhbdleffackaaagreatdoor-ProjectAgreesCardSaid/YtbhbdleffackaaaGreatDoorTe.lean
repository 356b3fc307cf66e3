/- Chapter 43: a call of oracle.Tenant in a state is known, by its contract. -/
import Derived.Test.YtbhbdleffackaaaGreatDoorRt
import Derived.Test.YtbhbdleffackaaaGreatDoorEB
set_option linter.unusedVariables false
set_option linter.unusedSimpArgs false
namespace Go.Proofs.YtbhbdleffackaaaGreatDoor
open Go Go.Vc
namespace F33
open Go.M31 J30 J31 J32
variable {ts : List Tn}
theorem add_off (r o k : Nat) : (⟨r, o, none⟩ : Addr).add k = ⟨r, o + k, none⟩ := by
  unfold Addr.add
  split
  · rename_i h; subst h; rfl
  · rfl
theorem tenant_ent {q : Ev.St} {b c e : Nat} {cs : List Ev.X} {n : Cn} {s : List Nat} {r : Option Nat} (hd : Ev.domS q q = true) (hq : q.blk b = some (e, cs))
    (hcs : ∀ σ vs, Ev.vls σ cs = some vs → vs.take (5 * ts.length) = flatL cellsT ts) (hA : ∀ t ∈ ts, J33.AscT false t) (hAs : J33.Asc false (s.map UInt8.ofNat)) (hs : ∀ t ∈ ts, szT t) (hc : ts.length ≤ c) (hl : s.length ≤ 65536)
    (hk : ChkC ts n 0) (hr : ∀ r', TnR ts (s.map UInt8.ofNat) r' → r' = r) :
    Ev.EntOk Tryz.prog (.s F.oracle_Tenant [.g [.l (some (b, 0)) ts.length c, .i .i64 n.un, .i .i64 n.wi, .i .i64 n.bu, .i .i64 n.sp, .i .i64 n.jo, .i .i64 n.ch], .s s] q (.t [.i .i64 (whoI r), .i .i64 0]) q) := by
  refine ⟨hd, ?_⟩
  intro base w0 σ w vs hW hv K hK
  refine ⟨by kernel_rfl, ?_⟩
  obtain ⟨rb, off, k, pre, us, sp, post, own⟩ := hW.mem.own b e cs hq
  have hsg := own.sg_
  simp only [Ev.vls, Ev.vl, hsg, Option.some.injEq] at hv
  subst hv
  have hcell : ∀ j v, (flatL cellsT ts)[j]? = some v → w.cell? ⟨rb, off + j, none⟩ = some v := by
    intro j v hj
    have hlen := flatL_len (F := cellsT) (k := 5) (fun _ => rfl) ts
    have hj5 : j < 5 * ts.length := by have := (List.getElem?_eq_some_iff.1 hj).1; omega
    rw [← hcs σ us own.val, List.getElem?_take_of_lt hj5] at hj
    have := (List.getElem?_eq_some_iff.1 hj).1
    rw [own.cell this]
    exact hj
  have keep : ∀ w' : World, Holds w' [whole w] → ∀ (c : Nat) (o : Obj), w.heap[c]? = some o → w'.heap[c]? = some o := by
    intro w' H' c o ho
    obtain ⟨g, hg, hgs, _⟩ := H'
    exact hgs _ _ (hg _ _ ho)
  have hT : TsIn [whole w] (some ⟨rb, off + 0, none⟩) ts := by
    intro w' H' i t ht
    refine ⟨_, rfl, fun j v hj => ?_⟩
    have hj5 : j < 5 := (List.getElem?_eq_some_iff.1 hj).1
    have h1 := flatL_get (F := cellsT) (k := 5) (fun _ => rfl) ts i t ht
    have h2 : (flatL cellsT ts)[i * 5 + j]? = some v := by
      have : ((flatL cellsT ts).drop (i * 5)).take 5 = cellsT t := h1
      rw [← this, List.getElem?_take_of_lt hj5, List.getElem?_drop] at hj
      exact hj
    have h3 := hcell _ _ h2
    rw [Addr.add_add, add_off]
    unfold World.cell? at h3 ⊢
    cases hb : w.heap[rb]? with
    | none => simp only [hb] at h3; cases h3
    | some o =>
      simp only [hb] at h3
      simp only [keep w' H' rb o hb]
      exact h3
  show Cl Tryz.prog F.oracle_Tenant #[.agg (cellsC (some ⟨rb, off + 0, none⟩) ts.length (c + k) n).toArray, S_ (s.map UInt8.ofNat)] w K
  refine TenantZ_spec (z := false) (holds_whole w) hT (fun h => by cases h) hA hAs hs (by omega) (by rw [List.length_map]; exact hl) (fun e w' hch he _ _ => absurd (ChkC_one hch hk) he) fun _ r' w' htn S' H' => ?_
  obtain rfl := hr r' htn
  exact hK σ w' _ (Ev.Ext.refl _) (hW.keepAll S' (keep w' H')) rfl
end F33
end Go.Proofs.YtbhbdleffackaaaGreatDoor
