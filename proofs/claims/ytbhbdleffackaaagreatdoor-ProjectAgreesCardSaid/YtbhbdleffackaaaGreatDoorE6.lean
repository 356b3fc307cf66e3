/- A verified evaluator for closed calls, sixth part: append. No program in sight. -/
import Derived.Test.YtbhbdleffackaaaGreatDoorE5
set_option linter.unusedVariables false
set_option linter.unusedSimpArgs false
namespace Go.Ev
open Go Go.Vc
noncomputable section
variable {P : Program} {base : Bs} {w0 : World} {σ : Sg} {s : St} {w w' : World} {ρ : T X} {r : Env}
/-- The element type of a slice type, its cells and bytes. -/
def elemX (P : Program) (t : TypeId) : Option (TypeId × Nat × Nat) := match P.underlying t with
  | some (.slice e) => (match P.info? e with
    | some i => (match i.zero with
      | some z => (match Nat.beq z.cells.size i.size, Nat.blt 0 i.size with
        | true, true => some (e, i.size, i.bytes)
        | _, _ => none)
      | none => none)
    | none => none)
  | _ => none
theorem elemX_ok {t e : TypeId} {k b : Nat} (h : elemX P t = some (e, k, b)) : ∃ i z, P.underlying t = some (.slice e) ∧ P.info? e = some i ∧ i.zero = some z ∧ z.cells.size = k ∧ i.size = k ∧ i.bytes = b ∧ 0 < k ∧ szOf P e = k := by
  unfold elemX at h
  split at h
  · rename_i e' hu
    split at h
    · rename_i i hi
      split at h
      · rename_i z hz
        split at h
        · rename_i h1 h2
          simp only [Option.some.injEq, Prod.mk.injEq] at h
          obtain ⟨rfl, rfl, rfl⟩ := h
          exact ⟨i, z, hu, hi, hz, Nat.eq_of_beq_eq_true h1, rfl, rfl, Nat.le_of_ble_eq_true h2, by unfold szOf; rw [hi]⟩
        · cases h
      · cases h
    · cases h
  · cases h
def app2 (s : St) (e k bytes : Nat) (n : Nat) (news : List X) : X → Option (X × St)
  | .l none 0 0 => (match n with
    | 0 => some (.l none 0 0, s)
    | n + 1 => (match Nat.ble ((n + 1) * bytes) 140737488355328, Nat.ble (n + 1) 9223372036854775807 with
      | true, true => some (.l (some (s.n, 0)) (n + 1) (n + 1), s.new (e, news))
      | _, _ => none))
  | .l (some a) m c => (match s.blk a.1 with
    | some cb => (match Nat.beq cb.1 e, Nat.ble m c with
      | true, true => (match Nat.ble (m + n) c with
        | true => (match Nat.ble (a.2 + m * k + news.length) cb.2.length with
          | true => some (.l (some a) (m + n) c, s.put a.1 (some (cb.1, setLX cb.2 (a.2 + m * k) news)))
          | false => none)
        | false => (match Nat.beq (a.2 + c * k) cb.2.length, Nat.ble ((m + n) * bytes) 140737488355328, Nat.ble (m + n) 9223372036854775807, Nat.beq (a.2 % k) 0 with
          | true, true, true, true => some (.l (some (s.n, 0)) (m + n) (m + n), (s.put a.1 none).new (e, (cb.2.drop a.2).take (m * k) ++ news))
          | _, _, _, _ => none))
      | _, _ => none)
    | none => none)
  | _ => none
def appX (P : Program) (t tx : TypeId) (x y : X) (s : St) : Option (X × St) := match elemX P t with
  | some q => (match srcX P s q.2.1 tx y, isArrB P q.1 with
    | some z, false => app2 s q.1 q.2.1 q.2.2 z.1 z.2 x
    | _, _ => none)
  | none => none
theorem zc_len (z : Array Value) (n : Nat) : (Builtin.zeroCells z n).toList.length = n * z.size := by simp [Builtin.zeroCells]
theorem appX_ok (h : Wo P base w0 σ s w) {t tx ty : TypeId} {x y z : X} {u v : Value} {s' : St} (ha : appX P t tx x y s = some (z, s')) (hx : vl σ x = some u) (hy : vl σ y = some v) {K : Value → World → Prop}
    (hK : ∀ σ' w' v', Ext σ σ' → Wo P base w0 σ' s' w' → vl σ' z = some v' → K v' w') : Ap P #[t, tx] ty #[u, v] w K := by
  unfold appX at ha
  split at ha
  · rename_i q hq
    obtain ⟨e, k, bytes⟩ := q
    obtain ⟨i, zv, hu, hi, hz, hzk, hik, hib, hk0, hsz⟩ := elemX_ok hq
    split at ha
    · rename_i nz hs hna
      have hns : ∀ k : Nat, isArrB P e = true → k = 0 := fun k he => by rw [show isArrB P e = false from hna] at he; cases he
      obtain ⟨n, news⟩ := nz
      simp only at ha hs
      obtain ⟨us, hus, husg, hsrc⟩ := srcX_ok h.mem hs hy
      have hnl := hsrc.newsLen
      have hnx := vls_len hus
      subst hik; subst hib
      unfold app2 at ha
      split at ha
      · -- nil
        simp only [vl, Option.some.injEq] at hx
        subst hx
        split at ha
        · simp only [Option.some.injEq, Prod.mk.injEq] at ha
          obtain ⟨rfl, rfl⟩ := ha
          refine ⟨.slice none 0 0, w, ?_, hK σ w _ (Ext.refl _) h rfl⟩
          rcases hsrc.kind with ⟨e', hk⟩ | hk <;> simp [Builtin.append_, run_underlying hu, run_underlying hk, sizeOf, typeInfo, hi, hsrc.len, hsrc.cells]
        · rename_i n
          split at ha
          · rename_i h1 h2
            simp only [Option.some.injEq, Prod.mk.injEq] at ha
            obtain ⟨rfl, rfl⟩ := ha
            have h1 := Nat.le_of_ble_eq_true h1
            have h2 := Nat.le_of_ble_eq_true h2
            have hrun := run_append_grow_src (P := P) w t tx ty e i zv hu hi hz none 0 0 [] (run_firstCells_none w.drew i.size 0 0 0) v (n + 1) us hsrc (by omega) (by omega) (growslice_fits (by omega) (by rw [Nat.zero_add]; exact h1))
            refine ⟨_, _, hrun, ?_⟩
            rw [Nat.zero_add, List.nil_append]
            have hcap := grownCap_ge w (n + 1) 0 e
            generalize grownCap w (n + 1) 0 e = cap at hcap ⊢
            obtain ⟨g1, g2, g3⟩ := h.drew.mem.alloc h.fresh h.drew.fram (e := e) (cs := news) (k := cap - (n + 1)) (sp := (Builtin.zeroCells zv.cells (cap - (n + 1))).toList) hus (by rw [zc_len, hsz, hzk]) husg (hns _)
            have hc : us.toArray ++ Builtin.zeroCells zv.cells (cap - (n + 1)) = (us ++ (Builtin.zeroCells zv.cells (cap - (n + 1))).toList).toArray := by simp
            rw [hc]
            refine hK _ _ _ g2 ⟨g1, g3, h.drew.fram.alloc _⟩ ?_
            simp only [vl]
            rw [sgPut_same]
            simp only [Option.some.injEq, Value.slice.injEq, true_and]
            exact ⟨rfl, by omega⟩
          · cases ha
      · -- a block of its own
        rename_i a m c
        split at ha
        · rename_i cb hb
          obtain ⟨be, cs⟩ := cb
          simp only at ha
          split at ha
          · rename_i hbe hmc
            obtain rfl := Nat.eq_of_beq_eq_true hbe
            have hmc := Nat.le_of_ble_eq_true hmc
            obtain ⟨rb, off, kk, pre, vs, sp, post, g⟩ := h.mem.own a.1 be cs hb
            simp only [vl, g.sg_, Option.some.injEq] at hx
            subst hx
            have hvl := vls_len g.val
            split at ha
            · rename_i hroom
              have hroom := Nat.le_of_ble_eq_true hroom
              split at ha
              · rename_i hin
                have hin := Nat.le_of_ble_eq_true hin
                simp only [Option.some.injEq, Prod.mk.injEq] at ha
                obtain ⟨rfl, rfl⟩ := ha
                obtain ⟨hw, hc⟩ := h.write hb hus husg hin g.sg_
                have hrun := run_append_room_src (P := P) w t tx ty be i hu hi rb (off + a.2) m (c + kk) v n us hsrc (by omega)
                  (fun j hj => by rw [Nat.add_assoc off]; exact (hc j hj).1) (fun j hj => by rw [Nat.add_assoc off]; exact (hc j hj).2)
                refine ⟨_, _, hrun, ?_⟩
                rw [show off + a.2 + m * i.size = off + (a.2 + m * i.size) by omega]
                refine hK _ _ _ (Ext.refl _) hw ?_
                simp only [vl, g.sg_]
              · cases ha
            · rename_i hroom
              have hroom : ¬ m + n ≤ c := fun e => by rw [Nat.ble_eq_true_of_le e] at hroom; cases hroom
              split at ha
              · rename_i h1 h2 h3 h4
                have h1 := Nat.eq_of_beq_eq_true h1
                have h2 := Nat.le_of_ble_eq_true h2
                have h3 := Nat.le_of_ble_eq_true h3
                have h4 := Nat.eq_of_beq_eq_true h4
                simp only [Option.some.injEq, Prod.mk.injEq] at ha
                obtain ⟨rfl, rfl⟩ := ha
                have hmk : m * i.size ≤ c * i.size := Nat.mul_le_mul_right _ hmc
                have hold := vls_take (m * i.size) (vls_drop a.2 g.val)
                have hol : ((vs.drop a.2).take (m * i.size)).length = m * i.size := by rw [List.length_take, List.length_drop]; omega
                have hosg : ((vs.drop a.2).take (m * i.size)).all sg = true := List.all_eq_true.2 fun x hx => List.all_eq_true.1 g.flat x (List.mem_of_mem_drop (List.mem_of_mem_take hx))
                have hfresh : Fresh base σ (s.put a.1 none) := h.fresh
                have hv2 := vls_app hold hus
                have hsg2 : ((vs.drop a.2).take (m * i.size) ++ us).all sg = true := by rw [List.all_append, hosg, husg]; rfl
                have hfirst : ∀ w1 : World, w1.heap = w.heap → (Builtin.firstCells i.size m (.slice (some ⟨rb, off + a.2, none⟩) m (c + kk))).run P w1 = .ok ((vs.drop a.2).take (m * i.size)).toArray w1 := by
                  intro w1 hw1
                  refine run_firstCells_some (P := P) w1 i.size m _ m (c + kk) _ hol fun j u hj => ?_
                  rw [add_off]
                  have hj2 := hj
                  rw [List.getElem?_take_of_lt (by have := (List.getElem?_eq_some_iff.1 hj).1; omega), List.getElem?_drop] at hj2
                  have e1 : w1.cell? ⟨rb, off + a.2 + j, none⟩ = w.cell? ⟨rb, off + a.2 + j, none⟩ := by unfold World.cell?; rw [hw1]
                  rw [e1, show off + a.2 + j = off + (a.2 + j) by omega, g.cell (List.getElem?_eq_some_iff.1 hj2).1, hj2]
                rcases Nat.lt_or_ge (c + kk) (m + n) with hg | hg
                · -- a new row
                  have hrun := run_append_grow_src (P := P) w t tx ty be i zv hu hi hz (some ⟨rb, off + a.2, none⟩) m (c + kk) _ (hfirst w.drew rfl) v n us hsrc hg (by omega) (growslice_fits (by omega) h2)
                  refine ⟨_, _, hrun, ?_⟩
                  have hcap := grownCap_ge w (m + n) (c + kk) be
                  generalize grownCap w (m + n) (c + kk) be = cap at hcap ⊢
                  obtain ⟨g1, g2, g3⟩ := (h.drew.mem.del a.1).alloc hfresh h.drew.fram (e := be) (k := cap - (m + n)) (sp := (Builtin.zeroCells zv.cells (cap - (m + n))).toList) hv2 (by rw [zc_len, hsz, hzk]) hsg2 (hns _)
                  have hc : ((vs.drop a.2).take (m * i.size) ++ us).toArray ++ Builtin.zeroCells zv.cells (cap - (m + n)) = ((vs.drop a.2).take (m * i.size) ++ us ++ (Builtin.zeroCells zv.cells (cap - (m + n))).toList).toArray := by simp
                  rw [hc]
                  refine hK _ _ _ g2 ⟨g1, g3, h.drew.fram.alloc _⟩ ?_
                  simp only [vl]
                  rw [show (s.put a.1 none).n = s.n from rfl, sgPut_same]
                  simp only [Option.some.injEq, Value.slice.injEq, true_and]
                  exact ⟨rfl, by omega⟩
                · -- in the room that was spare
                  have hspl := g.sp_
                  rw [hsz] at hspl
                  have hpre := g.pre_
                  have hnk : (m + n) * i.size ≤ (c + kk) * i.size := Nat.mul_le_mul_right _ hg
                  have hd1 : (m + n) * i.size = m * i.size + n * i.size := Nat.add_mul _ _ _
                  have hd2 : (c + kk) * i.size = c * i.size + kk * i.size := Nat.add_mul _ _ _
                  have hd3 : (c + kk - (m + n)) * i.size = (c + kk) * i.size - (m + n) * i.size := Nat.sub_mul _ _ _
                  obtain ⟨⟨fz, w1, wz⟩, w2⟩ := g.write (a.2 + m * i.size) us (by omega)
                  have hcells : ∀ j, j < us.length → (w.cell? ⟨rb, off + a.2 + m * i.size + j, none⟩).isSome = true := by
                    intro j hj
                    have : w.cell? ⟨rb, off + a.2 + m * i.size + j, none⟩ = (pre ++ vs ++ sp ++ post)[off + a.2 + m * i.size + j]? := g.any _
                    rw [this, List.getElem?_eq_getElem (by simp; omega)]
                    rfl
                  have hfroz : ∀ j, j < us.length → w.frozen? ⟨rb, off + a.2 + m * i.size + j, none⟩ = false := fun j hj => g.nofz (by simp only [List.length_append]; omega)
                  have hrun := run_append_room_src (P := P) w t tx ty be i hu hi rb (off + a.2) m (c + kk) v n us hsrc hg hcells hfroz
                  refine ⟨_, _, hrun, ?_⟩
                  rw [show off + a.2 + m * i.size = off + (a.2 + m * i.size) by omega]
                  have hlist : pre ++ ((vs ++ sp).take (a.2 + m * i.size) ++ us ++ (vs ++ sp).drop (a.2 + m * i.size + us.length)) ++ post =
                      (pre ++ vs.take a.2) ++ ((vs.drop a.2).take (m * i.size) ++ us) ++ (vs ++ sp).drop (a.2 + m * i.size + us.length) ++ post := by
                    have e1 : (vs ++ sp).take (a.2 + m * i.size) = vs.take a.2 ++ (vs.drop a.2).take (m * i.size) := by
                      rw [List.take_append_of_le_length (by omega), List.take_add]
                    rw [e1]
                    simp
                  rw [hlist] at w1
                  have hpl : (pre ++ vs.take a.2).length = off + a.2 := by rw [List.length_append, List.length_take]; omega
                  obtain ⟨g1, g2, g3⟩ := (h.mem.del a.1).fresh (w' := w.setCells rb (off + (a.2 + m * i.size)) us) hfresh (e := be) (k := c + kk - (m + n)) hv2 (by rw [hsz, List.length_drop, List.length_append]; omega) g.low hsg2 ⟨fz, w1, fun q hq => wz q (by have := congrArg List.length hlist; simp only [List.length_append, List.length_take, List.length_drop] at this hq ⊢; omega)⟩
                    (fun b x r hb2 hr he => by
                      have hne : b ≠ a.1 ∧ s.blk b = some x := by
                        rcases blk_put hb2 with ⟨_, h5⟩ | h5
                        · cases h5
                        · exact h5
                      exact h.mem.apart b a.1 x _ r _ hne.2 hb hne.1 hr g.sg_ he)
                    (fun b x r hb2 hr he => by
                      obtain ⟨fz', hh', _⟩ := g.heap
                      exact h.mem.sep (q := b) (o := x) hb2 ⟨_, _, _, hh'⟩ hr he) (by
                      obtain ⟨q, hq⟩ := g.mul_
                      refine ⟨q + a.2 / i.size, ?_⟩
                      have e1 := Nat.div_add_mod a.2 i.size
                      rw [h4, Nat.add_zero, Nat.mul_comm] at e1
                      rw [hpl, hq, hsz, Nat.add_mul, e1]) (hns _) w2
                  rw [hpl] at g1 g2 g3
                  refine hK _ _ _ g2 ⟨g1, g3, h.fram.upd (same_setCells _ _ _ _) g.low w2⟩ ?_
                  simp only [vl]
                  rw [show (s.put a.1 none).n = s.n from rfl, sgPut_same]
                  simp only [Option.some.injEq, Value.slice.injEq, true_and]
                  exact ⟨rfl, by omega⟩
              · cases ha
          · cases ha
        · cases ha
      · cases ha
    · cases ha
  · cases ha
end
end Go.Ev
