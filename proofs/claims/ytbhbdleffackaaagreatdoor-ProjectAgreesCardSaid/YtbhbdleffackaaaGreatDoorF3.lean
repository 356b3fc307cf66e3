/- A verified evaluator for closed calls: pointers that are seen as others, bytes of strings, rows copied, functions without a body. No program in sight. -/
import Derived.Test.YtbhbdleffackaaaGreatDoorF2
import Derived.Test.YtbhbdleffackaaaGreatDoorSu
import Derived.Lib.UnsafeStr
import Derived.Lib.Bytealg
import Derived.Lib.MakeNoZero
set_option linter.unusedVariables false
set_option linter.unusedSimpArgs false
namespace Go.Ev
open Go Go.Vc
noncomputable section
variable {P : Program} {base : Bs} {w0 : World} {σ : Sg} {s : St} {w w' : World}
/-- []byte(s) -/
def sbX (P : Program) (q d : TypeId) (x : Option X) (s : St) : Option (X × St) := match P.underlying q, P.underlying d, x with
  | some .string, some (.slice e), some (.s l) => (match P.underlying e, szOf P e with
    | some (.int .u8), 1 => some (.l (some (s.n, 0)) l.length l.length, s.new (e, l.map fun m => .i .u8 ((m % 256 : Nat) : Int)))
    | _, _ => none)
  | _, _, _ => none
theorem sbX_ty {q d : TypeId} {x : Option X} {z : X × St} (hx : sbX P q d x s = some z) : ∃ e, P.underlying q = some .string ∧ P.underlying d = some (.slice e) := by
  unfold sbX at hx
  split at hx
  · rename_i hq hd; exact ⟨_, hq, hd⟩
  · cases hx
theorem vls_bytes (l : List Nat) : vls σ (l.map fun m => X.i .u8 ((m % 256 : Nat) : Int)) = some (l.map fun m => Value.int .u8 ((m % 256 : Nat) : Int)) := by
  induction l with
  | nil => rfl
  | cons c l ih => exact vls_mk rfl ih
theorem sbX_ok (h : Wo P base w0 σ s w) {q d : TypeId} {x : Option X} {u : Value} {z : X} {s' : St} (hx : sbX P q d x s = some (z, s')) (hv : ∀ a, x = some a → vl σ a = some u) {K : Value → World → Prop} (hK : Fin P base w0 σ z s' K) : Cw P q d u w K := by
  unfold sbX at hx
  split at hx
  · rename_i e l hq hd
    have hv := hv _ rfl
    simp only [vl, Option.some.injEq] at hv
    subst hv
    split at hx
    · rename_i he hsz
      simp only [Option.some.injEq, Prod.mk.injEq] at hx
      obtain ⟨rfl, rfl⟩ := hx
      have hrun := run_bytes_of_string (P := P) w q d e (str l) hq hd he
      have hcap := grownCap_ge w (str l).size 0 e
      rw [str_size] at hrun hcap
      generalize grownCap w l.length 0 e = cap at hrun hcap
      have hb : bytesRow (str l) cap = ([] ++ (l.map fun m => Value.int .u8 ((m % 256 : Nat) : Int)) ++ List.replicate (cap - l.length) (Value.int .u8 0) ++ []).toArray := by
        unfold bytesRow
        rw [str_size]
        apply Array.ext'
        simp [str]
      rw [hb] at hrun
      have hlow := h.fram.top
      obtain ⟨g1, g2, g3⟩ := h.drew.mem.fresh (e := e) (pre := []) (post := []) (rb := w.heap.size) (k := cap - l.length) (w' := w.drew.alloc (.cells ([] ++ (l.map fun m => Value.int .u8 ((m % 256 : Nat) : Int)) ++ List.replicate (cap - l.length) (Value.int .u8 0) ++ []).toArray e
          (([] ++ (l.map fun m => Value.int .u8 ((m % 256 : Nat) : Int)) ++ List.replicate (cap - l.length) (Value.int .u8 0) ++ []).toArray.size, ([] ++ (l.map fun m => Value.int .u8 ((m % 256 : Nat) : Int)) ++ List.replicate (cap - l.length) (Value.int .u8 0) ++ []).toArray.size + 1)))
        h.fresh (vls_bytes l) (by rw [hsz, List.length_replicate, Nat.mul_one]) hlow (by simp [sg]) ⟨_, alloc_at _, fun o ho hz => by simp at ho hz; omega⟩
        (fun b x r hb hr he => by have : r.1 < w.heap.size := h.drew.mem.below hb hr; omega) (fun b x r hb hr he => by have : r.1 < w.heap.size := h.drew.mem.mbelow hb hr; omega) ⟨0, by simp⟩ (fun ha => by unfold isArrB at ha; rw [he] at ha; cases ha) alloc_oth
      refine ⟨_, _, hrun, hK _ _ _ g2 ⟨g1, g3, h.drew.fram.alloc _⟩ ?_⟩
      simp only [vl]
      rw [show sgPut σ s.n (w.heap.size, ([] : List Value).length, cap - l.length) s.n = some (w.heap.size, 0, cap - l.length) from sgPut_same _ _ _]
      show some (Value.slice (some ⟨w.heap.size, 0 + 0, none⟩) l.length (l.length + (cap - l.length))) = _
      rw [show l.length + (cap - l.length) = cap by omega]
    · cases hx
  · cases hx
/-- copy(d, s), of elements of one cell. -/
def cpyX (P : Program) (ats : List TypeId) (xs : Option (List X)) (s : St) : Option (X × St) := match ats, xs with
  | [t, _], some [.l _ _ _, .l none 0 _] => (match P.underlying t with
    | some (.slice e) => (match Nat.beq (szOf P e) 1 with
      | true => some (.i .i64 0, s)
      | false => none)
    | _ => none)
  | [t, t'], some [.l (some a) n _, .l (some b) m _] => (match P.underlying t, s.blk a.1, s.blk b.1 with
    | some (.slice e), some ca, some cb => (match Nat.beq (szOf P e) 1, Nat.ble (a.2 + min m n) ca.2.length, Nat.ble (b.2 + min m n) cb.2.length, flatXs ((cb.2.drop b.2).take (min m n)) with
      | true, true, true, true => some (.i .i64 ((min m n : Nat) : Int), s.put a.1 (some (ca.1, setLX ca.2 a.2 ((cb.2.drop b.2).take (min m n)))))
      | _, _, _, _ => none)
    | _, _, _ => none)
  | _, _ => none
theorem szOf_one {e : TypeId} (h : szOf P e = 1) : (P.info? e).map (·.size) = some 1 := by
  unfold szOf at h
  cases hi : P.info? e with
  | none => rw [hi] at h; cases h
  | some i => rw [hi] at h; simp at h; simp [h]
theorem cpyX_ok (h : Wo P base w0 σ s w) {ats : Array TypeId} {ty : TypeId} {xs : Option (List X)} {vs : List Value} {z : X} {s' : St} (hx : cpyX P ats.toList xs s = some (z, s')) (hv : ∀ l, xs = some l → vls σ l = some vs)
    {K : Value → World → Prop} (hK : Fin P base w0 σ z s' K) : Cp P ats ty vs.toArray w K := by
  unfold cpyX at hx
  split at hx
  · rename_i t t' a n ca' cb' hats
    have hv := hv _ rfl
    obtain ⟨v1, vs1, e1, e2, rfl⟩ := vls_cons hv
    obtain ⟨v2, vs2, e3, e4, rfl⟩ := vls_cons e2
    simp only [vls, Option.some.injEq] at e4
    subst e4
    have hat : ats = #[t, t'] := by
      obtain ⟨l⟩ := ats
      simp only at hats
      rw [hats]
    subst hat
    simp only [vl, Option.some.injEq] at e3
    subst e3
    split at hx
    · rename_i e ht
      split at hx
      · rename_i h1
        have h1 := Nat.eq_of_beq_eq_true h1
        simp only [Option.some.injEq, Prod.mk.injEq] at hx
        obtain ⟨rfl, rfl⟩ := hx
        have hd : ∃ d q, v1 = .slice d n q := by
          cases a with
          | none => simp only [vl, Option.some.injEq] at e1; exact ⟨_, _, e1.symm⟩
          | some a =>
            simp only [vl] at e1
            cases hs : σ a.1 with
            | none => rw [hs] at e1; cases e1
            | some r => rw [hs] at e1; exact ⟨_, _, (Option.some.inj e1).symm⟩
        obtain ⟨d, q, rfl⟩ := hd
        exact ⟨_, _, run_copy_none (P := P) w t t' ty e d none n q 0 _ ht (szOf_one h1) (Nat.zero_min _), hK σ w _ (Ext.refl _) h rfl⟩
      · cases hx
    · cases hx
  · rename_i t t' a n ca' b m cb' hats
    have hv := hv _ rfl
    obtain ⟨v1, vs1, e1, e2, rfl⟩ := vls_cons hv
    obtain ⟨v2, vs2, e3, e4, rfl⟩ := vls_cons e2
    simp only [vls, Option.some.injEq] at e4
    subst e4
    have hat : ats = #[t, t'] := by
      obtain ⟨l⟩ := ats
      simp only at hats
      rw [hats]
    subst hat
    split at hx
    · rename_i e ca cb ht ha hb
      obtain ⟨ea, csa⟩ := ca
      obtain ⟨eb, csb⟩ := cb
      split at hx
      · rename_i h1 h2 h3 h4
        have h1 := Nat.eq_of_beq_eq_true h1
        have h2 := Nat.le_of_ble_eq_true h2
        have h3 := Nat.le_of_ble_eq_true h3
        simp only [Option.some.injEq, Prod.mk.injEq] at hx
        obtain ⟨rfl, rfl⟩ := hx
        obtain ⟨rb, off, k, pre, vs, sp, post, g⟩ := h.mem.own a.1 ea csa ha
        obtain ⟨rb2, off2, k2, pre2, vs2, sp2, post2, g2⟩ := h.mem.own b.1 eb csb hb
        simp only [vl, g.sg_, Option.some.injEq] at e1
        simp only [vl, g2.sg_, Option.some.injEq] at e3
        subst e1; subst e3
        simp only at h2 h3 h4 ⊢
        have hl2 := vls_len g2.val
        have hcut := vls_take (min m n) (vls_drop b.2 g2.val)
        have hlen : ((vs2.drop b.2).take (min m n)).length = min m n := by rw [List.length_take, List.length_drop]; omega
        have hlenX : ((csb.drop b.2).take (min m n)).length = min m n := by rw [List.length_take, List.length_drop]; omega
        have hsg := flatXs_sg h4 hcut
        obtain ⟨hw, hc⟩ := h.write ha hcut hsg (by rw [hlenX]; exact h2) g.sg_
        have hrun := run_copy_cells (P := P) w t t' ty e rb (off + a.2) n (ca' + k) ⟨rb2, off2 + b.2, none⟩ m (cb' + k2) ((vs2.drop b.2).take (min m n)) ht (szOf_one h1) hlen
          (fun j v hj => by
            rw [add_off]
            have hj2 := hj
            rw [List.getElem?_take_of_lt (by have := (List.getElem?_eq_some_iff.1 hj).1; omega), List.getElem?_drop] at hj2
            rw [show off2 + b.2 + j = off2 + (b.2 + j) by omega, g2.cell (List.getElem?_eq_some_iff.1 hj2).1, hj2])
          (fun j hj => (hc j hj).1) (fun j hj => (hc j hj).2) (fun v hv => sg_one (List.all_eq_true.1 hsg v hv))
        refine ⟨_, _, hrun, hK _ _ _ (Ext.refl _) hw ?_⟩
        rw [hlen]
        rfl
      · cases hx
    · cases hx
  · cases hx
/-- How long a slice is. -/
def slN : X → Option Nat
  | .l _ n _ => some n
  | .e0 _ _ _ => some 0
  | _ => none
theorem slN_ok {x : X} {n : Nat} {v : Value} (h : slN x = some n) (hv : vl σ x = some v) : ∃ d q, v = .slice d n q := by
  unfold slN at h
  split at h
  · rename_i a n' c
    obtain rfl := Option.some.inj h
    cases a with
    | none => simp only [vl, Option.some.injEq] at hv; exact ⟨_, _, hv.symm⟩
    | some a =>
      obtain ⟨q, m, d, rfl⟩ := vl_ls hv
      simp only [vl] at hv
      cases hs : σ a.1 with
      | none => rw [hs] at hv; cases hv
      | some r =>
        rw [hs] at hv
        exact ⟨_, _, (Option.some.inj hv).symm⟩
  · obtain rfl := Option.some.inj h
    obtain ⟨p, m, rfl⟩ := vl_es hv
    exact ⟨_, _, rfl⟩
  · cases h
def cpy0 (P : Program) : List TypeId → Option (List X) → Bool
  | [t, _], some [x, y] => (match P.underlying t, slN x, slN y with
    | some (.slice e), some n, some m => Nat.beq (szOf P e) 1 && Nat.beq (Nat.min m n) 0
    | _, _, _ => false)
  | _, _ => false
/-- copy; of nothing, too. -/
def cpyZ (P : Program) (ats : List TypeId) (xs : Option (List X)) (s : St) : Option (X × St) := match cpy0 P ats xs with
  | true => some (.i .i64 0, s)
  | false => cpyX P ats xs s
theorem cpyZ_ok (h : Wo P base w0 σ s w) {ats : Array TypeId} {ty : TypeId} {xs : Option (List X)} {vs : List Value} {z : X} {s' : St} (hx : cpyZ P ats.toList xs s = some (z, s')) (hv : ∀ l, xs = some l → vls σ l = some vs)
    {K : Value → World → Prop} (hK : Fin P base w0 σ z s' K) : Cp P ats ty vs.toArray w K := by
  unfold cpyZ at hx
  split at hx
  · rename_i h0
    simp only [Option.some.injEq, Prod.mk.injEq] at hx
    obtain ⟨rfl, rfl⟩ := hx
    unfold cpy0 at h0
    split at h0
    · rename_i t t' x y hats
      have hat : ats = #[t, t'] := by
        obtain ⟨l⟩ := ats
        simp only at hats
        rw [hats]
      subst hat
      split at h0
      · rename_i e n m ht hn hm
        rw [Bool.and_eq_true] at h0
        obtain ⟨v1, vs1, e1, e2, rfl⟩ := vls_cons (hv _ rfl)
        obtain ⟨v2, vs2, e3, e4, rfl⟩ := vls_cons e2
        simp only [vls, Option.some.injEq] at e4
        subst e4
        obtain ⟨d, q, rfl⟩ := slN_ok hn e1
        obtain ⟨d', q', rfl⟩ := slN_ok hm e3
        exact ⟨_, _, run_copy_none (P := P) w t t' ty e d d' n q m q' ht (szOf_one (Nat.eq_of_beq_eq_true h0.1)) (Nat.eq_of_beq_eq_true h0.2), hK σ w _ (Ext.refl _) h rfl⟩
      · cases h0
    · cases h0
  · exact cpyX_ok h hx hv hK
/-! ### unsafe.SliceData, unsafe.String -/
def usdX : Option (List X) → Option X
  | some [.l none _ _] => some (.p none)
  | some [.l (some a) _ (_ + 1)] => some (.p (some a))
  | _ => none
theorem usdX_ok {ats : Array TypeId} {ty : TypeId} {xs : Option (List X)} {vs : List Value} {z : X} (hx : usdX xs = some z) (hv : ∀ l, xs = some l → vls σ l = some vs)
    {K : Value → World → Prop} (hK : ∀ v, vl σ z = some v → K v w) : Usd P ats ty vs.toArray w K := by
  unfold usdX at hx
  split at hx
  · obtain rfl := Option.some.inj hx
    obtain ⟨v1, vs1, e1, e2, rfl⟩ := vls_cons (hv _ rfl)
    simp only [vls, Option.some.injEq] at e2
    simp only [vl, Option.some.injEq] at e1
    subst e1; subst e2
    exact ⟨_, w, Lib.run_unsafeSliceData_nil (P := P) w ats ty _ _, hK _ rfl⟩
  · rename_i a n c
    obtain rfl := Option.some.inj hx
    obtain ⟨v1, vs1, e1, e2, rfl⟩ := vls_cons (hv _ rfl)
    simp only [vls, Option.some.injEq] at e2
    subst e2
    simp only [vl] at e1
    cases hs : σ a.1 with
    | none => rw [hs] at e1; cases e1
    | some r =>
      rw [hs] at e1
      obtain rfl := Option.some.inj e1
      exact ⟨_, w, Lib.run_unsafeSliceData_row (P := P) w ats ty _ n _ (by omega), hK _ (by simp only [vl, hs])⟩
  · cases hx
def smallB : List Nat → Bool
  | [] => true
  | m :: l => match Nat.blt m 256 with
    | true => smallB l
    | false => false
theorem smallB_get : ∀ {l : List Nat} {j m : Nat}, smallB l = true → l[j]? = some m → m < 256
  | [], j, m, _, h => by simp at h
  | a :: l, 0, m, hb, h => by
    simp only [smallB] at hb
    simp at h; subst h
    cases hq : Nat.blt a 256 with
    | true => exact Nat.le_of_ble_eq_true hq
    | false => rw [hq] at hb; cases hb
  | a :: l, j + 1, m, hb, h => by
    simp only [smallB] at hb
    cases hq : Nat.blt a 256 with
    | true => rw [hq] at hb; exact smallB_get (l := l) (j := j) hb (by simpa using h)
    | false => rw [hq] at hb; cases hb
def ustX (P : Program) (ats : List TypeId) (xs : Option (List X)) (s : St) : Option (X × St) := match ats, xs with
  | [_, _], some [.p _, .i .i64 (.ofNat 0)] => some (.s [], s)
  | [pt, _], some [.p (some b), .i .i64 (.ofNat (n + 1))] => (match s.blk b.1 with
    | some cb => (match P.underlying pt, Nat.ble (n + 1) 9223372036854775807, bytesX ((cb.2.drop b.2).take (n + 1)) with
      | some (.pointer e), true, some l => (match Nat.beq e cb.1, Nat.beq (szOf P e) 1, Nat.beq l.length (n + 1), smallB l with
        | true, true, true, true => some (.s l, s.put b.1 none)
        | _, _, _, _ => none)
      | _, _, _ => none)
    | none => none)
  | _, _ => none
theorem freeze_oth {a : Addr} {n : Nat} : (∀ c o, c ≠ a.block → w.heap[c]? = some o → (w.freeze a n).heap[c]? = some o) ∧ Same w (w.freeze a n) := by
  unfold World.freeze
  split
  · exact ⟨fun c o _ h => h, .refl w⟩
  · refine ⟨fun c o hc h => ?_, ⟨rfl, rfl, rfl, by simp⟩⟩
    simp only [Array.getElem?_modify]
    rw [if_neg (fun e => hc e.symm)]
    exact h
theorem bytes_of (l : List Nat) (j : Nat) (x : UInt8) (h : (l.map UInt8.ofNat)[j]? = some x) : ∃ m, l[j]? = some m ∧ x = UInt8.ofNat m := by
  rw [List.getElem?_map] at h
  cases hl : l[j]? with
  | none => rw [hl] at h; cases h
  | some m => rw [hl] at h; exact ⟨m, rfl, (Option.some.inj h).symm⟩
theorem ustX_ok (h : Wo P base w0 σ s w) {ats : Array TypeId} {ty : TypeId} {xs : Option (List X)} {vs : List Value} {z : X} {s' : St} (hx : ustX P ats.toList xs s = some (z, s')) (hv : ∀ l, xs = some l → vls σ l = some vs)
    {K : Value → World → Prop} (hK : Fin P base w0 σ z s' K) : Ust P ats ty vs.toArray w K := by
  unfold ustX at hx
  split at hx
  · rename_i pt it a hats
    simp only [Option.some.injEq, Prod.mk.injEq] at hx
    obtain ⟨rfl, rfl⟩ := hx
    obtain ⟨v1, vs1, e1, e2, rfl⟩ := vls_cons (hv _ rfl)
    obtain ⟨v2, vs2, e3, e4, rfl⟩ := vls_cons e2
    simp only [vls, Option.some.injEq] at e4
    subst e4
    simp only [vl, Option.some.injEq] at e3
    subst e3
    have hat : ats = #[pt, it] := by obtain ⟨l⟩ := ats; simp only at hats; rw [hats]
    subst hat
    have hp : ∃ q, v1 = .pointer q := by
      cases a with
      | none => simp only [vl, Option.some.injEq] at e1; exact ⟨_, e1.symm⟩
      | some a => obtain ⟨q, rfl⟩ := vl_ps e1; exact ⟨_, rfl⟩
    obtain ⟨q, rfl⟩ := hp
    exact ⟨_, w, Lib.run_unsafeString_none (P := P) w pt it ty q, hK σ w _ (Ext.refl _) h rfl⟩
  · rename_i pt it b n hats
    split at hx
    · rename_i cb hb
      split at hx
      · rename_i e l hp h63 hby
        split at hx
        · rename_i he hs1 hl hsm
          obtain ⟨eb, cs⟩ := cb
          obtain rfl := Nat.eq_of_beq_eq_true he
          have hs1 := Nat.eq_of_beq_eq_true hs1
          have hl := Nat.eq_of_beq_eq_true hl
          have h63 := Nat.le_of_ble_eq_true h63
          simp only [Option.some.injEq, Prod.mk.injEq] at hx
          obtain ⟨rfl, rfl⟩ := hx
          obtain ⟨v1, vs1, e1, e2, rfl⟩ := vls_cons (hv _ rfl)
          obtain ⟨v2, vs2, e3, e4, rfl⟩ := vls_cons e2
          simp only [vls, Option.some.injEq] at e4
          subst e4
          simp only [vl, Option.some.injEq] at e3
          subst e3
          have hat : ats = #[pt, it] := by obtain ⟨l⟩ := ats; simp only at hats; rw [hats]
          subst hat
          obtain ⟨rb, off, k, pre, vs, sp, post, g⟩ := h.mem.own b.1 e cs hb
          simp only [vl, g.sg_, Option.some.injEq] at e1
          subst e1
          have hcut := vls_take (n + 1) (vls_drop b.2 g.val)
          have hbv := bytesX_spec (σ := σ) hby
          simp only at hbv hcut
          rw [hcut] at hbv
          have hvs := Option.some.inj hbv
          have hlen : ((vs.drop b.2).take (n + 1)).length = n + 1 := by rw [hvs]; simp [hl]
          have hc1 : P.cellsOf e = 1 := by rw [cellsOf_szOf (by omega)]; exact hs1
          have hsh := g.shape
          have hpre := g.pre_
          have hin : b.2 + (n + 1) ≤ vs.length := by rw [List.length_take, List.length_drop] at hlen; omega
          have hlies : liesAt P P.depth e ((pre ++ vs ++ sp ++ post).length / P.cellsOf e) (off + b.2) e (n + 1) = true := by
            have h0 := Lib.liesAt_bytes (P := P) hc1 (n + 1) (n + 1) (Nat.le_refl _)
            have h1 := liesAt_up (q := off + b.2) (c' := (pre ++ vs ++ sp ++ post).length / P.cellsOf e) (by rw [hc1, Nat.div_one]; simp only [List.length_append]; omega) h0
            rw [hc1, Nat.mul_one, Nat.add_zero] at h1
            rw [hc1]
            exact h1
          have hlb := Lib.run_loadBytes (P := P) w (l.map UInt8.ofNat) ⟨rb, off + b.2, none⟩ .empty (fun j x hj => by
            obtain ⟨m, hm, rfl⟩ := bytes_of l j x hj
            rw [add_off]
            have hm256 := smallB_get hsm hm
            have hvj : ((vs.drop b.2).take (n + 1))[j]? = some (.int .u8 (m : Int)) := by
              rw [hvs, List.getElem?_map, List.getElem?_map, hm]; rfl
            have hj1 := (List.getElem?_eq_some_iff.1 hvj).1
            rw [List.getElem?_take_of_lt (by omega), List.getElem?_drop] at hvj
            rw [show off + b.2 + j = off + (b.2 + j) by omega, g.cell (List.getElem?_eq_some_iff.1 hvj).1, hvj]
            rw [UInt8.toNat_ofNat_of_lt' (by simpa using hm256)])
          rw [List.length_map, hl] at hlb
          have h63' : ¬ (9223372036854775807 : Int) < ((n + 1 : Nat) : Int) := by omega
          have hdef : Builtin.unsafeString_ #[pt, it] ty #[.pointer (some ⟨rb, off + b.2, none⟩), .int .i64 ((n + 1 : Nat) : Int)] =
              (do
                let n ← asInt (.int .i64 ((n + 1 : Nat) : Int))
                if n < 0 then runtimePanic (.error "unsafe.String: len out of range")
                if n > IntKind.i64.max then unsupported (.unsafePointer "String: a length above the largest int")
                if n = 0 then pure (.string .empty)
                else if ← variablesAt ⟨rb, off + b.2, none⟩ (← elemOf pt) n.toNat then do
                  let s ← loadBytes ⟨rb, off + b.2, none⟩ .empty n.toNat
                  freeze ⟨rb, off + b.2, none⟩ n.toNat
                  pure (.string s)
                else unsupported (.unsafePointer "String: not so many bytes at ptr")) := rfl
          have hmax : IntKind.i64.max = 9223372036854775807 := rfl
          have hneg : ¬ ((n + 1 : Nat) : Int) < 0 := by omega
          have hnz : ¬ ((n + 1 : Nat) : Int) = 0 := by omega
          have hrun : (Builtin.unsafeString_ #[pt, it] ty #[.pointer (some ⟨rb, off + b.2, none⟩), .int .i64 ((n + 1 : Nat) : Int)]).run P w = .ok (.string (str l)) (w.freeze ⟨rb, off + b.2, none⟩ (n + 1)) := by
            rw [hdef]
            have hstr : (⟨ByteArray.empty.data ++ (l.map UInt8.ofNat).toArray⟩ : ByteArray) = str l := by
              apply ByteArray.ext
              simp [str]
            have e1 : (asInt (.int .i64 ((n + 1 : Nat) : Int))).run P w = .ok ((n + 1 : Nat) : Int) w := by simp [asInt, asIntOf]
            rw [Sem.run_bind, e1]
            simp only [Result.andThen_ok, hneg, if_false, hmax, gt_iff_lt, h63', hnz, Int.toNat_natCast, Sem.run_bind, Sem.run_pure, elemOf, run_underlying hp, variablesAt, run_program, run_shape, hsh, hlies, if_true, hlb, hstr]
            rfl
          obtain ⟨f1, f2⟩ := freeze_oth (w := w) (a := ⟨rb, off + b.2, none⟩) (n := n + 1)
          refine ⟨_, _, hrun, hK σ _ _ (Ext.refl _) ⟨h.mem.lose hb g.sg_ f1, h.fresh, h.fram.upd f2 g.low f1⟩ rfl⟩
        · cases hx
      · cases hx
    · cases hx
  · cases hx
/-! ### Functions without a body -/
def idxN (c : Nat) : List Nat → Nat → Option Nat
  | [], _ => none
  | m :: l, i => match Nat.beq (m % 256) c with
    | true => some i
    | false => idxN c l (i + 1)
def cntN (c : Nat) : List Nat → Nat
  | [] => 0
  | m :: l => match Nat.beq (m % 256) c with
    | true => Nat.succ (cntN c l)
    | false => cntN c l
/-- The bytes of a row. -/
def bytX : List X → Option (List Nat)
  | [] => some []
  | .i .u8 (.ofNat n) :: l => (match bytX l with
    | some r => some (n :: r)
    | none => none)
  | _ => none
theorem bytX_ok : ∀ {xs : List X} {l : List Nat}, bytX xs = some l → vls σ xs = some (l.map fun (n : Nat) => Value.int .u8 (n : Int))
  | [], l, h => by obtain rfl := Option.some.inj h; rfl
  | x :: xs, l, h => by
    unfold bytX at h
    split at h
    · rename_i e; cases e
    · rename_i n l' e
      cases e
      split at h
      · rename_i r hr
        obtain rfl := Option.some.inj h
        exact vls_mk rfl (bytX_ok hr)
      · cases h
    · cases h
/-- A call of such a function. -/
def extX (P : Program) (s : St) : Option (Func × Xt) → Option (List X) → Option (X × St)
  | some (_, .idx), some [.s l, .i .u8 c] => some (.i .i64 (Lib.indexByte (l.map UInt8.ofNat) c.toNat.toUInt8), s)
  | some (_, .idxB), some [.l none _ _, .i .u8 c] => some (.i .i64 (Lib.indexByte [] c.toNat.toUInt8), s)
  | some (_, .idxB), some [.l (some a) n _, .i .u8 c] => (match s.blk a.1 with
    | some cb => (match bytX ((cb.2.drop a.2).take n) with
      | some l => (match Nat.beq l.length n with
        | true => some (.i .i64 (Lib.indexByte (l.map UInt8.ofNat) c.toNat.toUInt8), s)
        | false => none)
      | none => none)
    | none => none)
  | some (_, .cnt), some [.s l, .i .u8 c] => some (.i .i64 (Lib.countByte (l.map UInt8.ofNat) c.toNat.toUInt8), s)
  | some (_, .noEsc), some [x] => some (x, s)
  | some (fn, .mkNo), some [.i .i64 (.ofNat n)] => (match fn.resultTypes.toList with
    | [t] => (match P.underlying t with
      | some (.slice e) => (match szOf P e, Nat.ble n 1048576, isArrB P e with
        | 1, true, false => some (.l (some (s.n, 0)) n 0, s.new (e, []))
        | _, _, _ => none)
      | _ => none)
    | _ => none)
  | _, _ => none
theorem str_list (l : List Nat) : (str l).data.toList = l.map UInt8.ofNat := by simp [str]
theorem extX_ok (h : Wo P base w0 σ s w) {f : FuncId} {xs : Option (List X)} {vs : List Value} {z : X} {s' : St} (hx : extX P s (extK P f) xs = some (z, s')) (hv : ∀ l, xs = some l → vls σ l = some vs)
    {K : Value → World → Prop} (hK : Fin P base w0 σ z s' K) : isExt P f = true ∧ Cx P f vs.toArray w K := by
  unfold extX at hx
  split at hx
  · rename_i fn l c hk
    simp only [Option.some.injEq, Prod.mk.injEq] at hx
    obtain ⟨rfl, rfl⟩ := hx
    obtain ⟨v1, vs1, e1, e2, rfl⟩ := vls_cons (hv _ rfl)
    obtain ⟨v2, vs2, e3, e4, rfl⟩ := vls_cons e2
    simp only [vls, Option.some.injEq] at e4
    subst e4
    simp only [vl, Option.some.injEq] at e1 e3
    subst e1; subst e3
    have hr := Lib.run_indexByteString (P := P) (str l) c w
    rw [str_list] at hr
    obtain ⟨g1, g2⟩ := callExt hk (find_idx (extK_ok hk).2.2) hr
    exact ⟨g1, _, w, g2, hK σ w _ (Ext.refl _) h rfl⟩
  · rename_i fn n m c hk
    simp only [Option.some.injEq, Prod.mk.injEq] at hx
    obtain ⟨rfl, rfl⟩ := hx
    obtain ⟨v1, vs1, e1, e2, rfl⟩ := vls_cons (hv _ rfl)
    obtain ⟨v2, vs2, e3, e4, rfl⟩ := vls_cons e2
    simp only [vls, Option.some.injEq] at e4
    subst e4
    simp only [vl, Option.some.injEq] at e1 e3
    subst e1; subst e3
    have hr : (Extern.BytealgIndexByte.indexByte #[.slice none n m, .int .u8 c]).run P w = .ok (.int .i64 (Lib.indexByte [] c.toNat.toUInt8)) w := Lib.run_indexByteString (P := P) .empty c w
    obtain ⟨g1, g2⟩ := callExt hk (find_idxB (extK_ok hk).2.2) hr
    exact ⟨g1, _, w, g2, hK σ w _ (Ext.refl _) h rfl⟩
  · rename_i fn a n m c hk
    split at hx
    · rename_i cb hb
      obtain ⟨be, cs⟩ := cb
      split at hx
      · rename_i l hl
        split at hx
        · rename_i hn
          have hn := Nat.eq_of_beq_eq_true hn
          simp only [Option.some.injEq, Prod.mk.injEq] at hx
          obtain ⟨rfl, rfl⟩ := hx
          obtain ⟨v1, vs1, e1, e2, rfl⟩ := vls_cons (hv _ rfl)
          obtain ⟨v2, vs2, e3, e4, rfl⟩ := vls_cons e2
          simp only [vls, Option.some.injEq] at e4
          subst e4
          obtain ⟨rb, off, k, pre, vs, sp, post, g⟩ := h.mem.own a.1 be cs hb
          simp only [vl, g.sg_, Option.some.injEq] at e1 e3
          subst e1; subst e3
          have h3 := vls_take n (vls_drop a.2 g.val)
          have h4 := bytX_ok (σ := σ) hl
          simp only at h4
          rw [h3] at h4
          have h5 := Option.some.inj h4
          have hload := run_loadBytes (P := P) (w := w) (b := rb) l (off + a.2) .empty fun i m' hi => by
            have hlt : i < l.length := (List.getElem?_eq_some_iff.1 hi).1
            have h6 : ((vs.drop a.2).take n)[i]? = some (.int .u8 (m' : Int)) := by rw [h5, List.getElem?_map, hi]; rfl
            rw [List.getElem?_take_of_lt (by omega), List.getElem?_drop] at h6
            rw [show off + a.2 + i = off + (a.2 + i) by omega, g.cell (List.getElem?_eq_some_iff.1 h6).1, h6]
          have hr := Lib.run_indexByteString (P := P) (str l) c w
          rw [str_list] at hr
          have hr2 : (Extern.BytealgIndexByte.indexByte #[.slice (some ⟨rb, off + a.2, none⟩) n (m + k), .int .u8 c]).run P w = .ok (.int .i64 (Lib.indexByte (l.map UInt8.ofNat) c.toNat.toUInt8)) w := by
            rw [← hr]
            rw [hn] at hload
            have hl1 : (Extern.Bytes.bytesOf (.slice (some ⟨rb, off + a.2, none⟩) n (m + k))).run P w = .ok (str l) w := hload.trans (by congr 1; apply ba_ext; simp [str])
            have hl2 : (Extern.Bytes.bytesOf (.string (str l))).run P w = .ok (str l) w := rfl
            exact idxB_of hl1 hl2
          obtain ⟨g1, g2⟩ := callExt hk (find_idxB (extK_ok hk).2.2) hr2
          exact ⟨g1, _, w, g2, hK σ w _ (Ext.refl _) h rfl⟩
        · cases hx
      · cases hx
    · cases hx
  · rename_i fn l c hk
    simp only [Option.some.injEq, Prod.mk.injEq] at hx
    obtain ⟨rfl, rfl⟩ := hx
    obtain ⟨v1, vs1, e1, e2, rfl⟩ := vls_cons (hv _ rfl)
    obtain ⟨v2, vs2, e3, e4, rfl⟩ := vls_cons e2
    simp only [vls, Option.some.injEq] at e4
    subst e4
    simp only [vl, Option.some.injEq] at e1 e3
    subst e1; subst e3
    have hr := Lib.run_countString (P := P) (str l) c w
    rw [str_list] at hr
    obtain ⟨g1, g2⟩ := callExt hk (find_cnt (extK_ok hk).2.2) hr
    exact ⟨g1, _, w, g2, hK σ w _ (Ext.refl _) h rfl⟩
  · rename_i fn x hk
    simp only [Option.some.injEq, Prod.mk.injEq] at hx
    obtain ⟨rfl, rfl⟩ := hx
    obtain ⟨v1, vs1, e1, e2, rfl⟩ := vls_cons (hv _ rfl)
    simp only [vls, Option.some.injEq] at e2
    subst e2
    obtain ⟨g1, g2⟩ := callExt (P := P) (w := w) (w' := w) (args := [v1].toArray) (v := v1) hk (find_noEsc (extK_ok hk).2.2) rfl
    exact ⟨g1, _, w, g2, hK σ w _ (Ext.refl _) h e1⟩
  · rename_i fn n hk
    obtain ⟨v1, vs1, e1, e2, rfl⟩ := vls_cons (hv _ rfl)
    simp only [vls, Option.some.injEq] at e2
    subst e2
    simp only [vl, Option.some.injEq] at e1
    subst e1
    split at hx
    · rename_i t hrt
      split at hx
      · rename_i e ht
        split at hx
        · rename_i hsz hn hna
          have hn := Nat.le_of_ble_eq_true hn
          simp only [Option.some.injEq, Prod.mk.injEq] at hx
          obtain ⟨rfl, rfl⟩ := hx
          have hres : fn.resultTypes = #[t] := by
            have := congrArg List.toArray hrt
            simpa using this
          obtain ⟨cs, hr, h1, h2⟩ := Lib.run_makeNoZero (P := P) w fn.params t e ht n (by omega)
          have hfind := find_mkNo (extK_ok hk).2.2
          rw [hres] at hfind
          obtain ⟨g1, g2⟩ := callExt (P := P) (w := w) (args := [Value.int .i64 (n : Int)].toArray) hk hfind hr
          refine ⟨g1, _, _, g2, ?_⟩
          obtain ⟨k1, k2, k3⟩ := h.drew.drew.mem.alloc h.fresh h.drew.drew.fram (e := e) (cs := []) (vs := []) (sp := cs.toList) (k := cs.size) rfl (by rw [hsz]; simp) rfl (fun ha => by rw [hna] at ha; cases ha)
          have hcs : (([] : List Value) ++ cs.toList).toArray = cs := by simp
          rw [hcs] at k1
          refine hK _ _ _ k2 ⟨k1, k3, h.drew.drew.fram.alloc _⟩ ?_
          simp only [vl]
          rw [sgPut_same]
          show some (Value.slice (some ⟨w.heap.size, 0 + 0, none⟩) n (0 + cs.size)) = _
          simp only [Nat.zero_add]
        · cases hx
      · cases hx
    · cases hx
  · cases hx
end
end Go.Ev
