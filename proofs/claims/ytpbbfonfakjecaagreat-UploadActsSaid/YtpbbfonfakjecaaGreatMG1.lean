/- Several texts in one: Sv, Mk, Q23, Sw, Sh, S4r, C10, C14, W16, W6b, W6c, W01, W9o, Z07, U05, W17, Ka, U18, P20, W02, Rd, Pc, M03, Me, Mf, Mg, R3b. -/
import Derived.Test.YtpbbfonfakjecaaGreatMG0
import Derived.Deep.AppendSrc
import Derived.Deep.Upon
import Derived.Lib.UnsafeStr
import Derived.Shelf.Lays
import Derived.Shelf.Unicode.DecodeAny
import Derived.Ground.NamesProg
import Derived.Test.YtpbbfonfakjecaaGreatProg
import Derived.Test.YtpbbfonfakjecaaGreatFm
set_option linter.unusedVariables false
set_option linter.unusedSimpArgs false
namespace Go.Vc
variable {P : Program} {w : World} {L : List HProp}
def mk (b : Nat) (t : TypeId) (cs : List Value) : HProp := blkO b (.cells cs.toArray t (cs.length, cs.length + 1))
theorem mk_cell (H : Holds w L) (i : Nat) {b : Nat} {t : TypeId} {cs : List Value} (hi : L[i]? = some (mk b t cs)) (o : Nat) : w.cell? ⟨b, o, none⟩ = cs[o]? := by
 have := H.obj i hi; simp [World.cell?, this]
theorem mk_frozen (H : Holds w L) (i : Nat) {b : Nat} {t : TypeId} {cs : List Value} (hi : L[i]? = some (mk b t cs)) {o : Nat} (ho : o < cs.length) : w.frozen? ⟨b, o, none⟩ = false := by
 have := H.obj i hi; simp [World.frozen?, this]; omega
theorem mk_set (H : Holds w L) (i : Nat) {b : Nat} {t : TypeId} {cs : List Value} (hi : L[i]? = some (mk b t cs)) (o : Nat) (v : Value) :
   Holds (w.setCell ⟨b, o, none⟩ v) (L.set i (mk b t (cs.set o v))) := by
 have h := H.obj i hi; refine H.upd i hi ?_ fun c hc => ?_
 · simp [World.setCell, Array.getElem?_modify, h]
 · simp only [World.setCell, Array.getElem?_modify]; rw [if_neg (by simpa using fun h => hc h.symm)]
theorem mk_setCells (i : Nat) {b : Nat} {t : TypeId} : ∀ (vs : List Value) (o : Nat) {w : World} {L : List HProp} {cs : List Value}, Holds w L → L[i]? = some (mk b t cs) → o + vs.length ≤ cs.length →
   Same w (w.setCells b o vs) ∧ Holds (w.setCells b o vs) (L.set i (mk b t (cs.take o ++ (vs ++ cs.drop (o + vs.length)))))
 | [], o, w, L, cs, H, hi, hl => by
   refine ⟨Same.refl w, ?_⟩; rw [List.nil_append, List.length_nil, Nat.add_zero, List.take_append_drop]; have hl : i < L.length := (List.getElem?_eq_some_iff.1 hi).1; have e1 : L[i] = _ := (List.getElem?_eq_some_iff.1 hi).2; rw [← e1, List.set_getElem_self]; exact H
 | v :: vs, o, w, L, cs, H, hi, hl => by
   rw [List.length_cons] at hl; have h1 := mk_set H i hi o v; obtain ⟨S2, h2⟩ := mk_setCells i vs (o + 1) h1 (set_get hi) (by rw [List.length_set]; omega); refine ⟨(Same.setCell w _ v).trans S2, ?_⟩; rw [List.set_set] at h2
   have e : (cs.set o v).take (o + 1) ++ (vs ++ (cs.set o v).drop (o + 1 + vs.length)) = cs.take o ++ (v :: vs ++ cs.drop (o + (v :: vs).length)) := by
     have h3 : (cs.set o v)[o]? = some v := by rw [List.getElem?_set_self (by omega)]
     rw [List.take_add_one, h3, List.take_set_of_le (Nat.le_refl o), List.drop_set_of_lt (by omega), List.length_cons, show o + 1 + vs.length = o + (vs.length + 1) by omega]; simp
   rw [e] at h2; exact h2
def SM (e : TypeId) (v : Value) (xs : List UInt8) : HProp := fun h => ∃ b sp, v = .slice (some ⟨b, 0, none⟩) xs.length (xs.length + sp.length) ∧ mk b e (xs.map bv ++ sp) h
theorem SM_open (H : Holds w L) (i : Nat) {e : TypeId} {v : Value} {xs : List UInt8} (hi : L[i]? = some (SM e v xs)) : ∃ b sp, v = .slice (some ⟨b, 0, none⟩) xs.length (xs.length + sp.length) ∧ Holds w (L.set i (mk b e (xs.map bv ++ sp))) := by
 obtain ⟨g, ⟨b, sp, hv, hg⟩, hs, hL⟩ := H.front i hi; exact ⟨b, sp, hv, Sat.push i hi ⟨g, hg, hs, hL⟩⟩
theorem SM_close (H : Holds w L) (i : Nat) {e : TypeId} {b : Nat} {xs : List UInt8} {sp : List Value} (hi : L[i]? = some (mk b e (xs.map bv ++ sp))) : Holds w (L.set i (SM e (.slice (some ⟨b, 0, none⟩) xs.length (xs.length + sp.length)) xs)) :=
 H.at i hi fun g hg => ⟨b, sp, rfl, hg⟩
theorem r_lnM (i : Nat) (H : Holds w L) {e : TypeId} {v : Value} {xs : List UInt8} {K : Value → Prop} (hi : L[i]? = some (SM e v xs)) (h : K (nv xs.length)) : Lnl v K := by
 obtain ⟨b, sp, rfl, _⟩ := SM_open H i hi; exact r_lnl h
theorem r_getM (i : Nat) (H : Holds w L) {e : TypeId} {v : Value} {xs : List UInt8} {k : IntKind} {j : Nat} {x : UInt8} {K : Value → Prop} (hi : L[i]? = some (SM e v xs)) (hx : xs[j]? = some x) (h : K (bv x)) :
   Ias 1 v (.int k (j : Int)) fun p => Ld p w K := by
 obtain ⟨b, sp, rfl, H1⟩ := SM_open H i hi; have hj : j < xs.length := (List.getElem?_eq_some_iff.1 hx).1; refine r_ias (by omega) (by omega) ?_; rw [Int.toNat_natCast, Nat.zero_add, Nat.mul_one]; refine r_ldP ?_ h; rw [mk_cell H1 i (set_get hi), List.getElem?_append_left (by simpa using hj), List.getElem?_map, hx]; rfl
theorem r_setM (i : Nat) (H : Holds w L) {e : TypeId} {v : Value} {xs : List UInt8} {k : IntKind} {j : Nat} (x : UInt8) {K : World → Prop} (hi : L[i]? = some (SM e v xs)) (hj : j < xs.length)
   (h : ∀ w', Same w w' → Holds w' (L.set i (SM e v (xs.set j x))) → K w') : Ias 1 v (.int k (j : Int)) fun p => St p (bv x) w K := by
 obtain ⟨b, sp, rfl, H1⟩ := SM_open H i hi; refine r_ias (by omega) (by omega) ?_; rw [Int.toNat_natCast, Nat.zero_add, Nat.mul_one]
 have hc : (xs.map bv ++ sp)[j]? = some (bv xs[j]) := by rw [List.getElem?_append_left (by simpa using hj), List.getElem?_map, List.getElem?_eq_getElem hj]; rfl
 refine ⟨_, bv xs[j], rfl, by rw [mk_cell H1 i (set_get hi), hc], mk_frozen H1 i (set_get hi) (by simp; omega), rfl, h _ (Same.setCell _ _ _) ?_⟩; have H2 := mk_set H1 i (set_get hi) j (bv x); rw [List.set_set, List.set_append_left _ _ (by simpa using hj), ← List.map_set] at H2; have H3 := SM_close H2 i (set_get hi); rw [List.set_set, List.length_set] at H3; exact H3
theorem r_cpM {t e : TypeId} {z : Value} [hr : Row P t e z] (H : Holds w L) (q : Nat) {b : Nat} {xs : List UInt8} {sp : List Value} {i : Nat} {ty : TypeId} {K : Value → World → Prop}
   (hq : L[q]? = some (mk b e (xs.map bv ++ sp))) (hi : i < xs.length) (h : ∀ v w', Same w w' → Holds w' (L.set q (mk b e ((xs.take 1 ++ (xs.take i ++ xs.drop (i + 1))).map bv ++ sp))) → K v w') :
   Cp P #[t, t] ty #[.slice (if xs.length + sp.length = 1 then some ⟨b, 0, none⟩ else (some (⟨b, 0, none⟩ : Addr)).map (·.add (1 * 1))) (i + 1 - 1) (xs.length + sp.length - 1), .slice (some ⟨b, 0, none⟩) i (xs.length + sp.length)] w K := by
 obtain ⟨inf, hinf, hsz, hby, hzz⟩ := hr.inf
 have hinf1 : (P.info? e).map (·.size) = some 1 := by rw [hinf]; simp [hsz]
 rcases Nat.eq_zero_or_pos i with h0 | h0
 · subst h0; refine r_cp (run_copy_none w t t ty e _ _ _ _ 0 _ hr.und hinf1 rfl) (h _ _ (.refl _) ?_)
   rw [List.take_zero, List.nil_append, Nat.zero_add, List.take_append_drop, show L.set q (mk b e (xs.map bv ++ sp)) = L from by
     have hl : q < L.length := (List.getElem?_eq_some_iff.1 hq).1; have e1 : L[q] = _ := (List.getElem?_eq_some_iff.1 hq).2
     rw [← e1, List.set_getElem_self]]
   exact H
 · have hne : ¬ xs.length + sp.length = 1 := by omega
   rw [if_neg hne]; have ea : (some (⟨b, 0, none⟩ : Addr)).map (·.add (1 * 1)) = some ⟨b, 1, none⟩ := rfl; rw [ea]
   have hcl : ((xs.take i).map bv).length = i := by simp; omega
   have hcs : (xs.map bv ++ sp).length = xs.length + sp.length := by simp
   have hrun := run_copy_cells (P := P) w t t ty e b 1 (i + 1 - 1) (xs.length + sp.length - 1) ⟨b, 0, none⟩ i (xs.length + sp.length) ((xs.take i).map bv) hr.und hinf1
     (by rw [hcl, Nat.add_sub_cancel]; exact (Nat.min_self i).symm) (fun j v hv => by
       have e1 : (⟨b, 0, none⟩ : Addr).add j = ⟨b, j, none⟩ := by
         unfold Addr.add; split
         · rename_i h; rw [h]
         · simp
       rw [e1, mk_cell H q hq j]
       have hj : j < i := by have := (List.getElem?_eq_some_iff.1 hv).1; rw [hcl] at this; exact this
       rw [List.getElem?_append_left (by simp; omega), ← hv, List.getElem?_map, List.getElem?_map, List.getElem?_take_of_lt hj])
     (fun j hj => by rw [mk_cell H q hq, List.getElem?_eq_getElem (by rw [hcs]; omega)]; rfl)
     (fun j hj => mk_frozen H q hq (by rw [hcs]; omega)) (fun v hv => by
       obtain ⟨y, _, rfl⟩ := List.mem_map.1 hv
       rfl)
   obtain ⟨S2, H2⟩ := mk_setCells q ((xs.take i).map bv) 1 H hq (by rw [hcl, hcs]; omega); refine r_cp hrun (h _ _ S2 ?_)
   have e : (xs.map bv ++ sp).take 1 ++ ((xs.take i).map bv ++ (xs.map bv ++ sp).drop (1 + ((xs.take i).map bv).length)) = (xs.take 1 ++ (xs.take i ++ xs.drop (i + 1))).map bv ++ sp := by
     rw [hcl, List.take_append_of_le_length (by simp; omega), List.drop_append_of_le_length (by simp; omega)]; simp [Nat.add_comm]
   rw [e] at H2; exact H2
theorem r_csb {t e d : TypeId} [hr : Bytes P t e d] (H : Holds w L) {s : List UInt8} {K : Value → World → Prop} (h : ∀ v w', Same w w' → Holds w' (SM e v s :: L) → K v w') : Cw P d t (.string ⟨s.toArray⟩) w K := by
 have hrun := run_bytes_of_string (P := P) w d t e ⟨s.toArray⟩ hr.str hr.und hr.el; refine ⟨_, _, hrun, h _ _ ((Same.drew w).trans (.alloc _ _)) ?_⟩; have hcap := grownCap_ge w (⟨s.toArray⟩ : ByteArray).size 0 e
 have hsz : (⟨s.toArray⟩ : ByteArray).size = s.length := by show s.toArray.size = _; simp
 rw [hsz] at hcap ⊢; generalize grownCap w s.length 0 e = cap at hcap ⊢
 have hb : bytesRow ⟨s.toArray⟩ cap = (s.map bv ++ List.replicate (cap - s.length) (Value.int .u8 0)).toArray := by
   unfold bytesRow; rw [hsz]; apply Array.ext'; simp
 have H2 := (H.same (w' := w.drew) rfl).alloc (.cells (bytesRow ⟨s.toArray⟩ cap) e ((bytesRow ⟨s.toArray⟩ cap).size, (bytesRow ⟨s.toArray⟩ cap).size + 1)); refine Holds.imp H2 fun g hg => ⟨w.heap.size, List.replicate (cap - s.length) (Value.int .u8 0), ?_, ?_⟩
 · rw [List.length_replicate, show s.length + (cap - s.length) = cap by omega]
 · unfold mk; rw [hb] at hg
   have e1 : (s.map bv ++ List.replicate (cap - s.length) (Value.int .u8 0)).toArray.size = (s.map bv ++ List.replicate (cap - s.length) (Value.int .u8 0)).length := by simp
   rw [e1] at hg; exact hg
end Go.Vc
namespace Go.Mk
open Go.M01 Go.Mb Go.Mp Go.M10 Go.Mc Go.Mz
structure RS where
 code : CS
 zeros : ZS
 list : List UInt8
 due : Nat
 place : Nat
structure BS where
 room : Nat
 head : Bool
 sum : Nat
 frm : Nat
 row : Option RS
 last : List UInt8
 done : Bool
def b0 (room : Nat) : BS := ⟨room, false, 0, 0, none, [], false⟩
def rowOf (T : Nat → Bool) (room : Nat) : RS := ⟨c0 ((listed T).length + 2), z0 (listed T).length room, listed T, 0, 0⟩
def RS.waits (r : RS) : Bool := decide (0 < r.due) || decide (0 < r.place)
def RS.at_ (r : RS) : Nat := if 0 < r.due then 0 else r.place
def RS.next (r : RS) : RS := ⟨r.code, r.zeros, frontB r.list r.at_, r.due - 1, if 0 < r.due then r.place else 0⟩
def RS.byte (r : RS) : UInt8 := r.list.getD r.at_ 0
def bend (b : BS) (k : Nat) : Res BS :=
 match b.row with
 | none => .ok b k
 | some r => if r.code.done = false ∨ r.waits = true then .ok b k
   else if b.last.length ≤ b.frm then .bad 23
   else .ok ⟨b.room, b.head, b.sum, b.frm, b.row, b.last, true⟩ k
def btold (b : BS) (r : RS) (c : CS) (s k : Nat) : Res BS :=
 match zput r.zeros s with
 | none => .bad 25
 | some (z, d, p) => bend ⟨b.room, b.head, b.sum, b.frm, some ⟨c, z, r.list, d, p.toNat⟩, b.last, b.done⟩ k
def bsym (b : BS) (r : RS) : Res (CS × Option Nat) → Res BS
 | .short => .short
 | .bad e => .bad e
 | .ok (c, none) k => bend ⟨b.room, b.head, b.sum, b.frm, some ⟨c, r.zeros, r.list, r.due, r.place⟩, b.last, b.done⟩ k
 | .ok (c, some s) k => btold b r c s k
def buse (b : BS) : Res (Nat → Bool) → Res BS
 | .short => .short
 | .bad e => .bad e
 | .ok T k => bend ⟨b.room, b.head, b.sum, b.frm, some (rowOf T b.room), b.last, b.done⟩ k
def bhead (b : BS) (l : List Bool) : Res BS :=
 if l.length < 57 then .short
 else if valB ((l.drop 32).take 1) = 1 then .bad 25
 else bend ⟨b.room, true, valB (l.take 32), valB ((l.drop 33).take 24), b.row, b.last, b.done⟩ 57
def bnext (b : BS) (r : RS) : Res BS := bend ⟨b.room, b.head, b.sum, b.frm, some r.next, b.last ++ [r.byte], b.done⟩ 0
def bstep (b : BS) (l : List Bool) : Res BS :=
 if b.head = false then bhead b l
 else match b.row with
   | none => buse b (uread l)
   | some r => if r.waits = true then bnext b r else bsym b r (cstep r.code l)
structure RS.Ok (r : RS) : Prop where
 code : r.code.Ok
 zeros : r.zeros.Ok
 zd : r.zeros.done = r.code.done
 size : r.code.size = r.zeros.n + 2
 list : r.list.length = r.zeros.n
 place : r.place < r.zeros.n
structure BS.Ok (b : BS) : Prop where
 room : b.room ≤ 900000
 sum : b.sum < 4294967296
 frm : b.frm < 16777216
 none_ : b.row = none → b.last = [] ∧ b.done = false
 some_ : ∀ r, b.row = some r → b.head = true ∧ r.Ok ∧ r.zeros.most = b.room ∧ b.last.length + r.due + (if 0 < r.place then 1 else 0) = r.zeros.told ∧ (b.done = false → r.code.done = true → r.waits = true)
theorem b0_ok {n : Nat} (h : n ≤ 900000) : (b0 n).Ok := ⟨h, by simp [b0], by simp [b0], fun _ => ⟨rfl, rfl⟩, fun r h => by simp [b0] at h⟩
theorem rowOf_ok {T : Nat → Bool} {room : Nat} (hT : listed T ≠ []) (hr : room ≤ 900000) : (rowOf T room).Ok := by
 have h1 := listed_len T; have h2 : 0 < (listed T).length := List.length_pos_iff.2 hT; exact ⟨c0_ok (by omega) (by omega), z0_ok (by omega) h1 hr, rfl, rfl, rfl, h2⟩
structure Pre (b : BS) : Prop where
 room : b.room ≤ 900000
 sum : b.sum < 4294967296
 frm : b.frm < 16777216
 none_ : b.row = none → b.last = []
 some_ : ∀ r, b.row = some r → b.head = true ∧ r.Ok ∧ r.zeros.most = b.room ∧ b.last.length + r.due + (if 0 < r.place then 1 else 0) = r.zeros.told
 done : b.done = false
theorem bend_ok {b b' : BS} {k k' : Nat} (hp : Pre b) (h : bend b k = .ok b' k') : b'.Ok ∧ k' = k := by
 unfold bend at h; split at h
 · rename_i hr; cases h; exact ⟨⟨hp.room, hp.sum, hp.frm, fun h => ⟨hp.none_ h, hp.done⟩, fun r h => (by rw [hr] at h; cases h)⟩, rfl⟩
 · rename_i r hr; have hs := hp.some_ r hr; split at h
   · rename_i hc; cases h; refine ⟨⟨hp.room, hp.sum, hp.frm, fun h => (by rw [hr] at h; cases h), fun r' h => ?_⟩, rfl⟩; rw [hr] at h; cases h; refine ⟨hs.1, hs.2.1, hs.2.2.1, hs.2.2.2, fun _ h2 => ?_⟩; rcases hc with h3 | h3
     · rw [h2] at h3; cases h3
     · exact h3
   · split at h
     · cases h
     · cases h; refine ⟨⟨hp.room, hp.sum, hp.frm, fun h => (by simp only [hr] at h; cases h), fun r' h => ?_⟩, rfl⟩; simp only [hr] at h; cases h; exact ⟨hs.1, hs.2.1, hs.2.2.1, hs.2.2.2, fun h => by cases h⟩
theorem next_pre {b : BS} {r : RS} (hb : b.Ok) (hd : b.done = false) (hr : b.row = some r) (hw : r.waits = true) : Pre ⟨b.room, b.head, b.sum, b.frm, some r.next, b.last ++ [r.byte], b.done⟩ := by
 obtain ⟨h1, h2, h3, h4, h5⟩ := hb.some_ r hr; refine ⟨hb.room, hb.sum, hb.frm, fun h => (by cases h), fun r' h => ?_, hd⟩; cases h; have hp := h2.place
 have hat : r.at_ < r.list.length := by
   have := h2.list; unfold RS.at_
   split <;> omega
 refine ⟨h1, ⟨h2.code, h2.zeros, h2.zd, h2.size, by rw [RS.next, frontB_len hat]; exact h2.list, ?_⟩, h3, ?_⟩
 · simp only [RS.next]; split <;> omega
 · unfold RS.waits at hw; simp only [Bool.or_eq_true, decide_eq_true_iff] at hw; show (b.last ++ [r.byte]).length + (r.due - 1) + (if 0 < r.next.place then 1 else 0) = r.zeros.told; rw [List.length_append, List.length_singleton]
   by_cases h0 : 0 < r.due
   · have e : r.next.place = r.place := by simp [RS.next, h0]
     simp only [e]; omega
   · have hpl : 0 < r.place := by omega
     have e : r.next.place = 0 := by simp [RS.next, h0]
     rw [if_pos hpl] at h4; simp only [e, Nat.lt_irrefl, if_false]; omega
theorem told_pre {b : BS} {r : RS} {c : CS} {z : ZS} {s d k : Nat} {p : Int} {l : List Bool} (hb : b.Ok) (hd : b.done = false) (hr : b.row = some r) (hw : r.waits = false)
   (hc : cstep r.code l = .ok (c, some s) k) (hz : zput r.zeros s = some (z, d, p)) : Pre ⟨b.room, b.head, b.sum, b.frm, some ⟨c, z, r.list, d, p.toNat⟩, b.last, b.done⟩ := by
 obtain ⟨h1, h2, h3, h4, h5⟩ := hb.some_ r hr; have hco := cstep_ok hc h2.code; have hzo := zput_ok h2.zeros hz; have hsz := h2.size; have hs := hco.2.2 s rfl
 have hcd : c.done = decide (s = r.code.size - 1) := by
   unfold cstep at hc; split at hc
   · unfold withPicks at hc
     split at hc <;> cases hc
   · split at hc
     · unfold withLens at hc
       repeat' split at hc
       all_goals cases hc
     · split at hc
       · cases hc
       · unfold withSymbol at hc; split at hc
         · cases hc
         · cases hc; rfl
 unfold RS.waits at hw; simp only [Bool.or_eq_false_iff, decide_eq_false_iff_not] at hw; rw [if_neg hw.2] at h4; refine ⟨hb.room, hb.sum, hb.frm, fun h => (by cases h), fun r' h => ?_, hd⟩; cases h; unfold zput at hz; have hn1 := h2.zeros.n1; split at hz
 · rename_i hc1; split at hz
   · cases hz
   · cases hz; refine ⟨h1, ⟨hco.1, hzo, ?_, by rw [hco.2.1]; exact hsz, h2.list, by simp only; omega⟩, h3, ?_⟩
     · rw [hcd]; simp only; exact (decide_eq_false (by omega)).symm
     · simp only [show ((-1 : Int)).toNat = 0 from rfl, Nat.lt_irrefl, if_false]; omega
 · rename_i hc1; split at hz
   · rename_i hc2; cases hz; refine ⟨h1, ⟨hco.1, hzo, ?_, by rw [hco.2.1]; exact hsz, h2.list, by simp only; omega⟩, h3, ?_⟩
     · rw [hcd]; simp only; exact (decide_eq_true (by omega)).symm
     · simp only [show ((-1 : Int)).toNat = 0 from rfl, Nat.lt_irrefl, if_false]; omega
   · rename_i hc2; split at hz
     · cases hz
     · cases hz; refine ⟨h1, ⟨hco.1, hzo, ?_, by rw [hco.2.1]; exact hsz, h2.list, by simp only; omega⟩, h3, ?_⟩
       · rw [hcd]; simp only; exact (decide_eq_false (by omega)).symm
       · simp only; rw [if_pos (by omega)]; omega
theorem code_none {c c' : CS} {l : List Bool} {k : Nat} (h : cstep c l = .ok (c', none) k) : c'.done = c.done := by
 unfold cstep at h; split at h
 · unfold withPicks at h
   split at h <;> cases h
   rfl
 · split at h
   · unfold withLens at h
     repeat' split at h
     all_goals cases h
     all_goals rfl
   · split at h
     · cases h
     · unfold withSymbol at h
       split at h <;> cases h
theorem sym_pre {b : BS} {r : RS} {c : CS} {k : Nat} {l : List Bool} (hb : b.Ok) (hd : b.done = false) (hr : b.row = some r) (hc : cstep r.code l = .ok (c, none) k) :
   Pre ⟨b.room, b.head, b.sum, b.frm, some ⟨c, r.zeros, r.list, r.due, r.place⟩, b.last, b.done⟩ := by
 obtain ⟨h1, h2, h3, h4, h5⟩ := hb.some_ r hr; have hco := cstep_ok hc h2.code; refine ⟨hb.room, hb.sum, hb.frm, fun h => (by cases h), fun r' h => ?_, hd⟩; cases h; exact ⟨h1, ⟨hco.1, h2.zeros, by rw [code_none hc]; exact h2.zd, by rw [hco.2.1]; exact h2.size, h2.list, h2.place⟩, h3, h4⟩
theorem use_pre {b : BS} {T : Nat → Bool} (hb : b.Ok) (hh : b.head = true) (hr : b.row = none) (hT : listed T ≠ []) : Pre ⟨b.room, b.head, b.sum, b.frm, some (rowOf T b.room), b.last, b.done⟩ := by
 have hn := hb.none_ hr; refine ⟨hb.room, hb.sum, hb.frm, fun h => (by cases h), fun r' h => ?_, hn.2⟩; cases h; exact ⟨hh, rowOf_ok hT hb.room, rfl, by rw [hn.1]; rfl⟩
theorem head_pre {b : BS} {s f : Nat} (hb : b.Ok) (hh : b.head = false) (hs : s < 4294967296) (hf : f < 16777216) : b.row = none ∧ Pre ⟨b.room, true, s, f, b.row, b.last, b.done⟩ := by
 have hr : b.row = none := by
   cases hr : b.row with
   | none => rfl
   | some r => have := (hb.some_ r hr).1; rw [hh] at this; cases this
 have hn := hb.none_ hr; exact ⟨hr, hb.room, hs, hf, fun _ => hn.1, fun r h => (by simp only at h; rw [hr] at h; cases h), hn.2⟩
theorem waits_or {b : BS} {r : RS} (hb : b.Ok) (hd : b.done = false) (hr : b.row = some r) (hw : r.waits = false) : r.code.done = false := by
 cases hc : r.code.done with
 | false => rfl
 | true =>
   have := (hb.some_ r hr).2.2.2.2 hd hc; rw [hw] at this; cases this
theorem bend_bad {b : BS} {k e : Nat} (h : bend b k = .bad e) : e = 23 := by
 unfold bend at h; split at h
 · cases h
 · split at h
   · cases h
   · split at h
     · cases h; rfl
     · cases h
theorem bstep_bad {b : BS} {l : List Bool} {e : Nat} (h : bstep b l = .bad e) : e = 22 ∨ e = 23 ∨ e = 25 := by
 unfold bstep at h; split at h
 · unfold bhead at h; split at h
   · cases h
   · split at h
     · cases h; exact .inr (.inr rfl)
     · exact .inr (.inl (bend_bad h))
 · split at h
   · unfold buse at h; split at h
     · cases h
     · rename_i hu; cases h; exact .inr (.inr (uread_bad hu))
     · exact .inr (.inl (bend_bad h))
   · split at h
     · exact .inr (.inl (bend_bad h))
     · unfold bsym at h; split at h
       · cases h
       · rename_i hu; cases h; rcases cstep_bad hu with h | h
         · exact .inl h
         · exact .inr (.inr h)
       · exact .inr (.inl (bend_bad h))
       · unfold btold at h; split at h
         · cases h; exact .inr (.inr rfl)
         · exact .inr (.inl (bend_bad h))
end Go.Mk
namespace Go.Q23
open Go.M01 Go.Mb Go.Mp Go.M10 Go.Mc Go.Mz Go.Mk
theorem pstep_pos {p p' : PS} {l : List Bool} {n : Nat} (h : pstep p l = .ok p' n) : 1 ≤ n := by
 unfold pstep at h
 repeat' split at h
 all_goals first
   | (cases h; omega)
   | cases h
theorem dstep_pos {p p' : DS} {l : List Bool} {n : Nat} (h : dstep p l = .ok p' n) : 1 ≤ n := by
 unfold dstep turn at h
 repeat' split at h
 all_goals first
   | (cases h; omega)
   | cases h
theorem cstep_pos {c c' : CS} {l : List Bool} {o : Option Nat} {n : Nat} (hc : c.Ok) (h : cstep c l = .ok (c', o) n) : 1 ≤ n := by
 unfold cstep at h; split at h
 · unfold withPicks at h; split at h
   · cases h
   · cases h
   · rename_i p k hp; cases h; exact pstep_pos hp
 · rename_i hd; split at h
   · unfold withLens at h; split at h
     · cases h
     · cases h
     · rename_i d k hdl
       repeat' split at h
       all_goals first
         | (cases h; exact dstep_pos hdl)
         | cases h
   · rename_i hlt; split at h
     · cases h
     · rename_i hg; unfold withSymbol at h; split at h
       · cases h
       · rename_i s k hs; cases h; obtain ⟨x, h1, h2, h3, h4, h5⟩ := pick_lt hc (by simpa using hd) hlt hg; exact (code_get h4 hs).2.2.1
theorem uread_pos {l : List Bool} {T : Nat → Bool} {n : Nat} (h : uread l = .ok T n) : 1 ≤ n ∧ n ≤ l.length ∧ listed T ≠ [] := by
 unfold uread at h; split at h
 · cases h
 · split at h
   · cases h
   · split at h
     · cases h
     · cases h; exact ⟨by omega, by omega, by assumption⟩
theorem bend_last {b b' : BS} {k k' : Nat} (h : bend b k = .ok b' k') : k' = k ∧ b'.last = b.last ∧ b'.room = b.room := by
 unfold bend at h
 repeat' split at h
 all_goals first
   | (cases h; exact ⟨rfl, rfl, rfl⟩)
   | cases h
theorem bstep_prog {b b' : BS} {l : List Bool} {n : Nat} (hb : b.Ok) (h : bstep b l = .ok b' n) : b'.room = b.room ∧ ((1 ≤ n ∧ b'.last = b.last) ∨ (n = 0 ∧ b'.last.length = b.last.length + 1)) := by
 unfold bstep at h; split at h
 · unfold bhead at h; split at h
   · cases h
   · split at h
     · cases h
     · have := bend_last h; exact ⟨this.2.2, .inl ⟨by omega, this.2.1⟩⟩
 · split at h
   · unfold buse at h; split at h
     · cases h
     · cases h
     · rename_i T k hu; have := bend_last h; exact ⟨this.2.2, .inl ⟨by have := uread_pos hu; omega, this.2.1⟩⟩
   · rename_i r hr; split at h
     · unfold bnext at h; have := bend_last h; exact ⟨this.2.2, .inr ⟨this.1, by rw [this.2.1]; simp⟩⟩
     · unfold bsym at h; have hco := (hb.some_ r hr).2.1.code; split at h
       · cases h
       · cases h
       · rename_i c k hc; have := bend_last h; exact ⟨this.2.2, .inl ⟨by have := cstep_pos hco hc; omega, this.2.1⟩⟩
       · rename_i c s k hc; unfold btold at h; split at h
         · cases h
         · have := bend_last h; exact ⟨this.2.2, .inl ⟨by have := cstep_pos hco hc; omega, this.2.1⟩⟩
theorem last_room {b : BS} (hb : b.Ok) : b.last.length ≤ b.room := by
 cases hr : b.row with
 | none => rw [(hb.none_ hr).1]; exact Nat.zero_le _
 | some r =>
   obtain ⟨h1, h2, h3, h4, h5⟩ := hb.some_ r hr; have := h2.zeros.sum; omega
section
variable {room : Nat} {l : List Bool}
end
end Go.Q23
namespace Go.Vc
section
variable {P : Program} {w : World} {L : List HProp}
theorem setL_mid : ∀ (us cs : List Value) (o : Nat), o + us.length ≤ cs.length → setL cs o us = cs.take o ++ us ++ cs.drop (o + us.length)
 | [], cs, o, h => by simp [setL]
 | u :: us, cs, o, h => by
   simp only [List.length_cons] at h; rw [setL, setL_mid us (cs.set o u) (o + 1) (by rw [List.length_set]; omega)]
   have h1 : (cs.set o u).take (o + 1) = cs.take o ++ [u] := by
     rw [List.take_add_one, List.getElem?_set_self (by omega)]; simp only [Option.toList_some]
     congr 1
     exact List.take_set_of_le (Nat.le_refl o)
   have h2 : (cs.set o u).drop (o + 1 + us.length) = cs.drop (o + (us.length + 1)) := by
     rw [show o + 1 + us.length = o + (us.length + 1) by omega]; exact List.drop_set_of_lt (by omega)
   rw [h1, h2]; simp
theorem setCells_eq (b : Nat) : ∀ (vs : List Value) (w : World) (o : Nat), w.setCells b o vs = Vc.setCells w ⟨b, 0, none⟩ vs o
 | [], w, o => rfl
 | v :: r, w, o => by
   rw [World.setCells, Vc.setCells, setCells_eq b r]
   have e1 : (⟨b, 0, none⟩ : Addr).add o = ⟨b, o, none⟩ := by
     unfold Addr.add; split
     · rename_i h; rw [h]
     · simp
   rw [e1]
theorem r_apStr {t e tx : TypeId} {z : Value} [hr : Row P t e z] (hk : P.underlying tx = some .string) (H : Holds w L) (i : Nat) {v : Value} {xs ys : List UInt8} {ty : TypeId} {K : Value → World → Prop}
   (hi : L[i]? = some (SL bv e v xs)) (hn : xs.length + ys.length ≤ 1099511627776)
   (h : ∀ v' w', Same w w' → Holds w' (L.set i (SL bv e v' (xs ++ ys))) → K v' w') : Ap P #[t, tx] ty #[v, .string ⟨ys.toArray⟩] w K := by
 obtain ⟨inf, hinf, hsz, hby, hzz⟩ := hr.inf
 have hb : byteCells ⟨ys.toArray⟩ = ys.map bv := by
   unfold byteCells; simp
 have hsrc : ∀ w, Src P inf.size tx (.string ⟨ys.toArray⟩) ys.length (ys.map bv) w := fun w => by
   have := Src.ofString (P := P) w hk ⟨ys.toArray⟩; rw [hb] at this; rw [hsz]
   have e : (⟨ys.toArray⟩ : ByteArray).size = ys.length := by show ys.toArray.size = _; simp
   rw [e] at this; exact this
 obtain ⟨oa, sp, rfl, H1⟩ := H.open i hi; have hil : i < L.length := (List.getElem?_eq_some_iff.1 hi).1
 by_cases hy : ys = []
 · subst hy; refine ⟨_, _, run_append_nothing w t tx ty e inf hr.und hinf oa xs.length (xs.length + sp.length) (by omega) _ (hsrc w), h _ _ (.refl _) ?_⟩
   rw [List.append_nil, show L.set i (SL bv e (.slice oa xs.length (xs.length + sp.length)) xs) = L from by
     have e1 : L[i] = _ := (List.getElem?_eq_some_iff.1 hi).2
     rw [← e1, List.set_getElem_self]]
   exact H
 have hy0 : 0 < ys.length := List.length_pos_iff.2 hy; have hmul : (xs.length + ys.length) * inf.bytes ≤ 140737488355328 := Nat.le_trans (Nat.mul_le_mul_left _ hby) (by omega)
 have hold : (Builtin.firstCells inf.size xs.length (.slice oa xs.length (xs.length + sp.length))).run P w.drew = .ok (xs.map bv).toArray w.drew := by
   cases oa with
   | none =>
     obtain ⟨g, ⟨h2, h3⟩, _⟩ := H1.front i (set_get hi); subst h2; exact run_firstCells_none w.drew inf.size 0 0 _
   | some a =>
     obtain ⟨g, ⟨h2, h3, _⟩, _⟩ := H1.front i (set_get hi); obtain ⟨b, o, s⟩ := a; simp only at h2 h3; subst h2; subst h3; have Hb := H1.slb i (set_get hi); refine run_firstCells_some w.drew inf.size xs.length ⟨b, 0, none⟩ xs.length _ (xs.map bv) (by simp [hsz]) ?_; intro k u hu
     have e1 : (⟨b, 0, none⟩ : Addr).add k = ⟨b, k, none⟩ := by
       unfold Addr.add; split
       · rename_i h; rw [h]
       · simp
     rw [List.set_set] at Hb; have hc := Hb.cell i (set_get hi) k; rw [List.getElem?_append_left (by simpa using (List.getElem?_eq_some_iff.1 hu).1), hu] at hc; rw [e1]; exact hc
 rcases Nat.lt_or_ge sp.length ys.length with hg | hg
 · have hrun := run_append_grow_src (P := P) w t tx ty e inf z hr.und hinf hzz oa xs.length (xs.length + sp.length) (xs.map bv) hold _ ys.length _ (hsrc w) (by omega) (by omega) (growslice_fits (by omega) hmul); refine ⟨_, _, hrun, ?_⟩; have hcap := grownCap_ge w (xs.length + ys.length) (xs.length + sp.length) e; generalize grownCap w (xs.length + ys.length) (xs.length + sp.length) e = cap at hcap ⊢
   have hz2 : Builtin.zeroCells z.cells (cap - (xs.length + ys.length)) = (List.replicate (cap - (xs.length + ys.length)) z).toArray := by
     rw [hr.one]; apply Array.ext
     · simp [Builtin.zeroCells]
     · intro j h1 h2; simp [Builtin.zeroCells, Nat.mod_one]
   have hcells : ((xs.map bv ++ ys.map bv).toArray ++ Builtin.zeroCells z.cells (cap - (xs.length + ys.length))) = ((xs ++ ys).map bv ++ List.replicate (cap - (xs.length + ys.length)) z).toArray := by
     rw [hz2]; simp
   rw [hcells]; have H2 := (H.same (w' := w.drew) rfl).alloc (.cells ((xs ++ ys).map bv ++ List.replicate (cap - (xs.length + ys.length)) z).toArray e); have H4 := (Holds.imp H2 (Q := slb bv e (some ⟨w.heap.size, 0, none⟩) (xs ++ ys) (List.replicate (cap - (xs.length + ys.length)) z)) fun g hg => ⟨rfl, rfl, hg⟩); have H5 := H4.dropAt (i + 1); rw [List.eraseIdx_cons_succ] at H5; have H6 : Holds _ (L.set i (slb bv e (some ⟨w.heap.size, 0, none⟩) (xs ++ ys) (List.replicate (cap - (xs.length + ys.length)) z))) := Sat.push i hi H5; have H7 := H6.close i (set_get hi); rw [List.set_set] at H7
   have hc2 : (xs ++ ys).length + (List.replicate (cap - (xs.length + ys.length)) z).length = cap := by simp; omega
   have hl2 : (xs ++ ys).length = xs.length + ys.length := List.length_append; rw [hc2, hl2] at H7; exact h _ _ ((Same.drew w).trans (.alloc _ _)) H7
 · cases oa with
   | none =>
     obtain ⟨g, ⟨h2, h3⟩, _⟩ := H1.front i (set_get hi); subst h3; simp at hg; exact absurd hg hy
   | some a =>
     obtain ⟨g, ⟨h2, h3, _⟩, _⟩ := H1.front i (set_get hi); obtain ⟨b, o, s⟩ := a; simp only at h2 h3; subst h2; subst h3; have Hb := H1.slb i (set_get hi); rw [List.set_set] at Hb; have hgi := set_get (Q := blk b e (xs.map bv ++ sp)) hi
     have hrun := run_append_room_src (P := P) w t tx ty e inf hr.und hinf b 0 xs.length (xs.length + sp.length) _ ys.length _ (hsrc w) (by omega)
       (fun j hj => by
         rw [List.length_map] at hj
         rw [Hb.cell i hgi, hsz, Nat.mul_one, Nat.zero_add, List.getElem?_eq_getElem (by rw [List.length_append, List.length_map]; omega)]; rfl)
       (fun j hj => Hb.frozen i hgi _)
     refine ⟨_, _, hrun, ?_⟩; rw [setCells_eq, hsz, Nat.mul_one, Nat.zero_add]; have H3 := Holds.setCells (o := 0) i (ys.map bv) xs.length Hb hgi; rw [List.set_set, setL_mid _ _ _ (by simp; omega)] at H3
     have e2 : (xs.map bv ++ sp).take (0 + xs.length) ++ ys.map bv ++ (xs.map bv ++ sp).drop (0 + xs.length + (ys.map bv).length) = (xs ++ ys).map bv ++ sp.drop ys.length := by
       simp [List.take_append, List.drop_append]
     rw [e2] at H3; have H4 := Holds.slb' (f := bv) (e := e) (b := b) (xs := xs ++ ys) (sp := sp.drop ys.length) H3 i (set_get hi); rw [List.set_set] at H4; have H5 := H4.close i (set_get hi); rw [List.set_set] at H5
     have hl : (xs ++ ys).length + (sp.drop ys.length).length = xs.length + sp.length := by simp; omega
     have hl2 : (xs ++ ys).length = xs.length + ys.length := List.length_append; rw [hl, hl2] at H5; exact h _ _ (Same.setCells _ _ _ _) H5
end
end Go.Vc
/-
 DERIVED: THE SHELF's CONTRACTS AT THIS DUMP, IN PLAIN WORDS (tools/lay-plain.mjs out of 'YtpbbfonfakjecaaGreatShx.lean', which tools/lay-shelf.mjs wrote): THE SAME DECLARATIONS UNDER THE SAME NAMES: 'import', 'namespace', 'open', 'def', 'theorem' AND NOTHING ELSE: no command of the shelf's: FOR A HAND-IN. Each laying: the table of numbers ('.._ren') and one theorem, a field a fact of the dump's own or the kernel's comparison; each contract: ONE APPLICATION.
-/
namespace Go.Proofs
open Go.Shelf
def Tryz.lays105_ren : Go.Shelf.Ren := ⟨fun | 105 => 144 | 212 => 161 | 99 => 162 | 165 => 163 | 166 => 164 | 170 => 165 | 169 => 166 | 263 => 185 | 264 => 186 | 206 => 187 | 240 => 188 | 241 => 189 | 276 => 199 | 277 => 200 | n => n, fun | 9 => 9 | 3 => 3 | 4 => 4 | 20 => 20 | 0 => 0 | 46 => 131 | 109 => 236 | 5 => 5 | 72 => 241 | 76 => 245 | 51 => 107 | 146 => 257 | 53 => 132 | 148 => 259 | 70 => 239 | 37 => 44 | 75 => 244 | 127 => 141 | 164 => 267 | 80 => 76 | n => n, fun | n => n⟩
theorem Tryz.lays105 : Go.Proofs.Lays.n105 Tryz.prog Tryz.lays105_ren := {
 mixed := by kernel_rfl
 f99 := Tryz.func162.trans (congrArg some (by kernel_rfl))
 f105 := Tryz.func144.trans (congrArg some (by kernel_rfl))
 f165 := Tryz.func163.trans (congrArg some (by kernel_rfl))
 f166 := Tryz.func164.trans (congrArg some (by kernel_rfl))
 f169 := Tryz.func166.trans (congrArg some (by kernel_rfl))
 f170 := Tryz.func165.trans (congrArg some (by kernel_rfl))
 f206 := Tryz.func187.trans (congrArg some (by kernel_rfl))
 f212 := Tryz.func161.trans (congrArg some (by kernel_rfl))
 f240 := Tryz.func188.trans (congrArg some (by kernel_rfl))
 f241 := Tryz.func189.trans (congrArg some (by kernel_rfl))
 f263 := Tryz.func185.trans (congrArg some (by kernel_rfl))
 f264 := Tryz.func186.trans (congrArg some (by kernel_rfl))
 f276 := Tryz.func199.trans (congrArg some (by kernel_rfl))
 f277 := Tryz.func200.trans (congrArg some (by kernel_rfl))
 t0 := Tryz.underlying0
 a0 := Tryz.isAgg0
 z0 := Tryz.sizeOf0
 v0 := Tryz.zeroValue0
 t3 := Tryz.underlying3
 a3 := Tryz.isAgg3
 z3 := Tryz.sizeOf3
 v3 := Tryz.zeroValue3
 t4 := Tryz.underlying4
 a4 := Tryz.isAgg4
 z4 := Tryz.sizeOf4
 v4 := Tryz.zeroValue4
 t5 := Tryz.underlying5
 a5 := Tryz.isAgg5
 z5 := Tryz.sizeOf5
 v5 := Tryz.zeroValue5
 t9 := Tryz.underlying9
 a9 := Tryz.isAgg9
 z9 := Tryz.sizeOf9
 v9 := Tryz.zeroValue9
 t20 := Tryz.underlying20
 a20 := Tryz.isAgg20
 z20 := Tryz.sizeOf20
 v20 := Tryz.zeroValue20
 t37 := Tryz.underlying44
 a37 := Tryz.isAgg44
 z37 := Tryz.sizeOf44
 v37 := Tryz.zeroValue44
 t46 := Tryz.underlying131
 a46 := Tryz.isAgg131
 z46 := Tryz.sizeOf131
 v46 := Tryz.zeroValue131
 t51 := Tryz.underlying107
 a51 := Tryz.isAgg107
 z51 := Tryz.sizeOf107
 v51 := Tryz.zeroValue107
 t53 := Tryz.underlying132
 a53 := Tryz.isAgg132
 z53 := Tryz.sizeOf132
 v53 := Tryz.zeroValue132
 t70 := Tryz.underlying239
 a70 := Tryz.isAgg239
 z70 := Tryz.sizeOf239
 v70 := Tryz.zeroValue239
 t72 := Tryz.underlying241
 a72 := Tryz.isAgg241
 z72 := Tryz.sizeOf241
 v72 := Tryz.zeroValue241
 t75 := Tryz.underlying244
 a75 := Tryz.isAgg244
 z75 := Tryz.sizeOf244
 v75 := Tryz.zeroValue244
 t76 := Tryz.underlying245
 a76 := Tryz.isAgg245
 z76 := Tryz.sizeOf245
 v76 := Tryz.zeroValue245
 t109 := Tryz.underlying236
 a109 := Tryz.isAgg236
 z109 := Tryz.sizeOf236
 v109 := Tryz.zeroValue236
 t127 := Tryz.underlying141
 a127 := Tryz.isAgg141
 z127 := Tryz.sizeOf141
 v127 := Tryz.zeroValue141
 t146 := Tryz.underlying257
 a146 := Tryz.isAgg257
 z146 := Tryz.sizeOf257
 v146 := Tryz.zeroValue257
 t148 := Tryz.underlying259
 a148 := Tryz.isAgg259
 z148 := Tryz.sizeOf259
 v148 := Tryz.zeroValue259
 t164 := Tryz.underlying267
 a164 := Tryz.isAgg267
 z164 := Tryz.sizeOf267
 v164 := Tryz.zeroValue267 }
end Go.Proofs
namespace Go.Proofs.YtpbbfonfakjecaaGreat
open Go Go.Vc
namespace S4r
section
variable {α : Type} {P : Program} {w : World} {L : List HProp}
def InG (F : α → List Value) (k : Nat) (L : List HProp) (a : Option Addr) (xs : List α) : Prop :=
 ∀ w', Holds w' L → ∀ i x, xs[i]? = some x → ∃ p : Addr, a = some p ∧ ∀ j v, (F x)[j]? = some v → w'.cell? ((p.add (i * k)).add j) = some v
theorem InG.up {F : α → List Value} {k : Nat} {a : Option Addr} {xs : List α} {Q : HProp} (h : InG F k L a xs) : InG F k (Q :: L) a xs := fun w' H => h w' H.drop
theorem r_ldG {F : α → List Value} {k : Nat} {a : Option Addr} {xs : List α} {x : α} {i l c : Nat} {q : IntKind} {K : Value → Prop} (hT : InG F k L a xs) (H : Holds w L) (hx : xs[i]? = some x) (hk : (F x).length = k) (hi : i < l) (h : K (.agg (F x).toArray)) :
   Ias k (.slice a l c) (.int q (i : Int)) fun y => LdA k y w K := by
 obtain ⟨p, rfl, hc⟩ := hT w H i x hx; refine r_iasP hi ?_; refine r_ldAP (cs := (F x).toArray) (by simpa using hk) (fun j v hv => hc j v (by simpa using hv)) h
theorem InG.own {F : α → List Value} {k : Nat} {e : TypeId} {oa : Option Addr} {n c : Nat} {xs : List α} (i : Nat) (hi : L[i]? = some (RW F k e (.slice oa n c) xs)) (hF : ∀ x, (F x).length = k) : InG F k L oa xs := by
 intro w' H' q x hx; obtain ⟨oa', m, sp, hv, H1⟩ := H'.openRW i hi; cases hv; have hlt : q < xs.length := (List.getElem?_eq_some_iff.1 hx).1; obtain ⟨b, rfl, hsp, Hb⟩ := H1.rwb i (set_get hi) (.inl (by omega)); refine ⟨⟨b, 0, none⟩, rfl, fun j v hj => ?_⟩
 have hjk : j < k := by have := (List.getElem?_eq_some_iff.1 hj).1; rw [hF] at this; exact this
 have h1 := flatL_get hF xs q x hx
 have h2 : (flatL F xs)[q * k + j]? = some v := by
   have : ((flatL F xs).drop (q * k)).take k = F x := h1; rw [← this, List.getElem?_take_of_lt hjk, List.getElem?_drop] at hj; exact hj
 rw [Addr.add_add]
 have e1 : (⟨b, 0, none⟩ : Addr).add (q * k + j) = ⟨b, q * k + j, none⟩ := by
   unfold Addr.add; split
   · rename_i h; rw [h]
   · simp
 rw [e1, Hb.cell i (by rw [List.set_set]; exact set_get hi) (q * k + j), List.getElem?_append_left (List.getElem?_eq_some_iff.1 h2).1]; exact h2
end
end S4r
end Go.Proofs.YtpbbfonfakjecaaGreat
namespace Go.Proofs.YtpbbfonfakjecaaGreat
open Go Go.Vc
attribute [local irreducible] Vc.Nc Vc.Ld Vc.LdA Vc.St Vc.StA Vc.Fo Vc.Iaa Vc.Ias Vc.Ixs Vc.Ixa Vc.Fd Vc.FdA Vc.Bp Vc.Bb Vc.Bn Vc.Up Vc.Ci Vc.Lns Vc.Lnl Vc.Ex Vc.Sst Vc.Ssl Vc.New Vc.Vif Vc.VJoin Vc.VLoop Vc.KE Vc.Dr Vc.Rk Vc.Cl Vc.Cx Vc.Inv Vc.Be Vc.Cv Vc.Cw Vc.Mf Vc.Sl Vc.Lk Vc.Bd Vc.Bs Vc.Ms Vc.Mm Vc.Mu Vc.Me Vc.Es Vc.Rg Vc.Nx Vc.Ta Vc.Ap Vc.Usd Vc.Ust Vc.Cp Vc.Ln Vc.Bc Vc.Bmin Vc.Bmax Vc.Bdel Vc.Bclr Vc.Pk
instance rowU : Row Tryz.prog 229 107 (.int .u32 0) := ⟨by kernel_rfl, ⟨Tryz.t107, by kernel_rfl, by kernel_rfl, by decide, by kernel_rfl⟩, rfl⟩
abbrev tU : Nat := 107
namespace C10
open Go.M01 Go.Mb Go.Mp Go.M10 Rb
variable {w : World} {L : List HProp} {K : Value → World → Prop} {b r : Nat} {B : List UInt8} {d at_ n : Nat} {lens : List Nat}
abbrev tC : Nat := 233
theorem getD_some {l : List Nat} {i : Nat} (h : i < l.length) : l[i]? = some (l.getD i 0) := by
 rw [List.getD_eq_getElem?_getD, List.getElem?_eq_getElem h]; rfl
theorem sized_at (hs : Sized lens) {i : Nat} (h : i < lens.length) : 1 ≤ lens.getD i 0 ∧ lens.getD i 0 ≤ 20 := hs _ (List.mem_of_getElem? (getD_some h))
theorem Index_spec {x : Nat} (j : Nat) {v : Value} (H : Holds w L) (hj : L[j]? = some (SL nv tI v lens)) (hn : lens.length ≤ 1000000000) (hx : ∀ y ∈ lens, y ≠ x) (k : K (iv (-1)) w) :
   Cl Tryz.prog F.slices_Index_int_int #[v, nv x] w K := by
 refine Tie.slices_Index_int_int ?_; unfold Vcf.slices_Index_int_int; refine r_lnS j H hj ?_; refine r_loop1 (fun y w' => ∃ i : Nat, i ≤ lens.length ∧ y = nv i ∧ w = w') (fun y _ => lens.length - (RowKit.intOf y).toNat) ⟨0, by omega, rfl, rfl⟩ ?_; rintro _ _ _ ⟨i, hi, rfl, rfl⟩
 repeat (refine r_lss ?_)
 refine r_ifD (fun h => ?_) fun h => ?_
 · have hlt : i < lens.length := by omega
   refine r_getS j H hj (getD_some hlt) ?_; have := hx _ (List.mem_of_getElem? (getD_some hlt))
   repeat (first | refine r_ke ?_ | refine r_eql ?_ | (refine r_add1N (by omega) ?_) | ((with_reducible refine r_vfE ?h ?_); (case h => omega)))
   refine ⟨⟨i + 1, by omega, rfl, rfl⟩, ?_⟩; simp [nv, RowKit.intOf]; omega
 · exact k
theorem between_spec (j : Nat) {v : Value} (H : Holds w L) (hj : L[j]? = some (SL nv tI v lens)) (hn : lens.length ≤ 1000000000) (hs : Sized lens) (k : ∀ w', Same w w' → Holds w' L → K (.bool true) w') :
   Cl Tryz.prog F.lens_between #[v, iv 0, iv 20] w K := by
 refine Tie.lens_between ?_; unfold Vcf.lens_between; refine r_new H fun b1 w1 S1 H1 => ?_; refine r_new H1 fun b2 w2 S2 H2 => ?_; replace H2 : Holds w2 (blk b2 3 [iv 20] :: blk b1 3 [iv 0] :: L) := H2; refine r_mf (.func (.func F.lens_between_1) #[] #[pt b1, pt b2]) (by kernel_rfl) ?_; refine r_cl (K := fun x w' => w2 = w' ∧ x = .bool false) ?_ ?_
 · refine Tie.slices_ContainsFunc_int_int ?_; unfold Vcf.slices_ContainsFunc_int_int; refine Tie.slices_IndexFunc_int_int ?_; unfold Vcf.slices_IndexFunc_int_int; have hj2 : (blk b2 3 [iv 20] :: blk b1 3 [iv 0] :: L)[j + 2]? = some (SL nv tI v lens) := hj; refine r_lnS (j + 2) H2 hj2 ?_; refine r_loop1 (fun y w' => ∃ i : Nat, i ≤ lens.length ∧ y = nv i ∧ w2 = w') (fun y _ => lens.length - (RowKit.intOf y).toNat) ⟨0, by omega, rfl, rfl⟩ ?_; rintro _ _ _ ⟨i, hi, rfl, rfl⟩
   repeat (refine r_lss ?_)
   refine r_ifD (fun h => ?_) fun h => ?_
   · have hlt : i < lens.length := by omega
     refine r_getS (j + 2) H2 hj2 (getD_some hlt) ?_; have hb := sized_at hs hlt; refine r_inv (f := F.lens_between_1) (args := #[nv (lens.getD i 0), pt b1, pt b2]) (by kernel_rfl) ?_; refine Tie.lens_between_1 ?_; unfold Vcf.lens_between_1
     repeat (first | refine r_ld 0 H2 rfl rfl ?_ | refine r_ld 1 H2 rfl rfl ?_ | refine r_ke ?_ | refine r_lss ?_ | refine r_gtr ?_ | (refine r_add1N (by omega) ?_) | ((with_reducible refine r_vfD ?h ?_); (case h => omega)))
     refine ⟨⟨i + 1, by omega, rfl, rfl⟩, ?_⟩; simp [nv, RowKit.intOf]; omega
   · repeat (refine r_geq ?_)
     exact ⟨rfl, by rw [decide_eq_false (by omega)]⟩
 rintro _ _ ⟨rfl, rfl⟩
 repeat (with_reducible refine r_notF ?_)
 exact k _ (S1.trans S2) H2.drop.drop
theorem share_take (lens : List Nat) (i : Nat) (h : i < lens.length) : share (lens.take (i + 1)) = share (lens.take i) + 2 ^ (20 - lens.getD i 0) := by
 rw [take_snoc (getD_some h)]; simp [share]
theorem share_le (hs : Sized lens) : ∀ i, i ≤ lens.length → share (lens.take i) ≤ i * 524288 := by
 intro i
 induction i with
 | zero => intro _; simp [share]
 | succ i ih =>
   intro hi; rw [share_take _ _ (by omega)]; have h1 := ih (by omega); have h2 : 2 ^ (20 - lens.getD i 0) ≤ 2 ^ 19 := Nat.pow_le_pow_right (by decide) (by have := sized_at hs (show i < lens.length by omega); omega); omega
theorem Share_spec (j : Nat) {v : Value} (H : Holds w L) (hj : L[j]? = some (SL nv tI v lens)) (hn : lens.length ≤ 258) (hs : Sized lens) (k : ∀ w', Same w w' → Holds w' L → K (.tuple #[nv (share lens), iv 0]) w') :
   Cl Tryz.prog F.lens_Share #[v] w K := by
 refine Tie.lens_Share ?_; unfold Vcf.lens_Share; refine r_join1 (fun x w' => x = .bool false ∧ Same w w' ∧ Holds w' L) ?_ ?_
 · clear H; rintro _ _ w1 ⟨rfl, S, H⟩
   repeat (with_reducible refine r_vf ?_)
   refine r_lnS j H hj ?_; refine r_loop2 (fun n y w' => ∃ i : Nat, i ≤ lens.length ∧ y = nv i ∧ n = nv (share (lens.take i)) ∧ w1 = w') (fun _ y _ => lens.length - (RowKit.intOf y).toNat) ⟨0, by omega, rfl, rfl, rfl⟩ ?_; rintro _ _ _ _ ⟨i, hi, rfl, rfl, rfl⟩
   repeat (refine r_lss ?_)
   refine r_ifD (fun h => ?_) fun h => ?_
   · have hlt : i < lens.length := by omega
     refine r_getS j H hj (getD_some hlt) ?_; have hb := sized_at hs hlt; have hsl := share_le hs i hi; have e := share_take lens i hlt; have h2 : 2 ^ (20 - lens.getD i 0) ≤ 2 ^ 19 := Nat.pow_le_pow_right (by decide) (by omega)
     repeat (refine r_sub (by omega) (by omega) ?_)
     rw [show (20 : Int) - (lens.getD i 0 : Nat) = ((20 - lens.getD i 0 : Nat) : Int) by omega]; refine r_shl1 (by omega) ?_; generalize 2 ^ (20 - lens.getD i 0) = q at *
     repeat (first | refine r_ke ?_ | (refine r_add1N (by omega) ?_) | (refine r_addN (by omega) ?_))
     refine ⟨⟨i + 1, by omega, rfl, by rw [e], rfl⟩, ?_⟩; simp [nv, RowKit.intOf]; omega
   · obtain rfl : i = lens.length := by omega
     rw [List.take_length]; exact k _ S H
 · refine r_lnS j H hj ?_
   repeat (first | refine r_gtr ?_ | ((with_reducible refine r_vfD ?h ?_); (case h => omega)))
   refine between_spec j H hj (by omega) hs fun w2 S2 H2 => ?_
   repeat (first | refine r_ke ?_ | (with_reducible refine r_notT ?_))
   exact ⟨rfl, S2, H2⟩
theorem whole_spec (j : Nat) {v : Value} (H : Holds w L) (hj : L[j]? = some (SL nv tI v lens)) (hn : lens.length ≤ 258) (hs : Sized lens) (k : ∀ w', Same w w' → Holds w' L → K (.bool (decide (share lens = 1048576))) w') :
   Cl Tryz.prog F.canon_whole #[v] w K := by
 refine Tie.canon_whole ?_; unfold Vcf.canon_whole; refine Share_spec j H hj hn hs fun w2 S2 H2 => ?_
 repeat (first | refine r_eql ?_ | (with_reducible refine r_ex20 ?_) | (with_reducible refine r_ex21 ?_) | ((with_reducible refine r_vtE ?h ?_); (case h => omega)))
 refine r_ifE (fun h => ?_) fun h => ?_
 · refine Tie.slices_Contains_int_int ?_; unfold Vcf.slices_Contains_int_int; refine Index_spec (x := 0) j H2 hj (by omega) (fun y hy => by have := hs y hy; omega) ?_
   repeat (first | refine r_geq ?_ | refine r_not ?_)
   have := k _ S2 H2; rw [decide_eq_true (by omega)] at this; exact this
 · have := k _ S2 H2; rw [decide_eq_false (by omega)] at this; exact this
def cdC (lv cv ov : Value) (F G : List Nat) : List Value := [lv, cv, ov] ++ (F.map nv ++ (G.map nv ++ []))
section
variable {lv cv ov : Value} {F G : List Nat}
theorem cF {n x : Nat} (h : F[n]? = some x) : (cdC lv cv ov F G)[3 + n]? = some (nv x) := mid_get [lv, cv, ov] h
theorem cdC_eq : cdC lv cv ov F G = ([lv, cv, ov] ++ F.map nv) ++ (G.map nv ++ []) := by rw [cdC, List.append_assoc]
theorem cG {n x : Nat} (hF : F.length = 21) (h : G[n]? = some x) : (cdC lv cv ov F G)[24 + n]? = some (nv x) := by
 have := mid_get (f := nv) (post := []) ([lv, cv, ov] ++ F.map nv) h; rw [show ([lv, cv, ov] ++ F.map nv).length = 24 by simp [hF]] at this; rw [cdC_eq]; exact this
theorem sF {n : Nat} (x : Nat) (h : n < F.length) : (cdC lv cv ov F G).set (3 + n) (nv x) = cdC lv cv ov (F.set n x) G := mid_set [lv, cv, ov] x h
theorem sG {n : Nat} (x : Nat) (hF : F.length = 21) (h : n < G.length) : (cdC lv cv ov F G).set (24 + n) (nv x) = cdC lv cv ov F (G.set n x) := by
 have := mid_set (f := nv) (post := []) ([lv, cv, ov] ++ F.map nv) x h; rw [show ([lv, cv, ov] ++ F.map nv).length = 24 by simp [hF]] at this; rw [cdC_eq, cdC_eq]; exact this
theorem cd1 : (cdC lv cv ov F G)[1]? = some cv := rfl
theorem cd2 : (cdC lv cv ov F G)[2]? = some ov := rfl
theorem sd2 (v : Value) : (cdC lv cv ov F G).set 2 v = cdC lv cv v F G := rfl
theorem cdlen (hF : F.length = 21) (hG : G.length = 22) : (cdC lv cv ov F G).length = 46 := by simp [cdC, hF, hG]
end
def fL (lens : List Nat) : List Nat := (List.range 21).map (fst_ lens)
def gL (lens : List Nat) : List Nat := (List.range 22).map (frm lens)
def codesAt (lens : List Nat) (n j : Nat) : List Nat := (List.range lens.length).map fun i => if lens.getD i 0 < n ∨ (lens.getD i 0 = n ∧ i < j) then codeN lens i else 0
theorem codesAt_len (lens : List Nat) (n j : Nat) : (codesAt lens n j).length = lens.length := by simp [codesAt]
theorem codesAt_set {n j : Nat} (hj : j < lens.length) (hn : lens.getD j 0 = n) : (codesAt lens n j).set j (fst_ lens n + (lens.take j).count n) = codesAt lens n (j + 1) := by
 apply List.ext_getElem
 · simp [codesAt]
 intro i h1 h2
 have hi : i < lens.length := by simpa [codesAt] using h2
 rw [List.getElem_set]; simp only [codesAt, List.getElem_map, List.getElem_range]
 by_cases h : j = i
 · subst h; rw [if_pos rfl, if_pos (.inr ⟨hn, by omega⟩), codeN, hn]
 · rw [if_neg h]
   by_cases h3 : lens.getD i 0 < n ∨ (lens.getD i 0 = n ∧ i < j)
   · rw [if_pos h3, if_pos (by omega)]
   · rw [if_neg h3, if_neg (by omega)]
theorem codesAt_skip {n j : Nat} (hn : lens.getD j 0 ≠ n) : codesAt lens n (j + 1) = codesAt lens n j := by
 apply List.map_congr_left; intro i hi
 by_cases h : j = i
 · subst h
   by_cases h3 : lens.getD j 0 < n
   · rw [if_pos (.inl h3), if_pos (.inl h3)]
   · rw [if_neg (by omega), if_neg (by omega)]
 · by_cases h3 : lens.getD i 0 < n ∨ (lens.getD i 0 = n ∧ i < j)
   · rw [if_pos h3, if_pos (by omega)]
   · rw [if_neg h3, if_neg (by omega)]
theorem codesAt_next (n : Nat) : codesAt lens n lens.length = codesAt lens (n + 1) 0 := by
 apply List.map_congr_left; intro i hi; rw [List.mem_range] at hi
 by_cases h3 : lens.getD i 0 < n + 1
 · rw [if_pos (by omega), if_pos (.inl h3)]
 · rw [if_neg (by omega), if_neg (by omega)]
theorem codesAt_0 (hs : Sized lens) : codesAt lens 1 0 = List.replicate lens.length 0 := by
 rw [codesAt, show (List.replicate lens.length 0 : List Nat) = (List.range lens.length).map fun _ => 0 by rw [List.map_const', List.length_range]]; apply List.map_congr_left; intro i hi; rw [List.mem_range] at hi; have := sized_at hs hi; rw [if_neg (by omega)]
theorem grp_succ {n j : Nat} : grp lens (j + 1) n = grp lens j n ++ if lens.getD j 0 = n then [j] else [] := by
 unfold grp; rw [List.range_succ, List.filter_append]
 congr 1
 rw [List.filter_cons, List.filter_nil]
 by_cases h : lens.getD j 0 = n
 · rw [if_pos (by simpa using h), if_pos h]
 · rw [if_neg (by simpa using h), if_neg h]
def CodeR (b : Nat) (lens : List Nat) : HProp := fun h => (Whole lens ∧ lens.length ≤ 258) ∧ ∃ lv cv ov, Sat [blk b tC (cdC lv cv ov (fL lens) (gL lens)), SL nv tI ov (upto lens 20), SL uv tU cv (codesAt lens 21 0), SL nv tI lv lens] h
theorem CodeR_open (H : Holds w (CodeR b lens :: L)) : (Whole lens ∧ lens.length ≤ 258) ∧ ∃ lv cv ov, Holds w (blk b tC (cdC lv cv ov (fL lens) (gL lens)) :: SL nv tI ov (upto lens 20) :: SL uv tU cv (codesAt lens 21 0) :: SL nv tI lv lens :: L) := by
 obtain ⟨h, H⟩ := Holds.pure H; obtain ⟨lv, H⟩ := Holds.ex H; obtain ⟨cv, H⟩ := Holds.ex H; obtain ⟨ov, H⟩ := Holds.ex H; exact ⟨h, lv, cv, ov, Holds.unpack H⟩
theorem CodeR_close {lv cv ov : Value} (h : Whole lens ∧ lens.length ≤ 258) (H : Holds w (blk b tC (cdC lv cv ov (fL lens) (gL lens)) :: SL nv tI ov (upto lens 20) :: SL uv tU cv (codesAt lens 21 0) :: SL nv tI lv lens :: L)) : Holds w (CodeR b lens :: L) :=
 Holds.imp (Holds.pack (A := [_, _, _, _]) H) fun _ hh => ⟨h, lv, cv, ov, hh⟩
theorem fL_get {n : Nat} (h : n < 21) : (fL lens)[n]? = some (fst_ lens n) := by rw [fL, List.getElem?_map, List.getElem?_range h]; rfl
theorem gL_get {n : Nat} (h : n < 22) : (gL lens)[n]? = some (frm lens n) := by rw [gL, List.getElem?_map, List.getElem?_range h]; rfl
theorem fL_len : (fL lens).length = 21 := by simp [fL]
theorem gL_len : (gL lens).length = 22 := by simp [gL]
theorem New_spec {j : Nat} {v : Value} (H : Holds w L) (hj : L[j]? = some (SL nv tI v lens)) (h3 : 3 ≤ lens.length) (hn : lens.length ≤ 258) (hs : Sized lens)
   (kb : share lens ≠ 1048576 → ∀ w', Same w w' → Holds w' L → K (.tuple #[.pointer none, iv 22]) w')
   (k : Whole lens → ∀ b w', Same w w' → Holds w' (CodeR b lens :: L) → K (.tuple #[pt b, iv 0]) w') : Cl Tryz.prog F.canon_New #[v] w K := by
 refine Tie.canon_New ?_; unfold Vcf.canon_New; refine r_join1 (fun x w' => w = w' ∧ x = .bool false) ?_ ?_
 rotate_left
 · refine r_lnS j H hj ?_
   repeat (first | refine r_lss ?_ | ((with_reducible refine r_vfD ?h ?_); (case h => omega)))
   refine r_lnS j H hj ?_
   repeat (first | refine r_ke ?_ | refine r_gtr ?_)
   exact ⟨rfl, by rw [decide_eq_false (by omega)]⟩
 rintro _ _ _ ⟨rfl, rfl⟩
 repeat (with_reducible refine r_vf ?_)
 refine whole_spec j H hj hn hs fun w1 S1 H1 => ?_; clear H; have S := S1; have H := H1; clear S1 H1
 repeat (refine r_not ?_)
 by_cases hwh : share lens = 1048576
 rotate_left
 · rw [decide_eq_false hwh]; exact r_vt (kb hwh _ S H)
 have hW : Whole lens := ⟨hs, hwh⟩; rw [decide_eq_true hwh, Bool.not_true]
 repeat (with_reducible refine r_vf ?_)
 refine r_join1 (fun x w' => ∃ b lv cv, x = pt b ∧ Same w w' ∧ Holds w' (blk b tC (cdC lv cv (.slice none 0 0) (List.replicate 21 0) (List.replicate 22 0)) :: SL uv tU cv (List.replicate lens.length 0) :: SL nv tI lv lens :: L)) ?_ ?_
 rotate_left
 · repeat (refine r_dr H ?_; clear H; intro _ S_ H; replace S := S.trans S_; clear S_)
   rename_i w2; have hto : ((lens.length : Nat) : Int).toNat = lens.length := Int.toNat_natCast _; refine ⟨?_, ?_⟩
   · refine Clone_spec H j hj (by omega) fun v1 w3 S3 H3 => ?_; refine r_lnS (j + 1) H3 (by rw [List.getElem?_cons_succ]; exact hj) ?_; refine r_rk (r_lnS j H hj rfl) ?_; refine r_ms (e := tU) (f := uv) (x := 0) H3 rfl (by omega) (by omega) fun b4 w4 S4 H4 => ?_; rw [hto] at H4 ⊢; have H5 := H4.close 0 rfl; rw [List.set_cons_zero] at H5; obtain ⟨oa, sp, rfl, H6⟩ := H5.open 1 rfl; refine r_bd (v := .agg #[.slice oa lens.length (lens.length + sp.length), .slice (some ⟨b4, 0, none⟩) lens.length lens.length, .slice none 0 0, nv 0, nv 0, nv 0, nv 0, nv 0, nv 0, nv 0, nv 0, nv 0, nv 0, nv 0, nv 0, nv 0, nv 0, nv 0, nv 0, nv 0, nv 0, nv 0, nv 0, nv 0, nv 0, nv 0, nv 0, nv 0, nv 0, nv 0, nv 0, nv 0, nv 0, nv 0, nv 0, nv 0, nv 0, nv 0, nv 0, nv 0, nv 0, nv 0, nv 0, nv 0, nv 0, nv 0]) (by kernel_rfl) ?_; refine r_new H5 fun b w5 S5 H7 => ?_
     repeat (refine r_ke ?_)
     refine ⟨b, .slice oa lens.length (lens.length + sp.length), .slice (some ⟨b4, 0, none⟩) lens.length lens.length, rfl, ((S.trans S3).trans S4).trans S5, ?_⟩; rw [List.length_replicate] at H7; exact H7
   · refine r_lnS j H hj ?_; refine r_ms (e := tU) (f := uv) (x := 0) H rfl (by omega) (by omega) fun b4 w4 S4 H4 => ?_; rw [hto] at H4 ⊢; have H5 := H4.close 0 rfl; rw [List.set_cons_zero] at H5; refine Clone_spec H5 (j + 1) (by rw [List.getElem?_cons_succ]; exact hj) (by omega) fun v1 w3 S3 H3 => ?_; refine r_rk (r_lnS (j + 2) H3 (by rw [List.getElem?_cons_succ, List.getElem?_cons_succ]; exact hj) rfl) ?_; obtain ⟨oa, sp, rfl, H6⟩ := H3.open 0 rfl; refine r_bd (v := .agg #[.slice oa lens.length (lens.length + sp.length), .slice (some ⟨b4, 0, none⟩) lens.length lens.length, .slice none 0 0, nv 0, nv 0, nv 0, nv 0, nv 0, nv 0, nv 0, nv 0, nv 0, nv 0, nv 0, nv 0, nv 0, nv 0, nv 0, nv 0, nv 0, nv 0, nv 0, nv 0, nv 0, nv 0, nv 0, nv 0, nv 0, nv 0, nv 0, nv 0, nv 0, nv 0, nv 0, nv 0, nv 0, nv 0, nv 0, nv 0, nv 0, nv 0, nv 0, nv 0, nv 0, nv 0, nv 0]) (by kernel_rfl) ?_; refine r_new H3 fun b w5 S5 H7 => ?_
     repeat (refine r_ke ?_)
     refine ⟨b, .slice oa lens.length (lens.length + sp.length), .slice (some ⟨b4, 0, none⟩) lens.length lens.length, rfl, ((S.trans S4).trans S3).trans S5, ?_⟩; rw [List.length_replicate] at H7; exact (Holds.front H7 2 rfl).swap
 rintro _ _ w2 ⟨b, lv, cv, rfl, S2, H2⟩; clear S H; have hl20 := fun n (h : n ≤ 20) => frm_le lens hs n h; have hcl := fun n => List.count_le_length (a := n) (l := lens)
 refine r_loop2 (fun x y w' => ∃ n ov, 1 ≤ n ∧ n ≤ 21 ∧ y = nv n ∧ x = nv (nx lens (n - 1)) ∧ Same w w' ∧ Holds w' (blk b tC (cdC lv cv ov (filled (fL lens) 0 21 n) (filled (gL lens) 0 22 n)) :: SL nv tI ov (upto lens (n - 1)) :: SL uv tU cv (codesAt lens n 0) :: SL nv tI lv lens :: L))
   (fun _ y _ => 21 - (RowKit.intOf y).toNat) ⟨1, .slice none 0 0, by omega, by omega, rfl, rfl, S2, ?_⟩ ?_
 · rw [codesAt_0 hs]; have e1 : filled (fL lens) 0 21 1 = List.replicate 21 0 := rfl; have e2 : filled (gL lens) 0 22 1 = List.replicate 22 0 := rfl; rw [e1, e2]; exact (H2.nilSL nv tI).swap
 clear S2 H2; rintro _ _ _ w3 ⟨n, ov, h1, h21, rfl, rfl, S, H⟩; have lF : (filled (fL lens) 0 21 n).length = 21 := filled_len (by omega) fL_len; have lG : (filled (gL lens) 0 22 n).length = 22 := filled_len (by omega) gL_len
 repeat (refine r_leq ?_)
 refine r_ifD (fun h => ?_) fun h => ?_
 · have hn20 : n ≤ 20 := by omega
   have hnl := nx_le hW (n - 1) (by omega); have hp : 2 ^ (n - 1) ≤ 2 ^ 19 := Nat.pow_le_pow_right (by decide) (by omega)
   repeat (first | refine r_mulE ((2 * nx lens (n - 1) : Nat) : Int) (by omega) (by omega) (by omega) ?_ | refine r_nc ?_ | refine r_fo0 ?_ | (refine r_iaaN (by omega) ?_))
   refine r_st 0 H rfl (by rw [cdlen lF lG]; omega) rfl fun w4 S4 H4 => ?_; rw [List.set_cons_zero, sF _ (by omega), filled_set (x := 2 * nx lens (n - 1)) (by omega) fL_len (fL_get (by omega))] at H4; replace S := S.trans S4; clear H; have H := H4; clear H4 S4; have lF1 : (filled (fL lens) 0 21 (n + 1)).length = 21 := filled_len (by omega) fL_len
   repeat (first | ((with_reducible apply r_ld 0 H); (exact rfl); (with_reducible exact (cd2))) | refine r_nc ?_ | refine r_fo0 ?_ | (refine r_dr H ?_; clear H; intro _ S_ H; replace S := S.trans S_; clear S_))
   refine r_lnS 1 H rfl ?_
   repeat (first | refine r_nc ?_ | refine r_fo0 ?_ | (refine r_iaaN (by omega) ?_))
   refine r_st 0 H rfl (by rw [cdlen lF1 lG]; omega) rfl fun w4 S4 H4 => ?_; rw [List.set_cons_zero, sG _ lF1 (by omega), filled_set (x := (upto lens (n - 1)).length) (by omega) gL_len (gL_get (by omega))] at H4; replace S := S.trans S4; clear H; have H := H4; clear H4 S4; refine r_lnS (j + 4) H (by rw [List.getElem?_cons_succ, List.getElem?_cons_succ, List.getElem?_cons_succ, List.getElem?_cons_succ]; exact hj) ?_
   refine r_loop2 (fun x y w' => ∃ i ov, i ≤ lens.length ∧ y = nv i ∧ x = nv (fst_ lens n + (lens.take i).count n) ∧ Same w w' ∧ Holds w' (blk b tC (cdC lv cv ov (filled (fL lens) 0 21 (n + 1)) (filled (gL lens) 0 22 (n + 1))) :: SL nv tI ov (upto lens (n - 1) ++ grp lens i n) :: SL uv tU cv (codesAt lens n i) :: SL nv tI lv lens :: L))
     (fun _ y _ => lens.length - (RowKit.intOf y).toNat) ⟨0, ov, by omega, rfl, rfl, S, ?_⟩ ?_
   · have e1 : grp lens 0 n = [] := rfl; rw [e1, List.append_nil]; exact H
   clear H S; rintro _ _ _ w5 ⟨i, ov, hi, rfl, rfl, S, H⟩; have lG1 : (filled (gL lens) 0 22 (n + 1)).length = 22 := filled_len (by omega) gL_len; have hci : (lens.take i).count n ≤ 258 := Nat.le_trans (List.count_le_length ..) (by rw [List.length_take]; omega)
   have hfs : fst_ lens n ≤ 2 ^ 20 := by rw [fst_]; omega
   repeat (refine r_lss ?_)
   refine r_ifD (fun h => ?_) fun h => ?_
   · have hlt : i < lens.length := by omega
     refine r_getS (j + 4) H (by rw [List.getElem?_cons_succ, List.getElem?_cons_succ, List.getElem?_cons_succ, List.getElem?_cons_succ]; exact hj) (getD_some hlt) ?_; have hb := sized_at hs hlt
     have etk : (lens.take (i + 1)).count n = (lens.take i).count n + if lens.getD i 0 = n then 1 else 0 := by
       rw [take_snoc (getD_some hlt), List.count_append, List.count_cons, List.count_nil]
       by_cases hx : lens.getD i 0 = n
       · rw [if_pos hx, if_pos (by simpa using hx)]
       · rw [if_neg hx, if_neg (by simpa using hx)]
     repeat (refine r_eql ?_)
     refine r_ifE (fun hx => ?_) fun hx => ?_
     · have hx' : lens.getD i 0 = n := by omega
       rw [if_pos hx'] at etk
       repeat (first | ((with_reducible apply r_ld 0 H); (exact rfl); (with_reducible exact (cd1))) | refine r_nc ?_ | refine r_fo0 ?_ | (refine r_ciu32 (by omega) (by omega) ?_))
       refine r_setS 2 H (f := uv) (fst_ lens n + (lens.take i).count n) rfl (by rw [codesAt_len]; exact hlt) rfl fun w6 S6 H6 => ?_; rw [List.set_cons_succ, List.set_cons_succ, List.set_cons_zero, codesAt_set hlt hx'] at H6; replace S := S.trans S6; clear H; have H := H6; clear H6 S6
       repeat (first | ((with_reducible apply r_ld 0 H); (exact rfl); (with_reducible exact (cd2))) | refine r_nc ?_ | refine r_fo0 ?_)
       have hul : (upto lens (n - 1) ++ grp lens i n).length ≤ 600 := by
         rw [List.length_append, grp_len lens n i hi]; have := hl20 (n - 1) (by omega); omega
       refine r_app1 H 1 rfl i sg_nv (by omega) fun v' w6 S6 H6 => ?_; rw [List.set_cons_succ, List.set_cons_zero] at H6; replace S := S.trans S6; clear H; have H := H6; clear H6 S6
       repeat (first | refine r_nc ?_ | refine r_fo0 ?_)
       refine r_st 0 H rfl (by rw [cdlen lF1 lG1]; omega) (SL_sg H 1 rfl) fun w6 S6 H6 => ?_; rw [List.set_cons_zero, sd2] at H6
       repeat (first | refine r_ke ?_ | (refine r_add1N (by omega) ?_))
       refine ⟨⟨i + 1, v', by omega, rfl, by rw [etk]; rfl, S.trans S6, ?_⟩, ?_⟩
       · rw [grp_succ, if_pos hx', ← List.append_assoc]; exact H6
       · simp [nv, RowKit.intOf]; omega
     · have hx' : lens.getD i 0 ≠ n := by omega
       rw [if_neg hx'] at etk
       repeat (first | refine r_ke ?_ | (refine r_add1N (by omega) ?_))
       refine ⟨⟨i + 1, ov, by omega, rfl, by rw [etk]; rfl, S, ?_⟩, ?_⟩
       · rw [grp_succ, if_neg hx', List.append_nil, codesAt_skip hx']; exact H
       · simp [nv, RowKit.intOf]; omega
   · obtain rfl : i = lens.length := by omega
     repeat (first | refine r_ke ?_ | (refine r_add1N (by omega) ?_))
     obtain ⟨m, rfl⟩ : ∃ m, n = m + 1 := ⟨n - 1, by omega⟩; refine ⟨⟨m + 1 + 1, ov, by omega, by omega, rfl, ?_, S, ?_⟩, ?_⟩
     · rw [List.take_length, Nat.add_sub_cancel, nx_eq lens (m + 1) (by omega)]
     · rw [codesAt_next] at H; exact H
     · simp [nv, RowKit.intOf]; omega
 · obtain rfl : n = 21 := by omega
   repeat (first | ((with_reducible apply r_ld 0 H); (exact rfl); (with_reducible exact (cd2))) | refine r_nc ?_ | refine r_fo0 ?_ | (refine r_dr H ?_; clear H; intro _ S_ H; replace S := S.trans S_; clear S_))
   refine r_lnS 1 H rfl ?_; have hr : (blk b tC (cdC lv cv ov (filled (fL lens) 0 21 21) (filled (gL lens) 0 22 21)) :: SL nv tI ov (upto lens (21 - 1)) :: SL uv tU cv (codesAt lens 21 0) :: SL nv tI lv lens :: L).length = L.length + 4 := rfl
   repeat (first | refine r_iaaN (m := 21) (by omega) ?_ | refine r_nc ?_ | refine r_fo0 ?_)
   refine r_st 0 H rfl (by rw [cdlen lF lG]; omega) rfl fun w4 S4 H4 => ?_; rw [List.set_cons_zero, sG (n := 21) _ lF (by omega), filled_set (x := (upto lens (21 - 1)).length) (by omega) gL_len (gL_get (by omega)), filled_all fL_len, filled_all gL_len] at H4; exact k hW b _ (S.trans S4) (CodeR_close ⟨hW, hn⟩ H4)
theorem get_spec (H : Holds w (CodeR b lens :: RdR r B d at_ :: L))
   (ks : getC lens (rest B at_) = none → ∀ q w', Same w w' → Holds w' (CodeR b lens :: RdR r B d q :: L) → K (.tuple #[iv 0, iv 3]) w')
   (k : ∀ s n, getC lens (rest B at_) = some (s, n) → ∀ w', Same w w' → Holds w' (CodeR b lens :: RdR r B d (at_ + n) :: L) → K (.tuple #[nv s, iv 0]) w') : Cl Tryz.prog F.canon_Code_get #[pt b, pt r] w K := by
 refine Tie.canon_Code_get ?_; unfold Vcf.canon_Code_get; obtain ⟨⟨hW, hn⟩, _⟩ := CodeR_open H
 refine r_loop2 (fun x y w' => ∃ n : Nat, n ≤ 20 ∧ n ≤ (rest B at_).length ∧ y = nv (n + 1) ∧ x = nv (valB ((rest B at_).take n)) ∧ (∀ j, j < n → hit lens (rest B at_) j = false) ∧ Same w w' ∧ Holds w' (CodeR b lens :: RdR r B d (at_ + n) :: L))
   (fun _ y _ => 21 - (RowKit.intOf y).toNat) ⟨0, by omega, by omega, rfl, rfl, fun j hj => absurd hj (Nat.not_lt_zero j), .refl w, H⟩ ?_
 clear H; rintro _ _ _ w1 ⟨n, h20, hlen, rfl, rfl, hmiss, S, H⟩
 repeat (refine r_leq ?_)
 refine r_ifD (fun h => ?_) fun h => ?_
 · refine Get1_spec H.swap (fun hs w2 S2 H2 => ?_) fun c hc w2 S2 H2 => ?_
   · rw [rest_idx] at hs
     have hl : (rest B at_).length ≤ n := by simpa using hs
     repeat (first | refine r_neq ?_ | (with_reducible refine r_ex20 ?_) | (with_reducible refine r_ex21 ?_) | ((with_reducible refine r_vtN ?h ?_); (case h => omega)))
     refine ks (getC_none fun j hj => ?_) _ _ (S.trans S2) H2.swap; rcases Nat.lt_or_ge j n with h1 | h1
     · exact hmiss j h1
     · unfold hit; rw [decide_eq_false_iff_not]; rintro ⟨h2, _⟩; omega
   · rw [rest_idx] at hc; have hl : n < (rest B at_).length := (List.getElem?_eq_some_iff.1 hc).1; have hv := valB_take_lt (rest B at_) n; have hp : 2 ^ n ≤ 2 ^ 20 := Nat.pow_le_pow_right (by decide) h20; have hge := miss_ge hmiss hl
     have ev : valB ((rest B at_).take (n + 1)) = 2 * valB ((rest B at_).take n) + c.toNat := by
       rw [take_snoc hc, valB_snoc]
     have hcb := Bool.toNat_le c
     have h19 : n < 20 := by omega
     have hnx := nx_eq lens (n + 1) (by omega); have hfr := frm_succ lens (n + 1) (by omega); have hul := frm_le lens hW.sized (n + 1) (by omega)
     have hfr2 : frm lens (n + 1 + 1) = (upto lens (n + 1)).length := by rw [frm, Nat.add_sub_cancel]
     replace S := S.trans S2; replace H := H2.swap; clear H2 S2; obtain ⟨hWn, lv, cv, ov, H⟩ := CodeR_open H
     repeat (first | refine r_mulE ((2 * valB ((rest B at_).take n) : Nat) : Int) (by omega) (by omega) (by omega) ?_ | refine r_nc ?_ | refine r_fo0 ?_ | refine r_neq ?_ | (with_reducible refine r_ex20 ?_) | (with_reducible refine r_ex21 ?_) | (refine r_ci64 (by omega) (by omega) ?_) | (refine r_addN (by omega) ?_) | (refine r_iaaN (by omega) ?_) | (refine r_dr H ?_; clear H; intro _ S_ H; replace S := S.trans S_; clear S_) | ((with_reducible refine r_vfN ?h ?_); (case h => omega)))
     rw [← ev]
     repeat (first | ((with_reducible apply r_ld 0 H); (exact rfl); (with_reducible exact ((cG fL_len (gL_get (by omega)))))) | ((with_reducible apply r_ld 0 H); (exact rfl); (with_reducible exact ((cF (fL_get (by omega)))))) | refine r_nc ?_ | refine r_fo0 ?_ | refine r_lss ?_ | (refine r_add1N (by omega) ?_) | (refine r_addN (by omega) ?_) | (refine r_iaaN (by omega) ?_) | (refine r_sub (by omega) (by omega) ?_))
     rw [show ((frm lens (n + 1) + valB ((rest B at_).take (n + 1)) : Nat) : Int) - (fst_ lens (n + 1) : Nat) = ((frm lens (n + 1) + (valB ((rest B at_).take (n + 1)) - fst_ lens (n + 1)) : Nat) : Int) by omega]
     repeat (fail)
     refine r_ifD (fun hh => ?_) fun hh => ?_
     · have hhit : hit lens (rest B at_) n = true := by
         unfold hit; rw [decide_eq_true_iff]; omega
       have hC := getC_some h19 hhit hmiss
       have hlt : valB ((rest B at_).take (n + 1)) - fst_ lens (n + 1) < lens.count (n + 1) := by omega
       have hu := upto_get (lens := lens) (n := n + 1) (by omega) (by omega) hlt; obtain ⟨x, hx⟩ : ∃ x, (grp lens lens.length (n + 1))[valB ((rest B at_).take (n + 1)) - fst_ lens (n + 1)]? = some x := ⟨_, List.getElem?_eq_getElem (by rw [grp_len']; exact hlt)⟩; rw [hx] at hu
       repeat (first | ((with_reducible apply r_ld 0 H); (exact rfl); (with_reducible exact (cd2))) | refine r_nc ?_ | refine r_fo0 ?_)
       refine r_getS 1 H rfl hu ?_; rw [List.getD_eq_getElem?_getD, hu] at hC; exact k _ _ hC _ S (by rw [← Nat.add_assoc]; exact CodeR_close hWn H)
     · repeat (first | refine r_ke ?_ | (refine r_add1N (by omega) ?_))
       refine ⟨⟨n + 1, by omega, by omega, rfl, rfl, fun j hj => ?_, S, by rw [← Nat.add_assoc]; exact CodeR_close hWn H⟩, ?_⟩
       · rcases Nat.lt_or_ge j n with h1 | h1
         · exact hmiss j h1
         · obtain rfl : j = n := by omega
           unfold hit; rw [decide_eq_false_iff_not]; rintro ⟨_, h2⟩; omega
       · simp [nv, RowKit.intOf]; omega
 · obtain rfl : n = 20 := by omega
   have := hmiss 19 (by omega); rw [hit_20 hW hlen] at this; cases this
theorem Get_spec (H : Holds w (CodeR b lens :: RdR r B d at_ :: L))
   (ks : getC lens (rest B at_) = none → ∀ w', Same w w' → Holds w' (CodeR b lens :: RdR r B d at_ :: L) → K (.tuple #[iv 0, iv 3]) w')
   (k : ∀ s n, getC lens (rest B at_) = some (s, n) → ∀ w', Same w w' → Holds w' (CodeR b lens :: RdR r B d (at_ + n) :: L) → K (.tuple #[nv s, iv 0]) w') : Cl Tryz.prog F.canon_Code_Get #[pt b, pt r] w K := by
 refine Tie.canon_Code_Get ?_; unfold Vcf.canon_Code_Get; have hf := (RdR_open H.swap).1; refine r_join1 (fun x w' => w = w' ∧ x = .bool false) ?_ ?_
 · rintro _ _ _ ⟨rfl, rfl⟩
   repeat (with_reducible refine r_vf ?_)
   refine At_spec H.swap ?_; refine get_spec H (fun hs q w2 S2 H2 => ?_) fun s n hg w2 S2 H2 => ?_
   · repeat (first | refine r_neq ?_ | (with_reducible refine r_ex20 ?_) | (with_reducible refine r_ex21 ?_) | ((with_reducible refine r_vtN ?h ?_); (case h => omega)))
     refine P13.seek_back H2 ⟨hf.1, hf.2.1⟩ fun w3 S3 H3 => ?_; exact ks hs _ (S2.trans S3) H3
   · repeat (first | refine r_neq ?_ | (with_reducible refine r_ex20 ?_) | (with_reducible refine r_ex21 ?_) | ((with_reducible refine r_vfN ?h ?_); (case h => omega)))
     exact k s n hg _ S2 H2
 · repeat (first | refine r_ke ?_ | (with_reducible refine r_bnSF ?_) | (with_reducible refine r_vf ?_))
   exact ⟨rfl, rfl⟩
end C10
instance rowC : Row Tryz.prog 210 212 (.pointer none) := ⟨by kernel_rfl, ⟨Tryz.t212, by kernel_rfl, by kernel_rfl, by decide, by kernel_rfl⟩, rfl⟩
namespace C14
open Go.M01 Go.Mb Go.Mp Go.M10 Go.Mc Rb
variable {w : World} {L : List HProp} {K : Value → World → Prop} {b r : Nat} {B : List UInt8} {d at_ n : Nat} {c : CS}
abbrev tCd : Nat := 310
abbrev tCP : Nat := 212
def CodesS (bs : List Nat) (cs : List (List Nat)) : HProp := Sat ((bs.zip cs).map fun x => C10.CodeR x.1 x.2)
theorem codes_get {bs : List Nat} {cs : List (List Nat)} {i : Nat} {l : List Nat} (hb : bs[i]? = some b) (hc : cs[i]? = some l) : ∃ A, (∀ h, Sat (CodesS bs cs :: L) h → Sat (C10.CodeR b l :: A) h) ∧ ∀ h, Sat (C10.CodeR b l :: A) h → Sat (CodesS bs cs :: L) h := by
 have hz : ((bs.zip cs).map fun x => C10.CodeR x.1 x.2)[i]? = some (C10.CodeR b l) := by
   rw [List.getElem?_map, (List.getElem?_zip_eq_some (z := (b, l))).2 ⟨hb, hc⟩]; rfl
 have hlt : i < ((bs.zip cs).map fun x => C10.CodeR x.1 x.2).length := (List.getElem?_eq_some_iff.1 hz).1
 have hz2 : (((bs.zip cs).map fun x => C10.CodeR x.1 x.2) ++ L)[i]? = some (C10.CodeR b l) := by rw [List.getElem?_append_left hlt]; exact hz
 refine ⟨(((bs.zip cs).map fun x => C10.CodeR x.1 x.2) ++ L).eraseIdx i, fun h H => Sat.pull i (Sat.unpack H) hz2, fun h H => ?_⟩; have := Sat.push i hz2 H
 have e : (((bs.zip cs).map fun x => C10.CodeR x.1 x.2) ++ L).set i (C10.CodeR b l) = ((bs.zip cs).map fun x => C10.CodeR x.1 x.2) ++ L := by
   have hl : i < (((bs.zip cs).map fun x => C10.CodeR x.1 x.2) ++ L).length := (List.getElem?_eq_some_iff.1 hz2).1; have e1 : (((bs.zip cs).map fun x => C10.CodeR x.1 x.2) ++ L)[i] = _ := (List.getElem?_eq_some_iff.1 hz2).2; rw [← e1, List.set_getElem_self]
 rw [e] at this; exact Sat.pack this
theorem codes_add {bs : List Nat} {cs : List (List Nat)} {l : List Nat} (hl : bs.length = cs.length) (H : Holds w (C10.CodeR b l :: CodesS bs cs :: L)) : Holds w (CodesS (bs ++ [b]) (cs ++ [l]) :: L) := by
 have H2 := Holds.unpack (A := (bs.zip cs).map fun x => C10.CodeR x.1 x.2) H.swap; unfold CodesS; rw [List.zip_append hl, List.map_append]; refine Holds.pack ?_; rw [List.append_assoc]; exact H2
def took (c : CS) : List Nat := if c.picks.done = true then c.picks.picks else []
def cdL (b : Nat) (c : CS) (pb db : Nat) (tv cv : Value) (bs : List Nat) : List HProp :=
 [blk b tCd [nv c.size, pt pb, tv, pt db, cv, nv c.count, .bool c.done, iv 0], P13.PkR pb c.picks, SL nv tI tv (took c), D11.DlR db c.lens, SL pt tCP cv bs, CodesS bs c.codes]
def CdR (b : Nat) (c : CS) : HProp := fun h => c.Ok ∧ ∃ pb db tv cv bs, bs.length = c.codes.length ∧ Sat (cdL b c pb db tv cv bs) h
theorem CdR_open (H : Holds w (CdR b c :: L)) : c.Ok ∧ ∃ pb db tv cv bs, bs.length = c.codes.length ∧ Holds w (cdL b c pb db tv cv bs ++ L) := by
 obtain ⟨h, H⟩ := Holds.pure H; obtain ⟨pb, H⟩ := Holds.ex H; obtain ⟨db, H⟩ := Holds.ex H; obtain ⟨tv, H⟩ := Holds.ex H; obtain ⟨cv, H⟩ := Holds.ex H; obtain ⟨bs, H⟩ := Holds.ex H; obtain ⟨hb, H⟩ := Holds.pure H; exact ⟨h, pb, db, tv, cv, bs, hb, Holds.unpack H⟩
theorem CdR_close {pb db : Nat} {tv cv : Value} {bs : List Nat} (h : c.Ok) (hb : bs.length = c.codes.length) (H : Holds w (cdL b c pb db tv cv bs ++ L)) : Holds w (CdR b c :: L) :=
 Holds.imp (Holds.pack H) fun _ hh => ⟨h, pb, db, tv, cv, bs, hb, hh⟩
def AfterC (x : Res (CS × Option Nat)) (b : Nat) (c : CS) (r : Nat) (B : List UInt8) (d at_ : Nat) (L : List HProp) (zero : Value) (v : Value) (w : World) : Prop :=
 match x with
 | .short => v = .tuple #[zero, iv 3] ∧ Holds w (CdR b c :: RdR r B d at_ :: L)
 | .bad e => v = .tuple #[zero, iv e] ∧ ∃ q v1 v2 v3 v4 v5 v6 v7, Holds w (blk b tCd [v1, v2, v3, v4, v5, v6, v7, iv 0] :: RdR r B d q :: L)
 | .ok (s, o) n => v = .tuple #[match o with | none => iv (-1) | some s => nv s, iv 0] ∧ Holds w (CdR b s :: RdR r B d (at_ + n) :: L)
theorem NewReader_spec (H : Holds w L) (h1 : 3 ≤ n) (h2 : n ≤ 258) (k : ∀ b w', Same w w' → Holds w' (CdR b (c0 n) :: L) → K (.tuple #[pt b, iv 0]) w') : Cl Tryz.prog F.code_NewReader #[nv n] w K := by
 refine Tie.code_NewReader ?_; unfold Vcf.code_NewReader; refine D11.NewReader_spec H h1 h2 fun db w1 S1 H1 => ?_
 repeat (first | refine r_neq ?_ | (with_reducible refine r_ex20 ?_) | (with_reducible refine r_ex21 ?_) | ((with_reducible refine r_vfN ?h ?_); (case h => omega)))
 refine P13.NewReader_spec H1 fun pb w2 S2 H2 => ?_; refine r_bd (v := .agg #[nv n, pt pb, .slice none 0 0, pt db, .slice none 0 0, nv 0, .bool false, iv 0]) (by kernel_rfl) ?_; refine r_new H2 fun b w3 S3 H3 => ?_; refine k b _ ((S1.trans S2).trans S3) (CdR_close (pb := pb) (db := db) (tv := .slice none 0 0) (cv := .slice none 0 0) (bs := []) (c0_ok h1 h2) rfl ?_); replace H3 : Holds w3 (blk b tCd [nv n, pt pb, .slice none 0 0, pt db, .slice none 0 0, nv 0, .bool false, iv 0] :: P13.PkR pb p0 :: D11.DlR db (d0 n) :: L) := H3; have H4 := (H3.nilSL nv tI); have H5 := H4.nilSL pt tCP; have H6 : Holds w3 (Sat [] :: SL pt tCP (.slice none 0 0) [] :: SL nv tI (.slice none 0 0) [] :: blk b tCd [nv n, pt pb, .slice none 0 0, pt db, .slice none 0 0, nv 0, .bool false, iv 0] :: P13.PkR pb p0 :: D11.DlR db (d0 n) :: L) := Holds.pack (A := []) H5; exact (by have h_ := Holds.ord 6 [3, 4, 2, 5, 1, 0] H6 rfl; exact h_)
theorem Done_spec (H : Holds w (CdR b c :: L)) (k : K (.bool c.done) w) : Cl Tryz.prog F.code_Reader_Done #[pt b] w K := by
 refine Tie.code_Reader_Done ?_; unfold Vcf.code_Reader_Done; obtain ⟨hc, pb, db, tv, cv, bs, hb, H⟩ := CdR_open H
 repeat (first | refine r_nc ?_ | refine r_fo0 ?_ | (with_reducible refine r_bnST ?_) | (with_reducible refine r_vt ?_) | refine r_ld 0 H rfl rfl ?_)
 exact k
theorem pick_spec (H : Holds w (CdR b c :: RdR r B d at_ :: L)) (hp : c.picks.done = false) (post : ∀ v w', Same w w' → AfterC (cstep c (rest B at_)) b c r B d at_ L (iv (-1)) v w' → K v w') :
   Cl Tryz.prog F.code_Reader_pick #[pt b, pt r] w K := by
 refine Tie.code_Reader_pick ?_; unfold Vcf.code_Reader_pick; obtain ⟨hc, pb, db, tv, cv, bs, hb, H⟩ := CdR_open H; have hok := fun c' o k (h : cstep c (rest B at_) = .ok (c', o) k) => (cstep_ok h hc).1
 have e0 : cstep c (rest B at_) = withPicks c (pstep c.picks (rest B at_)) := by unfold cstep; rw [if_pos hp]
 rw [e0] at post hok; unfold cdL at H
 repeat (first | refine r_nc ?_ | refine r_fo0 ?_ | refine r_ld 0 H rfl rfl ?_)
 have H1 : Holds w (P13.PkR pb c.picks :: RdR r B d at_ :: blk b tCd [nv c.size, pt pb, tv, pt db, cv, nv c.count, .bool c.done, iv 0] :: SL nv tI tv (took c) :: D11.DlR db c.lens :: SL pt tCP cv bs :: CodesS bs c.codes :: L) := (Holds.front H 6 rfl).front 2 rfl; clear H; refine P13.Step_spec H1 hp fun e w2 S2 hA => ?_
 cases hx : pstep c.picks (rest B at_) with
 | short =>
   rw [hx] at hA post; obtain ⟨rfl, H⟩ := hA
   repeat (first | refine r_ld 2 H rfl rfl ?_ | refine r_nc ?_ | refine r_fo0 ?_)
   refine P13.Done_spec H fun w3 S3 H3 => ?_; rw [hp]; refine r_vf ?_; exact post _ _ (S2.trans S3) ⟨rfl, CdR_close (pb := pb) (db := db) (tv := tv) (cv := cv) hc hb (by have h_ := Holds.ord 7 [2, 0, 3, 4, 5, 6, 1] H3 rfl; exact h_)⟩
 | bad c0 =>
   rw [hx] at hA post; obtain ⟨rfl, q, H⟩ := hA
   repeat (first | refine r_ld 2 H rfl rfl ?_ | refine r_nc ?_ | refine r_fo0 ?_)
   refine P13.DoneW_spec H hp fun w3 S3 H3 => ?_; refine r_vf ?_; exact post _ _ (S2.trans S3) ⟨rfl, q, _, _, _, _, _, _, _, (by have h_ := Holds.ord 7 [2, 1] H3 rfl; exact h_)⟩
 | ok p k =>
   rw [hx] at hA post hok; obtain ⟨rfl, H⟩ := hA; have hc' := hok _ _ _ rfl
   repeat (first | refine r_ld 2 H rfl rfl ?_ | refine r_nc ?_ | refine r_fo0 ?_)
   refine P13.Done_spec H fun w3 S3 H3 => ?_; have S := S2.trans S3; clear H S2 S3; have H := H3; clear H3
   cases hd : p.done with
   | false =>
     refine r_vf ?_; refine post _ _ S ⟨rfl, CdR_close (pb := pb) (db := db) (tv := tv) (cv := cv) (bs := bs) hc' hb ?_⟩
     have et : took ⟨c.size, p, c.lens, c.codes, c.count, c.done⟩ = took c := by unfold took; rw [hp, hd]; rfl
     unfold cdL; rw [et]; exact (by have h_ := Holds.ord 7 [2, 0, 3, 4, 5, 6, 1] H rfl; exact h_)
   | true =>
     refine r_vt ?_
     repeat (first | refine r_ld 2 H rfl rfl ?_ | refine r_nc ?_ | refine r_fo0 ?_)
     refine P13.Picks_spec H fun v w3 S3 H3 => ?_
     repeat (first | refine r_nc ?_ | refine r_fo0 ?_)
     refine r_st 3 H3 rfl (by simp) (SL_sg H3 0 rfl) fun w4 S4 H4 => ?_; replace H4 : Holds w4 (SL nv tI v p.picks :: P13.PkR pb p :: RdR r B d (at_ + k) :: blk b tCd [nv c.size, pt pb, v, pt db, cv, nv c.count, .bool c.done, iv 0] :: SL nv tI tv (took c) :: D11.DlR db c.lens :: SL pt tCP cv bs :: CodesS bs c.codes :: L) := H4; refine post _ _ ((S.trans S3).trans S4) ⟨rfl, CdR_close (pb := pb) (db := db) (tv := v) (cv := cv) (bs := bs) hc' hb ?_⟩
     have et : took ⟨c.size, p, c.lens, c.codes, c.count, c.done⟩ = p.picks := by unfold took; rw [hd]; rfl
     unfold cdL; rw [et]; exact (by have h_ := Holds.ord 8 [3, 1, 0, 5, 6, 7, 2] H4 rfl; exact h_)
theorem table_spec (H : Holds w (CdR b c :: RdR r B d at_ :: L)) (hp : c.picks.done = true) (hl : c.codes.length < c.picks.t) (post : ∀ v w', Same w w' → AfterC (cstep c (rest B at_)) b c r B d at_ L (iv (-1)) v w' → K v w') :
   Cl Tryz.prog F.code_Reader_table #[pt b, pt r] w K := by
 refine Tie.code_Reader_table ?_; unfold Vcf.code_Reader_table; obtain ⟨hc, pb, db, tv, cv, bs, hb, H⟩ := CdR_open H; have hok := fun c' o k (h : cstep c (rest B at_) = .ok (c', o) k) => (cstep_ok h hc).1
 have e0 : cstep c (rest B at_) = withLens c (dstep c.lens (rest B at_)) := by unfold cstep; rw [if_neg (by rw [hp]; decide), if_pos hl]
 rw [e0] at post hok; unfold cdL at H
 repeat (first | refine r_nc ?_ | refine r_fo0 ?_ | refine r_ld 0 H rfl rfl ?_)
 have H1 : Holds w (D11.DlR db c.lens :: RdR r B d at_ :: blk b tCd [nv c.size, pt pb, tv, pt db, cv, nv c.count, .bool c.done, iv 0] :: P13.PkR pb c.picks :: SL nv tI tv (took c) :: SL pt tCP cv bs :: CodesS bs c.codes :: L) := (by have h_ := Holds.ord 7 [3, 6, 0, 1, 2, 4, 5] H rfl; exact h_); clear H; refine D11.Step_spec H1 hc.dd fun e w2 S2 hA => ?_; clear H1
 cases hx : dstep c.lens (rest B at_) with
 | short =>
   rw [hx] at hA post; obtain ⟨rfl, H⟩ := hA; refine r_join1 (fun x w' => w2 = w' ∧ x = .bool true) ?_ ?_
   · rintro _ _ _ ⟨rfl, rfl⟩; refine r_vt ?_; exact post _ _ S2 ⟨rfl, CdR_close (pb := pb) (db := db) (tv := tv) (cv := cv) hc hb (by have h_ := Holds.ord 7 [2, 3, 4, 0, 5, 6, 1] H rfl; exact h_)⟩
   · repeat (first | refine r_ke ?_ | refine r_neq ?_ | ((with_reducible refine r_vtN ?h ?_); (case h => omega)))
     exact ⟨rfl, rfl⟩
 | bad c0 =>
   have h22 := dstep_bad hx; subst h22; rw [hx] at hA post; obtain ⟨rfl, q, H⟩ := hA; refine r_join1 (fun x w' => w2 = w' ∧ x = .bool true) ?_ ?_
   · rintro _ _ _ ⟨rfl, rfl⟩; refine r_vt ?_; exact post _ _ S2 ⟨rfl, q, _, _, _, _, _, _, _, (by have h_ := Holds.ord 6 [1, 0] H rfl; exact h_)⟩
   · repeat (first | refine r_ke ?_ | refine r_neq ?_ | ((with_reducible refine r_vtN ?h ?_); (case h => omega)))
     exact ⟨rfl, rfl⟩
 | ok d' k =>
   have hdo := dstep_ok hx hc.dl hc.dd; rw [hx] at hA post hok; obtain ⟨rfl, H⟩ := hA; simp only [withLens] at post hok; refine r_join1 (fun x w' => x = .bool (!d'.done) ∧ Same w w' ∧ Holds w' (D11.DlR db d' :: RdR r B d (at_ + k) :: blk b tCd [nv c.size, pt pb, tv, pt db, cv, nv c.count, .bool c.done, iv 0] :: P13.PkR pb c.picks :: SL nv tI tv (took c) :: SL pt tCP cv bs :: CodesS bs c.codes :: L)) ?_ ?_
   · clear H S2; rintro _ _ w3 ⟨rfl, S, H⟩
     cases hd : d'.done with
     | false =>
       rw [hd] at post hok; simp only [Bool.false_eq_true, if_false] at post hok; refine r_vt ?_; exact post _ _ S ⟨rfl, CdR_close (pb := pb) (db := db) (tv := tv) (cv := cv) (hok _ _ _ rfl) hb (by have h_ := Holds.ord 7 [2, 3, 4, 0, 5, 6, 1] H rfl; exact h_)⟩
     | true =>
       rw [hd] at post hok; simp only [if_true] at post hok; refine r_vf ?_
       repeat (first | refine r_nc ?_ | refine r_fo0 ?_ | refine r_ld 2 H rfl rfl ?_)
       refine D11.Lens_spec H fun v w4 S4 H4 => ?_; replace S := S.trans S4; clear H; have H := H4; clear H4 S4; have hdn := hd; unfold DS.done at hdn; rw [decide_eq_true_iff] at hdn; have hds := (D11.DlR_open (H.swap)).1.2
       have hsz : d'.size = c.size := by
         rw [← hc.ds]; unfold dstep turn at hx
         repeat' split at hx
         all_goals first
           | (cases hx; rfl)
           | cases hx
       have h3 := hc.s1; have h258 := hc.s2; refine C10.New_spec (j := 0) H rfl (by omega) (by omega) (fun x hx => hdo.all x hx) (fun hne w5 S5 H5 => ?_) fun hW b2 w5 S5 H5 => ?_
       · rw [if_neg hne] at post
         repeat (first | refine r_neq ?_ | (with_reducible refine r_ex20 ?_) | (with_reducible refine r_ex21 ?_) | ((with_reducible refine r_vtN ?h ?_); (case h => omega)))
         exact post _ _ (S.trans S5) ⟨rfl, _, _, _, _, _, _, _, _, (by have h_ := Holds.ord 8 [3, 2] H5 rfl; exact h_)⟩
       · rw [if_pos hW.share] at post hok; replace S := S.trans S5; clear H; have H := H5; clear H5 S5
         repeat (first | refine r_ld 4 H rfl rfl ?_ | refine r_nc ?_ | refine r_fo0 ?_ | refine r_neq ?_ | (with_reducible refine r_ex20 ?_) | (with_reducible refine r_ex21 ?_) | ((with_reducible refine r_vfN ?h ?_); (case h => omega)))
         have hcl := hc.cl; have htb := hc.pk.tbl
         have hbl : bs.length ≤ 6 := by
           rcases Nat.eq_zero_or_pos c.picks.count with h0 | h0
           · have := (hc.pk.new h0).1; omega
           · have := htb h0; omega
         refine r_app1 H 7 rfl b2 (fun _ => rfl) (by omega) fun v' w6 S6 H6 => ?_; replace H6 : Holds w6 (C10.CodeR b2 d'.lens :: SL nv tI v d'.lens :: D11.DlR db d' :: RdR r B d (at_ + k) :: blk b tCd [nv c.size, pt pb, tv, pt db, cv, nv c.count, .bool c.done, iv 0] :: P13.PkR pb c.picks :: SL nv tI tv (took c) :: SL pt tCP v' (bs ++ [b2]) :: CodesS bs c.codes :: L) := H6; replace S := S.trans S6; clear H; have H := H6; clear H6 S6
         repeat (first | refine r_nc ?_ | refine r_fo0 ?_)
         refine r_st 4 H rfl (by simp) (SL_sg H 7 rfl) fun w6 S6 H6 => ?_; replace H6 : Holds w6 (C10.CodeR b2 d'.lens :: SL nv tI v d'.lens :: D11.DlR db d' :: RdR r B d (at_ + k) :: blk b tCd [nv c.size, pt pb, tv, pt db, v', nv c.count, .bool c.done, iv 0] :: P13.PkR pb c.picks :: SL nv tI tv (took c) :: SL pt tCP v' (bs ++ [b2]) :: CodesS bs c.codes :: L) := H6; replace S := S.trans S6; clear H; have H := H6; clear H6 S6
         repeat (first | refine r_ld 4 H rfl rfl ?_ | refine r_nc ?_ | refine r_fo0 ?_)
         refine D11.NewReader_spec H (by omega) (by omega) fun db2 w6 S6 H6 => ?_; replace S := S.trans S6; clear H; have H := H6; clear H6 S6
         repeat (first | refine r_nc ?_ | refine r_fo0 ?_ | (with_reducible refine r_ex20 ?_) | (with_reducible refine r_ex21 ?_))
         refine r_st 5 H rfl (by simp) rfl fun w6 S6 H6 => ?_; replace H6 : Holds w6 (D11.DlR db2 (d0 c.size) :: C10.CodeR b2 d'.lens :: SL nv tI v d'.lens :: D11.DlR db d' :: RdR r B d (at_ + k) :: blk b tCd [nv c.size, pt pb, tv, pt db2, v', nv c.count, .bool c.done, iv 0] :: P13.PkR pb c.picks :: SL nv tI tv (took c) :: SL pt tCP v' (bs ++ [b2]) :: CodesS bs c.codes :: L) := H6; replace S := S.trans S6; clear H; have H := H6; clear H6 S6; have H7 : Holds w6 (C10.CodeR b2 d'.lens :: CodesS bs c.codes :: D11.DlR db2 (d0 c.size) :: RdR r B d (at_ + k) :: blk b tCd [nv c.size, pt pb, tv, pt db2, v', nv c.count, .bool c.done, iv 0] :: P13.PkR pb c.picks :: SL nv tI tv (took c) :: SL pt tCP v' (bs ++ [b2]) :: L) := (by have h_ := Holds.ord 10 [1, 9, 0, 4, 5, 6, 7, 8] H rfl; exact h_); have H8 := codes_add hb H7; exact post _ _ S ⟨rfl, CdR_close (pb := pb) (db := db2) (tv := tv) (cv := v') (bs := bs ++ [b2]) (hok _ _ _ rfl) (by simp [hb]) (by have h_ := Holds.ord 7 [3, 4, 5, 1, 6, 0, 2] H8 rfl; exact h_)⟩
   · repeat (first | refine r_ld 2 H rfl rfl ?_ | refine r_nc ?_ | refine r_fo0 ?_ | refine r_neq ?_ | ((with_reducible refine r_vfN ?h ?_); (case h => omega)))
     refine D11.Done_spec H fun w3 S3 H3 => ?_
     repeat (first | refine r_ke ?_ | refine r_not ?_)
     exact ⟨rfl, S2.trans S3, H3⟩
theorem symbol_spec (H : Holds w (CdR b c :: RdR r B d at_ :: L)) (hp : c.picks.done = true) (hl : ¬ c.codes.length < c.picks.t) (post : ∀ v w', Same w w' → AfterC (cstep c (rest B at_)) b c r B d at_ L (iv (-1)) v w' → K v w') :
   Cl Tryz.prog F.code_Reader_symbol #[pt b, pt r] w K := by
 refine Tie.code_Reader_symbol ?_; unfold Vcf.code_Reader_symbol; obtain ⟨hc, pb, db, tv, cv, bs, hb, H⟩ := CdR_open H; have hok := fun c' o k (h : cstep c (rest B at_) = .ok (c', o) k) => (cstep_ok h hc).1
 have e0 : cstep c (rest B at_) = if c.picks.picks.length ≤ c.count / 50 then .bad 25 else withSymbol c (getC c.table (rest B at_)) := by unfold cstep; rw [if_neg (by rw [hp]; decide), if_neg hl]
 rw [e0] at post hok; unfold cdL at H; have S := Same.refl w; have hct := hc.ct
 have et : took c = c.picks.picks := by unfold took; rw [hp]; rfl
 rw [et] at H
 have hq : ((c.count : Nat) : Int).tdiv 50 = ((c.count / 50 : Nat) : Int) := by rw [Int.tdiv_eq_ediv_of_nonneg (by omega)]; simp
 repeat (first | refine r_quoE hq (by omega) (by omega) (by omega) ?_ | refine r_nc ?_ | refine r_fo0 ?_ | refine r_ld 0 H rfl rfl ?_)
 refine r_lnS 2 H rfl ?_
 repeat (refine r_geq ?_)
 refine r_ifD (fun h => ?_) fun h => ?_
 · rw [if_pos (by omega)] at post; exact post _ _ S ⟨rfl, at_, _, _, _, _, _, _, _, (by have h_ := Holds.ord 7 [0, 6] H rfl; exact h_)⟩
 · have hg : ¬ c.picks.picks.length ≤ c.count / 50 := by omega
   rw [if_neg hg] at post hok; obtain ⟨x, h1, h2, h3, h4, h5⟩ := pick_lt hc hp hl hg
   repeat (first | refine r_nc ?_ | refine r_fo0 ?_ | (refine r_dr H ?_; clear H; intro _ S_ H; replace S := S.trans S_; clear S_) | refine r_ld 0 H rfl rfl ?_)
   refine r_getS 2 H rfl h1 ?_; obtain ⟨bx, hbx⟩ : ∃ bx, bs[x]? = some bx := ⟨_, List.getElem?_eq_getElem (by omega)⟩; refine r_getS 4 H rfl hbx ?_; obtain ⟨A, hA1, hA2⟩ := codes_get (L := blk b tCd [nv c.size, pt pb, tv, pt db, cv, nv c.count, .bool c.done, iv 0] :: P13.PkR pb c.picks :: SL nv tI tv c.picks.picks :: D11.DlR db c.lens :: SL pt tCP cv bs :: L) hbx h3; have H2 : Holds _ (RdR r B d at_ :: CodesS bs c.codes :: blk b tCd [nv c.size, pt pb, tv, pt db, cv, nv c.count, .bool c.done, iv 0] :: P13.PkR pb c.picks :: SL nv tI tv c.picks.picks :: D11.DlR db c.lens :: SL pt tCP cv bs :: L) := (by have h_ := Holds.ord 7 [6, 5, 0, 1, 2, 3, 4] H rfl; exact h_); have H3 := Holds.swap (Sat_tail hA1 H2); refine C10.Get_spec H3 (fun hn w3 S3 H4 => ?_) fun s n hs w3 S3 H4 => ?_
   · rw [hn] at post; have H5 := Sat_tail hA2 (Holds.swap H4); replace H5 : Holds w3 (RdR r B d at_ :: CodesS bs c.codes :: blk b tCd [nv c.size, pt pb, tv, pt db, cv, nv c.count, .bool c.done, iv 0] :: P13.PkR pb c.picks :: SL nv tI tv c.picks.picks :: D11.DlR db c.lens :: SL pt tCP cv bs :: L) := H5; rw [← et] at H5
     repeat (first | refine r_neq ?_ | (with_reducible refine r_ex20 ?_) | (with_reducible refine r_ex21 ?_) | ((with_reducible refine r_vtN ?h ?_); (case h => omega)))
     exact post _ _ (S.trans S3) ⟨rfl, CdR_close (pb := pb) (db := db) (tv := tv) (cv := cv) hc hb (by have h_ := Holds.ord 7 [2, 3, 4, 5, 6, 1, 0] H5 rfl; exact h_)⟩
   · rw [hs] at post hok; have H5 := Sat_tail hA2 (Holds.swap H4); replace H5 : Holds w3 (RdR r B d (at_ + n) :: CodesS bs c.codes :: blk b tCd [nv c.size, pt pb, tv, pt db, cv, nv c.count, .bool c.done, iv 0] :: P13.PkR pb c.picks :: SL nv tI tv c.picks.picks :: D11.DlR db c.lens :: SL pt tCP cv bs :: L) := H5; rw [← et] at H5; have hsz := hc.s1; have h258 := hc.s2; replace S := S.trans S3; clear H H2 H3 H4; have H := H5; clear H5
     repeat (first | refine r_ld 2 H rfl rfl ?_ | refine r_nc ?_ | refine r_fo0 ?_ | refine r_neq ?_ | (with_reducible refine r_ex20 ?_) | (with_reducible refine r_ex21 ?_) | (refine r_add1N (by omega) ?_) | ((with_reducible refine r_vfN ?h ?_); (case h => omega)))
     refine r_st 2 H rfl (by simp) rfl fun w6 S6 H6 => ?_; replace H6 : Holds w6 (RdR r B d (at_ + n) :: CodesS bs c.codes :: blk b tCd [nv c.size, pt pb, tv, pt db, cv, nv (c.count + 1), .bool c.done, iv 0] :: P13.PkR pb c.picks :: SL nv tI tv (took c) :: D11.DlR db c.lens :: SL pt tCP cv bs :: L) := H6; replace S := S.trans S6; clear H; have H := H6; clear H6 S6
     repeat (first | refine r_ld 2 H rfl rfl ?_ | refine r_nc ?_ | refine r_fo0 ?_ | refine r_eql ?_ | (refine r_sub1N (by omega) (by omega) ?_))
     refine r_st 2 H rfl (by simp) rfl fun w6 S6 H6 => ?_
     have ed : ((s : Int) == ((c.size - 1 : Nat) : Int)) = decide (s = c.size - 1) := by rw [Bool.eq_iff_iff, beq_iff_eq, decide_eq_true_iff]; omega
     rw [ed] at H6; replace H6 : Holds w6 (RdR r B d (at_ + n) :: CodesS bs c.codes :: blk b tCd [nv c.size, pt pb, tv, pt db, cv, nv (c.count + 1), .bool (decide (s = c.size - 1)), iv 0] :: P13.PkR pb c.picks :: SL nv tI tv (took c) :: D11.DlR db c.lens :: SL pt tCP cv bs :: L) := H6; exact post _ _ (S.trans S6) ⟨rfl, CdR_close (c := ⟨c.size, c.picks, c.lens, c.codes, c.count + 1, decide (s = c.size - 1)⟩) (pb := pb) (db := db) (tv := tv) (cv := cv) (hok _ _ _ rfl) hb (by have h_ := Holds.ord 7 [2, 3, 4, 5, 6, 1, 0] H6 rfl; exact h_)⟩
def AfterCS (x : Res (CS × Option Nat)) (b : Nat) (c : CS) (r : Nat) (B : List UInt8) (d at_ : Nat) (L : List HProp) (v : Value) (w : World) : Prop :=
 match x with
 | .short => v = .tuple #[iv 0, iv 3] ∧ Holds w (CdR b c :: RdR r B d at_ :: L)
 | .bad e => v = .tuple #[iv 0, iv e] ∧ ∃ q, Holds w (RdR r B d q :: L)
 | .ok (s, o) n => v = .tuple #[match o with | none => iv (-1) | some s => nv s, iv 0] ∧ Holds w (CdR b s :: RdR r B d (at_ + n) :: L)
theorem Step_spec (H : Holds w (CdR b c :: RdR r B d at_ :: L)) (hd : c.done = false) (post : ∀ v w', Same w w' → AfterCS (cstep c (rest B at_)) b c r B d at_ L v w' → K v w') :
   Cl Tryz.prog F.code_Reader_Step #[pt b, pt r] w K := by
 refine Tie.code_Reader_Step ?_; unfold Vcf.code_Reader_Step
 have fin : ∀ v w', Same w w' → AfterC (cstep c (rest B at_)) b c r B d at_ L (iv (-1)) v w' → Ex v 0 fun x_11 => Ex v 1 fun x_12 => Bp .eql x_12 (.int .i64 0) fun x_13 => Vif x_13 (K (.tuple #[x_11, x_12]) w')
     (Bp .neq x_12 (.int .i64 3) fun x_14 => Vif x_14 (Nc (pt b) <| Fo 7 (pt b) fun x_15 => St x_15 x_12 w' fun w5 => K (.tuple #[(.int .i64 0), x_12]) w5) (K (.tuple #[(.int .i64 0), x_12]) w')) := by
   intro v w' S hA
   cases hx : cstep c (rest B at_) with
   | short =>
     rw [hx] at hA post; obtain ⟨rfl, H'⟩ := hA
     repeat (first | refine r_eql ?_ | refine r_neq ?_ | (with_reducible refine r_ex20 ?_) | (with_reducible refine r_ex21 ?_) | ((with_reducible refine r_vfE ?h ?_); (case h => omega)) | ((with_reducible refine r_vfN ?h ?_); (case h => omega)))
     exact post _ _ S ⟨rfl, H'⟩
   | bad e =>
     have h2 := cstep_bad hx; rw [hx] at hA post; obtain ⟨rfl, q, v1, v2, v3, v4, v5, v6, v7, H'⟩ := hA
     repeat (first | refine r_nc ?_ | refine r_fo0 ?_ | refine r_eql ?_ | refine r_neq ?_ | (with_reducible refine r_ex20 ?_) | (with_reducible refine r_ex21 ?_) | ((with_reducible refine r_vfE ?h ?_); (case h => omega)) | ((with_reducible refine r_vtN ?h ?_); (case h => omega)))
     refine r_st 0 H' rfl (by simp) rfl fun w5 S5 H5 => ?_; rw [List.set_cons_zero] at H5; exact post _ _ (S.trans S5) ⟨rfl, q, H5.drop⟩
   | ok s k =>
     rw [hx] at hA post; obtain ⟨s, o⟩ := s; obtain ⟨rfl, H'⟩ := hA
     repeat (first | refine r_eql ?_ | (with_reducible refine r_ex20 ?_) | (with_reducible refine r_ex21 ?_) | ((with_reducible refine r_vtE ?h ?_); (case h => omega)))
     exact post _ _ S ⟨rfl, H'⟩
 refine r_join1 (fun x w' => w = w' ∧ x = .bool false) ?_ ?_
 rotate_left
 · have H0 := H; obtain ⟨hc, pb, db, tv, cv, bs, hb, H0⟩ := CdR_open H0
   repeat (first | refine r_ld 0 H0 rfl rfl ?_ | refine r_nc ?_ | refine r_fo0 ?_ | refine r_ke ?_ | (with_reducible refine r_bnSF ?_) | (with_reducible refine r_vf ?_))
   exact ⟨rfl, by rw [hd]⟩
 rintro _ _ _ ⟨rfl, rfl⟩; have H0 := H; obtain ⟨hc, pb, db, tv, cv, bs, hb, H0⟩ := CdR_open H0
 repeat (first | refine r_ld 0 H0 rfl rfl ?_ | refine r_nc ?_ | refine r_fo0 ?_ | refine r_neq ?_ | (with_reducible refine r_vf ?_) | ((with_reducible refine r_vfN ?h ?_); (case h => omega)))
 refine r_mf (.func (.func F.code_Reader_symbol) #[pt b] #[]) (by kernel_rfl) ?_; refine r_join1 (fun x w' => Same w w' ∧ Holds w' (CdR b c :: RdR r B d at_ :: L) ∧ ((c.picks.done = false ∧ x = .func (.func F.code_Reader_pick) #[pt b] #[]) ∨ (c.picks.done = true ∧ c.codes.length < c.picks.t ∧ x = .func (.func F.code_Reader_table) #[pt b] #[]) ∨ (c.picks.done = true ∧ ¬ c.codes.length < c.picks.t ∧ x = .func (.func F.code_Reader_symbol) #[pt b] #[]))) ?_ ?_
 · clear H H0; rintro _ _ w2 ⟨S, H, ⟨h1, rfl⟩ | ⟨h1, h2, rfl⟩ | ⟨h1, h2, rfl⟩⟩
   · refine r_inv (f := F.code_Reader_pick) (args := #[pt b, pt r]) (by kernel_rfl) ?_; exact pick_spec H h1 fun v w' S' hA => fin v w' (S.trans S') hA
   · refine r_inv (f := F.code_Reader_table) (args := #[pt b, pt r]) (by kernel_rfl) ?_; exact table_spec H h1 h2 fun v w' S' hA => fin v w' (S.trans S') hA
   · refine r_inv (f := F.code_Reader_symbol) (args := #[pt b, pt r]) (by kernel_rfl) ?_; exact symbol_spec H h1 h2 fun v w' S' hA => fin v w' (S.trans S') hA
 · clear fin post; unfold cdL at H0
   repeat (first | refine r_ld 0 H0 rfl rfl ?_ | refine r_nc ?_ | refine r_fo0 ?_)
   have H1 : Holds w (P13.PkR pb c.picks :: blk b tCd [nv c.size, pt pb, tv, pt db, cv, nv c.count, .bool c.done, iv 0] :: SL nv tI tv (took c) :: D11.DlR db c.lens :: SL pt tCP cv bs :: CodesS bs c.codes :: RdR r B d at_ :: L) := (by have h_ := Holds.ord 7 [1, 0, 2, 3, 4, 5, 6] H0 rfl; exact h_); refine P13.Done_spec H1 fun w2 S2 H2 => ?_
   have fin2 : ∀ w', Holds w' (P13.PkR pb c.picks :: blk b tCd [nv c.size, pt pb, tv, pt db, cv, nv c.count, .bool c.done, iv 0] :: SL nv tI tv (took c) :: D11.DlR db c.lens :: SL pt tCP cv bs :: CodesS bs c.codes :: RdR r B d at_ :: L) → Holds w' (CdR b c :: RdR r B d at_ :: L) := fun w' H' =>
     CdR_close (pb := pb) (db := db) (tv := tv) (cv := cv) hc hb (by have h_ := Holds.ord 7 [1, 0, 2, 3, 4, 5, 6] H' rfl; exact h_)
   cases hp : c.picks.done with
   | false =>
     refine r_notF (r_vt ?_); refine r_mf (.func (.func F.code_Reader_pick) #[pt b] #[]) (by kernel_rfl) ?_
     repeat (refine r_ke ?_)
     exact ⟨S2, fin2 _ H2, .inl ⟨rfl, rfl⟩⟩
   | true =>
     refine r_notT (r_vf ?_); have S := S2; have H := H2; clear H2 S2
     repeat (first | refine r_ld 1 H rfl rfl ?_ | refine r_nc ?_ | refine r_fo0 ?_ | (refine r_dr H ?_; clear H; intro _ S_ H; replace S := S.trans S_; clear S_))
     rename_i w3; refine r_lnS 4 H rfl ?_
     repeat (first | refine r_ld 1 H rfl rfl ?_ | refine r_nc ?_ | refine r_fo0 ?_)
     refine P13.Tables_spec H ?_; refine r_rk (r_lnS 4 H rfl rfl) ?_; refine r_rk (r_ld 1 H rfl rfl rfl) ?_
     repeat (refine r_lss ?_)
     rw [hb]; refine r_ifD (fun h => ?_) fun h => ?_
     · refine r_mf (.func (.func F.code_Reader_table) #[pt b] #[]) (by kernel_rfl) ?_
       repeat (refine r_ke ?_)
       exact ⟨S, fin2 _ H, .inr (.inl ⟨rfl, by omega, rfl⟩)⟩
     · repeat (refine r_ke ?_)
       exact ⟨S, fin2 _ H, .inr (.inr ⟨rfl, by omega, rfl⟩)⟩
end C14
namespace S16
open Go.Mr Go.M18
variable {w : World} {L : List HProp} {K : Value → World → Prop} {b n : Nat} {s : List UInt8} {x : SS}
section
variable {α : Type} {P : Program}
theorem RW_pop (i : Nat) (H : Holds w L) {F : α → List Value} {k : Nat} {e : TypeId} {v : Value} {ys : List α} {p : α} (hF : ∀ y, (F y).length = k) (hi : L[i]? = some (RW F k e v (ys ++ [p]))) :
   ∃ oa c, v = .slice oa (ys.length + 1) c ∧ ys.length + 1 ≤ c ∧ Holds w (L.set i (RW F k e (.slice oa ys.length c) ys)) := by
 obtain ⟨oa, m, sp, rfl, H1⟩ := H.openRW i hi; refine ⟨oa, (ys ++ [p]).length + m, by rw [List.length_append, List.length_singleton], by rw [List.length_append, List.length_singleton]; omega, ?_⟩
 have h2 := H1.at i (set_get hi) (Q := RW F k e (.slice oa ys.length ((ys ++ [p]).length + m)) ys) fun g hg => by
   refine ⟨oa, m + 1, F p ++ sp, by rw [List.length_append, List.length_singleton, show ys.length + 1 + m = ys.length + (m + 1) by omega], ?_⟩
   cases oa with
   | none =>
     obtain ⟨h, _⟩ := hg; simp at h
   | some a =>
     obtain ⟨h1, h2, h3, h4⟩ := hg; refine ⟨h1, h2, by rw [List.length_append, hF, h3, Nat.add_mul]; omega, ?_⟩; rw [flatL_app] at h4
     have e1 : flatL F [p] = F p := by simp [flatL]
     rw [e1, List.append_assoc] at h4; exact h4
 rw [List.set_set] at h2; exact h2
theorem r_fldN (i : Nat) (H : Holds w L) {F : α → List Value} {k : Nat} {e : TypeId} {v : Value} {xs : List α} {q j : Nat} {kk : IntKind} {y : α} {u : Value} {K : Value → Prop} (hi : L[i]? = some (RW F k e v xs)) (hx : xs[q]? = some y) (hF : ∀ y, (F y).length = k)
   (hj : (F y)[j]? = some u) (h : K u) : Ias k v (.int kk (q : Int)) fun p => Fo j p fun z => Ld z w K := by
 have hlt : q < xs.length := (List.getElem?_eq_some_iff.1 hx).1; obtain ⟨oa, m, sp, rfl, H1⟩ := H.openRW i hi; obtain ⟨bb, rfl, hsp, Hb⟩ := H1.rwb i (set_get hi) (.inl (by omega)); refine r_ias0 hlt (r_fo ?_); refine r_ld i Hb (set_get (set_get hi)) ?_ h; have h1 := flatL_get hF xs q y hx
 have hjk : j < k := by rw [← hF y]; exact (List.getElem?_eq_some_iff.1 hj).1
 have hlen := flatL_len (k := k) hF xs
 have hq : q * k + k ≤ xs.length * k := by
   have : (q + 1) * k ≤ xs.length * k := Nat.mul_le_mul_right _ (by omega); rw [Nat.add_mul, Nat.one_mul] at this; exact this
 rw [List.getElem?_append_left (by omega), ← hj, ← h1, List.getElem?_take_of_lt hjk, List.getElem?_drop]
end
abbrev tSo : Nat := 164
abbrev tPt : Nat := 162
abbrev tK : Nat := 217
instance rowPt : RowN Tryz.prog 160 tPt 3 := ⟨by kernel_rfl, ⟨Tryz.t162, .agg #[iv 0, iv 0, iv 0], by kernel_rfl, by kernel_rfl, by decide, by kernel_rfl, by kernel_rfl⟩⟩
abbrev St_ (s : List UInt8) : Value := .string ⟨s.toArray⟩
def Fp (p : Pt) : List Value := [nv p.lo, nv p.mid, nv p.hi]
theorem Fp_sg : ∀ y : Pt, ∀ u ∈ Fp y, sg u = true := by
 intro y u hu; unfold Fp at hu; rcases List.mem_cons.1 hu with rfl | hu
 · rfl
 rcases List.mem_cons.1 hu with rfl | hu
 · rfl
 rw [List.mem_singleton.1 hu]; rfl
def soC (s : List UInt8) (ov cv av kv : Value) (x : SS) (n : Nat) : List Value := [St_ s, ov, cv, av, nv x.reach, kv, nv x.merge.lo, nv x.merge.mid, nv x.merge.hi, nv x.laid, nv x.first, nv x.second, nv x.ranked, nv x.last, nv n, .bool x.done]
def soL (b : Nat) (s : List UInt8) (ov cv av kv : Value) (x : SS) (n : Nat) : List HProp := [blk b tSo (soC s ov cv av kv x n), SL nv tI ov x.order, SL nv tI cv x.cls, SL nv tI av x.aside, RW Fp 3 tPt kv x.stack.reverse]
def SoR (b : Nat) (s : List UInt8) (x : SS) (n : Nat) : HProp := fun h => ∃ ov cv av kv, Sat (soL b s ov cv av kv x n) h
theorem SoR_open (H : Holds w (SoR b s x n :: L)) : ∃ ov cv av kv, Holds w (soL b s ov cv av kv x n ++ L) := by
 obtain ⟨ov, H⟩ := Holds.ex H; obtain ⟨cv, H⟩ := Holds.ex H; obtain ⟨av, H⟩ := Holds.ex H; obtain ⟨kv, H⟩ := Holds.ex H; exact ⟨ov, cv, av, kv, Holds.unpack H⟩
theorem SoR_close {ov cv av kv : Value} (H : Holds w (soL b s ov cv av kv x n ++ L)) : Holds w (SoR b s x n :: L) := Holds.imp (Holds.pack H) fun _ hh => ⟨ov, cv, av, kv, hh⟩
structure Sz (s : List UInt8) (x : SS) : Prop where
 len : s.length ≤ 4000
 cl : x.cls.length = s.length
 al : x.aside.length = s.length
 ol : x.order.length = s.length
 reach : x.reach ≤ 8000
theorem key_spec {ov cv av kv : Value} {a : Nat} (H : Holds w (soL b s ov cv av kv x n ++ L)) (hz : Sz s x) (ha : a < s.length)
   (k : ∀ w', Same w w' → Holds w' (soL b s ov cv av kv x n ++ L) → K (.agg #[nv (keyS s x a).1, nv (keyS s x a).2]) w') : Cl Tryz.prog F.sorter_Sorter_key #[pt b, nv a] w K := by
 refine Tie.sorter_Sorter_key ?_; unfold Vcf.sorter_Sorter_key; have hlen := hz.len; have hcl := hz.cl; have hre := hz.reach
 have hzz : (zeroP Tryz.prog tK).cells.toList = [iv 0, iv 0] := by kernel_rfl
 have hsz : (⟨s.toArray⟩ : ByteArray).size = s.length := by simp [ByteArray.size]
 refine r_new H fun kb w1 S1 H1 => ?_; rw [hzz] at H1; refine r_nc (r_fo0 (r_ld 1 H1 rfl rfl ?_)); refine r_eql (r_ifE (fun h => ?_) fun h => ?_)
 · refine r_nc (r_fo0 (r_ld 1 H1 rfl rfl ?_)); refine r_ixsN (by rw [hsz]; exact ha) ?_; have hc : ((⟨s.toArray⟩ : ByteArray).data.toList.getD a 0).toNat < 256 := UInt8.toNat_lt _; refine r_ci64 (by omega) (by omega) ?_
   have ek : keyS s x a = ((s.getD a 0).toNat, 0) := by unfold keyS; rw [if_pos (by omega)]
   rw [ek] at k; refine r_bd (v := .agg #[nv (s.getD a 0).toNat, nv 0]) (by kernel_rfl) ?_; refine r_stA 0 H1 (vs := [nv (s.getD a 0).toNat, nv 0]) rfl (by decide) rfl rfl fun w2 S2 H2 => ?_; refine r_ldA 0 H2 [nv (s.getD a 0).toNat, nv 0] rfl rfl rfl ?_; exact k _ (S1.trans S2) H2.drop
 · refine r_dr H1 fun w2 S2 H2 => ?_; refine r_nc (r_fo0 (r_ld 1 H2 rfl rfl ?_)); refine r_getS 3 H2 rfl (getD_at (by omega)) ?_; refine r_nc (r_fo0 (r_ld 1 H2 rfl rfl ?_)); refine r_nc (r_fo0 (r_ld 1 H2 rfl rfl ?_)); refine r_addN (by omega) ?_; refine r_nc (r_fo0 (r_ld 1 H2 rfl rfl ?_)); refine r_lns ?_; rw [hsz]; refine r_remE (r := (((a + x.reach) % s.length : Nat) : Int)) (by rw [Int.tmod_eq_emod_of_nonneg (by omega)]; rfl) (by omega) ?_; have hm : (a + x.reach) % s.length < s.length := Nat.mod_lt _ (by omega); refine r_getS 3 H2 rfl (getD_at (i := (a + x.reach) % s.length) (by omega)) ?_
   have ek : keyS s x a = (x.cls.getD a 0, x.cls.getD ((a + x.reach) % s.length) 0) := by unfold keyS; rw [if_neg (by omega)]
   rw [ek] at k; refine r_bd (v := .agg #[nv (x.cls.getD a 0), nv (x.cls.getD ((a + x.reach) % s.length) 0)]) (by kernel_rfl) ?_; refine r_stA 0 H2 (vs := [nv (x.cls.getD a 0), nv (x.cls.getD ((a + x.reach) % s.length) 0)]) rfl (by simp) rfl rfl fun w3 S3 H3 => ?_; refine r_ldA 0 H3 [nv (x.cls.getD a 0), nv (x.cls.getD ((a + x.reach) % s.length) 0)] rfl rfl rfl ?_; exact k _ (S1.trans (S2.trans S3)) H3.drop
theorem above_spec {ov cv av kv : Value} {a c : Nat} (H : Holds w (soL b s ov cv av kv x n ++ L)) (hz : Sz s x) (ha : a < s.length) (hc : c < s.length)
   (k : ∀ w', Same w w' → Holds w' (soL b s ov cv av kv x n ++ L) → K (.bool (decide (klt (keyS s x c) (keyS s x a)))) w') : Cl Tryz.prog F.sorter_Sorter_above #[pt b, nv a, nv c] w K := by
 refine Tie.sorter_Sorter_above ?_; unfold Vcf.sorter_Sorter_above
 have hzz : (zeroP Tryz.prog tK).cells.toList = [iv 0, iv 0] := by kernel_rfl
 refine key_spec H hz ha fun w1 S1 H1 => ?_; refine key_spec H1 hz hc fun w2 S2 H2 => ?_; generalize keyS s x a = p at *; generalize keyS s x c = q at *; refine r_new H2 fun kb w3 S3 H3 => ?_; rw [hzz] at H3; refine r_new H3 fun lb w4 S4 H4 => ?_; rw [hzz] at H4; refine r_stA 1 H4 (vs := [nv p.1, nv p.2]) rfl (by decide) rfl rfl fun w5 S5 H5 => ?_; refine r_stA 0 H5 (vs := [nv q.1, nv q.2]) rfl (by decide) rfl rfl fun w6 S6 H6 => ?_; replace H6 : Holds w6 (blk lb tK [nv q.1, nv q.2] :: blk kb tK [nv p.1, nv p.2] :: (soL b s ov cv av kv x n ++ L)) := H6; have S := S1.trans (S2.trans (S3.trans (S4.trans (S5.trans S6))))
 have fin : ∀ t : Bool, t = decide (klt q p) → K (.bool t) w6 := fun t e => by rw [e]; exact k w6 S H6.drop.drop
 refine r_iaaN (m := 0) (by decide) (r_ld 1 H6 rfl rfl ?_); refine r_iaaN (m := 0) (by decide) (r_ld 0 H6 rfl rfl ?_); refine r_gtr (r_ifD (fun h => ?_) fun h => ?_)
 · exact fin true (decide_eq_true (.inl (by omega))).symm
 refine r_iaaN (m := 0) (by decide) (r_ld 1 H6 rfl rfl ?_); refine r_iaaN (m := 0) (by decide) (r_ld 0 H6 rfl rfl ?_); refine r_eql (r_ifE (fun h2 => ?_) fun h2 => ?_)
 · refine r_iaaN (m := 1) (by decide) (r_ld 1 H6 rfl rfl ?_); refine r_iaaN (m := 1) (by decide) (r_ld 0 H6 rfl rfl ?_); refine r_gtr (fin _ ?_); exact decide_eq_decide.2 (by unfold klt; omega)
 · exact fin false (decide_eq_false (by unfold klt; omega)).symm
theorem join_spec (H : Holds w (SoR b s x n :: L)) (hst : x.stack.length ≤ 100000000)
   (k : ∀ w', Same w w' → Holds w' (SoR b s (joinS x) n :: L) → K (.tuple #[]) w') : Cl Tryz.prog F.sorter_Sorter_join #[pt b] w K := by
 refine Tie.sorter_Sorter_join ?_; unfold Vcf.sorter_Sorter_join; obtain ⟨ov, cv, av, kv, H⟩ := SoR_open H; refine r_nc (r_fo0 (r_ld 0 H rfl rfl ?_)); refine P35.r_lnN 4 H rfl ?_; rw [List.length_reverse]
 have hnone : joinS x = x → ∀ w', Same w w' → Holds w' (soL b s ov cv av kv x n ++ L) → K (.tuple #[]) w' := fun e w' S' H' => by
   rw [e] at k; exact k w' S' (SoR_close H')
 cases hs : x.stack with
 | nil =>
   have ej : joinS x = x := by unfold joinS; rw [hs]
   refine r_sub (by simp) (by simp) ?_; refine r_join1 (fun t w' => w = w' ∧ t = .bool true) ?_ ?_
   rotate_left
   · exact r_lss (r_vtD (by simp) (r_ke ⟨rfl, rfl⟩))
   rintro _ _ _ ⟨rfl, rfl⟩; exact r_vt (hnone ej _ (.refl _) H)
 | cons p st =>
   rw [hs] at hst; simp only [List.length_cons] at hst
   have ej : joinS x = if x.merge.hi = 0 ∧ p.mid ≠ 0 then { x with merge := p, stack := st, laid := 0, first := 0, second := p.mid } else x := by unfold joinS; rw [hs]
   have hrev : x.stack.reverse = st.reverse ++ [p] := by rw [hs, List.reverse_cons]
   have hget : x.stack.reverse[st.length]? = some p := by rw [hrev, List.getElem?_append_right (by simp), List.length_reverse, Nat.sub_self]; rfl
   refine r_sub1N (a := (p :: st).length) (by simp) (by simp; omega) ?_; rw [show (p :: st).length - 1 = st.length by simp]; refine r_join1 (fun t w' => w = w' ∧ t = .bool (decide (¬ (x.merge.hi = 0 ∧ p.mid ≠ 0)))) ?_ ?_
   rotate_left
   · refine r_lss (r_vfD (by omega) ?_); refine r_nc (r_fo (r_fo (r_ld 0 H rfl rfl ?_))); refine r_gtr (r_ifD (fun h => ?_) fun h => ?_)
     · exact r_ke ⟨rfl, by rw [decide_eq_true (show ¬ (x.merge.hi = 0 ∧ p.mid ≠ 0) from fun e => by omega)]⟩
     · refine r_nc (r_fo0 (r_ld 0 H rfl rfl ?_)); refine r_fldN 4 H rfl hget (fun _ => rfl) (j := 1) rfl ?_; refine r_eql (r_ke ⟨rfl, ?_⟩); rw [show (((p.mid : Nat) : Int) == 0) = decide (¬ (x.merge.hi = 0 ∧ p.mid ≠ 0)) from by rw [Bool.eq_iff_iff, beq_iff_eq, decide_eq_true_iff]; omega]
   rintro _ _ _ ⟨rfl, rfl⟩; refine r_ifD (fun h => ?_) fun h => ?_
   · rw [if_neg h] at ej; exact hnone ej _ (.refl _) H
   · have h' : x.merge.hi = 0 ∧ p.mid ≠ 0 := Classical.byContradiction h; rw [if_pos h'] at ej; refine r_nc (r_fo0 (r_ld 0 H rfl rfl ?_)); refine P35.r_getN 4 H rfl hget (fun _ => rfl) ?_; refine r_nc (r_fo ?_); refine r_stA 0 H (vs := Fp p) rfl (by simp [soC]) rfl rfl fun w1 S1 H1 => ?_
     have H1' : Holds w1 (blk b tSo [St_ s, ov, cv, av, nv x.reach, kv, nv p.lo, nv p.mid, nv p.hi, nv x.laid, nv x.first, nv x.second, nv x.ranked, nv x.last, nv n, .bool x.done] :: SL nv tI ov x.order :: SL nv tI cv x.cls :: SL nv tI av x.aside :: RW Fp 3 tPt kv (st.reverse ++ [p]) :: L) := by
       rw [← hrev]; exact H1
     clear H1; refine r_nc (r_fo0 (r_ld 0 H1' rfl rfl ?_)); obtain ⟨oa, c, rfl, hc, H2⟩ := RW_pop (F := Fp) (k := 3) (ys := st.reverse) (p := p) 4 H1' (fun _ => rfl) rfl; rw [List.length_reverse] at hc H2 ⊢; refine r_ssl0 (by omega) ?_; refine r_nc (r_fo0 ?_); refine r_st 0 H2 rfl (by simp) rfl fun w3 S3 H3 => ?_; refine r_nc (r_fo0 ?_); refine r_st 0 H3 rfl (by simp) rfl fun w4 S4 H4 => ?_; refine r_nc (r_fo0 ?_); refine r_st 0 H4 rfl (by simp) rfl fun w5 S5 H5 => ?_; refine r_nc (r_fo (r_fo ?_)); replace H5 : Holds w5 (blk b tSo [St_ s, ov, cv, av, nv x.reach, .slice oa st.length c, nv p.lo, nv p.mid, nv p.hi, nv 0, nv 0, nv x.second, nv x.ranked, nv x.last, nv n, .bool x.done] :: SL nv tI ov x.order :: SL nv tI cv x.cls :: SL nv tI av x.aside :: RW Fp 3 tPt (.slice oa st.length c) st.reverse :: L) := H5; refine r_ld 0 H5 rfl rfl ?_; refine r_nc (r_fo0 ?_); refine r_st 0 H5 rfl (by simp) rfl fun w6 S6 H6 => ?_; rw [ej] at k; exact k _ (S1.trans (S3.trans (S4.trans (S5.trans S6)))) (SoR_close (ov := ov) (cv := cv) (av := av) (kv := .slice oa st.length c) H6)
theorem lay_spec (H : Holds w (SoR b s x n :: L)) (hz : Sz s x) (h1 : x.laid < x.aside.length) (h2 : x.merge.lo + x.laid < x.order.length)
   (k : ∀ w', Same w w' → Holds w' (SoR b s (layS x) n :: L) → K (.tuple #[]) w') : Cl Tryz.prog F.sorter_Sorter_lay #[pt b] w K := by
 refine Tie.sorter_Sorter_lay ?_; unfold Vcf.sorter_Sorter_lay; have hlen := hz.len; have hal := hz.al; have hol := hz.ol; obtain ⟨ov, cv, av, kv, H⟩ := SoR_open H; refine r_dr H fun w1 S1 H1 => ?_; refine r_nc (r_fo0 (r_ld 0 H1 rfl rfl ?_)); refine r_nc (r_fo0 (r_ld 0 H1 rfl rfl ?_)); refine r_nc (r_fo0 (r_ld 0 H1 rfl rfl ?_)); refine r_nc (r_fo (r_fo (r_ld 0 H1 rfl rfl ?_))); refine r_nc (r_fo0 (r_ld 0 H1 rfl rfl ?_)); refine r_addN (by omega) ?_; refine r_getS 1 H1 rfl (getD_at h2) ?_; refine r_setS 3 H1 (x.order.getD (x.merge.lo + x.laid) 0) rfl h1 rfl fun w2 S2 H2 => ?_; refine r_nc (r_fo0 (r_ld 0 H2 rfl rfl ?_)); refine r_add1N (by omega) ?_; refine r_nc (r_fo0 ?_); refine r_st 0 H2 rfl (by simp [soC]) rfl fun w3 S3 H3 => ?_; exact k _ (S1.trans (S2.trans S3)) (SoR_close (ov := ov) (cv := cv) (av := av) (kv := kv) H3)
theorem put_spec (H : Holds w (SoR b s x n :: L)) (hz : Sz s x) (hm : x.merge.hi ≤ s.length ∧ x.merge.mid ≤ x.merge.hi ∧ x.merge.lo ≤ x.merge.mid ∧ 0 < x.merge.hi) (h1 : toS x < s.length) (h2 : x.merge.mid ≤ x.second) (h3 : x.second ≤ x.merge.hi) (h4 : x.first ≤ x.laid) (h5 : x.laid ≤ s.length)
   (h6 : x.second = x.merge.hi → x.first < x.laid) (hA : x.first < x.laid → x.aside.getD x.first 0 < s.length) (hO : x.second < x.merge.hi → x.order.getD x.second 0 < s.length)
   (k : ∀ w', Same w w' → Holds w' (SoR b s (putS (keyS s x) x) n :: L) → K (.tuple #[]) w') : Cl Tryz.prog F.sorter_Sorter_put #[pt b] w K := by
 refine Tie.sorter_Sorter_put ?_; unfold Vcf.sorter_Sorter_put; have hlen := hz.len; have hal := hz.al; have hol := hz.ol
 have hzp : (zeroP Tryz.prog tPt).cells.toList = [iv 0, iv 0, iv 0] := by kernel_rfl
 have hto : toS x = x.merge.lo + x.first + x.second - x.merge.mid := rfl; obtain ⟨ov, cv, av, kv, H⟩ := SoR_open H; refine r_nc (r_fo ?_); refine r_ldA 0 H (Fp x.merge) rfl rfl rfl ?_; refine r_new H fun mb w1 S1 H1 => ?_; rw [hzp] at H1; refine r_stA 0 H1 (vs := Fp x.merge) rfl (by decide) rfl rfl fun w2 S2 H2 => ?_; replace H2 : Holds w2 (blk mb tPt (Fp x.merge) :: (soL b s ov cv av kv x n ++ L)) := H2; refine r_dr H2 fun w3 S3 H3 => ?_; have S := S1.trans (S2.trans S3); clear H H1 H2 S1 S2 S3; refine r_fo0 (r_ld 0 H3 rfl rfl ?_); refine r_nc (r_fo0 (r_ld 1 H3 rfl rfl ?_)); refine r_addN (by omega) ?_; refine r_nc (r_fo0 (r_ld 1 H3 rfl rfl ?_)); refine r_addN (by omega) ?_; refine r_fo0 (r_ld 0 H3 rfl rfl ?_); refine r_sub (by omega) (by omega) ?_; rw [show (((x.merge.lo + x.first + x.second : Nat) : Int)) - (x.merge.mid : Int) = ((toS x : Nat) : Int) by omega]
 -- the place is put
 refine r_join0 (fun w' => Same w w' ∧ ∃ (ov cv av kv : Value), Holds w' (blk mb tPt (Fp x.merge) :: (soL b s ov cv av kv (moveS (keyS s x) x) n ++ L))) ?_ ?_
 · rintro _ w4 ⟨S4, ov, cv, av, kv, H4⟩
   have hmm : (moveS (keyS s x) x).merge = x.merge := by unfold moveS; split <;> rfl
   refine r_fo0 (r_ld 0 H4 rfl rfl ?_); refine r_sub (by omega) (by omega) ?_; refine r_eql (r_ifE (fun h => ?_) fun h => ?_)
   · refine r_bd (v := .agg (Fp ⟨0, 0, 0⟩).toArray) (by kernel_rfl) ?_; refine r_nc (r_fo ?_); refine r_stA 1 H4 (vs := Fp ⟨0, 0, 0⟩) rfl (by simp [soC]) rfl rfl fun w5 S5 H5 => ?_
     have e : putS (keyS s x) x = { moveS (keyS s x) x with merge := ⟨0, 0, 0⟩ } := by unfold putS; rw [if_pos (by omega)]
     rw [e] at k; exact k _ (S4.trans S5) (SoR_close (ov := ov) (cv := cv) (av := av) (kv := kv) H5.drop)
   · have e : putS (keyS s x) x = moveS (keyS s x) x := by unfold putS; rw [if_neg (by omega)]
     rw [e] at k; exact k _ S4 (SoR_close H4.drop)
 refine r_join1 (fun t w' => Same w w' ∧ Holds w' (blk mb tPt (Fp x.merge) :: (soL b s ov cv av kv x n ++ L)) ∧ t = .bool (decide (fromA (keyS s x) x))) ?_ ?_
 · rintro _ _ w4 ⟨S4, H4, rfl⟩; refine r_ifD (fun h => ?_) fun h => ?_
   · have hf : x.first < x.laid := by
       rcases h with h | h
       · exact h6 h
       · exact h.1
     refine r_dr H4 fun w5 S5 H5 => ?_; refine r_nc (r_fo0 (r_ld 1 H5 rfl rfl ?_)); refine r_nc (r_fo0 (r_ld 1 H5 rfl rfl ?_)); refine r_nc (r_fo0 (r_ld 1 H5 rfl rfl ?_)); refine r_getS 4 H5 rfl (getD_at (by omega)) ?_; refine r_setS (j := toS x) 2 H5 (x.aside.getD x.first 0) rfl (by omega) rfl fun w6 S6 H6 => ?_; refine r_nc (r_fo0 (r_ld 1 H6 rfl rfl ?_)); refine r_add1N (by omega) ?_; refine r_nc (r_fo0 ?_); refine r_st 1 H6 rfl (by simp [soC]) rfl fun w7 S7 H7 => ?_; refine r_ke ⟨S4.trans (S5.trans (S6.trans S7)), ov, cv, av, kv, ?_⟩; unfold moveS; rw [if_pos h]; exact H7
   · have hf : x.second < x.merge.hi := by
       rcases Nat.lt_or_ge x.second x.merge.hi with g | g
       · exact g
       · exact absurd (.inl (by omega)) h
     refine r_dr H4 fun w5 S5 H5 => ?_; refine r_nc (r_fo0 (r_ld 1 H5 rfl rfl ?_)); refine r_nc (r_fo0 (r_ld 1 H5 rfl rfl ?_)); refine r_nc (r_fo0 (r_ld 1 H5 rfl rfl ?_)); refine r_getS 2 H5 rfl (getD_at (by omega)) ?_; refine r_setS (j := toS x) 2 H5 (x.order.getD x.second 0) rfl (by omega) rfl fun w6 S6 H6 => ?_; refine r_nc (r_fo0 (r_ld 1 H6 rfl rfl ?_)); refine r_add1N (by omega) ?_; refine r_nc (r_fo0 ?_); refine r_st 1 H6 rfl (by simp [soC]) rfl fun w7 S7 H7 => ?_; refine r_ke ⟨S4.trans (S5.trans (S6.trans S7)), ov, cv, av, kv, ?_⟩; unfold moveS; rw [if_neg h]; exact H7
 · refine r_dr H3 fun w4 S4 H4 => ?_; refine r_nc (r_fo0 (r_ld 1 H4 rfl rfl ?_)); refine r_fo0 (r_ld 0 H4 rfl rfl ?_); refine r_eql (r_ifE (fun h => ?_) fun h => ?_)
   · exact r_ke ⟨S.trans S4, H4, by rw [decide_eq_true (.inl (by omega))]⟩
   refine r_nc (r_fo0 (r_ld 1 H4 rfl rfl ?_)); refine r_nc (r_fo0 (r_ld 1 H4 rfl rfl ?_)); refine r_lss (r_ifD (fun h7 => ?_) fun h7 => ?_)
   · refine r_nc (r_fo0 (r_ld 1 H4 rfl rfl ?_)); refine r_nc (r_fo0 (r_ld 1 H4 rfl rfl ?_)); refine r_getS 4 H4 rfl (getD_at (by omega)) ?_; refine r_nc (r_fo0 (r_ld 1 H4 rfl rfl ?_)); refine r_nc (r_fo0 (r_ld 1 H4 rfl rfl ?_)); refine r_getS 2 H4 rfl (getD_at (by omega)) ?_
     have H5 : Holds w4 (soL b s ov cv av kv x n ++ (blk mb tPt (Fp x.merge) :: L)) := by have h_ := Holds.ord 6 [1, 2, 3, 4, 5, 0] H4 rfl; exact h_
     refine above_spec H5 hz (hA (by omega)) (hO (by omega)) fun w5 S5 H6 => ?_; refine r_not (r_ke ⟨S.trans (S4.trans S5), by have h_ := Holds.ord 6 [5, 0, 1, 2, 3, 4] H6 rfl; exact h_, ?_⟩); rw [show (!decide (klt (keyS s x (x.order.getD x.second 0)) (keyS s x (x.aside.getD x.first 0)))) = decide (fromA (keyS s x) x) from ?_]; rw [Bool.eq_iff_iff, Bool.not_eq_true', decide_eq_false_iff_not, decide_eq_true_iff]; unfold fromA
     constructor
     · exact fun z => .inr ⟨by omega, z⟩
     · rintro (z | z)
       · omega
       · exact z.2
   · refine r_ke ⟨S.trans S4, H4, ?_⟩
     rw [decide_eq_false (show ¬ fromA (keyS s x) x from fun z => by
       rcases z with z | z
       · omega
       · exact h7 (by have := z.1; omega))]
end S16
namespace S16
open Go.Mr Go.M18
variable {w : World} {L : List HProp} {K : Value → World → Prop} {b n : Nat} {s : List UInt8} {x : SS}
theorem begin_spec (H : Holds w (SoR b s x n :: L)) (hz : Sz s x) (hne : x.stack ≠ []) (hst : x.stack.length ≤ 100000000) (hp : ∀ p ∈ x.stack, p.lo ≤ p.hi ∧ p.hi ≤ 4000)
   (k : ∀ w', Same w w' → Holds w' (SoR b s (beginS x) n :: L) → K (.tuple #[]) w') : Cl Tryz.prog F.sorter_Sorter_begin #[pt b] w K := by
 refine Tie.sorter_Sorter_begin ?_; unfold Vcf.sorter_Sorter_begin
 have hzp : (zeroP Tryz.prog tPt).cells.toList = [iv 0, iv 0, iv 0] := by kernel_rfl
 obtain ⟨ov, cv, av, kv, H⟩ := SoR_open H
 cases hs : x.stack with
 | nil => exact absurd hs hne
 | cons p st =>
   rw [hs] at hst; simp only [List.length_cons] at hst; have hpb := hp p (by rw [hs]; exact List.mem_cons_self ..)
   have ej : beginS x = if p.hi - p.lo < 2 then { x with stack := st } else { x with stack := ⟨p.lo, 0, (p.lo + p.hi) / 2⟩ :: ⟨(p.lo + p.hi) / 2, 0, p.hi⟩ :: ⟨p.lo, (p.lo + p.hi) / 2, p.hi⟩ :: st } := by unfold beginS; rw [hs]
   have hrev : x.stack.reverse = st.reverse ++ [p] := by rw [hs, List.reverse_cons]
   have H0 : Holds w (blk b tSo (soC s ov cv av kv x n) :: SL nv tI ov x.order :: SL nv tI cv x.cls :: SL nv tI av x.aside :: RW Fp 3 tPt kv (st.reverse ++ [p]) :: L) := by rw [← hrev]; exact H
   have hget : (st.reverse ++ [p])[st.length]? = some p := by rw [List.getElem?_append_right (by simp), List.length_reverse, Nat.sub_self]; rfl
   have hll : (st.reverse ++ [p]).length = st.length + 1 := by simp
   clear H; refine r_dr H0 fun w1 S1 H1 => ?_; refine r_nc (r_fo0 (r_ld 0 H1 rfl rfl ?_)); refine r_nc (r_fo0 (r_ld 0 H1 rfl rfl ?_)); refine P35.r_lnN 4 H1 rfl ?_; rw [hll]; refine r_sub1N (by omega) (by omega) ?_; rw [Nat.add_sub_cancel]
   -- the block of the stack, for reads that stay
   obtain ⟨oa, m, sp, rfl, Ho⟩ := H1.openRW 4 rfl; obtain ⟨sb, rfl, hsp, Hb⟩ := Ho.rwb 4 rfl (.inl (by rw [hll]; omega)); have Hb' : Holds w1 (blk b tSo (soC s ov cv av (.slice (some ⟨sb, 0, none⟩) (st.reverse ++ [p]).length ((st.reverse ++ [p]).length + m)) x n) :: SL nv tI ov x.order :: SL nv tI cv x.cls :: SL nv tI av x.aside :: blk sb tPt (flatL Fp (st.reverse ++ [p]) ++ sp) :: L) := Hb
   have hcell : ((flatL Fp (st.reverse ++ [p]) ++ sp).drop (st.length * 3)).take 3 = Fp p := by
     have h1 := flatL_get (F := Fp) (k := 3) (fun _ => rfl) _ _ _ hget; have hlen := flatL_len (F := Fp) (k := 3) (fun _ => rfl) (st.reverse ++ [p]); rw [hll] at hlen; rw [List.drop_append_of_le_length (by omega), List.take_append_of_le_length (by rw [List.length_drop]; omega)]; exact h1
   refine r_ias0 (by rw [hll]; omega) ?_; refine r_ldA 4 Hb' (Fp p) rfl hcell rfl ?_; refine r_new Hb' fun pb w2 S2 H2 => ?_; rw [hzp] at H2; refine r_rk (r_ldA 5 H2 (Fp p) rfl hcell rfl rfl) (r_rk (r_lnl (by rw [hll])) (r_rk (r_ld 1 H2 rfl rfl rfl) (r_rk (r_ld 1 H2 rfl rfl rfl) ?_))); refine r_stA 0 H2 (vs := Fp p) rfl (by decide) rfl rfl fun w3 S3 H3 => ?_
   have H3' : Holds w3 (blk pb tPt (Fp p) :: blk b tSo (soC s ov cv av (.slice (some ⟨sb, 0, none⟩) (st.length + 1) (st.length + 1 + m)) x n) :: SL nv tI ov x.order :: SL nv tI cv x.cls :: SL nv tI av x.aside :: blk sb tPt (flatL Fp (st.reverse ++ [p]) ++ sp) :: L) := by
     have h : Holds w3 (blk pb tPt (Fp p) :: blk b tSo (soC s ov cv av (.slice (some ⟨sb, 0, none⟩) (st.reverse ++ [p]).length ((st.reverse ++ [p]).length + m)) x n) :: SL nv tI ov x.order :: SL nv tI cv x.cls :: SL nv tI av x.aside :: blk sb tPt (flatL Fp (st.reverse ++ [p]) ++ sp) :: L) := H3; rw [hll] at h; exact h
   refine r_dr H3' fun w4 S4 H4 => ?_; have S := S1.trans (S2.trans (S3.trans S4)); clear H0 H1 Ho Hb Hb' H2 H3 H3' S1 S2 S3 S4; refine r_nc (r_fo0 (r_ld 1 H4 rfl rfl ?_)); refine r_nc (r_fo0 (r_ld 1 H4 rfl rfl ?_)); refine r_lnl ?_; refine r_sub1N (a := st.length + 1) (by omega) (by omega) ?_; rw [Nat.add_sub_cancel]; refine r_ssl0 (by omega) ?_; refine r_nc (r_fo0 ?_); refine r_st 1 H4 rfl (by simp [soC]) rfl fun w5 S5 H5 => ?_
   have H6 : Holds w5 (blk pb tPt (Fp p) :: blk b tSo (soC s ov cv av (.slice (some ⟨sb, 0, none⟩) st.length (st.length + 1 + m)) x n) :: SL nv tI ov x.order :: SL nv tI cv x.cls :: SL nv tI av x.aside :: RW Fp 3 tPt (.slice (some ⟨sb, 0, none⟩) st.length (st.length + 1 + m)) st.reverse :: L) := by
     have h := H5.at 5 rfl (Q := RW Fp 3 tPt (.slice (some ⟨sb, 0, none⟩) st.length (st.length + 1 + m)) st.reverse) fun g hg => by
       refine ⟨some ⟨sb, 0, none⟩, m + 1, Fp p ++ sp, by rw [List.length_reverse, show st.length + 1 + m = st.length + (m + 1) by omega], rfl, rfl, by rw [List.length_append, hsp]; show 3 + m * 3 = _; omega, ?_⟩; have hg' : blk sb tPt (flatL Fp (st.reverse ++ [p]) ++ sp) g := hg; rw [flatL_app, List.append_assoc] at hg'
       have e1 : flatL Fp [p] = Fp p := by simp [flatL]
       rw [e1] at hg'; exact hg'
     exact h
   clear H4 H5; replace S := S.trans S5; refine r_fo0 (r_ld 0 H6 rfl rfl ?_); refine r_fo0 (r_ld 0 H6 rfl rfl ?_); refine r_sub (by omega) (by omega) ?_; refine r_lss (r_ifD (fun h => ?_) fun h => ?_)
   · rw [if_pos (by omega)] at ej; rw [ej] at k; exact k _ S (SoR_close (ov := ov) (cv := cv) (av := av) H6.drop)
   rw [if_neg (by omega)] at ej; rw [ej] at k; refine r_fo0 (r_ld 0 H6 rfl rfl ?_); refine r_fo0 (r_ld 0 H6 rfl rfl ?_); refine r_addN (by omega) ?_; refine r_quo (by omega) (by omega) (by omega) ?_; rw [show ((p.lo + p.hi : Nat) : Int) / 2 = (((p.lo + p.hi) / 2 : Nat) : Int) by omega]; generalize (p.lo + p.hi) / 2 = mid at *; refine r_dr H6 fun w7 S7 H7 => ?_; refine r_nc (r_fo0 (r_ld 1 H7 rfl rfl ?_)); refine r_fo0 (r_ld 0 H7 rfl rfl ?_); refine r_fo0 (r_ld 0 H7 rfl rfl ?_); refine r_bd (v := .agg (Fp ⟨p.lo, mid, p.hi⟩).toArray) (by kernel_rfl) ?_; refine r_fo0 (r_ld 0 H7 rfl rfl ?_); refine r_bd (v := .agg (Fp ⟨mid, 0, p.hi⟩).toArray) (by kernel_rfl) ?_; refine r_fo0 (r_ld 0 H7 rfl rfl ?_); refine r_bd (v := .agg (Fp ⟨p.lo, 0, mid⟩).toArray) (by kernel_rfl) ?_; refine r_bsK (e := tPt) (Fp ⟨p.lo, mid, p.hi⟩ ++ Fp ⟨mid, 0, p.hi⟩ ++ Fp ⟨p.lo, 0, mid⟩) H7 (by kernel_rfl) fun nb w8 S8 H8 => ?_; refine r_rk (r_ld 2 H8 rfl rfl rfl) ?_; refine r_apN (F := Fp) (xs := st.reverse) (ys := [⟨p.lo, mid, p.hi⟩, ⟨mid, 0, p.hi⟩, ⟨p.lo, 0, mid⟩]) H8 6 0 rfl rfl (by omega) rfl rfl (fun _ => rfl) Fp_sg (by simp; omega) (by simp) (by decide) fun kv2 w9 S9 H9 => ?_; refine r_nc (r_fo0 ?_)
   have hsg : sg kv2 = true := by
     obtain ⟨oa2, m2, sp2, rfl, _⟩ := H9.openRW 6 rfl; rfl
   refine r_st 2 H9 rfl (by simp [soC]) hsg fun w10 S10 H10 => ?_
   have H11 : Holds w10 (soL b s ov cv av kv2 { x with stack := ⟨p.lo, 0, mid⟩ :: ⟨mid, 0, p.hi⟩ :: ⟨p.lo, mid, p.hi⟩ :: st } n ++ L) := by
     have h := H10.drop.drop; unfold soL; simp only [List.reverse_cons, List.append_assoc]; exact h
   exact k _ (S.trans (S7.trans (S8.trans (S9.trans S10)))) (SoR_close H11)
theorem pass_spec (H : Holds w (SoR b s x n :: L)) (hz : Sz s x) (hst : x.stack.length ≤ 100000000) (h0 : 0 < s.length)
   (k : ∀ w', Same w w' → Holds w' (SoR b s (passS s.length x) n :: L) → K (.tuple #[]) w') : Cl Tryz.prog F.sorter_Sorter_pass #[pt b] w K := by
 refine Tie.sorter_Sorter_pass ?_; unfold Vcf.sorter_Sorter_pass; have hlen := hz.len; have hol := hz.ol; have hre := hz.reach; obtain ⟨ov, cv, av, kv, H⟩ := SoR_open H; refine r_nc (r_fo0 (r_ld 0 H rfl rfl ?_)); refine r_nc (r_fo0 (r_ld 0 H rfl rfl ?_))
 have hsg : ∀ {v : Value} {l : List Nat} {i : Nat}, (soL b s ov cv av kv x n ++ L)[i]? = some (SL nv tI v l) → sg v = true := fun hi => by
   obtain ⟨oa, sp, rfl, _⟩ := H.open _ hi; rfl
 refine r_nc (r_fo0 ?_); refine r_st 0 H rfl (by simp [soC]) (hsg (i := 3) rfl) fun w1 S1 H1 => ?_; refine r_nc (r_fo0 ?_); refine r_st 0 H1 rfl (by simp [soC]) (hsg (i := 2) rfl) fun w2 S2 H2 => ?_; refine r_nc (r_fo0 ?_); refine r_st 0 H2 rfl (by simp [soC]) rfl fun w3 S3 H3 => ?_
 have H4 : Holds w3 (soL b s ov av cv kv { x with cls := x.aside, aside := x.cls, ranked := 0 } n ++ L) := by
   have h_ := Holds.ord 5 [0, 1, 3, 2, 4] H3 rfl; exact h_
 have S := S1.trans (S2.trans S3); clear H H1 H2 H3 S1 S2 S3 hsg; refine r_join1 (fun t w' => Same w w' ∧ Holds w' (soL b s ov av cv kv { x with cls := x.aside, aside := x.cls, ranked := 0 } n ++ L) ∧ t = .bool (decide (x.last = s.length - 1 ∨ s.length ≤ x.reach))) ?_ ?_
 rotate_left
 · refine r_dr H4 fun w4 S4 H5 => ?_; refine r_nc (r_fo0 (r_ld 0 H5 rfl rfl ?_)); refine r_nc (r_fo0 (r_ld 0 H5 rfl rfl ?_)); refine r_lnS 1 H5 rfl ?_; rw [hol]; refine r_sub1N (by omega) (by omega) ?_; refine r_eql (r_ifE (fun h => ?_) fun h => ?_)
   · have h' : ((x.last : Nat) : Int) = ((s.length - 1 : Nat) : Int) := h; exact r_ke ⟨S.trans S4, H5, by rw [decide_eq_true (.inl (by omega))]⟩
   · have h' : ¬ ((x.last : Nat) : Int) = ((s.length - 1 : Nat) : Int) := h; refine r_nc (r_fo0 (r_ld 0 H5 rfl rfl ?_)); refine r_nc (r_fo0 (r_ld 0 H5 rfl rfl ?_)); refine r_lnS 1 H5 rfl ?_; rw [hol]; refine r_geq (r_ke ⟨S.trans S4, H5, ?_⟩); rw [show decide (((s.length : Nat) : Int) ≤ ((x.reach : Nat) : Int)) = decide (x.last = s.length - 1 ∨ s.length ≤ x.reach) from decide_eq_decide.2 (by omega)]
 rintro _ _ w4 ⟨S4, H5, rfl⟩; refine r_ifD (fun h => ?_) fun h => ?_
 · refine r_nc (r_fo0 ?_); refine r_st 0 H5 rfl (by simp [soC]) rfl fun w5 S5 H6 => ?_
   have e : passS s.length x = { x with cls := x.aside, aside := x.cls, ranked := 0, done := true } := by unfold passS; rw [if_pos h]
   rw [e] at k; exact k _ (S4.trans S5) (SoR_close (ov := ov) (cv := av) (av := cv) (kv := kv) H6)
 · have e : passS s.length x = { x with cls := x.aside, aside := x.cls, ranked := 0, reach := max 1 (2 * x.reach), stack := ⟨0, 0, s.length⟩ :: x.stack } := by unfold passS; rw [if_neg h]
   rw [e] at k; refine r_nc (r_fo0 (r_ld 0 H5 rfl rfl ?_)); refine r_mulE (((2 * x.reach : Nat)) : Int) (by show 2 * ((x.reach : Nat) : Int) = _; omega) (by omega) (by omega) ?_; refine r_max ?_; rw [show max (1 : Int) ((2 * x.reach : Nat) : Int) = ((max 1 (2 * x.reach) : Nat) : Int) by omega]; refine r_nc (r_fo0 ?_); refine r_st 0 H5 rfl (by simp [soC]) rfl fun w5 S5 H6 => ?_; replace H6 : Holds w5 (soL b s ov av cv kv { x with cls := x.aside, aside := x.cls, ranked := 0, reach := max 1 (2 * x.reach) } n ++ L) := H6; refine r_dr H6 fun w6 S6 H7 => ?_; refine r_nc (r_fo0 (r_ld 0 H7 rfl rfl ?_)); refine r_nc (r_fo0 (r_ld 0 H7 rfl rfl ?_)); refine r_lnS 1 H7 rfl ?_; rw [hol]; refine r_bd (v := .agg (Fp ⟨0, 0, s.length⟩).toArray) (by kernel_rfl) ?_; refine r_bsK (e := tPt) (Fp ⟨0, 0, s.length⟩) H7 (by kernel_rfl) fun nb w8 S8 H8 => ?_; refine r_rk (r_ld 1 H8 rfl rfl rfl) ?_; refine r_apN (F := Fp) (xs := x.stack.reverse) (ys := [⟨0, 0, s.length⟩]) H8 5 0 rfl rfl (by omega) rfl rfl (fun _ => rfl) Fp_sg (by rw [List.length_reverse]; simp; omega) (by simp) (by decide) fun kv2 w9 S9 H9 => ?_; refine r_nc (r_fo0 ?_)
   have hsg : sg kv2 = true := by
     obtain ⟨oa2, m2, sp2, rfl, _⟩ := H9.openRW 5 rfl; rfl
   refine r_st 1 H9 rfl (by simp [soC]) hsg fun w10 S10 H10 => ?_
   have H11 : Holds w10 (soL b s ov av cv kv2 { x with cls := x.aside, aside := x.cls, ranked := 0, reach := max 1 (2 * x.reach), stack := ⟨0, 0, s.length⟩ :: x.stack } n ++ L) := by
     have h := H10.drop; unfold soL; simp only [List.reverse_cons]; exact h
   exact k _ (S4.trans (S5.trans (S6.trans (S8.trans (S9.trans S10))))) (SoR_close H11)
theorem rank_spec (H : Holds w (SoR b s x n :: L)) (hz : Sz s x) (hst : x.stack.length ≤ 100000000) (hr : x.ranked < s.length) (hl : 0 < x.ranked → x.last ≤ 8000) (hO : ∀ a ∈ x.order, a < s.length)
   (k : ∀ w', Same w w' → Holds w' (SoR b s (rankS (keyS s x) s.length x) n :: L) → K (.tuple #[]) w') : Cl Tryz.prog F.sorter_Sorter_rank #[pt b] w K := by
 refine Tie.sorter_Sorter_rank ?_; unfold Vcf.sorter_Sorter_rank; have hlen := hz.len; have hol := hz.ol; have hal := hz.al; obtain ⟨ov, cv, av, kv, H⟩ := SoR_open H; refine r_nc (r_fo0 (r_ld 0 H rfl rfl ?_)); refine r_join0 (fun w' => Same w w' ∧ Holds w' (soL b s ov cv av kv { x with last := lastN (keyS s x) x } n ++ L)) ?_ ?_
 · rintro _ w1 ⟨S1, H1⟩; refine r_dr H1 fun w2 S2 H2 => ?_; refine r_nc (r_fo0 (r_ld 0 H2 rfl rfl ?_)); refine r_nc (r_fo0 (r_ld 0 H2 rfl rfl ?_)); refine r_getS 1 H2 rfl (getD_at (l := x.order) (i := x.ranked) (by omega)) ?_; refine r_nc (r_fo0 (r_ld 0 H2 rfl rfl ?_)); have hm := hO _ (getD_mem (l := x.order) (i := x.ranked) (by omega)); refine r_setS (j := x.order.getD x.ranked 0) 3 H2 (lastN (keyS s x) x) rfl (by show _ < x.aside.length; omega) rfl fun w3 S3 H3 => ?_; refine r_nc (r_fo0 (r_ld 0 H3 rfl rfl ?_)); refine r_add1N (a := x.ranked) (by omega) ?_; refine r_nc (r_fo0 ?_); refine r_st 0 H3 rfl (by simp [soC]) rfl fun w4 S4 H4 => ?_; replace H4 : Holds w4 (soL b s ov cv av kv (rank1 (keyS s x) x) n ++ L) := H4; refine r_dr H4 fun w5 S5 H5 => ?_; refine r_nc (r_fo0 (r_ld 0 H5 rfl rfl ?_)); refine r_nc (r_fo0 (r_ld 0 H5 rfl rfl ?_)); refine r_lnS 1 H5 rfl ?_; refine r_eql (r_ifE (fun h => ?_) fun h => ?_)
   · have hq : x.ranked + 1 = s.length := by
       have h' : ((x.ranked + 1 : Nat) : Int) = ((x.order.length : Nat) : Int) := h; omega
     refine pass_spec (SoR_close H5) ⟨hlen, hz.cl, by show (List.set _ _ _).length = _; rw [List.length_set]; exact hal, hol, hz.reach⟩ hst (by omega) fun w6 S6 H6 => ?_
     have e : rankS (keyS s x) s.length x = passS s.length (rank1 (keyS s x) x) := by unfold rankS; rw [if_pos hq]
     rw [e] at k; exact k _ (S1.trans (S2.trans (S3.trans (S4.trans (S5.trans S6))))) H6
   · have hq : ¬ x.ranked + 1 = s.length := by
       have h' : ¬ ((x.ranked + 1 : Nat) : Int) = ((x.order.length : Nat) : Int) := h; omega
     have e : rankS (keyS s x) s.length x = rank1 (keyS s x) x := by unfold rankS; rw [if_neg hq]
     rw [e] at k; exact k _ (S1.trans (S2.trans (S3.trans (S4.trans S5)))) (SoR_close H5)
 · refine r_eql (r_ifE (fun h => ?_) fun h => ?_)
   · refine r_nc (r_fo0 ?_); refine r_st 0 H rfl (by simp [soC]) rfl fun w1 S1 H1 => ?_; refine r_ke ⟨S1, ?_⟩
     have e : lastN (keyS s x) x = 0 := by unfold lastN; rw [if_pos (by omega)]
     rw [e]; exact H1
   · refine r_dr H fun w1 S1 H1 => ?_; refine r_nc (r_fo0 (r_ld 0 H1 rfl rfl ?_)); refine r_getS 1 H1 rfl (getD_at (by omega)) ?_; refine r_nc (r_fo0 (r_ld 0 H1 rfl rfl ?_)); refine r_sub1N (by omega) (by omega) ?_; refine r_getS 1 H1 rfl (getD_at (by omega)) ?_; refine above_spec H1 hz (hO _ (getD_mem (by omega))) (hO _ (getD_mem (by omega))) fun w2 S2 H2 => ?_; refine r_ifD (fun h2 => ?_) fun h2 => ?_
     · have hl' := hl (by omega); refine r_nc (r_fo0 (r_ld 0 H2 rfl rfl ?_)); refine r_add1N (by omega) ?_; refine r_nc (r_fo0 ?_); refine r_st 0 H2 rfl (by simp [soC]) rfl fun w3 S3 H3 => ?_; refine r_ke ⟨S1.trans (S2.trans S3), ?_⟩
       have e : lastN (keyS s x) x = x.last + 1 := by unfold lastN; rw [if_neg (by omega), if_pos h2]
       rw [e]; exact H3
     · refine r_ke ⟨S1.trans S2, ?_⟩
       have e : lastN (keyS s x) x = x.last := by unfold lastN; rw [if_neg (by omega), if_neg h2]
       rw [e]; exact H2
end S16
namespace S16
open Go.Mr Go.M18
variable {w : World} {L : List HProp} {K : Value → World → Prop} {b n : Nat} {s : List UInt8} {x : SS}
theorem step_spec (H : Holds w (SoR b s x n :: L)) (hI : Inv s x) (hlen : s.length ≤ 4000) (hr : x.reach ≤ 2 * s.length) (hl : ldS s.length x ≤ 4 * (s.length * s.length) + s.length) (hn : n ≤ 1000000000000)
   (k : ∀ w', Same w w' → Holds w' (SoR b s (stepS (keyS s x) s.length x) (n + 1) :: L) → K (.tuple #[]) w') : Cl Tryz.prog F.sorter_Sorter_step #[pt b] w K := by
 refine Tie.sorter_Sorter_step ?_; unfold Vcf.sorter_Sorter_step; have hsl := stack_len hI.ph hl hlen; refine join_spec H (by omega) fun w1 S1 H1 => ?_; have hj := join_ph hI.bs hI.ph
 have hjk : keyS s (joinS x) = keyS s x := by
   unfold joinS; split
   · rfl
   · split <;> rfl
 have hjs : (joinS x).stack.length ≤ x.stack.length := by
   unfold joinS; split
   · exact Nat.le_refl _
   · rename_i e; split
     · rw [e]; simp
     · exact Nat.le_refl _
 have hjr := join_reach x; unfold stepS at k; generalize joinS x = y at *; obtain ⟨hb, hp, hm⟩ := hj; rw [← hjk] at hp k; have hz : Sz s y := ⟨hlen, hb.cl, hb.al, hb.ol, by omega⟩; have hol := hb.ol; have hal := hb.al; have hwf := stack_wf hp; refine r_join0 (fun w' => Same w w' ∧ Holds w' (SoR b s (restS (keyS s y) s.length y) n :: L)) ?_ ?_
 · rintro _ w2 ⟨S2, H2⟩; obtain ⟨ov, cv, av, kv, H3⟩ := SoR_open H2; refine r_nc (r_fo0 (r_ld 0 H3 rfl rfl ?_)); refine r_add1N (by omega) ?_; refine r_nc (r_fo0 ?_); refine r_st 0 H3 rfl (by simp [soC]) rfl fun w3 S3 H4 => ?_; exact k _ (S2.trans S3) (SoR_close (ov := ov) (cv := cv) (av := av) (kv := kv) H4)
 refine r_join1 (fun t w' => Same w w' ∧ Holds w' (SoR b s y n :: L) ∧ t = .bool (decide (0 < y.merge.hi ∧ y.laid < y.merge.mid - y.merge.lo))) ?_ ?_
 · rintro _ _ w2 ⟨S2, H2, rfl⟩; refine r_ifD (fun h => ?_) fun h => ?_
   · have e : restS (keyS s y) s.length y = layS y := by unfold restS; rw [if_pos h]
     rw [e]; rcases hp with hp | ⟨R, hp⟩
     · have := hp.none; omega
     have m3 := hp.m3; have m2 := hp.m2; refine lay_spec H2 hz (by omega) (by omega) fun w3 S3 H3 => ?_; exact r_ke ⟨S2.trans S3, H3⟩
   obtain ⟨ov, cv, av, kv, H3⟩ := SoR_open H2; refine r_nc (r_fo (r_fo (r_ld 0 H3 rfl rfl ?_))); refine r_gtr (r_ifD (fun h2 => ?_) fun h2 => ?_)
   · have e : restS (keyS s y) s.length y = putS (keyS s y) y := by unfold restS; rw [if_neg h, if_pos (by omega)]
     rw [e]; rcases hp with hp | ⟨R, hp⟩
     · have := hp.none; omega
     have m3 := hp.m3; have m2 := hp.m2; have m1 := hp.m1; have hlay := hp.lay
     have hla : y.laid = y.merge.mid - y.merge.lo := by omega
     obtain ⟨l1, l2, l3, l4, _⟩ := hp.late hla; have hto : toS y = y.merge.lo + y.first + y.second - y.merge.mid := rfl; refine put_spec H2 hz ⟨m3, by omega, by omega, by omega⟩ (by omega) l2 l3 l1 (by omega) (fun _ => by omega) (fun hf => ?_) (fun hs => hb.om _ (getD_mem (by omega))) fun w3 S3 H4 => ?_
     · refine hp.asm _ ?_
       rw [show y.aside.getD y.first 0 = (seg y.aside 0 y.laid).getD y.first 0 from by
         unfold seg
         rw [List.drop_zero, Nat.sub_zero, List.getD_eq_getElem?_getD, List.getD_eq_getElem?_getD, List.getElem?_take_of_lt hf]]
       exact getD_mem (by rw [seg_len (by omega)]; omega)
     · exact r_ke ⟨S2.trans S3, H4⟩
   refine r_nc (r_fo0 (r_ld 0 H3 rfl rfl ?_)); refine P35.r_lnN 4 H3 rfl ?_; rw [List.length_reverse]
   have hph : PhA (keyS s y) s.length y := by
     rcases hp with hp | ⟨R, hp⟩
     · exact hp
     · have := hp.m2; omega
   refine r_gtr (r_ifD (fun h3 => ?_) fun h3 => ?_)
   · have hne : y.stack ≠ [] := fun e => by rw [e] at h3; simp at h3
     have e : restS (keyS s y) s.length y = beginS y := by unfold restS; rw [if_neg h, if_neg (by omega), if_pos hne]
     rw [e]; refine begin_spec H2 hz hne (by omega) (fun p hpp => by have := hwf p hpp; omega) fun w3 S3 H4 => ?_; exact r_ke ⟨S2.trans S3, H4⟩
   · have he : y.stack = [] := List.eq_nil_of_length_eq_zero (by omega)
     have e : restS (keyS s y) s.length y = rankS (keyS s y) s.length y := by unfold restS; rw [if_neg h, if_neg (by omega), if_neg (by simpa using he)]
     rw [e]; have hkn := hph.rkn; refine rank_spec H2 hz (by omega) hkn (fun hr0 => ?_) hb.om fun w3 S3 H4 => ?_
     · rw [hph.lst hr0]; have := rk_bound (k := keyS s y) (o := y.order) (y.ranked - 1); omega
     · exact r_ke ⟨S2.trans S3, H4⟩
 · refine r_dr H1 fun w2 S2 H2 => ?_; obtain ⟨ov, cv, av, kv, H3⟩ := SoR_open H2; have close : Holds w2 (SoR b s y n :: L) := H2; refine r_nc (r_fo (r_fo (r_ld 0 H3 rfl rfl ?_))); refine r_gtr (r_ifD (fun h => ?_) fun h => ?_)
   · have hm12 : y.merge.lo ≤ y.merge.mid ∧ y.merge.mid ≤ s.length := by
       rcases hp with hp | ⟨R, hp⟩
       · have := hp.none; omega
       · have := hp.m1; have := hp.m2; have := hp.m3; omega
     refine r_nc (r_fo0 (r_ld 0 H3 rfl rfl ?_)); refine r_nc (r_fo (r_fo (r_ld 0 H3 rfl rfl ?_))); refine r_nc (r_fo (r_fo (r_ld 0 H3 rfl rfl ?_))); refine r_sub (by omega) (by omega) ?_; refine r_lss (r_ke ⟨S1.trans S2, H2, ?_⟩); rw [show decide (((y.laid : Nat) : Int) < ((y.merge.mid : Nat) : Int) - ((y.merge.lo : Nat) : Int)) = decide (0 < y.merge.hi ∧ y.laid < y.merge.mid - y.merge.lo) from decide_eq_decide.2 (by omega)]
   · refine r_ke ⟨S1.trans S2, H2, ?_⟩; rw [decide_eq_false (show ¬ (0 < y.merge.hi ∧ y.laid < y.merge.mid - y.merge.lo) from fun e => by omega)]
def Fini (s : List UInt8) (x : SS) : Prop := x.done = true ∧ x.order = sortP s s.length
theorem Done_spec (H : Holds w (SoR b s x n :: L)) (k : K (.bool x.done) w) : Cl Tryz.prog F.sorter_Sorter_Done #[pt b] w K := by
 refine Tie.sorter_Sorter_Done ?_; unfold Vcf.sorter_Sorter_Done; obtain ⟨ov, cv, av, kv, H⟩ := SoR_open H; exact r_bnST (r_vt (r_nc (r_fo0 (r_ld 0 H rfl rfl k))))
theorem Order_spec (H : Holds w (SoR b s x n :: L)) (hf : Fini s x) (hlen : s.length ≤ 4000) (k : ∀ v w', Same w w' → Holds w' (SL nv tI v (sortP s s.length) :: SoR b s x n :: L) → K v w') : Cl Tryz.prog F.sorter_Sorter_Order #[pt b] w K := by
 refine Tie.sorter_Sorter_Order ?_; unfold Vcf.sorter_Sorter_Order; refine Done_spec H ?_; rw [hf.1]; refine r_notT (r_vf ?_); obtain ⟨ov, cv, av, kv, H⟩ := SoR_open H; refine r_nc (r_fo0 (r_ld 0 H rfl rfl ?_)); refine Clone_spec H 1 rfl (by rw [hf.2, sortP_len]; omega) fun v w1 S1 H1 => ?_; rw [hf.2] at H1; refine k v w1 S1 ?_
 have h2 : Holds w1 ((soL b s ov cv av kv x n ++ SL nv tI v (sortP s s.length) :: L)) := by
   have h_ := Holds.ord 6 [1, 2, 3, 4, 5, 0] H1 rfl; exact h_
 exact (SoR_close h2).swap
theorem Step_spec (H : Holds w (SoR b s x 0 :: L)) (hx : Fini s x ∨ (Inv s x ∧ x.reach ≤ 2 * s.length ∧ ldS s.length x ≤ 4 * (s.length * s.length) + s.length ∧ mu s.length x ≤ 300000000000)) (hlen : s.length ≤ 4000)
   (k : ∀ y m w', Fini s y → m ≤ 300000000000 → Same w w' → Holds w' (SoR b s y m :: L) → K (nv m) w') : Cl Tryz.prog F.sorter_Sorter_Step #[pt b, iv 1099511627776] w K := by
 refine Tie.sorter_Sorter_Step ?_; unfold Vcf.sorter_Sorter_Step; refine r_bnSF (r_vf ?_); obtain ⟨ov, cv, av, kv, H0⟩ := SoR_open H; refine r_nc (r_fo0 (r_ld 0 H0 rfl rfl ?_)); clear H0 ov cv av kv
 refine r_loop0n (fun j w' => ∃ (y : SS) (m : Nat), m + j ≤ 300000000000 ∧ Same w w' ∧ Holds w' (SoR b s y m :: L) ∧ (Fini s y ∨ (j = mu s.length y ∧ Inv s y ∧ y.reach ≤ 2 * s.length ∧ ldS s.length y ≤ 4 * (s.length * s.length) + s.length)))
   (if x.done = true then 0 else mu s.length x) ?_ ?_
 · rcases hx with hx | ⟨h1, h2, h3, h4⟩
   · rw [if_pos hx.1]; exact ⟨x, 0, by omega, .refl _, H, .inl hx⟩
   · rw [if_neg (by rw [h1.bs.nd]; exact Bool.false_ne_true)]; exact ⟨x, 0, by omega, .refl _, H, .inr ⟨rfl, h1, h2, h3⟩⟩
 clear H hx; rintro _ j w1 _ ⟨y, m, hm, S1, H1, hy⟩ hgo; obtain ⟨ov, cv, av, kv, H2⟩ := SoR_open H1
 have hd : y.done = true → Fini s y := fun e => by
   rcases hy with hy | ⟨_, hy, _⟩
   · exact hy
   · rw [hy.bs.nd] at e; cases e
 refine r_join1 (fun t w' => w1 = w' ∧ t = .bool (!y.done)) ?_ ?_
 · rintro _ _ _ ⟨rfl, rfl⟩
   cases hdn : y.done with
   | true =>
     refine r_vf ?_; refine r_nc (r_fo0 (r_ld 0 H2 rfl rfl ?_)); refine r_sub (by omega) (by omega) ?_; rw [show ((m : Nat) : Int) - ((0 : Nat) : Int) = ((m : Nat) : Int) by omega]; exact k y m _ (hd hdn) (by omega) S1 H1
   | false =>
     refine r_vt ?_; rcases hy with hy | ⟨hj, hI, hr, hl⟩
     · rw [hy.1] at hdn; cases hdn
     refine step_spec H1 hI hlen hr hl (by omega) fun w2 S2 H3 => ?_; obtain ⟨h5, h6⟩ := step_ok hI; refine r_ke ?_; rcases h6 with h6 | h6
     · refine hgo 0 _ ?_ ⟨_, m + 1, ?_, S1.trans S2, H3, .inl h6⟩
       · omega
       · omega
     · obtain ⟨h7, h8⟩ := step_load hI hl hr h6.bs.nd; refine hgo (mu s.length (stepS (keyS s y) s.length y)) _ (by omega) ⟨_, m + 1, by omega, S1.trans S2, H3, .inr ⟨rfl, h6, h8, h7⟩⟩
 · refine r_nc (r_fo0 (r_ld 0 H2 rfl rfl ?_))
   cases hdn : y.done with
   | true => exact r_notT (r_vf (r_ke ⟨rfl, rfl⟩))
   | false =>
     refine r_notF (r_vt ?_); refine r_nc (r_fo0 (r_ld 0 H2 rfl rfl ?_)); refine r_sub (by omega) (by omega) ?_; exact r_lss (r_ke ⟨rfl, by rw [decide_eq_true (by omega)]; rfl⟩)
def startD (n : Nat) : SS := { Go.Mr.start n with done := decide (n < 2) }
theorem startD_ok (h0 : s ≠ []) (hlen : s.length ≤ 4000) : Fini s (startD s.length) ∨ (Inv s (startD s.length) ∧ (startD s.length).reach ≤ 2 * s.length ∧ ldS s.length (startD s.length) ≤ 4 * (s.length * s.length) + s.length ∧ mu s.length (startD s.length) ≤ 300000000000) := by
 have hpos := List.length_pos_iff.2 h0; rcases Nat.lt_or_ge s.length 2 with h | h
 · refine .inl ⟨decide_eq_true h, ?_⟩; show List.range s.length = _; rw [show s.length = 1 by omega]; rfl
 · refine .inr ?_
   have e : startD s.length = Go.Mr.start s.length := by unfold startD; rw [decide_eq_false (by omega)]; rfl
   rw [e]; exact ⟨start_inv h, Nat.zero_le _, Nat.le_of_eq load_start, mu_start hlen⟩
theorem New_spec (H : Holds w L) (h0 : s ≠ []) (hlen : s.length ≤ 4000) (k : ∀ b w', Same w w' → Holds w' (SoR b s (startD s.length) 0 :: L) → K (.tuple #[pt b, iv 0]) w') : Cl Tryz.prog F.sorter_New #[St_ s] w K := by
 refine Tie.sorter_New ?_; unfold Vcf.sorter_New; have hpos := List.length_pos_iff.2 h0
 have hsz : (⟨s.toArray⟩ : ByteArray).size = s.length := by simp [ByteArray.size]
 refine r_lns ?_; rw [hsz]; refine r_gtr (r_vfD (by omega) ?_)
 refine r_join1 (fun x w' => ∃ (b b1 b2 b3 : Nat), x = pt b ∧ Same w w' ∧ Holds w' (blk b tSo [St_ s, .slice (some ⟨b1, 0, none⟩) s.length s.length, .slice (some ⟨b2, 0, none⟩) s.length s.length, .slice (some ⟨b3, 0, none⟩) s.length s.length, nv 0, .slice none 0 0, nv 0, nv 0, nv 0, nv 0, nv 0, nv 0, nv 0, nv 0, nv 0, .bool (decide (s.length < 2))] ::
     SL nv tI (.slice (some ⟨b1, 0, none⟩) s.length s.length) (List.replicate s.length 0) :: SL nv tI (.slice (some ⟨b2, 0, none⟩) s.length s.length) (List.replicate s.length 0) :: SL nv tI (.slice (some ⟨b3, 0, none⟩) s.length s.length) (List.replicate s.length 0) :: L)) ?_ ?_
 · rintro _ _ w1 ⟨b, b1, b2, b3, rfl, S1, H1⟩; refine r_nc (r_fo0 (r_ld 0 H1 rfl rfl ?_)); refine r_lnl ?_
   refine r_loop1 (fun q w' => ∃ u : Nat, q = nv u ∧ u ≤ s.length ∧ Same w w' ∧ Holds w' (blk b tSo [St_ s, .slice (some ⟨b1, 0, none⟩) s.length s.length, .slice (some ⟨b2, 0, none⟩) s.length s.length, .slice (some ⟨b3, 0, none⟩) s.length s.length, nv 0, .slice none 0 0, nv 0, nv 0, nv 0, nv 0, nv 0, nv 0, nv 0, nv 0, nv 0, .bool (decide (s.length < 2))] ::
     SL nv tI (.slice (some ⟨b1, 0, none⟩) s.length s.length) (filled (List.range s.length) 0 s.length u) :: SL nv tI (.slice (some ⟨b2, 0, none⟩) s.length s.length) (List.replicate s.length 0) :: SL nv tI (.slice (some ⟨b3, 0, none⟩) s.length s.length) (List.replicate s.length 0) :: L)) (fun q _ => s.length - (RowKit.intOf q).toNat)
     ⟨0, rfl, Nat.zero_le _, S1, by rw [filled_zero]; exact H1⟩ ?_
   clear H1 S1; rintro _ _ w2 ⟨u, rfl, hu, S2, H2⟩; refine r_lss (r_ifD (fun h => ?_) fun h => ?_)
   · have hlt : u < s.length := by omega
     refine r_nc (r_fo0 (r_ld 0 H2 rfl rfl ?_)); refine r_setS (j := u) 1 H2 u rfl (by rw [filled_len (by omega) (by simp)]; exact hlt) rfl fun w3 S3 H3 => ?_; refine r_add1N (by omega) (r_ke ⟨⟨u + 1, rfl, hlt, S2.trans S3, ?_⟩, ?_⟩)
     · have e := filled_set (xs := List.range s.length) (z := 0) (x := u) hlt (by simp) (by simp [hlt])
       have h3 : Holds w3 (blk b tSo [St_ s, .slice (some ⟨b1, 0, none⟩) s.length s.length, .slice (some ⟨b2, 0, none⟩) s.length s.length, .slice (some ⟨b3, 0, none⟩) s.length s.length, nv 0, .slice none 0 0, nv 0, nv 0, nv 0, nv 0, nv 0, nv 0, nv 0, nv 0, nv 0, .bool (decide (s.length < 2))] ::
         SL nv tI (.slice (some ⟨b1, 0, none⟩) s.length s.length) ((filled (List.range s.length) 0 s.length u).set u u) :: SL nv tI (.slice (some ⟨b2, 0, none⟩) s.length s.length) (List.replicate s.length 0) :: SL nv tI (.slice (some ⟨b3, 0, none⟩) s.length s.length) (List.replicate s.length 0) :: L) := H3
       rw [e] at h3; exact h3
     · simp only [nv, RowKit.intOf, Int.toNat_natCast]; omega
   · obtain rfl : u = s.length := by omega
     rw [filled_all (by simp)] at H2; refine r_bd (v := .agg (Fp ⟨0, 0, s.length⟩).toArray) (by kernel_rfl) ?_; refine r_bsK (e := tPt) (Fp ⟨0, 0, s.length⟩) H2 (by kernel_rfl) fun nb w3 S3 H3 => ?_; refine r_nc (r_fo0 ?_); refine r_st 1 H3 rfl (by simp) rfl fun w4 S4 H4 => ?_; have H5 := RW_of_blk (F := Fp) (k := 3) 0 [⟨0, 0, s.length⟩] H4 rfl; refine k b w4 (S2.trans (S3.trans S4)) (SoR_close (ov := .slice (some ⟨b1, 0, none⟩) s.length s.length) (cv := .slice (some ⟨b2, 0, none⟩) s.length s.length) (av := .slice (some ⟨b3, 0, none⟩) s.length s.length) (kv := .slice (some ⟨nb, 0, none⟩) 1 1) ?_); have h_ := Holds.ord 5 [1, 2, 3, 4, 0] H5 rfl; exact h_
 · refine r_dr H fun w1 S1 H1 => ?_; refine r_lss ?_
   have mk : ∀ {w2 : World} {M : List HProp} {Q : Value → World → Prop}, Holds w2 M → (∀ b w', Same w2 w' → Holds w' (SL nv tI (.slice (some ⟨b, 0, none⟩) s.length s.length) (List.replicate s.length 0) :: M) → Q (.slice (some ⟨b, 0, none⟩) s.length s.length) w') →
       Ms Tryz.prog 152 (nv s.length) (nv s.length) w2 Q := fun H2 hQ => by
     refine r_ms (f := nv) (x := 0) H2 rfl (by omega) (by omega) fun b w' S' H3 => ?_; rw [Int.toNat_natCast] at H3 ⊢; have H4 := H3.close 0 rfl; simp only [List.set_cons_zero, List.length_replicate, List.length_nil, Nat.add_zero] at H4; exact hQ b w' S' H4
   have hdec : decide (((s.length : Nat) : Int) < 2) = decide (s.length < 2) := decide_eq_decide.2 (by omega); rw [hdec]
   have fin : ∀ {b1 b2 b3 : Nat} {w2 : World} {Q : Value → World → Prop}, Same w w2 → Holds w2 (SL nv tI (.slice (some ⟨b1, 0, none⟩) s.length s.length) (List.replicate s.length 0) :: SL nv tI (.slice (some ⟨b2, 0, none⟩) s.length s.length) (List.replicate s.length 0) :: SL nv tI (.slice (some ⟨b3, 0, none⟩) s.length s.length) (List.replicate s.length 0) :: L) →
       (∀ x w', (∃ (b b1 b2 b3 : Nat), x = pt b ∧ Same w w' ∧ Holds w' (blk b tSo [St_ s, .slice (some ⟨b1, 0, none⟩) s.length s.length, .slice (some ⟨b2, 0, none⟩) s.length s.length, .slice (some ⟨b3, 0, none⟩) s.length s.length, nv 0, .slice none 0 0, nv 0, nv 0, nv 0, nv 0, nv 0, nv 0, nv 0, nv 0, nv 0, .bool (decide (s.length < 2))] ::
         SL nv tI (.slice (some ⟨b1, 0, none⟩) s.length s.length) (List.replicate s.length 0) :: SL nv tI (.slice (some ⟨b2, 0, none⟩) s.length s.length) (List.replicate s.length 0) :: SL nv tI (.slice (some ⟨b3, 0, none⟩) s.length s.length) (List.replicate s.length 0) :: L)) → Q x w') →
       Bd Tryz.prog tSo #[(0, St_ s), (1, .slice (some ⟨b1, 0, none⟩) s.length s.length), (2, .slice (some ⟨b2, 0, none⟩) s.length s.length), (3, .slice (some ⟨b3, 0, none⟩) s.length s.length), (13, .bool (decide (s.length < 2)))] w2 fun x => New x tSo w2 Q := fun {b1 b2 b3 w2 Q} S2 H2 hQ => by
     refine r_bd (v := .agg #[St_ s, .slice (some ⟨b1, 0, none⟩) s.length s.length, .slice (some ⟨b2, 0, none⟩) s.length s.length, .slice (some ⟨b3, 0, none⟩) s.length s.length, nv 0, .slice none 0 0, nv 0, nv 0, nv 0, nv 0, nv 0, nv 0, nv 0, nv 0, nv 0, .bool (decide (s.length < 2))]) (by kernel_rfl) ?_; refine r_new H2 fun b w3 S3 H3 => ?_; exact hQ _ _ ⟨b, b1, b2, b3, rfl, S2.trans S3, H3⟩
   refine ⟨?_, ?_, ?_⟩
   · refine mk H1 fun b1 w2 S2 H2 => ⟨mk H2 fun b2 w3 S3 H3 => mk H3 fun b3 w4 S4 H4 => fin (S1.trans (S2.trans (S3.trans S4))) (by have h_ := Holds.ord 3 [2, 1, 0] H4 rfl; exact h_) fun x w' hx => r_ke hx, mk H2 fun b2 w3 S3 H3 => mk H3 fun b3 w4 S4 H4 => fin (S1.trans (S2.trans (S3.trans S4))) (by have h_ := Holds.ord 3 [2, 0, 1] H4 rfl; exact h_) fun x w' hx => r_ke hx⟩
   · refine mk H1 fun b1 w2 S2 H2 => ⟨mk H2 fun b2 w3 S3 H3 => mk H3 fun b3 w4 S4 H4 => fin (S1.trans (S2.trans (S3.trans S4))) (by have h_ := Holds.ord 3 [1, 2, 0] H4 rfl; exact h_) fun x w' hx => r_ke hx, mk H2 fun b2 w3 S3 H3 => mk H3 fun b3 w4 S4 H4 => fin (S1.trans (S2.trans (S3.trans S4))) (by have h_ := Holds.ord 3 [0, 2, 1] H4 rfl; exact h_) fun x w' hx => r_ke hx⟩
   · refine mk H1 fun b1 w2 S2 H2 => ⟨mk H2 fun b2 w3 S3 H3 => mk H3 fun b3 w4 S4 H4 => fin (S1.trans (S2.trans (S3.trans S4))) (by have h_ := Holds.ord 3 [1, 0, 2] H4 rfl; exact h_) fun x w' hx => r_ke hx, mk H2 fun b2 w3 S3 H3 => mk H3 fun b3 w4 S4 H4 => fin (S1.trans (S2.trans (S3.trans S4))) (by have h_ := Holds.ord 3 [0, 1, 2] H4 rfl; exact h_) fun x w' hx => r_ke hx⟩
end S16
instance : Row Tryz.prog 44 5 (.int .u8 0) := ⟨by kernel_rfl, ⟨Tryz.t5, by kernel_rfl, by kernel_rfl, by decide, by kernel_rfl⟩, rfl⟩
instance : Bytes Tryz.prog 44 5 9 := ⟨by kernel_rfl, by kernel_rfl, by kernel_rfl⟩
namespace W01
open Go.M01
variable {w : World} {L : List HProp} {K : Value → World → Prop} {b : Nat}
abbrev tB : Nat := 5
abbrev tW : Nat := 128
def WrR (b : Nat) (bs : List Bool) (k : Nat) : HProp := fun h => ∃ wv, Sat [blk b tW [wv, .int .u8 (restB bs : Nat), nv bs.length], SL bv tB wv ((wholeB bs).drop k)] h
theorem WrR_open {bs : List Bool} {k : Nat} (H : Holds w (WrR b bs k :: L)) : ∃ wv, Holds w (blk b tW [wv, .int .u8 (restB bs : Nat), nv bs.length] :: SL bv tB wv ((wholeB bs).drop k) :: L) := by
 obtain ⟨wv, H⟩ := Holds.ex H; exact ⟨wv, Holds.unpack H⟩
theorem WrR_close {bs : List Bool} {k : Nat} {wv : Value} (H : Holds w (blk b tW [wv, .int .u8 (restB bs : Nat), nv bs.length] :: SL bv tB wv ((wholeB bs).drop k) :: L)) : Holds w (WrR b bs k :: L) :=
 Holds.imp (Holds.pack (A := [_, _]) H) fun h hh => ⟨wv, hh⟩
theorem NewWriter_spec (H : Holds w L) (post : ∀ b w', Same w w' → Holds w' (WrR b [] 0 :: L) → K (.pointer (some ⟨b, 0, none⟩)) w') : Cl Tryz.prog F.bits_NewWriter #[] w K := by
 refine Tie.bits_NewWriter ?_; unfold Vcf.bits_NewWriter; refine r_bd (v := .agg #[.slice none 0 0, .int .u8 0, nv 0]) (by kernel_rfl) ?_; refine r_new H fun b w1 S1 H1 => ?_; replace H1 : Holds w1 (blk b tW [.slice none 0 0, .int .u8 0, nv 0] :: L) := H1; exact post b _ S1 (WrR_close ((H1.nilSL bv tB).swap))
theorem bit_spec {bs : List Bool} {k : Nat} {c : Bool} (H : Holds w (WrR b bs k :: L)) (hn : bs.length ≤ 1000000000000) (hk : k ≤ bs.length / 8)
   (post : ∀ w', Same w w' → Holds w' (WrR b (bs ++ [c]) k :: L) → K (.tuple #[]) w') : Cl Tryz.prog F.bits_Writer_bit #[.pointer (some ⟨b, 0, none⟩), .int .u8 (c.toNat : Int)] w K := by
 refine Tie.bits_Writer_bit ?_; unfold Vcf.bits_Writer_bit; obtain ⟨wv, H⟩ := WrR_open H; have S := Same.refl w; have hc := Bool.toNat_le c; have hr := restB_lt bs
 have hR : ((bs.length : Int)).tmod 8 = ((bs.length % 8 : Nat) : Int) := by
   rw [Int.tmod_eq_emod_of_nonneg (by omega)]; simp
 have hm : bs.length % 8 < 8 := Nat.mod_lt _ (by decide); have hsh : c.toNat * 2 ^ (7 - bs.length % 8) % 256 < 256 := Nat.mod_lt _ (by decide)
 have hls : (bs ++ [c]).length = bs.length + 1 := by simp
 repeat (first | refine r_remE hR (by omega) ?_ | refine r_nc ?_ | refine r_fo0 ?_ | (refine r_sub (by omega) (by omega) ?_) | (refine r_dr H ?_; clear H; intro _ S_ H; replace S := S.trans S_; clear S_) | refine r_ld 0 H rfl rfl ?_)
 rw [show (7 : Int) - ((bs.length % 8 : Nat) : Int) = ((7 - bs.length % 8 : Nat) : Int) by omega]; refine r_shlU8 (by omega) ?_; refine r_orU8 hr hsh ?_
 repeat (first | refine r_nc ?_ | refine r_fo0 ?_)
 refine r_st 0 H rfl (by simp) rfl fun w2 S2 H2 => ?_; replace H2 : Holds w2 (blk b tW [wv, .int .u8 ((restB bs ||| (c.toNat * 2 ^ (7 - bs.length % 8) % 256) : Nat) : Int), nv bs.length] :: SL bv tB wv ((wholeB bs).drop k) :: L) := H2; replace S := S.trans S2; clear H S2; have H := H2; clear H2
 repeat (first | refine r_nc ?_ | refine r_fo0 ?_ | (refine r_add1N (by omega) ?_) | refine r_ld 0 H rfl rfl ?_)
 refine r_st 0 H rfl (by simp) rfl fun w2 S2 H2 => ?_; replace H2 : Holds w2 (blk b tW [wv, .int .u8 ((restB bs ||| (c.toNat * 2 ^ (7 - bs.length % 8) % 256) : Nat) : Int), nv (bs.length + 1)] :: SL bv tB wv ((wholeB bs).drop k) :: L) := H2; replace S := S.trans S2; clear H S2; have H := H2; clear H2
 repeat (refine r_eql ?_)
 refine r_ifE (fun h => ?_) fun h => ?_
 · obtain ⟨p1, p2⟩ := put_last bs c (by omega); have hx : restB bs ||| (c.toNat * 2 ^ (7 - bs.length % 8) % 256) < 2 ^ 8 := Nat.or_lt_two_pow (by simpa using hr) (by simpa using hsh); generalize restB bs ||| (c.toNat * 2 ^ (7 - bs.length % 8) % 256) = x at *
   have e : (Value.int .u8 (x : Int)) = bv (UInt8.ofNat x) := by
     unfold bv; rw [UInt8.toNat_ofNat_of_lt' hx]
   rw [e] at H; obtain ⟨oa, sp, rfl, H⟩ := H.open 1 rfl; rw [List.set_cons_succ, List.set_cons_zero] at H
   repeat (first | refine r_nc ?_ | refine r_fo0 ?_ | (refine r_dr H ?_; clear H; intro _ S_ H; replace S := S.trans S_; clear S_) | refine r_ld 0 H rfl rfl ?_)
   refine r_bs1 H rfl fun b3 w3 S3 H3 => ?_; replace S := S.trans S3; refine r_rk (r_ld 1 H3 rfl rfl rfl) ?_; have hwl := wholeB_len bs; refine r_ap (f := bv) (ys := [UInt8.ofNat x]) H3 2 0 rfl rfl rfl rfl rfl rfl (fun _ => rfl) (by rw [List.length_drop, List.length_singleton]; omega) (by simp) fun oa' sp' w4 S4 H4 => ?_; replace S := S.trans S4
   have hout : (wholeB bs).drop k ++ [UInt8.ofNat x] = (wholeB (bs ++ [c])).drop k := by
     rw [p1, List.drop_append_of_le_length (by omega)]
   rw [hout, List.set_cons_succ, List.set_cons_succ, List.set_cons_zero] at H4
   have hlen : ((wholeB bs).drop k).length + [UInt8.ofNat x].length = ((wholeB (bs ++ [c])).drop k).length := by
     rw [← hout, List.length_append]
   rw [hlen]; clear H H3; have H := H4.drop; clear H4
   repeat (first | refine r_nc ?_ | refine r_fo0 ?_)
   refine r_st 0 H rfl (by simp) rfl fun w5 S5 H5 => ?_; replace S := S.trans S5; clear H; have H := H5; clear H5; rw [List.set_cons_zero, List.set_cons_zero] at H
   repeat (first | refine r_nc ?_ | refine r_fo0 ?_)
   refine r_st 0 H rfl (by simp) rfl fun w6 S6 H6 => ?_; rw [List.set_cons_zero, List.set_cons_succ, List.set_cons_zero] at H6; have H7 := H6.close 1 rfl; rw [List.set_cons_succ, List.set_cons_zero] at H7; refine post _ (S.trans S6) (WrR_close (wv := .slice oa' ((wholeB (bs ++ [c])).drop k).length (((wholeB (bs ++ [c])).drop k).length + sp'.length)) ?_); rw [p2, hls]; exact H7
 · obtain ⟨p1, p2, p3⟩ := put_bit bs c (by omega); rw [← p2] at H; refine post _ S (WrR_close (wv := wv) ?_); rw [p1, hls]; exact H
theorem Put_spec {bs : List Bool} {k v n : Nat} (H : Holds w (WrR b bs k :: L)) (hl : bs.length ≤ 100000000000) (hk : k ≤ bs.length / 8) (hn : n ≤ 32) (hv : v < 2 ^ n)
   (post : ∀ w', Same w w' → Holds w' (WrR b (bs ++ bitsOf v n) k :: L) → K (iv 0) w') : Cl Tryz.prog F.bits_Writer_Put #[.pointer (some ⟨b, 0, none⟩), uv v, nv n] w K := by
 refine Tie.bits_Writer_Put ?_; unfold Vcf.bits_Writer_Put; have hp : (2 : Nat) ^ n ≤ 2 ^ 32 := Nat.pow_le_pow_right (by omega) hn
 repeat (first | (with_reducible refine r_bnSF ?_) | (with_reducible refine r_vf ?_))
 refine r_cl (K := fun x w' => w = w' ∧ x = .bool true) ?_ ?_
 · refine Tie.bits_fits ?_; unfold Vcf.bits_fits
   repeat (first | refine r_ciu64 (by omega) (by omega) ?_ | refine r_shrU (show n ≤ IntKind.u64.bits by show n ≤ 64; omega) ?_ | refine r_eql ?_ | refine r_leq ?_ | refine r_geq ?_ | ((with_reducible refine r_vtD ?h ?_); (case h => omega)))
   exact ⟨rfl, by rw [Nat.div_eq_of_lt hv]; rfl⟩
 rintro _ _ ⟨rfl, rfl⟩
 repeat (first | (with_reducible refine r_notT ?_) | (with_reducible refine r_vf ?_))
 refine r_loop1 (fun x w' => ∃ i : Nat, i ≤ n ∧ x = nv i ∧ Same w w' ∧ Holds w' (WrR b (bs ++ (bitsOf v n).take i) k :: L)) (fun x _ => n - (RowKit.intOf x).toNat) ⟨0, by omega, rfl, .refl w, by rw [List.take_zero, List.append_nil]; exact H⟩ ?_; clear H; rintro _ _ w2 ⟨i, hi, rfl, S, H⟩
 repeat (refine r_lss ?_)
 refine r_ifD (fun h => ?_) fun h => ?_
 · have hlt : i < n := by omega
   repeat (first | (refine r_sub1N (by omega) (by omega) ?_) | (refine r_sub (by omega) (by omega) ?_))
   rw [show ((n - 1 : Nat) : Int) - (i : Int) = ((n - 1 - i : Nat) : Int) by omega]; refine r_shrU (show n - 1 - i ≤ IntKind.u32.bits by show n - 1 - i ≤ 32; omega) ?_; have hd : v / 2 ^ (n - 1 - i) ≤ v := Nat.div_le_self _ _; refine r_andU32 (t := 1) (by omega) (by omega) ?_; rw [bit_at]; have hb := Bool.toNat_le (v.testBit (n - 1 - i))
   repeat (refine r_ciu8 (by omega) (by omega) ?_)
   have hlen : (bs ++ (bitsOf v n).take i).length ≤ bs.length + 32 := by
     rw [List.length_append, List.length_take, bitsOf_len]; omega
   have hlen2 : bs.length ≤ (bs ++ (bitsOf v n).take i).length := by rw [List.length_append]; omega
   refine bit_spec H (by omega) (by omega) fun w3 S3 H3 => ?_; rw [List.append_assoc, ← take_bit v n i hlt] at H3
   repeat (first | refine r_ke ?_ | (refine r_add1N (by omega) ?_))
   refine ⟨⟨i + 1, by omega, rfl, S.trans S3, H3⟩, ?_⟩; simp [nv, RowKit.intOf]; omega
 · obtain rfl : i = n := by omega
   rw [List.take_of_length_le (by rw [bitsOf_len]; omega)] at H; exact post _ S H
theorem Take_spec {bs : List Bool} {k : Nat} (H : Holds w (WrR b bs k :: L)) (post : ∀ w', Same w w' → Holds w' (WrR b bs (bs.length / 8) :: L) → K (.string ⟨((wholeB bs).drop k).toArray⟩) w') :
   Cl Tryz.prog F.bits_Writer_Take #[.pointer (some ⟨b, 0, none⟩)] w K := by
 refine Tie.bits_Writer_Take ?_; unfold Vcf.bits_Writer_Take; obtain ⟨wv, H⟩ := WrR_open H; have S := Same.refl w; obtain ⟨oa, sp, rfl, H⟩ := H.open 1 rfl; rw [List.set_cons_succ, List.set_cons_zero] at H
 repeat (first | refine r_cbs H 1 rfl rfl ?_ | refine r_nc ?_ | refine r_fo0 ?_ | (with_reducible refine r_bnSF ?_) | (with_reducible refine r_vf ?_) | refine r_ld 0 H rfl rfl ?_)
 refine r_st 0 H rfl (by simp) rfl fun w2 S2 H2 => ?_; rw [List.set_cons_zero, List.set_cons_zero] at H2; refine post w2 S2 (WrR_close (wv := .slice none 0 0) ?_); rw [List.drop_of_length_le (Nat.le_of_eq (wholeB_len bs))]; exact ((H2.dropAt 1).nilSL bv tB).swap
end W01
end Go.Proofs.YtpbbfonfakjecaaGreat
namespace Go.Proofs.YtpbbfonfakjecaaGreat
open Go Go.Vc
open Classical in
theorem r_loop1n {w : World} {a : Value} {body : (Nat → Value) → Cur 1 → Cur 1} (I : Nat → Value → World → Prop) (n0 : Nat) (h0 : I n0 a w)
   (h : ∀ jb n x w (k : Cur 1), I n x w → (∀ m x' w', m < n → I m x' w' → k x' w') → body jb k x w) : VLoop 1 [a] w body := by
 refine r_loop1 (fun x w' => ∃ n, I n x w') (fun x w' => if h : ∃ n, I n x w' then Classical.choose (Mh.exists_least h) else 0) ⟨n0, h0⟩ ?_; intro jb x w1 hx; have e1 := Classical.choose_spec (Mh.exists_least hx); refine h jb _ x w1 _ e1.1 fun m x' w' hm hI => ⟨⟨m, hI⟩, ?_⟩; have hx' : ∃ n, I n x' w' := ⟨m, hI⟩; have e2 := Classical.choose_spec (Mh.exists_least hx'); show dite _ _ _ < dite _ _ _; rw [dif_pos hx, dif_pos hx']; exact Nat.lt_of_le_of_lt (e2.2 m hI) hm
attribute [local irreducible] Vc.Nc Vc.Ld Vc.LdA Vc.St Vc.StA Vc.Fo Vc.Iaa Vc.Ias Vc.Ixs Vc.Ixa Vc.Fd Vc.FdA Vc.Bp Vc.Bb Vc.Bn Vc.Up Vc.Ci Vc.Lns Vc.Lnl Vc.Ex Vc.Sst Vc.Ssl Vc.New Vc.Vif Vc.VJoin Vc.VLoop Vc.KE Vc.Dr Vc.Rk Vc.Cl Vc.Cx Vc.Inv Vc.Be Vc.Cv Vc.Cw Vc.Mf Vc.Sl Vc.Lk Vc.Bd Vc.Bs Vc.Ms Vc.Mm Vc.Mu Vc.Me Vc.Es Vc.Rg Vc.Nx Vc.Ta Vc.Ap Vc.Usd Vc.Ust Vc.Cp Vc.Ln Vc.Bc Vc.Bmin Vc.Bmax Vc.Bdel Vc.Bclr Vc.Pk
namespace O09
open Go.Mh
variable {w : World} {L : List HProp} {K : Value → World → Prop}
end O09
namespace Z07
open Go.Mz
variable {w : World} {L : List HProp} {K : Value → World → Prop} {b : Nat} {z : ZS}
abbrev tZ : Nat := 337
def zrC (z : ZS) : List Value := [nv z.n, nv z.most, nv z.told, nv z.zeros, nv z.weight, .bool z.done]
def ZrR (b : Nat) (z : ZS) : HProp := fun h => z.Ok ∧ blk b tZ (zrC z) h
theorem ZrR_open (H : Holds w (ZrR b z :: L)) : z.Ok ∧ Holds w (blk b tZ (zrC z) :: L) := Holds.pure H
theorem ZrR_close (h : z.Ok) (H : Holds w (blk b tZ (zrC z) :: L)) : Holds w (ZrR b z :: L) := Holds.imp H fun _ hh => ⟨h, hh⟩
theorem NewReader_spec {n m : Nat} (H : Holds w L) (h1 : 1 ≤ n) (h2 : n ≤ 256) (h3 : m ≤ 900000) (k : ∀ b w', Same w w' → Holds w' (ZrR b (z0 n m) :: L) → K (.tuple #[pt b, iv 0]) w') : Cl Tryz.prog F.zeros_NewReader #[nv n, nv m] w K := by
 refine Tie.zeros_NewReader ?_; unfold Vcf.zeros_NewReader; refine r_join1 (fun x w' => w = w' ∧ x = .bool false) ?_ ?_
 · rintro _ _ _ ⟨rfl, rfl⟩; refine r_vf ?_; refine r_bd (v := .agg #[nv n, nv m, nv 0, nv 0, nv 1, .bool false]) (by kernel_rfl) ?_; refine r_new H fun b w2 S2 H2 => ?_; exact k b _ S2 (ZrR_close (z0_ok h1 h2 h3) H2)
 · refine Tie.zeros_may ?_; unfold Vcf.zeros_may
   repeat (first | refine r_leq ?_ | refine r_geq ?_ | refine r_not ?_ | ((with_reducible refine r_vtD ?h ?_); (case h => omega)))
   rw [decide_eq_true (by omega), Bool.not_true]
   repeat (first | refine r_ke ?_ | refine r_lss ?_ | refine r_gtr ?_ | (with_reducible refine r_vf ?_) | ((with_reducible refine r_vfD ?h ?_); (case h => omega)))
   exact ⟨rfl, by rw [decide_eq_false (by omega)]⟩
theorem Count_spec (H : Holds w (blk b tZ (zrC z) :: L)) (hz : z.Ok) (k : ∀ w', Same w w' → Holds w' (blk b tZ (zrC z) :: L) → K (nv (z.told + z.zeros)) w') : Cl Tryz.prog F.zeros_Reader_Count #[pt b] w K := by
 refine Tie.zeros_Reader_Count ?_; unfold Vcf.zeros_Reader_Count; have S := Same.refl w; obtain ⟨h1, h2, h3, h4, h5, h6⟩ := hz
 repeat (first | refine r_nc ?_ | refine r_fo0 ?_ | (with_reducible refine r_bnSF ?_) | (with_reducible refine r_vf ?_) | (refine r_addN (by omega) ?_) | (refine r_dr H ?_; clear H; intro _ S_ H; replace S := S.trans S_; clear S_) | refine r_ld 0 H rfl rfl ?_)
 exact k _ S H
theorem more_spec {c : Nat} (H : Holds w (blk b tZ (zrC z) :: L)) (hz : z.Ok) (hc : c ≤ 1) (hd : z.done = false)
   (kb : zput z c = none → ∀ w', Same w w' → Holds w' L → K (iv 2) w')
   (k : ∀ z' d p, zput z c = some (z', d, p) → ∀ w', Same w w' → Holds w' (blk b tZ (zrC z') :: L) → d = 0 → p = -1 → K (iv 0) w') : Cl Tryz.prog F.zeros_Reader_more #[pt b, nv c] w K := by
 refine Tie.zeros_Reader_more ?_; unfold Vcf.zeros_Reader_more; have S := Same.refl w; have hzz := hz; obtain ⟨h1, h2, h3, h4, h5, h6⟩ := hz
 have hc2 : 2 ^ c ≤ 2 := by
   have : c = 0 ∨ c = 1 := by omega
   rcases this with rfl | rfl <;> decide
 have hp : z.weight * 2 ^ c ≤ z.weight * 2 := Nat.mul_le_mul_left _ hc2
 repeat (first | refine r_shlI (by omega) (by omega) ?_ | refine r_nc ?_ | refine r_fo0 ?_ | (refine r_dr H ?_; clear H; intro _ S_ H; replace S := S.trans S_; clear S_) | refine r_ld 0 H rfl rfl ?_)
 have ez : zput z c = if z.most < z.told + z.zeros + z.weight * 2 ^ c then none else some (⟨z.n, z.most, z.told, z.zeros + z.weight * 2 ^ c, z.weight * 2, false⟩, 0, -1) := by
   unfold zput; rw [if_pos hc]
 rw [ez] at kb k; generalize z.weight * 2 ^ c = a at *; rename_i w1; have H0 := H; refine Count_spec H hzz fun w2 S2 H2 => ?_; replace S := S.trans S2; clear H; have H := H2; clear H2; refine r_rk (r_ld 0 H rfl rfl rfl) ?_
 repeat (first | refine r_gtr ?_ | (refine r_sub (by omega) (by omega) ?_))
 refine r_ifD (fun h => ?_) fun h => ?_
 · rw [if_pos (by omega)] at kb; exact kb rfl _ S H.drop
 · rw [if_neg (by omega)] at k
   repeat (first | refine r_nc ?_ | refine r_fo0 ?_ | (refine r_addN (by omega) ?_) | refine r_ld 0 H rfl rfl ?_)
   refine r_st 0 H rfl (by simp [zrC]) rfl fun w3 S3 H3 => ?_; replace H3 : Holds w3 (blk b tZ [nv z.n, nv z.most, nv z.told, nv (z.zeros + a), nv z.weight, .bool z.done] :: L) := H3; replace S := S.trans S3; clear H; have H := H3; clear H3
   repeat (first | refine r_mulE ((z.weight * 2 : Nat) : Int) (by omega) (by omega) (by omega) ?_ | refine r_nc ?_ | refine r_fo0 ?_ | refine r_ld 0 H rfl rfl ?_)
   refine r_st 0 H rfl (by simp) rfl fun w3 S3 H3 => ?_; rw [hd] at H3; replace H3 : Holds w3 (blk b tZ [nv z.n, nv z.most, nv z.told, nv (z.zeros + a), nv (z.weight * 2), .bool false] :: L) := H3; exact k _ _ _ rfl _ (S.trans S3) H3 rfl rfl
theorem Put_spec {c : Nat} (H : Holds w (ZrR b z :: L)) (hc : c ≤ z.n + 1) (hd : z.done = false)
   (kb : zput z c = none → ∀ e w', e ≠ 0 → Same w w' → Holds w' L → K (.tuple #[iv 0, iv 0, iv e]) w')
   (k : ∀ z' d p, zput z c = some (z', d, p) → ∀ w', Same w w' → Holds w' (ZrR b z' :: L) → K (.tuple #[nv d, iv p, iv 0]) w') : Cl Tryz.prog F.zeros_Reader_Put #[pt b, nv c] w K := by
 refine Tie.zeros_Reader_Put ?_; unfold Vcf.zeros_Reader_Put; obtain ⟨hz, H⟩ := ZrR_open H; have hzz := hz; obtain ⟨h1, h2, h3, h4, h5, h6⟩ := hz; have S := Same.refl w; have hok := fun z' d p (h : zput z c = some (z', d, p)) => zput_ok hzz h; refine r_join1 (fun x w' => w = w' ∧ x = .bool false) ?_ ?_
 rotate_left
 · repeat (first | refine r_nc ?_ | refine r_fo0 ?_ | refine r_ke ?_ | (with_reducible refine r_bnSF ?_) | (with_reducible refine r_vf ?_) | refine r_ld 0 H rfl rfl ?_)
   exact ⟨rfl, by rw [hd]⟩
 rintro _ _ _ ⟨rfl, rfl⟩
 repeat (with_reducible refine r_vf ?_)
 refine r_join1 (fun x w' => w = w' ∧ x = .bool false) ?_ ?_
 rotate_left
 · repeat (first | refine r_nc ?_ | refine r_fo0 ?_ | refine r_ke ?_ | refine r_lss ?_ | refine r_gtr ?_ | (refine r_add1N (by omega) ?_) | refine r_ld 0 H rfl rfl ?_ | ((with_reducible refine r_vfD ?h ?_); (case h => omega)))
   exact ⟨rfl, by rw [decide_eq_false (by omega)]⟩
 rintro _ _ _ ⟨rfl, rfl⟩
 repeat (first | refine r_leq ?_ | (with_reducible refine r_vf ?_))
 refine r_ifD (fun h => ?_) fun h => ?_
 · refine more_spec H hzz (by omega) hd (fun hn w2 S2 H2 => ?_) fun z' d p hs w2 S2 H2 hd0 hp => ?_
   · repeat (first | refine r_neq ?_ | ((with_reducible refine r_vtN ?h ?_); (case h => omega)))
     exact kb hn 2 _ (by decide) S2 H2
   · repeat (first | refine r_neq ?_ | ((with_reducible refine r_vfN ?h ?_); (case h => omega)))
     have := k z' d p hs _ S2 (ZrR_close (hok _ _ _ hs) H2); rw [hd0, hp] at this; exact this
 · have hc1 : ¬ c ≤ 1 := by omega
   have ez : zput z c = if c = z.n + 1 then some (⟨z.n, z.most, z.told + z.zeros, 0, 1, true⟩, z.zeros, -1) else if z.told + z.zeros = z.most then none
       else some (⟨z.n, z.most, z.told + 1 + z.zeros, 0, 1, false⟩, z.zeros, (c : Int) - 1) := by
     unfold zput; rw [if_neg hc1]
   rw [ez] at kb k hok
   repeat (refine r_sub1N (by omega) (by omega) ?_)
   refine r_join1 (fun x w' => ∃ t dn, t ≤ z.told + 1 ∧ Same w w' ∧ Holds w' (blk b tZ [nv z.n, nv z.most, nv t, nv z.zeros, nv z.weight, .bool dn] :: L) ∧
     ((c = z.n + 1 ∧ t = z.told ∧ dn = true ∧ x = iv (-1)) ∨ (c ≠ z.n + 1 ∧ z.told + z.zeros ≠ z.most ∧ t = z.told + 1 ∧ dn = false ∧ x = iv ((c : Int) - 1)))) ?_ ?_
   · rintro _ x w2 ⟨t, dn, ht, S, H, hx⟩
     repeat (first | refine r_nc ?_ | refine r_fo0 ?_ | (refine r_addN (by omega) ?_) | refine r_ld 0 H rfl rfl ?_)
     refine r_st 0 H rfl (by simp) rfl fun w3 S3 H3 => ?_; replace H3 : Holds w3 (blk b tZ [nv z.n, nv z.most, nv (t + z.zeros), nv z.zeros, nv z.weight, .bool dn] :: L) := H3; replace S := S.trans S3; clear H; have H := H3; clear H3
     repeat (first | refine r_nc ?_ | refine r_fo0 ?_)
     refine r_st 0 H rfl (by simp) rfl fun w3 S3 H3 => ?_; replace H3 : Holds w3 (blk b tZ [nv z.n, nv z.most, nv (t + z.zeros), nv 0, nv z.weight, .bool dn] :: L) := H3; replace S := S.trans S3; clear H; have H := H3; clear H3
     repeat (first | refine r_nc ?_ | refine r_fo0 ?_)
     refine r_st 0 H rfl (by simp) rfl fun w3 S3 H3 => ?_; replace H3 : Holds w3 (blk b tZ [nv z.n, nv z.most, nv (t + z.zeros), nv 0, nv 1, .bool dn] :: L) := H3; replace S := S.trans S3; clear H; have H := H3; clear H3; rcases hx with ⟨hc, rfl, rfl, rfl⟩ | ⟨hc, hm, rfl, rfl, rfl⟩
     · rw [if_pos hc] at k hok; exact k _ _ _ rfl _ S (ZrR_close (hok _ _ _ rfl) H)
     · rw [if_neg hc, if_neg hm] at k hok; exact k _ _ _ rfl _ S (ZrR_close (hok _ _ _ rfl) H)
   · repeat (first | refine r_nc ?_ | refine r_fo0 ?_ | refine r_eql ?_ | (refine r_add1N (by omega) ?_) | refine r_ld 0 H rfl rfl ?_)
     refine r_ifE (fun h => ?_) fun h => ?_
     · repeat (first | refine r_nc ?_ | refine r_fo0 ?_)
       refine r_st 0 H rfl (by simp [zrC]) rfl fun w3 S3 H3 => ?_; replace H3 : Holds w3 (blk b tZ [nv z.n, nv z.most, nv z.told, nv z.zeros, nv z.weight, .bool true] :: L) := H3
       repeat (refine r_ke ?_)
       exact ⟨z.told, true, by omega, S.trans S3, H3, .inl ⟨by omega, rfl, rfl, rfl⟩⟩
     · have hcn : c ≠ z.n + 1 := by omega
       rw [if_neg hcn] at kb
       repeat (refine r_dr H ?_; clear H; intro _ S_ H; replace S := S.trans S_; clear S_)
       have H0 := H; refine Count_spec H hzz fun w2 S2 H2 => ?_; replace S := S.trans S2; clear H; have H := H2; clear H2
       repeat (first | refine r_rk (r_ld 0 H0 rfl rfl rfl) ?_ | refine r_nc ?_ | refine r_fo0 ?_ | refine r_eql ?_ | refine r_ld 0 H rfl rfl ?_)
       refine r_ifE (fun hm => ?_) fun hm => ?_
       · rw [if_pos (by omega)] at kb; exact kb rfl 2 _ (by decide) S H.drop
       · repeat (first | refine r_nc ?_ | refine r_fo0 ?_ | (refine r_add1N (by omega) ?_) | refine r_ld 0 H rfl rfl ?_)
         refine r_st 0 H rfl (by simp [zrC]) rfl fun w3 S3 H3 => ?_; rw [zrC, hd] at H3; replace H3 : Holds w3 (blk b tZ [nv z.n, nv z.most, nv (z.told + 1), nv z.zeros, nv z.weight, .bool false] :: L) := H3
         repeat (refine r_ke ?_)
         exact ⟨z.told + 1, false, by omega, S.trans S3, H3, .inr ⟨hcn, by omega, rfl, rfl, by rw [show ((c - 1 : Nat) : Int) = (c : Int) - 1 by omega]⟩⟩
end Z07
namespace F06
open Go.Mz
variable {w : World} {L : List HProp} {K : Value → World → Prop} {b : Nat} {o : List UInt8}
abbrev tL : Nat := 220
def MtR (b : Nat) (o : List UInt8) : HProp := fun h => o.length ≤ 256 ∧ ∃ ov, Sat [blk b tL [ov], SM tB ov o] h
theorem MtR_open (H : Holds w (MtR b o :: L)) : o.length ≤ 256 ∧ ∃ ov, Holds w (blk b tL [ov] :: SM tB ov o :: L) := by
 obtain ⟨h, H⟩ := Holds.pure H; obtain ⟨ov, H⟩ := Holds.ex H; exact ⟨h, ov, Holds.unpack H⟩
theorem MtR_close {ov : Value} (h : o.length ≤ 256) (H : Holds w (blk b tL [ov] :: SM tB ov o :: L)) : Holds w (MtR b o :: L) := Holds.imp (Holds.pack (A := [_, _]) H) fun _ hh => ⟨h, ov, hh⟩
theorem Is_spec {T : Nat → Bool} (H : Holds w L) (hne : listed T ≠ []) (k : ∀ w', Same w w' → Holds w' L → K (.bool true) w') : Cl Tryz.prog F.used_Is #[.string ⟨(listed T).toArray⟩] w K := by
 refine Tie.used_Is ?_; unfold Vcf.used_Is
 have hs : (⟨(listed T).toArray⟩ : ByteArray).size = (listed T).length := by show (listed T).toArray.size = _; simp
 have hl := listed_len T
 repeat (refine r_lns ?_)
 rw [hs]; refine r_loop1 (fun x w' => ∃ i : Nat, i ≤ (listed T).length ∧ x = nv i ∧ Same w w' ∧ Holds w' L) (fun x _ => (listed T).length - (RowKit.intOf x).toNat) ⟨0, by omega, rfl, .refl w, H⟩ ?_; clear H; rintro _ _ w1 ⟨i, hi, rfl, S, H⟩
 repeat (refine r_lss ?_)
 refine r_ifD (fun h => ?_) fun h => ?_
 · refine r_join1 (fun x w' => x = .bool false ∧ Same w w' ∧ Holds w' L) ?_ ?_
   · clear H S; rintro _ _ w2 ⟨rfl, S, H⟩
     repeat (first | refine r_ke ?_ | (with_reducible refine r_vf ?_) | (refine r_add1N (by omega) ?_))
     refine ⟨⟨i + 1, by omega, rfl, S, H⟩, ?_⟩; simp [nv, RowKit.intOf]; omega
   · repeat (first | refine r_gtr ?_ | (refine r_dr H ?_; clear H; intro _ S_ H; replace S := S.trans S_; clear S_))
     refine r_ifD (fun h0 => ?_) fun h0 => ?_
     · repeat (first | refine r_ke ?_ | refine r_leq ?_ | (refine r_sub1N (by omega) (by omega) ?_) | (refine r_ixsN (by omega) ?_))
       have := listed_step T (i - 1) (by omega); rw [show i - 1 + 1 = i by omega] at this; refine ⟨?_, S, H⟩
       congr 1
       rw [decide_eq_false_iff_not]; simp only [List.toList_toArray]; omega
     · repeat (refine r_ke ?_)
       exact ⟨rfl, S, H⟩
 · repeat (refine r_sne0 ?_)
   have := k _ S H; rw [decide_eq_true (by rw [hs]; exact fun h => hne (List.eq_nil_of_length_eq_zero h))]; exact this
theorem New_spec {T : Nat → Bool} (H : Holds w L) (hne : listed T ≠ []) (k : ∀ b w', Same w w' → Holds w' (MtR b (listed T) :: L) → K (.tuple #[pt b, iv 0]) w') : Cl Tryz.prog F.mtf_New #[.string ⟨(listed T).toArray⟩] w K := by
 refine Tie.mtf_New ?_; unfold Vcf.mtf_New; refine Is_spec H hne fun w1 S1 H1 => ?_
 repeat (first | (with_reducible refine r_notT ?_) | (with_reducible refine r_vf ?_))
 refine r_csb (e := tB) H1 fun v w2 S2 H2 => ?_; obtain ⟨b2, sp, rfl, H3⟩ := SM_open H2 0 rfl; refine r_bd (v := .agg #[.slice (some ⟨b2, 0, none⟩) (listed T).length ((listed T).length + sp.length)]) (by kernel_rfl) ?_; refine r_new H2 fun b w3 S3 H4 => ?_; exact k b _ ((S1.trans S2).trans S3) (MtR_close (listed_len T) H4)
theorem touch_spec {i : Nat} (H : Holds w (MtR b o :: L)) (hi : i < o.length) (k : ∀ w', Same w w' → Holds w' (MtR b (frontB o i) :: L) → K (bv (o.getD i 0)) w') : Cl Tryz.prog F.mtf_List_touch #[pt b, nv i] w K := by
 refine Tie.mtf_List_touch ?_; unfold Vcf.mtf_List_touch; obtain ⟨hl, ov, H⟩ := MtR_open H; have S := Same.refl w
 repeat (first | refine r_nc ?_ | refine r_fo0 ?_ | refine r_ld 0 H rfl rfl ?_)
 refine r_getM 1 H rfl (x := o.getD i 0) (by rw [List.getD_eq_getElem?_getD, List.getElem?_eq_getElem hi]; rfl) ?_; obtain ⟨b2, sp, rfl, H⟩ := SM_open H 1 rfl; rw [List.set_cons_succ, List.set_cons_zero] at H
 repeat (first | refine r_nc ?_ | refine r_fo0 ?_ | (refine r_add1N (by omega) ?_) | (refine r_dr H ?_; clear H; intro _ S_ H; replace S := S.trans S_; clear S_) | refine r_ld 0 H rfl rfl ?_)
 refine r_sslLH (l := 1) (h := i + 1) (by omega) (by omega) ?_
 repeat (first | refine r_nc ?_ | refine r_fo0 ?_ | refine r_ld 0 H rfl rfl ?_)
 refine r_ssl0 (by omega) ?_; refine r_cpM (z := .int .u8 0) H 1 (xs := o) (sp := sp) rfl hi fun v w2 S2 H2 => ?_; replace S := S.trans S2; clear H; have H := H2; clear H2; rw [List.set_cons_succ, List.set_cons_zero] at H; have H2 := SM_close H 1 rfl; rw [List.set_cons_succ, List.set_cons_zero] at H2
 have hl2 : (o.take 1 ++ (o.take i ++ o.drop (i + 1))).length = o.length := by simp; omega
 rw [hl2] at H2; clear H; have H := H2; clear H2
 repeat (first | refine r_nc ?_ | refine r_fo0 ?_ | refine r_ld 0 H rfl rfl ?_)
 refine r_setM 1 H (j := 0) (o.getD i 0) rfl (by omega) fun w3 S3 H3 => ?_
 have e : (o.take 1 ++ (o.take i ++ o.drop (i + 1))).set 0 (o.getD i 0) = frontB o i := by
   unfold frontB
   cases o with
   | nil => simp at hi
   | cons x o => rfl
 rw [List.set_cons_succ, List.set_cons_zero, e] at H3; exact k _ (S.trans S3) (MtR_close (by rw [frontB_len hi]; exact hl) H3)
theorem At_spec {i : Nat} (H : Holds w (MtR b o :: L)) (hi : i < o.length) (k : ∀ w', Same w w' → Holds w' (MtR b (frontB o i) :: L) → K (.tuple #[bv (o.getD i 0), iv 0]) w') : Cl Tryz.prog F.mtf_List_At #[pt b, nv i] w K := by
 refine Tie.mtf_List_At ?_; unfold Vcf.mtf_List_At; have H0 := H; obtain ⟨hl, ov, H0⟩ := MtR_open H0
 repeat (first | (with_reducible refine r_bnSF ?_) | (with_reducible refine r_vf ?_))
 refine r_join1 (fun x w' => w = w' ∧ x = .bool false) ?_ ?_
 · rintro _ _ _ ⟨rfl, rfl⟩; refine r_vf ?_; refine touch_spec H hi fun w2 S2 H2 => ?_; exact k _ S2 H2
 · repeat (first | refine r_ld 0 H0 rfl rfl ?_ | refine r_nc ?_ | refine r_fo0 ?_ | refine r_lss ?_ | ((with_reducible refine r_vfD ?h ?_); (case h => omega)))
   refine r_lnM 1 H0 rfl ?_
   repeat (first | refine r_ke ?_ | refine r_geq ?_)
   exact ⟨rfl, by rw [decide_eq_false (by omega)]⟩
end F06
namespace U05
open Go.M01 Go.Mb Go.Mp Go.Mz Rb
variable {w : World} {L : List HProp} {K : Value → World → Prop} {b r : Nat} {B : List UInt8} {d at_ n : Nat}
abbrev tT : Nat := 193
theorem bv_ofNat {j : Nat} (h : j < 256) : (Value.int .u8 (j : Int)) = bv (UInt8.ofNat j) := by
 unfold bv; rw [UInt8.toNat_ofNat_of_lt' (by simpa using h)]
theorem sg_bv (c : UInt8) : sg (bv c) = true := rfl
theorem range_filter {p : Nat → Bool} {j : Nat} : (List.range (j + 1)).filter p = (List.range j).filter p ++ if p j then [j] else [] := by
 rw [List.range_succ, List.filter_append, List.filter_cons, List.filter_nil]
theorem valB_bit {q : List Bool} {n i : Nat} (hq : q.length = n) (hi : i < n) : (valB q).testBit (n - 1 - i) = q.getD i false := by
 have h1 : bitsOf (valB q) n = q := M10.valB_inj (n := n) (bitsOf_len _ _) hq (M10.valB_bitsOf _ _ (by rw [← hq]; exact valB_lt q)); have h2 := Mb.bitsOf_get (valB q) n i hi; rw [h1] at h2; rw [List.getD_eq_getElem?_getD, h2]; rfl
theorem marks_spec {q : List Bool} (H : Holds w L) (hq : q.length = 16) (k : ∀ v w', Same w w' → Holds w' (SL nv tI v (marksL q) :: L) → K v w') : Cl Tryz.prog F.used_marks #[uv (valB q)] w K := by
 refine Tie.used_marks ?_; unfold Vcf.used_marks
 have hv : valB q < 65536 := by have := valB_lt q; rw [hq] at this; exact this
 refine r_loop2 (fun o x w' => ∃ i : Nat, i ≤ 16 ∧ x = nv i ∧ Same w w' ∧ Holds w' (SL nv tI o ((List.range i).filter fun i => q.getD i false) :: L)) (fun _ x _ => 16 - (RowKit.intOf x).toNat) ⟨0, by omega, rfl, .refl w, H.nilSL nv tI⟩ ?_; clear H; rintro _ o _ w1 ⟨i, hi, rfl, S, H⟩
 repeat (refine r_lss ?_)
 refine r_ifD (fun h => ?_) fun h => ?_
 · have hlt : i < 16 := by omega
   have hfl : ((List.range i).filter fun i => q.getD i false).length ≤ 16 := Nat.le_trans (List.length_filter_le _ _) (by simp; omega)
   repeat (refine r_sub (by omega) (by omega) ?_)
   rw [show (15 : Int) - (i : Int) = ((15 - i : Nat) : Int) by omega]; refine r_shrU (show 15 - i ≤ 32 by omega) ?_; have hd : valB q / 2 ^ (15 - i) ≤ valB q := Nat.div_le_self _ _; refine r_andU32 (t := 1) (by omega) (by omega) ?_; have hb := valB_bit hq hlt; rw [show 16 - 1 - i = 15 - i by omega] at hb; rw [bit_at, hb]
   cases hc : q.getD i false with
   | true =>
     refine r_eql (r_vtE rfl ?_); refine r_app1 H 0 rfl i sg_nv (by omega) fun v' w2 S2 H2 => ?_; rw [List.set_cons_zero] at H2
     repeat (first | refine r_ke ?_ | (refine r_add1N (by omega) ?_))
     refine ⟨⟨i + 1, by omega, rfl, S.trans S2, ?_⟩, ?_⟩
     · rw [range_filter, hc]; exact H2
     · simp [nv, RowKit.intOf]; omega
   | false =>
     refine r_eql (r_vfE (by decide) ?_)
     repeat (first | refine r_ke ?_ | (refine r_add1N (by omega) ?_))
     refine ⟨⟨i + 1, by omega, rfl, S, ?_⟩, ?_⟩
     · rw [range_filter, hc]; simp only [Bool.false_eq_true, if_false, List.append_nil]; exact H
     · simp [nv, RowKit.intOf]; omega
 · obtain rfl : i = 16 := by omega
   exact k _ _ S H
theorem listed_spec {T : Nat → Bool} (H : Holds w L) (k : ∀ w', Same w w' → Holds w' L → K (S_ (listed T)) w') : Cl Tryz.prog F.used_listed #[.agg ((boolsT T).map Value.bool).toArray] w K := by
 refine Tie.used_listed ?_; unfold Vcf.used_listed; refine r_new H fun b1 w1 S1 H1 => ?_
 have hlen : ((boolsT T).map Value.bool).length = 256 := by rw [List.length_map, boolsT_len]
 have hcells : (Value.agg ((boolsT T).map Value.bool).toArray).cells.toList = (boolsT T).map Value.bool := by simp [Value.cells]
 rw [hcells] at H1; refine r_ldA 0 H1 ((boolsT T).map Value.bool) rfl (by rw [List.drop_zero, List.take_of_length_le (by omega)]) hlen ?_; refine r_loop2 (fun o x w' => ∃ i : Nat, i ≤ 256 ∧ x = nv i ∧ Same w w' ∧ Holds w' (SL bv tB o (((List.range i).filter T).map UInt8.ofNat) :: L)) (fun _ x _ => 256 - (RowKit.intOf x).toNat) ⟨0, by omega, rfl, S1, (H1.drop).nilSL bv tB⟩ ?_; clear H H1 S1; rintro _ o _ w1 ⟨i, hi, rfl, S, H⟩
 repeat (refine r_lss ?_)
 refine r_ifD (fun h => ?_) fun h => ?_
 · have hlt : i < 256 := by omega
   have hfl : (((List.range i).filter T).map UInt8.ofNat).length ≤ 256 := by
     rw [List.length_map]; exact Nat.le_trans (List.length_filter_le _ _) (by simp; omega)
   refine r_ixa1 (.bool (T i)) (by omega) (by omega) (by rw [Int.toNat_natCast, List.getElem?_map, boolsT_get T hlt]; rfl) ?_
   cases hc : T i with
   | true =>
     refine r_vt ?_
     repeat (refine r_ciu8 (by omega) (by omega) ?_)
     rw [bv_ofNat hlt]; refine r_app1 H 0 rfl (UInt8.ofNat i) sg_bv (by omega) fun v' w2 S2 H2 => ?_; rw [List.set_cons_zero] at H2
     repeat (first | refine r_ke ?_ | (refine r_add1N (by omega) ?_))
     refine ⟨⟨i + 1, by omega, rfl, S.trans S2, ?_⟩, ?_⟩
     · rw [range_filter, hc, if_pos rfl, List.map_append]; exact H2
     · simp [nv, RowKit.intOf]; omega
   | false =>
     refine r_vf ?_
     repeat (first | refine r_ke ?_ | (refine r_add1N (by omega) ?_))
     refine ⟨⟨i + 1, by omega, rfl, S, ?_⟩, ?_⟩
     · rw [range_filter, hc]; simp only [Bool.false_eq_true, if_false, List.append_nil]; exact H
     · simp [nv, RowKit.intOf]; omega
 · obtain rfl : i = 256 := by omega
   obtain ⟨oa, sp, rfl, H2⟩ := H.open 0 rfl; refine r_cbs H2 0 rfl rfl ?_; exact k _ S H.drop
theorem read_spec (H : Holds w (RdR r B d at_ :: L))
   (ks : uread (rest B at_) = .short → ∀ q w', Same w w' → Holds w' (RdR r B d q :: L) → K (.tuple #[S_ [], iv 3]) w')
   (kb : uread (rest B at_) = .bad 25 → ∀ q w', Same w w' → Holds w' (RdR r B d q :: L) → K (.tuple #[S_ [], iv 25]) w')
   (k : ∀ T n, uread (rest B at_) = .ok T n → listed T ≠ [] → ∀ w', Same w w' → Holds w' (RdR r B d (at_ + n) :: L) → K (.tuple #[S_ (listed T), iv 0]) w') : Cl Tryz.prog F.used_read #[pt r] w K := by
 refine Tie.used_read ?_; unfold Vcf.used_read; refine Get_spec (n := 16) H (by omega) (fun hs w2 S2 H2 => ?_) fun hs w2 S2 H2 => ?_
 · repeat (first | refine r_neq ?_ | (with_reducible refine r_ex20 ?_) | (with_reducible refine r_ex21 ?_) | ((with_reducible refine r_vtN ?h ?_); (case h => omega)))
   exact ks (by unfold uread; rw [if_pos hs]) _ _ S2 H2
 clear H
 have S := S2; have H := H2; clear S2 H2
 repeat (first | refine r_neq ?_ | (with_reducible refine r_ex20 ?_) | (with_reducible refine r_ex21 ?_) | ((with_reducible refine r_vfN ?h ?_); (case h => omega)))
 have hz : (zeroP Tryz.prog tT).cells.toList = (boolsT fun _ => false).map Value.bool := by rw [boolsT_false]; kernel_rfl
 refine r_new H fun bt w3 S3 H3 => ?_; rw [hz] at H3; replace S := S.trans S3; clear H; have H := H3; clear H3 S3
 have hq : ((rest B at_).take 16).length = 16 := by rw [List.length_take]; omega
 refine marks_spec H hq fun mv w3 S3 H3 => ?_; replace S := S.trans S3; clear H; have H := H3; clear H3 S3; refine r_lnS 0 H rfl ?_; have hml := marksL_len ((rest B at_).take 16); have hm16 := fun i (h : i ∈ marksL ((rest B at_).take 16)) => marksL_lt h
 have e0 : uread (rest B at_) = if (rest B at_).length < 16 + 16 * (marksL ((rest B at_).take 16)).length then .short
     else if listed (usedT (marksL ((rest B at_).take 16)) ((rest B at_).drop 16)) = [] then .bad 25
     else .ok (usedT (marksL ((rest B at_).take 16)) ((rest B at_).drop 16)) (16 + 16 * (marksL ((rest B at_).take 16)).length) := by
   unfold uread; rw [if_neg (by omega)]
 generalize marksL ((rest B at_).take 16) = ms at *
 refine r_loop1 (fun x w' => ∃ j : Nat, j ≤ ms.length ∧ x = nv j ∧ 16 + 16 * j ≤ (rest B at_).length ∧ Same w w' ∧ Holds w' (SL nv tI mv ms :: blk bt tT ([] ++ ((boolsT (usedT (ms.take j) ((rest B at_).drop 16))).map Value.bool ++ [])) :: RdR r B d (at_ + 16 + 16 * j) :: L))
   (fun x _ => ms.length - (RowKit.intOf x).toNat) ⟨0, by omega, rfl, by omega, S, ?_⟩ ?_
 · rw [List.append_nil, List.nil_append]; exact H
 clear H S; rintro _ _ w4 ⟨j, hj, rfl, hlen, S, H⟩
 repeat (refine r_lss ?_)
 refine r_ifD (fun h => ?_) fun h => ?_
 · have hlt : j < ms.length := by omega
   have hgj : ms[j]? = some ms[j] := List.getElem?_eq_getElem hlt; have hi16 := hm16 _ (List.getElem_mem hlt); refine r_getS 0 H rfl hgj ?_; generalize hmi : ms[j] = i at *; have hrl := rest_len B at_; have hrl2 := rest_len B (at_ + 16 + 16 * j); refine Get_spec (n := 16) (Holds.front H 2 rfl) (by omega) (fun hs w5 S5 H5 => ?_) fun hs w5 S5 H5 => ?_
   · repeat (first | refine r_neq ?_ | (with_reducible refine r_ex20 ?_) | (with_reducible refine r_ex21 ?_) | ((with_reducible refine r_vtN ?h ?_); (case h => omega)))
     refine ks ?_ _ _ (S.trans S5) (Holds.front H5 0 rfl |>.dropAt 1 |>.dropAt 1); rw [e0, if_pos (by omega)]
   · replace S := S.trans S5; clear H; have H := H5; clear H5 S5
     repeat (first | refine r_neq ?_ | (with_reducible refine r_ex20 ?_) | (with_reducible refine r_ex21 ?_) | ((with_reducible refine r_vfN ?h ?_); (case h => omega)))
     have hq2 : ((rest B (at_ + 16 + 16 * j)).take 16).length = 16 := by rw [List.length_take]; omega
     refine marks_spec H hq2 fun mv2 w5 S5 H5 => ?_; replace S := S.trans S5; clear H; have H := H5; clear H5 S5; refine r_lnS 0 H rfl ?_; have hml2 := marksL_len ((rest B (at_ + 16 + 16 * j)).take 16)
     have hmm : ∀ b, ((rest B at_).drop 16 |>.drop (16 * j)).getD (b % 16) false = decide (b % 16 ∈ marksL ((rest B (at_ + 16 + 16 * j)).take 16)) := fun b => by
       have hb : b % 16 < 16 := Nat.mod_lt _ (by decide); rw [rest_drop, rest_drop, Bool.eq_iff_iff, decide_eq_true_iff, marksL_mem, List.getD_eq_getElem?_getD, List.getD_eq_getElem?_getD, List.getElem?_take_of_lt hb]; exact ⟨fun h => ⟨hb, h⟩, fun h => h.2⟩
     generalize hm2 : marksL ((rest B (at_ + 16 + 16 * j)).take 16) = ks2 at *; have hk16 : ∀ x ∈ ks2, x < 16 := fun x hx => marksL_lt (by rw [hm2]; exact hx)
     refine r_loop1 (fun x w' => ∃ m : Nat, m ≤ ks2.length ∧ x = nv m ∧ Same w w' ∧ Holds w' (SL nv tI mv2 ks2 :: RdR r B d (at_ + 16 + 16 * j + 16) :: SL nv tI mv ms ::
       blk bt tT ([] ++ ((boolsT fun b => usedT (ms.take j) ((rest B at_).drop 16) b || (decide (b / 16 = i) && decide (b % 16 ∈ ks2.take m))).map Value.bool ++ [])) :: L)) (fun x _ => ks2.length - (RowKit.intOf x).toNat) ⟨0, by omega, rfl, S, ?_⟩ ?_
     · have : (fun b => usedT (ms.take j) ((rest B at_).drop 16) b || (decide (b / 16 = i) && decide (b % 16 ∈ ks2.take 0))) = usedT (ms.take j) ((rest B at_).drop 16) := by
         funext b; simp
       rw [this]; exact H
     clear H S; rintro _ _ w6 ⟨m, hm, rfl, S, H⟩
     repeat (refine r_lss ?_)
     refine r_ifD (fun h => ?_) fun h => ?_
     · have hlt2 : m < ks2.length := by omega
       have hgm : ks2[m]? = some ks2[m] := List.getElem?_eq_getElem hlt2; have hk := hk16 _ (List.getElem_mem hlt2); refine r_getS 0 H rfl hgm ?_; generalize hmk : ks2[m] = kk at *
       repeat (first | refine r_mulE ((16 * i : Nat) : Int) (by omega) (by omega) (by omega) ?_ | (refine r_addN (by omega) ?_) | (refine r_iaaN (by omega) ?_))
       refine r_st 3 H rfl (by simp [boolsT_len]; omega) rfl fun w7 S7 H7 => ?_; have e := mid_set (f := Value.bool) (xs := boolsT fun b => usedT (ms.take j) ((rest B at_).drop 16) b || (decide (b / 16 = i) && decide (b % 16 ∈ ks2.take m))) (post := []) (j := 16 * i + kk) [] true (by rw [boolsT_len]; omega); rw [List.length_nil, boolsT_set] at e; rw [List.set_cons_succ, List.set_cons_succ, List.set_cons_succ, List.set_cons_zero, e] at H7
       have ef : (fun b => (usedT (ms.take j) ((rest B at_).drop 16) b || (decide (b / 16 = i) && decide (b % 16 ∈ ks2.take m))) || decide (b = 16 * i + kk)) = fun b => usedT (ms.take j) ((rest B at_).drop 16) b || (decide (b / 16 = i) && decide (b % 16 ∈ ks2.take (m + 1))) := by
         funext b
         rw [Bool.or_assoc]; refine congrArg (fun z => usedT (ms.take j) ((rest B at_).drop 16) b || z) ?_; rw [Bool.eq_iff_iff]; simp only [Bool.or_eq_true, Bool.and_eq_true, decide_eq_true_iff]; rw [take_snoc hgm, List.mem_append, List.mem_singleton]
         constructor
         · rintro (⟨h1, h2⟩ | h)
           · exact ⟨h1, .inl h2⟩
           · exact ⟨by omega, .inr (by omega)⟩
         · rintro ⟨h1, h2 | h2⟩
           · exact .inl ⟨h1, h2⟩
           · exact .inr (by omega)
       rw [ef] at H7
       repeat (first | refine r_ke ?_ | (refine r_add1N (by omega) ?_))
       refine ⟨⟨m + 1, by omega, rfl, S.trans S7, H7⟩, ?_⟩; simp [nv, RowKit.intOf]; omega
     · obtain rfl : m = ks2.length := by omega
       repeat (first | refine r_ke ?_ | (refine r_add1N (by omega) ?_))
       refine ⟨⟨j + 1, by omega, rfl, by omega, S, ?_⟩, ?_⟩
       · have ef : usedT (ms.take (j + 1)) ((rest B at_).drop 16) = fun b => usedT (ms.take j) ((rest B at_).drop 16) b || (decide (b / 16 = i) && decide (b % 16 ∈ ks2.take ks2.length)) := by
           funext b
           rw [take_snoc hgj, usedT_snoc, List.length_take, Nat.min_eq_left hj, hmm, List.take_length]
         rw [ef, show at_ + 16 + 16 * (j + 1) = at_ + 16 + 16 * j + 16 by omega]; exact (H.drop.front 2 rfl).front 2 rfl
       · simp [nv, RowKit.intOf]; omega
 · obtain rfl : j = ms.length := by omega
   rw [if_neg (by omega)] at e0; rw [List.take_length] at H; generalize usedT ms ((rest B at_).drop 16) = T at *
   have hlenT : ((boolsT T).map Value.bool).length = 256 := by rw [List.length_map, boolsT_len]
   rw [List.append_nil, List.nil_append] at H; refine r_ldA 1 H ((boolsT T).map Value.bool) rfl (by rw [List.drop_zero, List.take_of_length_le (by omega)]) hlenT ?_; refine listed_spec H fun w5 S5 H5 => ?_; have H6 : Holds w5 (RdR r B d (at_ + 16 + 16 * ms.length) :: L) := H5.drop.drop; rw [Nat.add_assoc] at H6; replace S := S.trans S5
   have hsz : (⟨(listed T).toArray⟩ : ByteArray).size = (listed T).length := by show (listed T).toArray.size = _; simp
   repeat (refine r_seq0 ?_)
   by_cases hT : listed T = []
   · rw [if_pos hT] at e0; rw [decide_eq_true (by rw [hsz, hT]; rfl)]; exact r_vt (kb e0 _ _ S H6)
   · rw [if_neg hT] at e0; rw [decide_eq_false (by rw [hsz]; exact fun h => hT (List.eq_nil_of_length_eq_zero h))]; exact r_vf (k _ _ e0 hT _ S H6)
theorem Read_spec (H : Holds w (RdR r B d at_ :: L))
   (ks : uread (rest B at_) = .short → ∀ w', Same w w' → Holds w' (RdR r B d at_ :: L) → K (.tuple #[S_ [], iv 3]) w')
   (kb : uread (rest B at_) = .bad 25 → ∀ w', Same w w' → Holds w' (RdR r B d at_ :: L) → K (.tuple #[S_ [], iv 25]) w')
   (k : ∀ T n, uread (rest B at_) = .ok T n → listed T ≠ [] → ∀ w', Same w w' → Holds w' (RdR r B d (at_ + n) :: L) → K (.tuple #[S_ (listed T), iv 0]) w') : Cl Tryz.prog F.used_Read #[pt r] w K := by
 refine Tie.used_Read ?_; unfold Vcf.used_Read; have hf := (RdR_open H).1; refine At_spec H ?_; refine read_spec H (fun hs q w2 S2 H2 => ?_) (fun hs q w2 S2 H2 => ?_) fun T n hs hT w2 S2 H2 => ?_
 · repeat (first | refine r_neq ?_ | (with_reducible refine r_ex20 ?_) | (with_reducible refine r_ex21 ?_) | ((with_reducible refine r_vtN ?h ?_); (case h => omega)))
   refine Seek_spec H2 hf.1 hf.2.1 fun w3 S3 H3 => ?_; exact ks hs _ (S2.trans S3) H3
 · repeat (first | refine r_neq ?_ | (with_reducible refine r_ex20 ?_) | (with_reducible refine r_ex21 ?_) | ((with_reducible refine r_vtN ?h ?_); (case h => omega)))
   refine Seek_spec H2 hf.1 hf.2.1 fun w3 S3 H3 => ?_; exact kb hs _ (S2.trans S3) H3
 · repeat (first | refine r_neq ?_ | (with_reducible refine r_ex20 ?_) | (with_reducible refine r_ex21 ?_) | ((with_reducible refine r_vfN ?h ?_); (case h => omega)))
   exact k T n hs hT _ S2 H2
end U05
namespace S17
open Go.Mr Go.M18 S16
variable {w : World} {L : List HProp} {K : Value → World → Prop} {b sb : Nat} {s : List UInt8} {x : SS}
abbrev tTu : Nat := 154
def aheadB (s : List UInt8) (a : Nat) : UInt8 := if a = 0 then s.getD (s.length - 1) 0 else s.getD (a - 1) 0
theorem ahead_spec {a : Nat} (h0 : s ≠ []) (hl : s.length ≤ 1000000) (ha : a < s.length) (k : K (bv (aheadB s a)) w) : Cl Tryz.prog F.bwt_ahead #[St_ s, nv a] w K := by
 refine Tie.bwt_ahead ?_; unfold Vcf.bwt_ahead
 have hsz : (⟨s.toArray⟩ : ByteArray).size = s.length := by simp [ByteArray.size]
 have hd : (⟨s.toArray⟩ : ByteArray).data.toList = s := by simp
 unfold aheadB at k; refine r_eql (r_ifE (fun h => ?_) fun h => ?_)
 · rw [if_pos (by omega)] at k; refine r_lns ?_; rw [hsz]; refine r_sub1N (by omega) (by omega) ?_; refine r_ixsN (by rw [hsz]; omega) ?_; rw [hd]; exact k
 · rw [if_neg (by omega)] at k; refine r_sub1N (by omega) (by omega) ?_; refine r_ixsN (by rw [hsz]; omega) ?_; rw [hd]; exact k
def tuL (b : Nat) (s : List UInt8) (sb : Nat) (ov lv : Value) (o : Nat) (order : List Nat) (last : List UInt8) : List HProp := [blk b tTu [St_ s, pt sb, ov, lv, nv o], SL nv tI ov order, SL bv tB lv last]
theorem TDone_spec {ov lv : Value} {o : Nat} {order : List Nat} {last : List UInt8} (H : Holds w (tuL b s sb ov lv o order last ++ L)) (k : ∀ w', Same w w' → Holds w' (tuL b s sb ov lv o order last ++ L) → K (.bool (decide (last.length = s.length))) w') : Cl Tryz.prog F.bwt_Turner_Done #[pt b] w K := by
 refine Tie.bwt_Turner_Done ?_; unfold Vcf.bwt_Turner_Done
 have hsz : (⟨s.toArray⟩ : ByteArray).size = s.length := by simp [ByteArray.size]
 refine r_dr H fun w1 S1 H1 => ?_; refine r_bnST (r_vt ?_); refine r_nc (r_fo0 (r_ld 0 H1 rfl rfl ?_)); refine r_lnS 2 H1 rfl ?_; refine r_nc (r_fo0 (r_ld 0 H1 rfl rfl ?_)); refine r_lns ?_; rw [hsz]; refine r_eql ?_; rw [show (((last.length : Nat) : Int) == ((s.length : Nat) : Int)) = decide (last.length = s.length) from by rw [Bool.eq_iff_iff, beq_iff_eq, decide_eq_true_iff]; omega]; exact k _ S1 H1
theorem sg_bv (c : UInt8) : sg (bv c) = true := rfl
theorem take_spec {ov lv : Value} {o a : Nat} {order : List Nat} {last : List UInt8} (H : Holds w (tuL b s sb ov lv o order last ++ L)) (h0 : s ≠ []) (hl : s.length ≤ 4000) (hi : order[last.length]? = some a) (ha : a < s.length) (hll : last.length ≤ 4000)
   (k : ∀ lv' w', Same w w' → Holds w' (tuL b s sb ov lv' (if a = 0 then last.length else o) order (last ++ [aheadB s a]) ++ L) → K (.tuple #[]) w') : Cl Tryz.prog F.bwt_Turner_take #[pt b] w K := by
 refine Tie.bwt_Turner_take ?_; unfold Vcf.bwt_Turner_take; refine r_nc (r_fo0 (r_ld 0 H rfl rfl ?_)); refine r_lnS 2 H rfl ?_; refine r_nc (r_fo0 (r_ld 0 H rfl rfl ?_)); refine r_getS 1 H rfl hi ?_; refine r_join0 (fun w' => Same w w' ∧ Holds w' (tuL b s sb ov lv (if a = 0 then last.length else o) order last ++ L)) ?_ ?_
 · rintro _ w1 ⟨S1, H1⟩; generalize (if a = 0 then last.length else o) = o' at *; refine r_dr H1 fun w2 S2 H2 => ?_; refine r_nc (r_fo0 (r_ld 0 H2 rfl rfl ?_)); refine r_nc (r_fo0 (r_ld 0 H2 rfl rfl ?_)); refine ahead_spec h0 (by omega) ha ?_; refine r_rk (r_ld 0 H2 rfl rfl rfl) ?_; refine r_bs1 H2 (sg_bv _) fun b3 w3 S3 H3 => ?_; refine r_rk (r_ld 1 H3 rfl rfl rfl) ?_; obtain ⟨oa, sp, rfl, H4⟩ := H3.open 3 rfl; refine r_ap (f := bv) (xs := last) (ys := [aheadB s a]) (sp := sp) H4 3 0 rfl rfl rfl rfl rfl rfl sg_bv (by simp; omega) (by simp) fun oa' sp' w4 S4 H5 => ?_; have H6 := H5.close 3 rfl
   have hlen : last.length + [aheadB s a].length = (last ++ [aheadB s a]).length := by simp
   rw [hlen]; refine r_nc (r_fo0 ?_); refine r_st 1 H6 rfl (by simp) rfl fun w5 S5 H7 => ?_; exact k _ w5 (S1.trans (S2.trans (S3.trans (S4.trans S5)))) H7.drop
 · refine r_eql (r_ifE (fun h => ?_) fun h => ?_)
   · refine r_nc (r_fo0 ?_); refine r_st 0 H rfl (by simp) rfl fun w1 S1 H1 => ?_; refine r_ke ⟨S1, ?_⟩; rw [if_pos (by omega)]; exact H1
   · refine r_ke ⟨.refl _, ?_⟩; rw [if_neg (by omega)]; exact H
theorem sortP_idx {s : List UInt8} {o o' : Nat} (h : (sortP s s.length)[o]? = some 0) (h' : (sortP s s.length)[o']? = some 0) : o = o' := by
 obtain ⟨p1, p2⟩ := List.getElem?_eq_some_iff.1 h; obtain ⟨p3, p4⟩ := List.getElem?_eq_some_iff.1 h'; exact (List.getElem_inj (sortP_nodup s _)).1 (p2.trans p4.symm)
end S17
namespace S16
open Go.Mr Go.M18
variable {w : World} {L : List HProp} {K : Value → World → Prop} {b n q : Nat} {s : List UInt8} {x : SS}
def SoOk (s : List UInt8) (x : SS) (n : Nat) : Prop := n ≤ 300000000000 ∧ (Fini s x ∨ (Inv s x ∧ x.reach ≤ 2 * s.length ∧ ldS s.length x ≤ 4 * (s.length * s.length) + s.length ∧ n + mu s.length x ≤ 300000000000))
theorem SoOk.start (h0 : s ≠ []) (hlen : s.length ≤ 4000) : SoOk s (startD s.length) 0 := by
 refine ⟨Nat.zero_le _, ?_⟩; rcases startD_ok h0 hlen with h | ⟨h1, h2, h3, h4⟩
 · exact .inl h
 · exact .inr ⟨h1, h2, h3, by omega⟩
theorem StepN_spec (H : Holds w (SoR b s x n :: L)) (hx : SoOk s x n) (hlen : s.length ≤ 4000) (hq : q ≤ 1099511627776)
   (k : ∀ y m w', SoOk s y (n + m) → m ≤ q → (y.done = true ∨ m = q) → (m = 0 → y = x) → (x.done = true → m = 0) → Same w w' → Holds w' (SoR b s y (n + m) :: L) → K (nv m) w') : Cl Tryz.prog F.sorter_Sorter_Step #[pt b, nv q] w K := by
 refine Tie.sorter_Sorter_Step ?_; unfold Vcf.sorter_Sorter_Step; refine r_bnSF (r_vf ?_); obtain ⟨ov, cv, av, kv, H0⟩ := SoR_open H; refine r_nc (r_fo0 (r_ld 0 H0 rfl rfl ?_)); clear H0 ov cv av kv; refine r_loop0n (fun j w' => ∃ (y : SS) (m : Nat), j = q - m ∧ m ≤ q ∧ (m = 0 → y = x) ∧ (x.done = true → m = 0) ∧ Same w w' ∧ Holds w' (SoR b s y (n + m) :: L) ∧ SoOk s y (n + m)) q ⟨x, 0, rfl, Nat.zero_le _, fun _ => rfl, fun _ => rfl, .refl _, H, hx⟩ ?_; clear H hx; rintro _ j w1 _ ⟨y, m, rfl, hm, h0, hx0, S1, H1, hy⟩ hgo; obtain ⟨ov, cv, av, kv, H2⟩ := SoR_open H1; have hyn := hy.1; refine r_join1 (fun t w' => w1 = w' ∧ t = .bool (decide (y.done = false ∧ m < q))) ?_ ?_
 · rintro _ _ _ ⟨rfl, rfl⟩; refine r_ifD (fun h => ?_) fun h => ?_
   · obtain ⟨hd, hlt⟩ := h; rcases hy.2 with hf | ⟨hI, hr, hl, hmu⟩
     · rw [hf.1] at hd; cases hd
     refine step_spec H1 hI hlen hr hl (by omega) fun w2 S2 H3 => ?_; obtain ⟨h5, h6⟩ := step_ok hI; refine r_ke (hgo (q - (m + 1)) _ (by omega) ⟨_, m + 1, rfl, hlt, (fun e => absurd e (Nat.succ_ne_zero m)), (fun e => by have := h0 (hx0 e); rw [this, e] at hd; cases hd), S1.trans S2, H3, ?_⟩); rcases h6 with h6 | h6
     · exact ⟨by omega, .inl h6⟩
     · obtain ⟨h7, h8⟩ := step_load hI hl hr h6.bs.nd; exact ⟨by omega, .inr ⟨h6, h8, h7, by omega⟩⟩
   · refine r_nc (r_fo0 (r_ld 0 H2 rfl rfl ?_)); refine r_sub (by omega) (by omega) ?_; rw [show (((n + m : Nat)) : Int) - ((n : Nat) : Int) = ((m : Nat) : Int) by omega]; refine k y m _ hy hm ?_ h0 hx0 S1 H1
     cases hd : y.done with
     | true => exact .inl rfl
     | false => exact .inr (by have : ¬ m < q := fun e => h ⟨hd, e⟩; omega)
 · refine r_nc (r_fo0 (r_ld 0 H2 rfl rfl ?_))
   cases hd : y.done with
   | true => exact r_notT (r_vf (r_ke ⟨rfl, by rw [decide_eq_false (fun e => by cases e.1)]⟩))
   | false =>
     refine r_notF (r_vt ?_); refine r_nc (r_fo0 (r_ld 0 H2 rfl rfl ?_)); refine r_sub (by omega) (by omega) ?_; refine r_lss (r_ke ⟨rfl, ?_⟩); rw [show decide ((((n + m : Nat)) : Int) - ((n : Nat) : Int) < ((q : Nat) : Int)) = decide (false = false ∧ m < q) from decide_eq_decide.2 ⟨fun e => ⟨rfl, by omega⟩, fun e => by have := e.2; omega⟩]
end S16
namespace S17
open Go.Mr Go.M18 S16
variable {w : World} {L : List HProp} {K : Value → World → Prop} {b q : Nat} {s : List UInt8}
inductive Tun where
 | sorts
 | takes (u : Nat)
def Tun.done (s : List UInt8) : Tun → Bool
 | .sorts => false
 | .takes u => decide (u = s.length)
def Zer (s : List UInt8) (u o : Nat) : Prop := ∀ oz, (sortP s s.length)[oz]? = some 0 → oz < u → o = oz
def TuL (b : Nat) (s : List UInt8) : Tun → (sb : Nat) → (y : SS) → (n : Nat) → (ov lv : Value) → (o : Nat) → List HProp
 | .sorts, sb, y, n, ov, lv, o => tuL b s sb (.slice none 0 0) (.slice none 0 0) o [] [] ++ [SoR sb s y n]
 | .takes u, sb, y, n, ov, lv, o => tuL b s sb ov lv o (sortP s s.length) (((sortP s s.length).take u).map (aheadB s)) ++ [SoR sb s y n]
def TuOk (s : List UInt8) : Tun → SS → Nat → Value → Nat → Prop
 | .sorts, y, n, ov, o => SoOk s y n
 | .takes u, y, n, ov, o => Fini s y ∧ SoOk s y n ∧ u ≤ s.length ∧ Zer s u o ∧ ∃ a l c, ov = .slice (some a) l c
def TuR (b : Nat) (s : List UInt8) (t : Tun) : HProp := fun h => ∃ sb y n ov lv o, TuOk s t y n ov o ∧ Sat (TuL b s t sb y n ov lv o) h
theorem TuR_open {t : Tun} (H : Holds w (TuR b s t :: L)) : ∃ sb y n ov lv o, TuOk s t y n ov o ∧ Holds w (TuL b s t sb y n ov lv o ++ L) := by
 obtain ⟨sb, H⟩ := Holds.ex H; obtain ⟨y, H⟩ := Holds.ex H; obtain ⟨n, H⟩ := Holds.ex H; obtain ⟨ov, H⟩ := Holds.ex H; obtain ⟨lv, H⟩ := Holds.ex H; obtain ⟨o, H⟩ := Holds.ex H; obtain ⟨h, H⟩ := Holds.pure H; exact ⟨sb, y, n, ov, lv, o, h, Holds.unpack H⟩
theorem TuR_close {t : Tun} {sb : Nat} {y : SS} {n : Nat} {ov lv : Value} {o : Nat} (h : TuOk s t y n ov o) (H : Holds w (TuL b s t sb y n ov lv o ++ L)) : Holds w (TuR b s t :: L) :=
 Holds.imp (Holds.pack H) fun g hg => ⟨sb, y, n, ov, lv, o, h, hg⟩
theorem TuDone_spec {t : Tun} (h0 : s ≠ []) (H : Holds w (TuR b s t :: L)) (k : ∀ w', Same w w' → Holds w' (TuR b s t :: L) → K (.bool (t.done s)) w') : Cl Tryz.prog F.bwt_Turner_Done #[pt b] w K := by
 obtain ⟨sb, y, n, ov, lv, o, ho, H1⟩ := TuR_open H; have hpos := List.length_pos_iff.2 h0
 cases t with
 | sorts =>
   refine TDone_spec (L := SoR sb s y n :: L) H1 fun w' S' H' => ?_; rw [decide_eq_false (show ¬ ([] : List UInt8).length = s.length by rw [List.length_nil]; omega)]; exact k w' S' (TuR_close (t := .sorts) (ov := ov) (lv := lv) ho H')
 | takes u =>
   have hu := ho.2.2.1; refine TDone_spec (L := SoR sb s y n :: L) H1 fun w' S' H' => ?_
   have e : (((sortP s s.length).take u).map (aheadB s)).length = u := by rw [List.length_map, List.length_take, sortP_len]; omega
   rw [e]; exact k w' S' (TuR_close (t := .takes u) ho H')
theorem TuStep_spec {t : Tun} (H : Holds w (TuR b s t :: L)) (h0 : s ≠ []) (hl : s.length ≤ 4000) (hd : t.done s = false) (hq1 : 1 ≤ q) (hq : q ≤ 1099511627776)
   (k : ∀ t' g w', 1 ≤ g → g ≤ q → Same w w' → Holds w' (TuR b s t' :: L) → K (nv g) w') : Cl Tryz.prog F.bwt_Turner_Step #[pt b, nv q] w K := by
 refine Tie.bwt_Turner_Step ?_; unfold Vcf.bwt_Turner_Step; have hpos := List.length_pos_iff.2 h0; have hlo := sortP_len s s.length; refine r_join1 (fun t w' => w = w' ∧ t = .bool false) ?_ ?_
 rotate_left
 · exact r_bnSF (r_vf (r_lss (r_ke ⟨rfl, by rw [decide_eq_false (by omega)]⟩)))
 rintro _ _ _ ⟨rfl, rfl⟩; refine r_vf ?_; obtain ⟨sb, y, n, ov, lv, o, ho, H1⟩ := TuR_open H
 -- the sorter's steps, and its order
 have mid : ∀ (u m : Nat) (y' : SS) (n' : Nat) (ov' lv' : Value) (o' : Nat) (w1 : World), TuOk s (.takes u) y' n' ov' o' → m ≤ q → (m = 0 → u < s.length) → Same w w1 → Holds w1 (TuL b s (.takes u) sb y' n' ov' lv' o' ++ L) →
     VLoop 1 [nv m] w1 fun _ next6 gone_5 w4 =>
       VJoin 1 (fun _ x_7 w5 =>
       Vif x_7 (
       Cl Tryz.prog F.bwt_Turner_take #[pt b] w5 fun x_8 w6 =>
       Bp .add gone_5 (.int .i64 1) fun x_9 =>
       KE [pt b, nv q] [pt b, nv q] <| next6 x_9 w6) (
       K gone_5 w5))
       (fun J10 =>
       Nc (pt b) <|
       Fo 1 (pt b) fun x_11 =>
       Ld x_11 w4 fun x_12 =>
       Cl Tryz.prog F.sorter_Sorter_Done #[x_12] w4 fun x_13 w7 =>
       Vif x_13 (
       Bp .lss gone_5 (nv q) fun x_14 =>
       Vif x_14 (
       Cl Tryz.prog F.bwt_Turner_Done #[pt b] w7 fun x_15 w8 =>
       Up .not x_15 fun x_16 =>
       KE [pt b, nv q, gone_5] [pt b, nv q, gone_5] <| J10 x_16 w8) (
       KE [pt b, nv q, gone_5] [pt b, nv q, gone_5] <| J10 (.bool false) w7)) (
       KE [pt b, nv q, gone_5] [pt b, nv q, gone_5] <| J10 (.bool false) w7)) := by
   intro u0 m y' n' ov' lv' o' w1 ho hm h1 S1 H1; refine r_loop1 (fun g w' => ∃ (u m' o'' : Nat) (lv'' : Value), g = nv m' ∧ m' ≤ q ∧ (m' = 0 → u < s.length) ∧ TuOk s (.takes u) y' n' ov' o'' ∧ Same w w' ∧ Holds w' (TuL b s (.takes u) sb y' n' ov' lv'' o'' ++ L)) (fun g _ => q - (RowKit.intOf g).toNat) ⟨u0, m, o', lv', rfl, hm, h1, ho, S1, H1⟩ ?_; clear ho hm h1 S1 H1; rintro _ _ w2 ⟨u, m', o'', lv'', rfl, hm, h1, ho, S2, H2⟩; obtain ⟨hf, hso, hu, hz, ha⟩ := ho
   have hlen : (((sortP s s.length).take u).map (aheadB s)).length = u := by rw [List.length_map, List.length_take, hlo]; omega
   have H2' : Holds w2 (tuL b s sb ov' lv'' o'' (sortP s s.length) (((sortP s s.length).take u).map (aheadB s)) ++ (SoR sb s y' n' :: L)) := H2; refine r_join1 (fun t w' => Same w w' ∧ Holds w' (tuL b s sb ov' lv'' o'' (sortP s s.length) (((sortP s s.length).take u).map (aheadB s)) ++ (SoR sb s y' n' :: L)) ∧ t = .bool (decide (m' < q ∧ ¬ u = s.length))) ?_ ?_
   · rintro _ _ w4 ⟨S4, H4, rfl⟩; refine r_ifD (fun h => ?_) fun h => ?_
     · have hlt : u < s.length := by omega
       have hg : (sortP s s.length)[u]? = some ((sortP s s.length).getD u 0) := getD_at (by rw [hlo]; exact hlt); have ha' : (sortP s s.length).getD u 0 < s.length := (sortP_mem s s.length _).1 (getD_mem (by rw [hlo]; exact hlt))
       have htk : (sortP s s.length).take (u + 1) = (sortP s s.length).take u ++ [(sortP s s.length).getD u 0] := by rw [List.take_add_one, hg]; rfl
       refine take_spec H4 h0 hl (a := (sortP s s.length).getD u 0) (by rw [hlen]; exact hg) ha' (by rw [hlen]; omega) fun lv2 w5 S5 H5 => ?_; refine r_add1N (by omega) (r_ke ⟨⟨u + 1, m' + 1, (if (sortP s s.length).getD u 0 = 0 then (((sortP s s.length).take u).map (aheadB s)).length else o''), lv2, rfl, by omega, (fun e => absurd e (Nat.succ_ne_zero _)), ⟨hf, hso, hlt, ?_, ha⟩, S4.trans S5, ?_⟩, ?_⟩)
       · intro oz hoz hlz; rw [hlen]
         by_cases e : (sortP s s.length).getD u 0 = 0
         · rw [if_pos e]; rw [e] at hg; exact sortP_idx hg hoz
         · rw [if_neg e]; refine hz oz hoz ?_; rcases Nat.lt_or_ge oz u with g | g
           · exact g
           · have : oz = u := by omega
             rw [this, hg] at hoz; exact absurd (Option.some.inj hoz) e
       · show Holds w5 (tuL b s sb ov' lv2 _ (sortP s s.length) (((sortP s s.length).take (u + 1)).map (aheadB s)) ++ (SoR sb s y' n' :: L)); rw [htk, List.map_append]; exact H5
       · simp only [nv, RowKit.intOf, Int.toNat_natCast]; omega
     · refine k (.takes u) m' w4 ?_ hm S4 (TuR_close (t := .takes u) ⟨hf, hso, hu, hz, ha⟩ H4); rcases Nat.eq_zero_or_pos m' with e | e
       · have := h1 e; omega
       · exact e
   · refine r_nc (r_fo0 (r_ld 0 H2' rfl rfl ?_))
     have H4 : Holds w2 (SoR sb s y' n' :: (tuL b s sb ov' lv'' o'' (sortP s s.length) (((sortP s s.length).take u).map (aheadB s)) ++ L)) := by have h_ := Holds.ord 4 [3, 0, 1, 2] H2' rfl; exact h_
     refine Done_spec H4 ?_; rw [hf.1]; refine r_vt (r_lss (r_ifD (fun h => ?_) fun h => ?_))
     · refine TDone_spec H2' fun w4 S4 H5 => ?_; rw [hlen]; refine r_not (r_ke ⟨S2.trans S4, H5, ?_⟩); rw [← decide_not, show decide (¬ u = s.length) = decide (m' < q ∧ ¬ u = s.length) from decide_eq_decide.2 ⟨fun e => ⟨by omega, e⟩, fun e => e.2⟩]
     · refine r_ke ⟨S2, H2', ?_⟩; rw [decide_eq_false (fun e => h (by have := e.1; omega))]
 refine r_nc (r_fo0 ?_)
 cases t with
 | takes u =>
   obtain ⟨hf, hso, hu, hz, a, l, c, rfl⟩ := ho
   have hult : u < s.length := by
     have : decide (u = s.length) = false := hd; have := of_decide_eq_false this; omega
   have H2 : Holds w (tuL b s sb (.slice (some a) l c) lv o (sortP s s.length) (((sortP s s.length).take u).map (aheadB s)) ++ (SoR sb s y n :: L)) := H1; refine r_ld 0 H2 rfl rfl ?_
   have H3 : Holds w (SoR sb s y n :: (tuL b s sb (.slice (some a) l c) lv o (sortP s s.length) (((sortP s s.length).take u).map (aheadB s)) ++ L)) := by have h_ := Holds.ord 4 [3, 0, 1, 2] H2 rfl; exact h_
   refine StepN_spec H3 hso hl hq fun y' m w1 hso' hmq _ hm0 hxm S1 H4 => ?_; obtain rfl := hxm hf.1; obtain rfl : y = y' := (hm0 rfl).symm
   have H5 : Holds w1 (tuL b s sb (.slice (some a) l c) lv o (sortP s s.length) (((sortP s s.length).take u).map (aheadB s)) ++ (SoR sb s y n :: L)) := by have h_ := Holds.ord 4 [1, 2, 3, 0] H4 rfl; exact h_
   refine r_join0 (fun w' => w1 = w') ?_ ?_
   rotate_left
   · refine r_join1 (fun t w' => w1 = w' ∧ t = .bool false) ?_ ?_
     · rintro _ _ _ ⟨rfl, rfl⟩; exact r_vf (r_ke rfl)
     · refine r_nc (r_fo0 (r_ld 0 H5 rfl rfl ?_)); exact r_be (v := .bool false) (by kernel_rfl) (r_vf (r_ke ⟨rfl, rfl⟩))
   rintro _ _ rfl; exact mid u 0 y n _ lv o w1 ⟨hf, hso, hu, hz, a, l, c, rfl⟩ (Nat.zero_le _) (fun _ => hult) S1 H5
 | sorts =>
   have H2 : Holds w (tuL b s sb (.slice none 0 0) (.slice none 0 0) o [] [] ++ (SoR sb s y n :: L)) := H1; refine r_ld 0 H2 rfl rfl ?_
   have H3 : Holds w (SoR sb s y n :: (tuL b s sb (.slice none 0 0) (.slice none 0 0) o [] [] ++ L)) := by have h_ := Holds.ord 4 [3, 0, 1, 2] H2 rfl; exact h_
   refine StepN_spec H3 ho hl hq fun y' m w1 hso' hmq hdm hm0 hxm S1 H4 => ?_
   have H5 : Holds w1 (tuL b s sb (.slice none 0 0) (.slice none 0 0) o [] [] ++ (SoR sb s y' (n + m) :: L)) := by have h_ := Holds.ord 4 [1, 2, 3, 0] H4 rfl; exact h_
   cases hyd : y'.done with
   | false =>
     have hmq' : m = q := by
       rcases hdm with e | e
       · rw [hyd] at e; cases e
       · exact e
     refine r_join0 (fun w' => w1 = w') ?_ ?_
     rotate_left
     · refine r_join1 (fun t w' => w1 = w' ∧ t = .bool false) ?_ ?_
       · rintro _ _ _ ⟨rfl, rfl⟩; exact r_vf (r_ke rfl)
       · refine r_nc (r_fo0 (r_ld 0 H5 rfl rfl ?_)); refine r_be (v := .bool true) (by kernel_rfl) (r_vt ?_); refine r_nc (r_fo0 (r_ld 0 H5 rfl rfl ?_)); refine Done_spec H4 ?_; exact r_ke ⟨rfl, by rw [hyd]⟩
     rintro _ _ rfl; refine r_loop1 (fun g w' => w1 = w' ∧ g = nv m) (fun _ _ => 0) ⟨rfl, rfl⟩ ?_; rintro _ _ _ ⟨rfl, rfl⟩; refine r_join1 (fun t w' => w1 = w' ∧ t = .bool false) ?_ ?_
     · rintro _ _ _ ⟨rfl, rfl⟩; exact r_vf (k .sorts m w1 (by omega) (by omega) S1 (TuR_close (t := .sorts) (ov := .slice none 0 0) (lv := .slice none 0 0) hso' H5))
     · refine r_nc (r_fo0 (r_ld 0 H5 rfl rfl ?_)); refine Done_spec H4 ?_; rw [hyd]; exact r_vf (r_ke ⟨rfl, rfl⟩)
   | true =>
     have hf : Fini s y' := by
       rcases hso'.2 with e | e
       · exact e
       · rw [e.1.bs.nd] at hyd; cases hyd
     refine r_join0 (fun w' => ∃ a l c, Same w w' ∧ Holds w' (tuL b s sb (.slice (some a) l c) (.slice none 0 0) o (sortP s s.length) [] ++ (SoR sb s y' (n + m) :: L))) ?_ ?_
     rotate_left
     · refine r_join1 (fun t w' => w1 = w' ∧ t = .bool true) ?_ ?_
       · rintro _ _ _ ⟨rfl, rfl⟩; refine r_vt ?_; refine r_nc (r_fo0 (r_ld 0 H5 rfl rfl ?_)); refine Order_spec H4 hf hl fun ov w2 S2 H6 => ?_; obtain ⟨oa, sp, rfl, H7⟩ := H6.open 0 rfl
         obtain ⟨a, rfl⟩ : ∃ a, oa = some a := by
           cases oa with
           | some a => exact ⟨a, rfl⟩
           | none =>
             obtain ⟨g, ⟨e, _⟩, _⟩ := H7; have := congrArg List.length e; rw [hlo, List.length_nil] at this; omega
         refine r_nc (r_fo0 ?_); refine r_st 2 H6 rfl (by simp) rfl fun w3 S3 H8 => ?_; refine r_ke ⟨a, (sortP s s.length).length, (sortP s s.length).length + sp.length, S1.trans (S2.trans S3), ?_⟩; have h_ := Holds.ord 5 [2, 0, 4, 1] H8 rfl; exact h_
       · refine r_nc (r_fo0 (r_ld 0 H5 rfl rfl ?_)); refine r_be (v := .bool true) (by kernel_rfl) (r_vt ?_); refine r_nc (r_fo0 (r_ld 0 H5 rfl rfl ?_)); refine Done_spec H4 ?_; exact r_ke ⟨rfl, by rw [hyd]⟩
     rintro _ w2 ⟨a, l, c, S2, H6⟩; exact mid 0 m y' (n + m) _ _ o w2 ⟨hf, hso', Nat.zero_le _, (fun oz _ e => absurd e (Nat.not_lt_zero _)), a, l, c, rfl⟩ hmq (fun _ => hpos) S2 H6
theorem TuNew_spec (H : Holds w L) (h0 : s ≠ []) (hl : s.length ≤ 4000) (k : ∀ b w', Same w w' → Holds w' (TuR b s .sorts :: L) → K (.tuple #[pt b, iv 0]) w') : Cl Tryz.prog F.bwt_New #[St_ s] w K := by
 refine Tie.bwt_New ?_; unfold Vcf.bwt_New; have hpos := List.length_pos_iff.2 h0
 have hsz : (⟨s.toArray⟩ : ByteArray).size = s.length := by simp [ByteArray.size]
 refine r_seq0 (r_vfD (by rw [hsz]; omega) ?_); refine New_spec H h0 hl fun sb w1 S1 H1 => ?_; refine r_ex20 (r_ex21 (r_neq (r_vfN rfl ?_))); refine r_bd (v := .agg #[St_ s, pt sb, .slice none 0 0, .slice none 0 0, nv 0]) (by kernel_rfl) ?_; refine r_new H1 fun b w2 S2 H2 => ?_; have H3 := (H2.nilSL nv tI).nilSL bv tB; refine k b w2 (S1.trans S2) (TuR_close (t := .sorts) (sb := sb) (y := startD s.length) (n := 0) (ov := .slice none 0 0) (lv := .slice none 0 0) (o := 0) (SoOk.start h0 hl) ?_); have h_ := Holds.ord 4 [2, 1, 0, 3] H3 rfl; exact h_
end S17
instance : Row Tryz.prog 152 3 (.int .i64 0) := ⟨by kernel_rfl, ⟨Tryz.t3, by kernel_rfl, by kernel_rfl, by decide, by kernel_rfl⟩, rfl⟩
instance : Row Tryz.prog 44 5 (.int .u8 0) := ⟨by kernel_rfl, ⟨Tryz.t5, by kernel_rfl, by kernel_rfl, by decide, by kernel_rfl⟩, rfl⟩
instance : Bytes Tryz.prog 44 5 9 := ⟨by kernel_rfl, by kernel_rfl, by kernel_rfl⟩
namespace U18
open Go.M18
abbrev tI : Nat := 3
abbrev tB : Nat := 5
def invC (last : ByteArray) (next : List Nat) (links : Value) (at_ : Nat) (out : Value) (steps : Nat) : List Value :=
 .string last :: (next.map nv ++ [links, nv at_, out, nv steps])
section
variable {last : ByteArray} {next : List Nat} {links out : Value} {at_ steps : Nat} (hn : next.length = 256)
include hn
theorem c257 : (invC last next links at_ out steps)[257]? = some links := by simp [invC, hn]
theorem c258 : (invC last next links at_ out steps)[258]? = some (nv at_) := by simp [invC, hn]
theorem c259 : (invC last next links at_ out steps)[259]? = some out := by simp [invC, hn]
theorem c260 : (invC last next links at_ out steps)[260]? = some (nv steps) := by simp [invC, hn]
theorem cnx {j n : Nat} (h : next[j]? = some n) : (invC last next links at_ out steps)[1 + j]? = some (nv n) := by
 have hj : j < 256 := by rw [← hn]; exact (List.getElem?_eq_some_iff.1 h).1
 unfold invC; rw [Nat.add_comm 1 j, List.getElem?_cons_succ, List.getElem?_append_left (by simpa [hn] using hj), List.getElem?_map, h]; rfl
theorem clen : (invC last next links at_ out steps).length = 261 := by simp [invC, hn]
theorem s258 (n : Nat) : (invC last next links at_ out steps).set 258 (nv n) = invC last next links n out steps := by simp [invC, hn, List.set_append]
theorem s259 (v : Value) : (invC last next links at_ out steps).set 259 v = invC last next links at_ v steps := by simp [invC, hn, List.set_append]
theorem s260 (n : Nat) : (invC last next links at_ out steps).set 260 (nv n) = invC last next links at_ out n := by simp [invC, hn, List.set_append]
theorem snx {j : Nat} (n : Nat) (hj : j < 256) : (invC last next links at_ out steps).set (1 + j) (nv n) = invC last (next.set j n) links at_ out steps := by
 unfold invC; rw [Nat.add_comm 1 j, List.set_cons_succ, List.set_append_left _ _ (by simpa [hn] using hj), List.map_set]
end
def InvR (b : Nat) (last : ByteArray) (o s k : Nat) : HProp := fun h => ∃ t lv ov, Sat [blk b t (invC last (nxL last.data.toList s) lv (atK last.data.toList o (s - 2 * last.size)) ov s),
 SL nv tI lv (lnS last.data.toList s), SL bv tB ov ((outK last.data.toList o (s - 2 * last.size)).drop k)] h
theorem InvR_open {b : Nat} {last : ByteArray} {o s k : Nat} {w : World} {L : List HProp} (H : Holds w (InvR b last o s k :: L)) :
   ∃ t lv ov, Holds w (blk b t (invC last (nxL last.data.toList s) lv (atK last.data.toList o (s - 2 * last.size)) ov s) :: SL nv tI lv (lnS last.data.toList s) ::
     SL bv tB ov ((outK last.data.toList o (s - 2 * last.size)).drop k) :: L) := by
 obtain ⟨t, H⟩ := Holds.ex H; obtain ⟨lv, H⟩ := Holds.ex H; obtain ⟨ov, H⟩ := Holds.ex H; exact ⟨t, lv, ov, Holds.unpack H⟩
theorem InvR_close {b : Nat} {last : ByteArray} {o s k t : Nat} {lv ov : Value} {w : World} {L : List HProp} (H : Holds w (blk b t (invC last (nxL last.data.toList s) lv (atK last.data.toList o (s - 2 * last.size)) ov s) :: SL nv tI lv (lnS last.data.toList s) ::
     SL bv tB ov ((outK last.data.toList o (s - 2 * last.size)).drop k) :: L)) : Holds w (InvR b last o s k :: L) :=
 Holds.imp (Holds.pack (A := [_, _, _]) H) fun h hh => ⟨t, lv, ov, hh⟩
variable {w : World} {L : List HProp} {K : Value → World → Prop} {b : Nat}
theorem Done_raw {t : Nat} {last : ByteArray} {next : List Nat} {links out : Value} {at_ steps : Nat} (hn : next.length = 256)
   (H : Holds w (blk b t (invC last next links at_ out steps) :: L)) (hl : last.size ≤ 1000000)
   (k : ∀ w', Same w w' → Holds w' (blk b t (invC last next links at_ out steps) :: L) → K (.bool ((steps : Int) == 3 * (last.size : Int))) w') :
   Cl Tryz.prog F.unbwt_Inverter_Done #[.pointer (some ⟨b, 0, none⟩)] w K := by
 refine Tie.unbwt_Inverter_Done ?_; unfold Vcf.unbwt_Inverter_Done; have S := Same.refl w
 repeat (first | ((with_reducible apply r_ld 0 H); (exact rfl); (with_reducible exact (c260 hn))) | refine r_nc ?_ | refine r_fo0 ?_ | refine r_lns ?_ | refine r_eql ?_ | (with_reducible refine r_bnST ?_) | (with_reducible refine r_vt ?_) | (refine r_mul (by omega) (by omega) ?_) | (refine r_dr H ?_; clear H; intro _ S_ H; replace S := S.trans S_; clear S_) | refine r_ld 0 H rfl rfl ?_)
 exact k _ S H
theorem begins_raw {t : Nat} {last : ByteArray} {next : List Nat} {links out : Value} {at_ steps : Nat} (hn : next.length = 256)
   (H : Holds w (blk b t (invC last next links at_ out steps) :: L)) (hb : ∀ x ∈ next, x ≤ 4000000)
   (k : ∀ w', Same w w' → Holds w' (blk b t (invC last ((List.range 256).map (exB fun j => next.getD j 0)) links at_ out steps) :: L) → K (.tuple #[]) w') :
   Cl Tryz.prog F.unbwt_Inverter_begins #[.pointer (some ⟨b, 0, none⟩)] w K := by
 refine Tie.unbwt_Inverter_begins ?_; unfold Vcf.unbwt_Inverter_begins; have S := Same.refl w
 have hsub : ((invC last next links at_ out steps).drop 1).take 256 = next.map nv := by
   unfold invC; rw [List.drop_succ_cons, List.drop_zero, List.take_append_of_le_length (by simp [hn]), List.take_of_length_le (by simp [hn])]
 repeat (first | refine r_ldA 0 H _ rfl hsub (by simp [hn]) ?_ | refine r_nc ?_ | refine r_fo0 ?_)
 have hex : ∀ j, j ≤ 256 → exB (fun j => next.getD j 0) j ≤ 4000000 * j := by
   intro j
   induction j with
   | zero => intro _; simp [exB]
   | succ j ih =>
     intro hj
     have hget : next[j]? = some (next.getD j 0) := by simp [List.getD, (by omega : j < next.length)]
     have h1 := hb (next.getD j 0) (List.mem_of_getElem? hget); have h2 := ih (by omega); simp only [exB]; omega
 refine r_loop2 (fun f x w' => ∃ j : Nat, j ≤ 256 ∧ x = nv j ∧ f = nv (exB (fun j => next.getD j 0) j) ∧ Same w w' ∧
     Holds w' (blk b t (invC last ((List.range j).map (exB fun j => next.getD j 0) ++ next.drop j) links at_ out steps) :: L))
   (fun _ x _ => 256 - (RowKit.intOf x).toNat) ⟨0, by omega, rfl, rfl, Same.refl w, by rw [List.range_zero, List.map_nil, List.nil_append, List.drop_zero]; exact H⟩ ?_
 rintro _ _ _ w1 ⟨j, hj, rfl, rfl, S, H⟩; have hx := hex j hj
 have hlen : ((List.range j).map (exB fun j => next.getD j 0) ++ next.drop j).length = 256 := by simp [hn]; omega
 repeat (refine r_lss ?_)
 refine r_vif (fun h => ?_) fun h => ?_
 · have hlt : j < 256 := by have := of_decide_eq_true h; omega
   obtain ⟨x, hgd⟩ : ∃ x, next.getD j 0 = x := ⟨_, rfl⟩
   have hget : next[j]? = some x := by rw [← hgd, List.getD_eq_getElem?_getD, List.getElem?_eq_getElem (by omega)]; rfl
   have hb1 := hb _ (List.mem_of_getElem? hget)
   have hsucc : exB (fun j => next.getD j 0) (j + 1) = exB (fun j => next.getD j 0) j + x := by rw [exB, hgd]
   have h2 := snx (last := last) (links := links) (out := out) (at_ := at_) (steps := steps) hlen (exB (fun j => next.getD j 0) j) hlt; have h3 := set_mid (exB fun j => next.getD j 0) next j (by omega); rw [h3] at h2; generalize exB (fun j => next.getD j 0) j = y at *; refine r_ixa1 (nv x) (by omega) (by omega) (by rw [Int.toNat_natCast, List.getElem?_map, hget]; rfl) ?_
   repeat (first | refine r_iaa (by omega) (by omega) ?_ | refine r_nc ?_ | refine r_fo0 ?_)
   refine r_st 0 H rfl (by rw [clen hlen]; simp; omega) rfl fun w2 S2 H2 => ?_; have S3 := S.trans S2; rw [Int.toNat_natCast, Nat.mul_one, List.set_cons_zero, h2] at H2
   repeat (first | refine r_ke ?_ | (refine r_add1N (by omega) ?_) | (refine r_addN (by omega) ?_))
   refine ⟨⟨j + 1, by omega, by simp [nv], by rw [hsucc], S3, H2⟩, ?_⟩; simp [nv, RowKit.intOf]
   try omega
 · have hge : j = 256 := by have := of_decide_eq_false h; omega
   subst hge; rw [List.drop_of_length_le (by omega), List.append_nil] at H; exact k _ S H
theorem step_spec {last : ByteArray} {o s k : Nat} (H : Holds w (InvR b last o s k :: L)) (hs : s < 3 * last.size) (hl : last.size ≤ 1000000) (ho : o < last.size) (hk : k ≤ s - 2 * last.size)
   (post : ∀ w', Same w w' → Holds w' (InvR b last o (s + 1) k :: L) → K (.tuple #[]) w') :
   Cl Tryz.prog F.unbwt_Inverter_step #[.pointer (some ⟨b, 0, none⟩)] w K := by
 refine Tie.unbwt_Inverter_step ?_; unfold Vcf.unbwt_Inverter_step; obtain ⟨t, lv, ov, H⟩ := InvR_open H; have S := Same.refl w
 have hll : last.data.toList.length = last.size := by simp
 have hn := nxL_len last.data.toList s; have hn' := nxL_len last.data.toList (s + 1)
 obtain ⟨q, r, hqr, hr, hq⟩ : ∃ q r, s = q * last.size + r ∧ r < last.size ∧ (q = 0 ∨ q = 1 ∨ q = 2) :=
   ⟨s / last.size, s % last.size, by rw [Nat.mul_comm]; exact (Nat.div_add_mod s last.size).symm, Nat.mod_lt _ (by omega), by
     have := Nat.div_lt_of_lt_mul (show s < last.size * 3 by omega)
     generalize s / last.size = q at this; omega⟩
 have hQ : ((s : Nat) : Int).tdiv (last.size : Int) = (q : Int) := by
   rw [Int.tdiv_eq_ediv_of_nonneg (by omega), hqr]
   have : ((q * last.size + r : Nat) : Int) / (last.size : Int) = (((q * last.size + r) / last.size : Nat) : Int) := by simp
   rw [this, Nat.add_comm, Nat.add_mul_div_right _ _ (by omega), Nat.div_eq_of_lt hr, Nat.zero_add]
 have hR : ((s : Nat) : Int).tmod (last.size : Int) = (r : Int) := by
   rw [Int.tmod_eq_emod_of_nonneg (by omega), hqr]
   have : ((q * last.size + r : Nat) : Int) % (last.size : Int) = (((q * last.size + r) % last.size : Nat) : Int) := by simp
   rw [this, Nat.add_comm, Nat.add_mul_mod_self_right, Nat.mod_eq_of_lt hr]
 repeat (first | ((with_reducible apply r_ld 0 H); (exact rfl); (with_reducible exact (c260 hn))) | refine r_remE hR (by omega) ?_ | refine r_nc ?_ | refine r_fo0 ?_ | refine r_lns ?_ | refine r_ld 0 H rfl rfl ?_)
 refine r_join0 (fun w' => ∃ t lv ov, Same w w' ∧ Holds w' (blk b t (invC last (nxL last.data.toList (s + 1)) lv (atK last.data.toList o (s + 1 - 2 * last.size)) ov s) :: SL nv tI lv (lnS last.data.toList (s + 1)) ::
     SL bv tB ov ((outK last.data.toList o (s + 1 - 2 * last.size)).drop k) :: L)) ?_ ?_
 · rintro _ w1 ⟨t, lv, ov, S, H⟩
   repeat (first | ((with_reducible apply r_ld 0 H); (exact rfl); (with_reducible exact (c260 hn'))) | refine r_nc ?_ | refine r_fo0 ?_ | (refine r_add1N (by omega) ?_))
   refine r_st 0 H rfl (by rw [clen hn']; omega) rfl fun w2 S2 H2 => ?_; rw [s260 hn', List.set_cons_zero] at H2; exact post _ (S.trans S2) (InvR_close H2)
 have hbt := fun i => byte_lt last.data.toList i; have hnx := fun c => nx_le last.data.toList s c
 repeat (first | ((with_reducible apply r_ld 0 H); (exact rfl); (with_reducible exact (c260 hn))) | refine r_quoE hQ (by omega) (by omega) (by omega) ?_ | refine r_nc ?_ | refine r_fo0 ?_ | refine r_eql ?_)
 rcases hq with rfl | rfl | rfl
 · -- counting
   have hrs : r = s := by omega
   subst hrs
   repeat (first | refine r_nc ?_ | refine r_fo0 ?_ | (refine r_ixsN (by omega) ?_) | (refine r_dr H ?_; clear H; intro _ S_ H; replace S := S.trans S_; clear S_) | refine r_ld 0 H rfl rfl ?_ | ((with_reducible refine r_vtE ?h ?_); (case h => omega)))
   have hc := hbt r; have hnc := hnx (last.data.toList.getD r 0).toNat
   repeat (first | ((with_reducible apply r_ld 0 H); (exact rfl); (with_reducible exact (cnx hn (nxL_get _ _ _ hc)))) | refine r_nc ?_ | refine r_fo0 ?_ | (refine r_add1N (by omega) ?_) | (refine r_iaaN (by omega) ?_))
   refine r_st 0 H rfl (by rw [clen hn]; omega) rfl fun w2 S2 H2 => ?_; rw [snx hn _ hc, List.set_cons_zero] at H2; clear H; have S := S.trans S2
   repeat (first | refine r_eql ?_ | (refine r_sub1N (by omega) (by omega) ?_))
   refine r_vif (fun h => ?_) fun h => ?_
   · have hlast : r + 1 = last.size := by have := of_decide_eq_true h; omega
     refine begins_raw (by rw [List.length_set]; exact hn) H2 ?_ fun w5 S5 H5 => ?_
     · intro x hx; rcases List.mem_or_eq_of_mem_set hx with h1 | h1
       · obtain ⟨j, hj, hjx⟩ := List.getElem_of_mem h1; have := nx_le last.data.toList r j; simp [nxL] at hjx; omega
       · omega
     · rw [nxL_begin _ _ (by omega)] at H5; refine r_ke ⟨t, lv, ov, S.trans S5, ?_⟩; rw [← lnS_low _ _ (by omega), show r + 1 - 2 * last.size = r - 2 * last.size by omega]; exact H5
   · have hlast : ¬ r + 1 = last.size := by have := of_decide_eq_false h; omega
     rw [nxL_count _ _ (by omega)] at H2; refine r_ke ⟨t, lv, ov, S, ?_⟩; rw [← lnS_low _ _ (by omega), show r + 1 - 2 * last.size = r - 2 * last.size by omega]; exact H2
 · -- linking
   have hrs : s - last.data.toList.length = r := by omega
   repeat (first | refine r_nc ?_ | refine r_fo0 ?_ | refine r_eql ?_ | (refine r_ixsN (by omega) ?_) | (refine r_dr H ?_; clear H; intro _ S_ H; replace S := S.trans S_; clear S_) | refine r_ld 0 H rfl rfl ?_ | ((with_reducible refine r_vtE ?h ?_); (case h => omega)) | ((with_reducible refine r_vfE ?h ?_); (case h => omega)))
   have hc := hbt r; have hnp := nx_pos last.data.toList s (by omega); have hlk := lnS_link last.data.toList s (by omega) (by omega); have hnl := nxL_link last.data.toList s (by omega) (by omega); have hpl := pos_lt last.data.toList r (by omega); rw [hrs] at hnp hlk hnl; obtain ⟨oa, sp, rfl, H⟩ := H.open 1 rfl; rw [List.set_cons_succ, List.set_cons_zero] at H
   repeat (first | ((with_reducible apply r_ld 0 H); (exact rfl); (with_reducible exact (cnx hn (nxL_get _ _ _ hc)))) | (refine r_iaaN (by omega) ?_))
   rw [hnp]; refine r_iasN 1 H rfl (by rw [lnS_len]; exact hpl) (Nat.le_refl _) ?_; rintro b2 rfl; refine r_stsl 1 H r rfl (by rw [lnS_len]; exact hpl) rfl rfl fun w2 S2 H2 => ?_; clear H; replace S := S.trans S2; rw [List.set_cons_succ, List.set_cons_zero, hlk] at H2; have H := H2; clear H2
   repeat (first | ((with_reducible apply r_ld 0 H); (exact rfl); (with_reducible exact (cnx hn (nxL_get _ _ _ hc)))) | refine r_nc ?_ | refine r_fo0 ?_ | (refine r_add1N (by omega) ?_) | (refine r_iaaN (by omega) ?_) | (refine r_dr H ?_; clear H; intro _ S_ H; replace S := S.trans S_; clear S_))
   have hnc := hnx (last.data.toList.getD r 0).toNat
   repeat (fail)
   refine r_st 0 H rfl (by rw [clen hn]; omega) rfl fun w3 S3 H3 => ?_; rw [snx hn _ hc, List.set_cons_zero, hnl] at H3; have H4 := H3.close 1 rfl; rw [List.set_cons_succ, List.set_cons_zero, lnS_len] at H4; rw [lnS_len] at H4; rw [show s + 1 - 2 * last.size = s - 2 * last.size by omega]; exact r_ke ⟨t, _, ov, S.trans S3, H4⟩
 · -- following
   have hlS := lnS_high last.data.toList s (by omega); have hlS' := lnS_high last.data.toList (s + 1) (by omega); have hnS := nxL_high last.data.toList s (by omega); obtain ⟨m, hm⟩ : ∃ m, s - 2 * last.size = m := ⟨_, rfl⟩
   have hm' : s + 1 - 2 * last.size = m + 1 := by omega
   rw [hm, hlS] at H; rw [hm] at hk; rw [hm', hlS', ← hnS]; have ha := atK_lt last.data.toList o (by omega) m; have ha' := atK_lt last.data.toList o (by omega) (m + 1)
   have hll2 : (links last.data.toList).length = last.size := by rw [← hll]; exact lnk_len _ _
   obtain ⟨oa, sp, rfl, H⟩ := H.open 1 rfl; rw [List.set_cons_succ, List.set_cons_zero] at H
   repeat (first | ((with_reducible apply r_ld 0 H); (exact rfl); (with_reducible exact (c257 hn))) | ((with_reducible apply r_ld 0 H); (exact rfl); (with_reducible exact (c258 hn))) | refine r_nc ?_ | refine r_fo0 ?_ | refine r_eql ?_ | (refine r_dr H ?_; clear H; intro _ S_ H; replace S := S.trans S_; clear S_) | ((with_reducible refine r_vfE ?h ?_); (case h => omega)))
   refine r_iasN 1 H rfl (by omega) (Nat.le_refl _) ?_; rintro b2 rfl
   have hat : (links last.data.toList)[atK last.data.toList o m]? = some (atK last.data.toList o (m + 1)) := by
     rw [atK, List.getD_eq_getElem?_getD, List.getElem?_eq_getElem (by omega)]; rfl
   refine r_ldsl 1 H rfl hat ?_
   repeat (first | refine r_nc ?_ | refine r_fo0 ?_)
   refine r_st 0 H rfl (by rw [clen hn]; omega) rfl fun w2 S2 H2 => ?_; rw [s258 hn, List.set_cons_zero] at H2; clear H; have H := H2; clear H2; replace S := S.trans S2; obtain ⟨oa, sp, rfl, H⟩ := H.open 2 rfl; rw [List.set_cons_succ, List.set_cons_succ, List.set_cons_zero] at H
   repeat (first | ((with_reducible apply r_ld 0 H); (exact rfl); (with_reducible exact (c258 hn))) | ((with_reducible apply r_ld 0 H); (exact rfl); (with_reducible exact (c259 hn))) | refine r_nc ?_ | refine r_fo0 ?_ | (refine r_ixsN (by omega) ?_) | (refine r_dr H ?_; clear H; intro _ S_ H; replace S := S.trans S_; clear S_) | refine r_ld 0 H rfl rfl ?_)
   have hol : (outK last.data.toList o m).length = m := outK_len _ _ _
   have hout : (outK last.data.toList o m).drop k ++ [last.data.toList.getD (atK last.data.toList o (m + 1)) 0] = (outK last.data.toList o (m + 1)).drop k := by
     rw [outK, List.drop_append_of_le_length (by omega)]
   refine r_bs1 H rfl fun b3 w3 S3 H3 => ?_; replace S := S.trans S3; refine r_rk (r_ld 1 H3 rfl (c259 hn) rfl) ?_; refine r_ap (f := bv) (ys := [last.data.toList.getD (atK last.data.toList o (m + 1)) 0]) H3 3 0 rfl rfl rfl rfl rfl rfl (fun _ => rfl) (by simp; omega) (by simp) fun oa' sp' w4 S4 H4 => ?_; replace S := S.trans S4; rw [hout, List.set_cons_succ, List.set_cons_succ, List.set_cons_succ, List.set_cons_zero] at H4
   have hlen : ((outK last.data.toList o m).drop k).length + [last.data.toList.getD (atK last.data.toList o (m + 1)) 0].length = ((outK last.data.toList o (m + 1)).drop k).length := by
     rw [← hout, List.length_append]
   rw [hlen]; clear H H3; have H := H4.drop; clear H4
   repeat (first | refine r_nc ?_ | refine r_fo0 ?_)
   refine r_st 0 H rfl (by rw [clen hn]; omega) rfl fun w5 S5 H5 => ?_; rw [s259 hn, List.set_cons_zero] at H5; have H6 := (H5.close 1 rfl); rw [List.set_cons_succ, List.set_cons_zero] at H6; have H7 := (H6.close 2 rfl); rw [List.set_cons_succ, List.set_cons_succ, List.set_cons_zero] at H7; exact r_ke ⟨t, _, _, S.trans S5, H7⟩
theorem Done_spec {last : ByteArray} {o s k : Nat} (H : Holds w (InvR b last o s k :: L)) (hl : last.size ≤ 1000000)
   (post : ∀ w', Same w w' → Holds w' (InvR b last o s k :: L) → K (.bool ((s : Int) == 3 * (last.size : Int))) w') :
   Cl Tryz.prog F.unbwt_Inverter_Done #[.pointer (some ⟨b, 0, none⟩)] w K := by
 obtain ⟨t, lv, ov, H⟩ := InvR_open H; exact Done_raw (nxL_len _ _) H hl fun w' S H => post w' S (InvR_close H)
theorem InvR_cell {last : ByteArray} {o s k : Nat} (H : Holds w (InvR b last o s k :: L)) : w.cell? ⟨b, 260, none⟩ = some (nv s) := by
 obtain ⟨t, lv, ov, H⟩ := InvR_open H; exact (H.cell 0 rfl 260).trans (c260 (nxL_len _ _))
theorem Step_spec {last : ByteArray} {o s k : Nat} {budget : Int} (H : Holds w (InvR b last o s k :: L)) (hs : s ≤ 3 * last.size) (hl : last.size ≤ 1000000) (ho : o < last.size) (hk : k ≤ s - 2 * last.size)
   (post : ∀ w', Same w w' → Holds w' (InvR b last o (s + min budget.toNat (3 * last.size - s)) k :: L) → K (nv (min budget.toNat (3 * last.size - s))) w') :
   Cl Tryz.prog F.unbwt_Inverter_Step #[.pointer (some ⟨b, 0, none⟩), .int .i64 budget] w K := by
 refine Tie.unbwt_Inverter_Step ?_; unfold Vcf.unbwt_Inverter_Step; have hn := nxL_len last.data.toList s; have S := Same.refl w; obtain ⟨t, lv, ov, H0⟩ := InvR_open H; have H' := H; clear H; have H := H0
 repeat (first | ((with_reducible apply r_ld 0 H); (exact rfl); (with_reducible exact (c260 hn))) | refine r_nc ?_ | refine r_fo0 ?_ | (with_reducible refine r_bnSF ?_) | (with_reducible refine r_vf ?_))
 clear H H0
 refine r_loop0 (fun w' => ∃ s', s ≤ s' ∧ s' ≤ 3 * last.size ∧ s' - s ≤ budget.toNat ∧ Same w w' ∧ Holds w' (InvR b last o s' k :: L))
   (fun w' => match w'.cell? ⟨b, 260, none⟩ with | some (.int _ n) => 3 * last.size - n.toNat | _ => 0) ⟨s, by omega, hs, by omega, S, H'⟩ ?_
 rintro _ w1 ⟨s', h1, h2, h3, S, H⟩; have hc := InvR_cell H; refine r_join1 (fun x w' => ∃ c : Bool, x = .bool c ∧ (c = true ↔ s' < 3 * last.size ∧ ((s' - s : Nat) : Int) < budget) ∧ Same w w' ∧ Holds w' (InvR b last o s' k :: L)) ?_ ?_
 · rintro _ _ w2 ⟨c, rfl, hc2, S, H⟩; refine r_vif (fun h => ?_) fun h => ?_
   · have h4 := hc2.1 h; refine step_spec H h4.1 hl ho (by omega) fun w3 S3 H3 => r_ke ⟨⟨s' + 1, by omega, by omega, by omega, S.trans S3, H3⟩, ?_⟩; rw [hc, InvR_cell H3]; simp only [Int.toNat_natCast]; omega
   · have h4 : ¬ (s' < 3 * last.size ∧ ((s' - s : Nat) : Int) < budget) := fun h5 => by rw [hc2.2 h5] at h; cases h
     obtain ⟨t, lv, ov, H0⟩ := InvR_open H; have H' := H; clear H; have H := H0; have hn := nxL_len last.data.toList s'
     repeat (first | ((with_reducible apply r_ld 0 H); (exact rfl); (with_reducible exact (c260 hn))) | refine r_nc ?_ | refine r_fo0 ?_ | (refine r_sub (by omega) (by omega) ?_))
     have e : s' - s = min budget.toNat (3 * last.size - s) := by omega
     have := post w2 S (by rw [← e, show s + (s' - s) = s' by omega]; exact H'); rw [← e] at this; rw [show ((s' : Int) - (s : Int)) = ((s' - s : Nat) : Int) by omega]; exact this
 · refine Done_spec H hl fun w3 S3 H3 => ?_; replace S := S.trans S3; clear H
   repeat (refine r_not ?_)
   refine r_ifNE (fun h => ?_) fun h => ?_
   · obtain ⟨t, lv, ov, H0⟩ := InvR_open H3; have H := H0; have hn := nxL_len last.data.toList s'
     repeat (first | ((with_reducible apply r_ld 0 H); (exact rfl); (with_reducible exact (c260 hn))) | refine r_nc ?_ | refine r_fo0 ?_ | refine r_ke ?_ | refine r_lss ?_ | (refine r_sub (by omega) (by omega) ?_))
     refine ⟨_, rfl, ?_, S, H3⟩; rw [decide_eq_true_iff]
     constructor
     · intro h; exact ⟨by omega, by omega⟩
     · intro h; omega
   · refine r_ke ⟨false, rfl, ?_, S, H3⟩
     constructor
     · intro h; cases h
     · intro h; omega
theorem New_spec {last : ByteArray} {origin : Int} (H : Holds w L)
   (p1 : last.size = 0 → K (.tuple #[.pointer none, .int .i64 1]) w)
   (p2 : 900000 < last.size → K (.tuple #[.pointer none, .int .i64 2]) w)
   (p3 : 0 < last.size → last.size ≤ 900000 → (origin < 0 ∨ (last.size : Int) ≤ origin) → K (.tuple #[.pointer none, .int .i64 23]) w)
   (p4 : ∀ (o : Nat) b w', origin = o → o < last.size → last.size ≤ 900000 → Same w w' → Holds w' (InvR b last o 0 0 :: L) → K (.tuple #[.pointer (some ⟨b, 0, none⟩), .int .i64 0]) w') :
   Cl Tryz.prog F.unbwt_New #[.string last, .int .i64 origin] w K := by
 refine Tie.unbwt_New ?_; unfold Vcf.unbwt_New; have S := Same.refl w
 repeat (refine r_seq0 ?_)
 refine r_ifD p1 fun h1 => ?_
 repeat (first | refine r_lns ?_ | refine r_gtr ?_)
 refine r_ifD (fun h => p2 (by omega)) fun h2 => ?_
 have hl : last.size ≤ 900000 := by omega
 refine r_join1 (fun x w' => w' = w ∧ ∃ c : Bool, x = .bool c ∧ (c = true ↔ origin < 0 ∨ (last.size : Int) ≤ origin)) ?_ ?_
 · rintro _ _ _ ⟨rfl, c, rfl, hc⟩; refine r_vif (fun h => p3 (by omega) hl (hc.1 h)) fun h => ?_
   have h3 : ¬ (origin < 0 ∨ (last.size : Int) ≤ origin) := fun h5 => by rw [hc.2 h5] at h; cases h
   obtain ⟨o, rfl⟩ : ∃ o : Nat, origin = o := ⟨origin.toNat, by omega⟩
   repeat (refine r_lns ?_)
   refine r_ms H (f := nv) (x := 0) rfl (by omega) (by omega) fun b2 w2 S2 H2 => ?_; rw [Int.toNat_natCast] at H2 ⊢; refine r_bd (v := .agg (invC last (List.replicate 256 0) (.slice (some ⟨b2, 0, none⟩) last.size last.size) o (.slice none 0 0) 0).toArray) (by kernel_rfl) ?_; refine r_new H2 fun b w3 S3 H3 => ?_; have H4 := H3.close 1 (f := nv) (by rfl); rw [List.set_cons_succ, List.set_cons_zero, List.length_replicate, List.length_nil, Nat.add_zero] at H4; have H5 := ((H4.nilSL bv tB).swap).front 2 rfl
   have hll : last.data.toList.length = last.size := by simp
   refine p4 o b w3 rfl (by omega) hl (S2.trans S3) (InvR_close (t := 288) (lv := .slice (some ⟨b2, 0, none⟩) last.size last.size) (ov := .slice none 0 0) ?_)
   have e1 : nxL last.data.toList 0 = List.replicate 256 0 := by
     unfold nxL; rw [List.eq_replicate_iff]; refine ⟨by simp, fun x hx => ?_⟩; obtain ⟨y, _, rfl⟩ := List.mem_map.1 hx; rw [nx_lo (by omega)]; simp [cntB]
   have e2 : lnS last.data.toList 0 = List.replicate last.size 0 := by
     unfold lnS; rw [show (0 - last.data.toList.length) = 0 by omega, Nat.zero_min, lnk, hll]
   rw [e1, e2, show 0 - 2 * last.size = 0 by omega]; exact H5.swap
 · repeat (refine r_lss ?_)
   refine r_ifD (fun h => ?_) fun h => ?_
   · exact r_ke ⟨rfl, true, rfl, by simp; omega⟩
   · repeat (first | refine r_ke ?_ | refine r_lns ?_ | refine r_geq ?_)
     refine ⟨rfl, _, rfl, ?_⟩; rw [decide_eq_true_iff]; omega
theorem Take_spec {last : ByteArray} {o s k : Nat} (H : Holds w (InvR b last o s k :: L))
   (post : ∀ w', Same w w' → Holds w' (InvR b last o s (s - 2 * last.size) :: L) → K (.string ⟨((outK last.data.toList o (s - 2 * last.size)).drop k).toArray⟩) w') :
   Cl Tryz.prog F.unbwt_Inverter_Take #[.pointer (some ⟨b, 0, none⟩)] w K := by
 refine Tie.unbwt_Inverter_Take ?_; unfold Vcf.unbwt_Inverter_Take; obtain ⟨t, lv, ov, H⟩ := InvR_open H; have S := Same.refl w; have hn := nxL_len last.data.toList s; obtain ⟨oa, sp, rfl, H⟩ := H.open 2 rfl; rw [List.set_cons_succ, List.set_cons_succ, List.set_cons_zero] at H
 repeat (first | ((with_reducible apply r_ld 0 H); (exact rfl); (with_reducible exact (c259 hn))) | refine r_cbs H 2 rfl rfl ?_ | refine r_nc ?_ | refine r_fo0 ?_ | (with_reducible refine r_bnSF ?_) | (with_reducible refine r_vf ?_))
 refine r_st 0 H rfl (by rw [clen hn]; omega) rfl fun w2 S2 H2 => ?_; rw [s259 hn, List.set_cons_zero] at H2; refine post w2 S2 (InvR_close (t := t) (lv := lv) (ov := .slice none 0 0) ?_); rw [List.drop_of_length_le (Nat.le_of_eq (outK_len _ _ _))]; exact (((H2.dropAt 2).nilSL bv tB).front 2 rfl).front 2 rfl
end U18
namespace P20
open Go.M01 Go.Mb Go.Mp Go.M10 Go.Mc Go.Mz Go.Mk
abbrev S_ (B : List UInt8) : Value := .string ⟨B.toArray⟩
abbrev pt (b : Nat) : Value := .pointer (some ⟨b, 0, none⟩)
abbrev tB : Nat := 5
abbrev tI : Nat := 3
variable {w : World} {L : List HProp} {K : Value → World → Prop}
theorem sz (t : List UInt8) : (⟨t.toArray⟩ : ByteArray).size = t.length := by show t.toArray.size = _; simp
theorem dl (t : List UInt8) : (⟨t.toArray⟩ : ByteArray).data.toList = t := by simp
theorem q_len {t : List UInt8} {K : Value → Prop} (h : K (nv t.length)) : Lns (S_ t) K := r_lns (by rw [sz]; exact h)
theorem q_ix {t : List UInt8} {k : IntKind} {m : Nat} {K : Value → Prop} (h1 : m < t.length) (h : K (bv (t.getD m 0))) : Ixs (S_ t) (.int k (m : Int)) K := r_ixsN (by rw [sz]; exact h1) (by rw [dl]; exact h)
theorem q_T {t : List UInt8} {k : IntKind} {m : Nat} {K : Value → Prop} (h1 : m ≤ t.length) (h : K (S_ (t.take m))) : Sst (S_ t) none (some (.int k (m : Int))) K := r_sstT (by rw [sz]; exact h1) (by rw [dl]; exact h)
theorem q_D {t : List UInt8} {k : IntKind} {m : Nat} {K : Value → Prop} (h1 : m ≤ t.length) (h : K (S_ (t.drop m))) : Sst (S_ t) (some (.int k (m : Int))) none K := r_sstD (by rw [sz]; exact h1) (by rw [dl]; exact h)
theorem q_str (H : Holds w L) (c : UInt8) {t e d : TypeId} {z : Value} [hr : Row Tryz.prog t e z] [hb : Bytes Tryz.prog t e d] (h : ∀ w', Same w w' → Holds w' L → K (S_ [c]) w') : Bs Tryz.prog t 1 #[(0, bv c)] w fun y w2 => Cw Tryz.prog t d y w2 K := by
 refine r_bs1 H (by rfl) fun b w2 S2 H2 => ?_; refine r_cbs (xs := [c]) (sp := []) (oa := some ⟨b, 0, none⟩) ((H2.imp fun h hh => (⟨rfl, rfl, hh⟩ : (slb bv e (some ⟨b, 0, none⟩) [c] []) h))) 0 rfl rfl ?_; exact h w2 S2 H2.drop
theorem bv_nat {j : Nat} (h : j < 256) : (Value.int .u8 (j : Int)) = bv (UInt8.ofNat j) := by
 show _ = Value.int .u8 ((UInt8.ofNat j).toNat : Int); rw [UInt8.toNat_ofNat_of_lt' (by simpa using h)]
end P20
end Go.Proofs.YtpbbfonfakjecaaGreat
namespace Go.M02
def crcStep (s : Nat) : Nat := (s * 2 % 4294967296) ^^^ (s / 2147483648 * 79764919)
def crcN (s : Nat) : Nat → Nat
 | 0 => s
 | k + 1 => crcStep (crcN s k)
def crcTab (b : Nat) : Nat := crcN (b * 16777216) 8
def tabL : List Nat := (List.range 256).map crcTab
theorem crcStep_lt (s : Nat) (h : s < 4294967296) : crcStep s < 4294967296 := by
 unfold crcStep
 have h1 : s / 2147483648 ≤ 1 := by omega
 have h2 : s / 2147483648 * 79764919 ≤ 1 * 79764919 := Nat.mul_le_mul_right _ h1; exact Nat.xor_lt_two_pow (n := 32) (by omega) (by omega)
theorem crcN_lt (s : Nat) (h : s < 4294967296) : ∀ k, crcN s k < 4294967296
 | 0 => h
 | k + 1 => crcStep_lt _ (crcN_lt s h k)
theorem tabL_len : tabL.length = 256 := by simp [tabL]
theorem tabL_get (i : Nat) (h : i < 256) : tabL[i]? = some (crcTab i) := by simp [tabL, h]
end Go.M02
namespace Go.Proofs.YtpbbfonfakjecaaGreat
open Go Go.Vc
attribute [local irreducible] Vc.Nc Vc.Ld Vc.LdA Vc.St Vc.StA Vc.Fo Vc.Iaa Vc.Ias Vc.Ixs Vc.Ixa Vc.Fd Vc.FdA Vc.Bp Vc.Bb Vc.Bn Vc.Up Vc.Ci Vc.Lns Vc.Lnl Vc.Ex Vc.Sst Vc.Ssl Vc.New Vc.Vif Vc.VJoin Vc.VLoop Vc.KE Vc.Dr Vc.Rk Vc.Cl Vc.Cx Vc.Inv Vc.Be Vc.Cv Vc.Cw Vc.Mf Vc.Sl Vc.Lk Vc.Bd Vc.Bs Vc.Ms Vc.Mm Vc.Mu Vc.Me Vc.Es Vc.Rg Vc.Nx Vc.Ta Vc.Ap Vc.Usd Vc.Ust Vc.Cp Vc.Ln Vc.Bc Vc.Bmin Vc.Bmax Vc.Bdel Vc.Bclr Vc.Pk
namespace W02
open Go.M02
variable {w : World} {L : List HProp} {K : Value → World → Prop}
abbrev tTab : Nat := 119
theorem Table_spec (H : Holds w L) (post : ∀ w', Same w w' → Holds w' L → K (.agg (tabL.map uv).toArray) w') : Cl Tryz.prog F.crc_Table #[] w K := by
 refine Tie.crc_Table ?_; unfold Vcf.crc_Table
 have hz : (zeroP Tryz.prog tTab).cells.toList = (List.replicate 256 0).map uv := by kernel_rfl
 refine r_new H fun b1 w1 S1 H1 => ?_; rw [hz] at H1; refine r_new H1 fun b2 w2 S2 H2 => ?_; rw [hz] at H2
 refine r_loop1 (fun x w' => ∃ i : Nat, i ≤ 256 ∧ x = nv i ∧ Same w w' ∧ Holds w' (blk b2 tTab ((filled tabL 0 256 i).map uv) :: blk b1 tTab ((List.replicate 256 0).map uv) :: L))
   (fun x _ => 256 - (RowKit.intOf x).toNat) ⟨0, by omega, rfl, S1.trans S2, by rw [filled_zero]; exact H2⟩ ?_
 clear H H1 H2 S1 S2; rintro _ _ w3 ⟨i, hi, rfl, S, H⟩
 repeat (refine r_lss ?_)
 refine r_ifD (fun h => ?_) fun h => ?_
 · have hlt : i < 256 := by omega
   refine r_ciu32 (by omega) (by omega) ?_; refine r_shlU32 (n := 24) (by omega) ?_; rw [show i * 2 ^ 24 % 4294967296 = crcN (i * 16777216) 0 by show _ = i * 16777216; omega]; refine r_loop2 (fun s x w' => w3 = w' ∧ ∃ j : Nat, j ≤ 8 ∧ x = nv j ∧ s = uv (crcN (i * 16777216) j)) (fun _ x _ => 8 - (RowKit.intOf x).toNat) ⟨rfl, 0, by omega, rfl, rfl⟩ ?_; rintro _ _ _ _ ⟨rfl, j, hj, rfl, rfl⟩; have hc := crcN_lt (i * 16777216) (by omega) j
   repeat (refine r_lss ?_)
   refine r_ifD (fun h2 => ?_) fun h2 => ?_
   · have h3 : crcN (i * 16777216) j / 2147483648 ≤ 1 := by omega
     have h4 : crcN (i * 16777216) j / 2147483648 * 79764919 ≤ 1 * 79764919 := Nat.mul_le_mul_right _ h3; refine r_shrU (n := 31) (by decide) ?_; refine r_shlU32 (n := 1) (by omega) ?_; refine r_mulU32 (t := 79764919) (by omega) ?_; refine r_xorU32 (by omega) (by omega) ?_
     repeat (first | refine r_ke ?_ | (refine r_add1N (by omega) ?_))
     refine ⟨⟨rfl, j + 1, by omega, rfl, rfl⟩, ?_⟩; simp [nv, RowKit.intOf]; omega
   · obtain rfl : j = 8 := by omega
     repeat (refine r_iaaN (by omega) ?_)
     refine r_st 0 H rfl (by rw [List.length_map, filled_len (by omega) tabL_len]; omega) rfl fun w4 S4 H4 => ?_
     have hset : ((filled tabL 0 256 i).map uv).set (0 + i) (uv (crcN (i * 16777216) 8)) = (filled tabL 0 256 (i + 1)).map uv := by
       rw [Nat.zero_add, ← List.map_set]; exact congrArg (List.map uv) (filled_set (z := 0) hlt tabL_len (tabL_get i hlt))
     rw [List.set_cons_zero, hset] at H4
     repeat (first | refine r_ke ?_ | (refine r_add1N (by omega) ?_))
     refine ⟨⟨i + 1, by omega, rfl, S.trans S4, H4⟩, ?_⟩; simp [nv, RowKit.intOf]; omega
 · obtain rfl : i = 256 := by omega
   rw [filled_all tabL_len] at H
   have hl : (tabL.map uv).length = 256 := by simp [tabL_len]
   refine r_ldA 0 H (tabL.map uv) rfl (by rw [List.drop_zero, List.take_of_length_le (by omega)]) hl ?_; refine r_stA 1 H (vs := tabL.map uv) rfl (Nat.le_of_eq (by rw [List.length_map, List.length_replicate])) hl (by kernel_rfl) fun w4 S4 H4 => ?_
   have hset : setL ((List.replicate 256 0).map uv) 0 (tabL.map uv) = tabL.map uv := by kernel_rfl
   rw [List.set_cons_succ, List.set_cons_zero, hset] at H4; refine r_ldA 1 H4 (tabL.map uv) rfl (by rw [List.drop_zero, List.take_of_length_le (by omega)]) hl ?_; exact post _ (S.trans S4) H4.drop.drop
end W02
namespace Rb
open Go.M01 Go.Mb
variable {w : World} {L : List HProp} {K : Value → World → Prop} {b : Nat} {B : List UInt8} {d at_ n : Nat}
theorem Align_spec (H : Holds w (RdR b B d at_ :: L)) (k : ∀ w', Same w w' → Holds w' (RdR b B d (at_ + (8 * B.length - at_) % 8) :: L) → K (.tuple #[]) w') : Cl Tryz.prog F.bits_Reader_Align #[.pointer (some ⟨b, 0, none⟩)] w K := by
 refine Tie.bits_Reader_Align ?_; unfold Vcf.bits_Reader_Align; have hf := (RdR_open H).1; have S := Same.refl w; have h0 : Holds w (RdR b B d (at_ + 0) :: L) := H; refine r_loop0 (fun w' => ∃ j, j ≤ (8 * B.length - at_) % 8 ∧ Same w w' ∧ Holds w' (RdR b B d (at_ + j) :: L)) (fun w' => 8 * B.length - (match w'.cell? ⟨b, 2, none⟩ with | some (.int _ n) => n.toNat | _ => 0)) ⟨0, Nat.zero_le _, S, h0⟩ ?_; clear H S h0; rintro _ w1 ⟨j, hj, S, H⟩; obtain ⟨hf1, H⟩ := RdR_open H; have hc1 := H.cell 0 rfl 2; simp only [List.getElem?_cons_succ, List.getElem?_cons_zero] at hc1
 have hr : ((at_ + j : Nat) : Int).tmod 8 = (((at_ + j) % 8 : Nat) : Int) := by rw [Int.tmod_eq_emod_of_nonneg (by omega)]; simp
 refine r_join1 (fun x w' => w1 = w' ∧ x = .bool (decide (¬ (at_ + j) % 8 = 0))) ?_ ?_
 rotate_left
 · refine r_bnST (r_vt ?_); refine r_nc (r_fo0 (r_ld 0 H rfl rfl ?_)); refine r_remE hr (by omega) ?_; refine r_neq (r_ke ⟨rfl, congrArg Value.bool ?_⟩); rw [Bool.eq_iff_iff, bne_iff_ne, decide_eq_true_iff]; omega
 rintro _ _ _ ⟨rfl, rfl⟩; refine r_ifD (fun h => ?_) fun h => ?_
 · have hlt : j < (8 * B.length - at_) % 8 := by omega
   repeat (first | refine r_nc ?_ | refine r_fo0 ?_ | (refine r_add1N (by omega) ?_) | refine r_ld 0 H rfl rfl ?_)
   refine r_st 0 H rfl (by simp) rfl fun w3 S3 H3 => ?_; replace H3 : Holds w3 (blk b tR [S_ (B.drop d), nv d, nv (at_ + j + 1)] :: L) := H3; have hc3 := H3.cell 0 rfl 2; simp only [List.getElem?_cons_succ, List.getElem?_cons_zero] at hc3
   repeat (refine r_ke ?_)
   refine ⟨⟨j + 1, by omega, S.trans S3, RdR_close ⟨by omega, by omega, hf.2.2⟩ H3⟩, ?_⟩; rw [hc1, hc3]; simp only [nv, Int.toNat_natCast]; omega
 · obtain rfl : j = (8 * B.length - at_) % 8 := by omega
   repeat (fail)
   exact k _ S (RdR_close hf1 H)
theorem Drop_spec (H : Holds w (RdR b B d at_ :: L)) (k : ∀ w' v, Same w w' → Holds w' (RdR b B (at_ / 8) at_ :: L) → K v w') : Cl Tryz.prog F.bits_Reader_Drop #[.pointer (some ⟨b, 0, none⟩)] w K := by
 refine Tie.bits_Reader_Drop ?_; unfold Vcf.bits_Reader_Drop; obtain ⟨hf, H⟩ := RdR_open H; have S := Same.refl w
 have hs : (⟨(B.drop d).toArray⟩ : ByteArray).size = B.length - d := by show (B.drop d).toArray.size = _; simp
 have hd : (⟨(B.drop d).toArray⟩ : ByteArray).data.toList = B.drop d := by simp
 have hq : ((at_ : Nat) : Int).tdiv 8 = ((at_ / 8 : Nat) : Int) := by rw [Int.tdiv_eq_ediv_of_nonneg (by omega)]; simp
 repeat (first | refine r_quoE hq (by omega) (by omega) (by omega) ?_ | refine r_nc ?_ | refine r_fo0 ?_ | (with_reducible refine r_bnSF ?_) | (with_reducible refine r_vf ?_) | (refine r_sub (by omega) (by omega) ?_) | (refine r_dr H ?_; clear H; intro _ S_ H; replace S := S.trans S_; clear S_) | refine r_ld 0 H rfl rfl ?_)
 rw [show ((at_ / 8 : Nat) : Int) - (d : Int) = ((at_ / 8 - d : Nat) : Int) by omega]
 repeat (fail)
 refine r_sstD (m := at_ / 8 - d) (by rw [hs]; omega) ?_; rw [hd, List.drop_drop, show d + (at_ / 8 - d) = at_ / 8 by omega]
 repeat (first | refine r_nc ?_ | refine r_fo0 ?_)
 refine r_st 0 H rfl (by simp) rfl fun w3 S3 H3 => ?_; replace H3 : Holds w3 (blk b tR [S_ (B.drop (at_ / 8)), nv d, nv at_] :: L) := H3; refine r_nc (r_fo0 (r_ld 0 H3 rfl rfl ?_)); refine r_addN (by omega) ?_; rw [show d + (at_ / 8 - d) = at_ / 8 by omega]; refine r_nc (r_fo0 ?_); refine r_st 0 H3 rfl (by simp) rfl fun w4 S4 H4 => ?_; replace H4 : Holds w4 (blk b tR [S_ (B.drop (at_ / 8)), nv (at_ / 8), nv at_] :: L) := H4; exact k _ _ ((S.trans S3).trans S4) (RdR_close ⟨by omega, hf.2.1, hf.2.2⟩ H4)
end Rb
end Go.Proofs.YtpbbfonfakjecaaGreat
namespace Go.Proofs.YtpbbfonfakjecaaGreat
open Go Go.Vc
namespace P20
abbrev tPc : Nat := 124
def Fpc (x : UInt8 × Nat) : List Value := [bv x.1, nv x.2]
theorem pc_zero : (zeroP Tryz.prog tPc).cells.toList = [.int .u8 0, iv 0] := by kernel_rfl
end P20
end Go.Proofs.YtpbbfonfakjecaaGreat
namespace Go.M02
theorem bit_mul {p q k : Nat} (hp : p ≤ 1) (hq : q ≤ 1) : (p ^^^ q) * k = p * k ^^^ q * k := by
 have h1 : p = 0 ∨ p = 1 := by omega
 have h2 : q = 0 ∨ q = 1 := by omega
 rcases h1 with rfl | rfl <;> rcases h2 with rfl | rfl <;> simp
theorem xor4 (w x y z : Nat) : (w ^^^ x) ^^^ (y ^^^ z) = (w ^^^ y) ^^^ (x ^^^ z) := by
 rw [Nat.xor_assoc, Nat.xor_assoc]; refine congrArg (fun q => w ^^^ q) ?_; rw [← Nat.xor_assoc, Nat.xor_comm x y, Nat.xor_assoc]
theorem crcStep_xor {a b : Nat} (ha : a < 4294967296) (hb : b < 4294967296) : crcStep (a ^^^ b) = crcStep a ^^^ crcStep b := by
 have h1 : (a ^^^ b) * 2 % 4294967296 = (a * 2 % 4294967296) ^^^ (b * 2 % 4294967296) := by
   have e1 : (a ^^^ b) * 2 = (a * 2) ^^^ (b * 2) := by
     have := Nat.shiftLeft_xor_distrib (i := 1) (a := a) (b := b); simpa [Nat.shiftLeft_eq] using this
   rw [e1]; exact Nat.xor_mod_two_pow (n := 32)
 have h2 : (a ^^^ b) / 2147483648 = (a / 2147483648) ^^^ (b / 2147483648) := Nat.xor_div_two_pow (n := 31); unfold crcStep; rw [h1, h2, bit_mul (by omega) (by omega)]; exact xor4 _ _ _ _
theorem crcN_xor {a b : Nat} (ha : a < 4294967296) (hb : b < 4294967296) : ∀ k, crcN (a ^^^ b) k = crcN a k ^^^ crcN b k
 | 0 => rfl
 | k + 1 => by rw [crcN, crcN_xor ha hb k, crcStep_xor (crcN_lt a ha k) (crcN_lt b hb k)]; rfl
theorem crcN_low {a : Nat} (ha : a < 16777216) : ∀ k, k ≤ 8 → crcN a k = a * 2 ^ k
 | 0, _ => by simp [crcN]
 | k + 1, hk => by
   have h2 : 2 ^ k ≤ 2 ^ 7 := Nat.pow_le_pow_right (by decide) (by omega); have h3 : a * 2 ^ k ≤ 16777215 * 128 := Nat.mul_le_mul (by omega) h2; rw [crcN, crcN_low ha k (by omega), Nat.pow_succ, ← Nat.mul_assoc]; generalize a * 2 ^ k = y at *; unfold crcStep; rw [Nat.div_eq_of_lt (by omega), Nat.zero_mul, Nat.xor_zero, Nat.mod_eq_of_lt (by omega)]
theorem split24 (x : Nat) : x = (x % 16777216) ^^^ (x / 16777216 * 16777216) := by
 apply Nat.eq_of_testBit_eq; intro i; rw [Nat.testBit_xor]; have h1 : (x % 16777216).testBit i = (decide (i < 24) && x.testBit i) := Nat.testBit_mod_two_pow x 24 i
 have h2 : (x / 16777216 * 16777216).testBit i = (decide (24 ≤ i) && x.testBit i) := by
   have h3 : x / 16777216 * 16777216 = (x >>> 24) <<< 24 := by rw [Nat.shiftLeft_eq, Nat.shiftRight_eq_div_pow]
   rw [h3, Nat.testBit_shiftLeft, Nat.testBit_shiftRight]
   by_cases h : 24 ≤ i
   · simp [h]
   · simp [h]
 rw [h1, h2]
 by_cases h : i < 24
 · simp [h, show ¬ 24 ≤ i by omega]
 · simp [h, show 24 ≤ i by omega]
def crcB (s : Nat) (c : UInt8) : Nat := crcN (s ^^^ c.toNat * 16777216) 8
theorem crcB_lt {s : Nat} (h : s < 4294967296) (c : UInt8) : crcB s c < 4294967296 := by
 have hc := c.toNat_lt; exact crcN_lt _ (Nat.xor_lt_two_pow (n := 32) (by omega) (by omega)) 8
theorem crcB_tab {s : Nat} (h : s < 4294967296) (c : UInt8) : (s * 2 ^ 8 % 4294967296) ^^^ crcTab (s / 16777216 ^^^ c.toNat) = crcB s c := by
 have hc := c.toNat_lt; have hx : s ^^^ c.toNat * 16777216 < 4294967296 := Nat.xor_lt_two_pow (n := 32) (by omega) (by omega)
 have hlo : (s ^^^ c.toNat * 16777216) % 16777216 = s % 16777216 := by
   have := Nat.xor_mod_two_pow (a := s) (b := c.toNat * 16777216) (n := 24); rw [show (2 : Nat) ^ 24 = 16777216 from rfl] at this; rw [this, Nat.mul_mod_left, Nat.xor_zero]
 have hhi : (s ^^^ c.toNat * 16777216) / 16777216 = s / 16777216 ^^^ c.toNat := by
   have := Nat.xor_div_two_pow (a := s) (b := c.toNat * 16777216) (n := 24); rw [show (2 : Nat) ^ 24 = 16777216 from rfl] at this; rw [this, Nat.mul_div_cancel _ (by decide)]
 have hh : s / 16777216 ^^^ c.toNat < 256 := Nat.xor_lt_two_pow (n := 8) (by omega) (by omega); unfold crcB; rw [split24 (s ^^^ c.toNat * 16777216), hlo, hhi, crcN_xor (by omega) (by omega), crcN_low (by omega) 8 (by omega), crcTab]; refine congrArg (fun q => q ^^^ crcN ((s / 16777216 ^^^ c.toNat) * 16777216) 8) ?_; omega
def crcF (s : Nat) (l : List UInt8) : Nat := l.foldl crcB s
theorem crcF_snoc (s : Nat) (l : List UInt8) (c : UInt8) : crcF s (l ++ [c]) = crcB (crcF s l) c := by simp [crcF]
def crcOf (l : List UInt8) : Nat := 4294967295 - crcF 4294967295 l
def comb (t b : Nat) : Nat := (t * 2 % 4294967296) ^^^ (t / 2147483648) ^^^ b
theorem comb_lt {t b : Nat} (ht : t < 4294967296) (hb : b < 4294967296) : comb t b < 4294967296 := by
 unfold comb; exact Nat.xor_lt_two_pow (n := 32) (Nat.xor_lt_two_pow (n := 32) (by omega) (by omega)) (by omega)
end Go.M02
namespace Go.M03
def rleA : List UInt8 → Nat → UInt8 → List UInt8 → Option (List UInt8)
 | out, run, p, [] => if run = 4 then none else some out
 | out, run, p, c :: s =>
   if run = 4 then
     if 251 < c.toNat then none else rleA (out ++ List.replicate c.toNat p) 0 c s
   else if 0 < run ∧ c = p then rleA (out ++ [c]) (run + 1) c s
   else rleA (out ++ [c]) 1 c s
def rle (s : List UInt8) : Option (List UInt8) := rleA [] 0 0 s
end Go.M03
namespace Go.Me
open Go.M01 Go.Mb Go.M03
def pieceB (x : UInt8 × Nat) : List UInt8 := List.replicate (min x.2 4) x.1 ++ if 4 ≤ x.2 then [UInt8.ofNat (x.2 - 4)] else []
theorem pieceB_len (x : UInt8 × Nat) : (pieceB x).length ≤ 5 := by
 unfold pieceB; rw [List.length_append, List.length_replicate]; split
 · simp; omega
 · simp; omega
end Go.Me
namespace Go.Me
open Go.M01 Go.Mb Go.M03
abbrev Bl : Type := List UInt8 × List UInt8
def BlOk (room : Nat) (b : Bl) : Prop := b.1 ≠ [] ∧ b.1.length ≤ room ∧ Go.M03.rle b.1 = some b.2
end Go.Me
namespace Go.Me
open Go.M01 Go.Mb Go.M03
theorem pieceB_le (x : UInt8 × Nat) : (pieceB x).length ≤ 5 * x.2 ∧ (pieceB x).length ≤ 5 := by
 unfold pieceB
 split <;> simp <;> omega
variable {room : Nat} {s body tx : List UInt8} {bs : List Bl} {x : UInt8 × Nat} {c d : UInt8}
end Go.Me
namespace Go.Proofs.YtpbbfonfakjecaaGreat
open Go Go.Vc
attribute [local irreducible] Vc.Nc Vc.Ld Vc.LdA Vc.St Vc.StA Vc.Fo Vc.Iaa Vc.Ias Vc.Ixs Vc.Ixa Vc.Fd Vc.FdA Vc.Bp Vc.Bb Vc.Bn Vc.Up Vc.Ci Vc.Lns Vc.Lnl Vc.Ex Vc.Sst Vc.Ssl Vc.New Vc.Vif Vc.VJoin Vc.VLoop Vc.KE Vc.Dr Vc.Rk Vc.Cl Vc.Cx Vc.Inv Vc.Be Vc.Cv Vc.Cw Vc.Mf Vc.Sl Vc.Lk Vc.Bd Vc.Bs Vc.Ms Vc.Mm Vc.Mu Vc.Me Vc.Es Vc.Rg Vc.Nx Vc.Ta Vc.Ap Vc.Usd Vc.Ust Vc.Cp Vc.Ln Vc.Bc Vc.Bmin Vc.Bmax Vc.Bdel Vc.Bclr Vc.Pk
namespace R3b
open Go.M02 Go.M03
abbrev S_ (B : List UInt8) : Value := .string ⟨B.toArray⟩
abbrev pt (b : Nat) : Value := .pointer (some ⟨b, 0, none⟩)
abbrev tB : Nat := 5
variable {w : World} {L : List HProp} {K : Value → World → Prop} {b r : Nat} {s : Nat} {t : List UInt8}
abbrev tS : Nat := 122
def smC (s : Nat) : List Value := [] ++ (tabL.map uv ++ [uv s])
def SumR (b s : Nat) : HProp := fun h => s < 4294967296 ∧ blk b tS (smC s) h
theorem SumR_open (H : Holds w (SumR b s :: L)) : s < 4294967296 ∧ Holds w (blk b tS (smC s) :: L) := Holds.pure H
theorem SumR_close (h : s < 4294967296) (H : Holds w (blk b tS (smC s) :: L)) : Holds w (SumR b s :: L) := Holds.imp H fun _ hh => ⟨h, hh⟩
theorem sm256 : (smC s)[256]? = some (uv s) := by
 have := mid_post (f := uv) (xs := tabL) (post := [uv s]) (j := 0) [] tabL_len; exact this
theorem smget {i : Nat} (h : i < 256) : (smC s)[0 + i]? = some (uv (crcTab i)) := mid_get (f := uv) [] (tabL_get i h)
theorem smset (v : Nat) : (smC s).set 256 (uv v) = smC v := by
 have := mid_pset (f := uv) (xs := tabL) (post := [uv s]) (j := 0) [] (uv v) tabL_len; exact this
theorem smlen : (smC s).length = 257 := by
 unfold smC; rw [List.nil_append, List.length_append, List.length_map, tabL_len]; rfl
theorem New_spec (H : Holds w L) (k : ∀ b w', Same w w' → Holds w' (SumR b 4294967295 :: L) → K (pt b) w') : Cl Tryz.prog F.crc_New #[] w K := by
 refine Tie.crc_New ?_; unfold Vcf.crc_New; refine W02.Table_spec H fun w1 S1 H1 => ?_; refine r_bd (v := .agg (smC 4294967295).toArray) (by kernel_rfl) ?_; refine r_new H1 fun b w2 S2 H2 => ?_; exact k b _ (S1.trans S2) (SumR_close (by decide) H2)
theorem step_spec {c : UInt8} (H : Holds w (blk b tS (smC s) :: L)) (hs : s < 4294967296) (k : K (uv (crcB s c)) w) : Cl Tryz.prog F.crc_step #[pt b, uv s, bv c] w K := by
 refine Tie.crc_step ?_; unfold Vcf.crc_step; have hc := c.toNat_lt; refine r_shlU32 (n := 8) (by omega) ?_; refine r_shrU (n := 24) (by decide) ?_; have h24 : s / 2 ^ 24 = s / 16777216 := rfl; rw [h24]; have hh : s / 16777216 ^^^ c.toNat < 256 := Nat.xor_lt_two_pow (n := 8) (by omega) (by omega)
 repeat (refine r_ciu8 (by omega) (by omega) ?_)
 refine r_xorU8 (by omega) (by omega) ?_; refine r_nc (r_iaaN (by omega) ?_); refine r_ld 0 H rfl (smget hh) ?_; have ht : crcTab (s / 16777216 ^^^ c.toNat) < 4294967296 := crcN_lt _ (by omega) 8; refine r_xorU32 (by omega) ht ?_; rw [crcB_tab hs]; exact k
theorem Put_spec {c : UInt8} (H : Holds w (SumR b s :: L)) (k : ∀ w', Same w w' → Holds w' (SumR b (crcB s c) :: L) → K (.tuple #[]) w') : Cl Tryz.prog F.crc_Sum_Put #[pt b, bv c] w K := by
 refine Tie.crc_Sum_Put ?_; unfold Vcf.crc_Sum_Put; obtain ⟨hs, H⟩ := SumR_open H; have S := Same.refl w
 repeat (first | ((with_reducible apply r_ld 0 H); (exact rfl); (with_reducible exact (sm256))) | refine r_nc ?_ | refine r_fo0 ?_ | (with_reducible refine r_bnST ?_) | (with_reducible refine r_vt ?_) | (refine r_dr H ?_; clear H; intro _ S_ H; replace S := S.trans S_; clear S_))
 refine step_spec H hs ?_
 repeat (first | refine r_nc ?_ | refine r_fo0 ?_)
 refine r_st 0 H rfl (by rw [smlen]; omega) rfl fun w2 S2 H2 => ?_; rw [List.set_cons_zero, smset] at H2; exact k _ (S.trans S2) (SumR_close (crcB_lt hs c) H2)
end R3b
end Go.Proofs.YtpbbfonfakjecaaGreat
