/- Several texts in one: Kr, Q24, Kv, B20, B21, W2p, W2q, W2x, U22, U38, V38, Jg, W2h, Kb, Kc, Kd, Ke. -/
import Derived.Test.YtpbbfonfakjecaaGreatMG0
import Derived.Test.YtpbbfonfakjecaaGreatMG1
import Derived.Deep.AppendSrc
import Derived.Deep.Upon
import Derived.Lib.LaidU8T
import Derived.LaidMore
import Derived.Deep.Slices
import Derived.WideShapes
import Derived.Shelf.Strings.Repeat
set_option linter.unusedVariables false
set_option linter.unusedSimpArgs false
namespace Go.Vc
section
variable {α : Type} {P : Program} {w : World} {L : List HProp} {F : α → List Value} {k : Nat} {e : TypeId} {v : Value} {xs : List α}
def RO (F : α → List Value) (k : Nat) (e : TypeId) (v : Value) (xs : List α) : HProp := fun h =>
 (xs = [] ∧ v = .slice none 0 0) ∨ ∃ (b : Nat) (pre : List Value) (m : Nat) (sp : List Value), v = .slice (some ⟨b, pre.length, none⟩) xs.length (xs.length + m) ∧ m * k ≤ sp.length ∧ blk b e (pre ++ flatL F xs ++ sp) h
theorem Holds.openRO (H : Holds w L) (i : Nat) (hi : L[i]? = some (RO F k e v xs)) : (xs = [] ∧ v = .slice none 0 0) ∨ ∃ (b : Nat) (pre : List Value) (m : Nat) (sp : List Value), v = .slice (some ⟨b, pre.length, none⟩) xs.length (xs.length + m) ∧ m * k ≤ sp.length ∧ Holds w (L.set i (blk b e (pre ++ flatL F xs ++ sp))) := by
 obtain ⟨g, hg, hs, hL⟩ := H.front i hi; rcases hg with ⟨h1, h2⟩ | ⟨b, pre, m, sp, hv, hm, hg⟩
 · exact .inl ⟨h1, h2⟩
 · exact .inr ⟨b, pre, m, sp, hv, hm, Sat.push i hi ⟨g, hg, hs, hL⟩⟩
theorem Holds.sgRO (H : Holds w L) (i : Nat) (hi : L[i]? = some (RO F k e v xs)) : sg v = true := by
 rcases H.openRO i hi with ⟨_, rfl⟩ | ⟨_, _, _, _, rfl, _, _⟩ <;> rfl
theorem Holds.toRO (H : Holds w L) (i : Nat) (hi : L[i]? = some (RW F k e v xs)) : Holds w (L.set i (RO F k e v xs)) := H.at i hi fun g hg => by
 obtain ⟨oa, m, sp, hv, hg⟩ := hg; subst hv
 cases oa with
 | none =>
   obtain ⟨h1, h2⟩ := hg; subst h1; subst h2; exact .inl ⟨rfl, rfl⟩
 | some a =>
   obtain ⟨b, o, s⟩ := a; obtain ⟨h1, h2, h3, h4⟩ := hg; simp only at h1 h2; subst h1; subst h2; exact .inr ⟨b, [], m, sp, rfl, by omega, h4⟩
theorem Holds.nilRO (H : Holds w L) (F : α → List Value) (k : Nat) (e : TypeId) : Holds w (RO F k e (.slice none 0 0) [] :: L) := Holds.toRO (H.nilRW F k e) 0 rfl
theorem addr_add (b o n : Nat) : (⟨b, o, none⟩ : Addr).add n = ⟨b, o + n, none⟩ := by
 unfold Addr.add; split
 · rename_i h; rw [h]; rfl
 · rfl
theorem flatL_cell (hF : ∀ x, (F x).length = k) {q j : Nat} {x : α} {u : Value} (hx : xs[q]? = some x) (hu : (F x)[j]? = some u) : (flatL F xs)[q * k + j]? = some u := by
 have hj : j < k := by have := (List.getElem?_eq_some_iff.1 hu).1; rw [hF] at this; exact this
 have h := congrArg (fun l => l[j]?) (flatL_get hF xs q x hx); simp only [List.getElem?_take_of_lt hj, List.getElem?_drop] at h; rw [h, hu]
theorem r_lnO (i : Nat) (H : Holds w L) {K : Value → Prop} (hi : L[i]? = some (RO F k e v xs)) (h : K (nv xs.length)) : Lnl v K := by
 rcases H.openRO i hi with ⟨rfl, rfl⟩ | ⟨b, pre, m, sp, rfl, _, _⟩
 · exact r_lnl h
 · exact r_lnl h
theorem r_fldO (i : Nat) (H : Holds w L) {K : Value → Prop} (hi : L[i]? = some (RO F k e v xs)) (hF : ∀ x, (F x).length = k) {q j : Nat} {kk : IntKind} {x : α} {u : Value} (hx : xs[q]? = some x) (hu : (F x)[j]? = some u) (h : K u) :
   Ias k v (.int kk (q : Int)) fun y => Fo j y fun z => Ld z w K := by
 rcases H.openRO i hi with ⟨rfl, rfl⟩ | ⟨b, pre, m, sp, rfl, _, Hb⟩
 · cases hx
 · have hq := (List.getElem?_eq_some_iff.1 hx).1; refine r_iasP hq ?_; rw [addr_add]; refine r_fo (r_ld i Hb (set_get hi) ?_ h); have hc := flatL_cell hF hx hu; rw [List.append_assoc, List.getElem?_append_right (by omega), List.getElem?_append_left (by have := (List.getElem?_eq_some_iff.1 hc).1; omega), show pre.length + q * k + j - pre.length = q * k + j by omega]; exact hc
theorem r_apRO {t : TypeId} [hr : RowN P t e k] (H : Holds w L) (i j : Nat) {ys : List α} {m' c' b2 : Nat} {cs : List Value} {ty : TypeId} {K : Value → World → Prop}
   (hi : L[i]? = some (RO F k e v xs)) (hj : L[j]? = some (blk b2 e cs)) (hij : j ≠ i) (hcs : cs.take (ys.length * k) = flatL F ys) (hm : m' = ys.length) (hF : ∀ y, (F y).length = k) (hs : ∀ y, ∀ u ∈ F y, sg u = true)
   (hn : xs.length + ys.length ≤ 68719476736) (hne : 0 < ys.length)
   (h : ∀ v' w', Same w w' → Holds w' (L.set i (RO F k e v' (xs ++ ys))) → K v' w') :
   Ap P #[t, t] ty #[v, .slice (some ⟨b2, 0, none⟩) m' c'] w K := by
 subst hm; obtain ⟨inf, z, hinf, hsz, hby, hzz, hzk⟩ := hr.inf; have hlen := flatL_len (k := k) hF
 have hsg : ∀ u ∈ flatL F ys, u.oneCell' = true := by
   intro u hu; clear hcs hne hn h
   induction ys with
   | nil => simp [flatL] at hu
   | cons y r ih =>
     rw [flatL, List.mem_append] at hu; rcases hu with hu | hu
     · exact sg_one (hs y u hu)
     · exact ih hu
 have hnews : ∀ q u, (flatL F ys)[q]? = some u → w.cell? ((⟨b2, 0, none⟩ : Addr).add q) = some u := by
   intro q u hu; rw [addr_add, Nat.zero_add, H.cell j hj q]
   have hq : q < ys.length * k := by have := (List.getElem?_eq_some_iff.1 hu).1; rw [hlen] at this; exact this
   rw [← hu, ← hcs, List.getElem?_take_of_lt hq]
 have hsrc : Src P inf.size t (.slice (some ⟨b2, 0, none⟩) ys.length c') ys.length (flatL F ys) w := Src.ofSlice w hr.und ⟨b2, 0, none⟩ ys.length c' (flatL F ys) (by rw [hlen, hsz]) hnews hsg; have hmul : (xs.length + ys.length) * inf.bytes ≤ 140737488355328 := Nat.le_trans (Nat.mul_le_mul_left _ hby) (by omega)
 have fin : ∀ (b' cap : Nat) (w' : World) (pre sp' : List Value), xs.length + ys.length ≤ cap → (cap - (xs.length + ys.length)) * k ≤ sp'.length → Same w w' →
     Holds w' (blk b' e (pre ++ flatL F (xs ++ ys) ++ sp') :: L.eraseIdx i) → K (.slice (some ⟨b', pre.length, none⟩) (xs.length + ys.length) cap) w' := by
   intro b' cap w' pre sp' hc hsp S' H'
   have H4 := Holds.imp H' (Q := RO F k e (.slice (some ⟨b', pre.length, none⟩) (xs.length + ys.length) cap) (xs ++ ys)) fun g hg => .inr ⟨b', pre, cap - (xs.length + ys.length), sp', by
     rw [List.length_append]; congr 1; omega, hsp, hg⟩
   exact h _ _ S' (Sat.push i hi H4)
 rcases H.openRO i hi with ⟨h1, h2⟩ | ⟨b, pre, m, sp, rfl, hmk, Hb⟩
 · subst h1; subst h2; have hrun := run_append_grow_src (P := P) w t t ty e inf z hr.und hinf hzz none 0 0 [] (run_firstCells_none w.drew inf.size 0 0 0) _ ys.length _ hsrc (by omega) (by simp at hn; omega) (growslice_fits (by omega) (by simpa using hmul)); refine ⟨_, _, hrun, ?_⟩; have hcap := grownCap_ge w (0 + ys.length) 0 e; generalize grownCap w (0 + ys.length) 0 e = cap at hcap ⊢; have H2 := (H.same (w' := w.drew) rfl).alloc (.cells (([] ++ flatL F ys).toArray ++ Builtin.zeroCells z.cells (cap - (0 + ys.length))) e); have H5 := H2.dropAt (i + 1); rw [List.eraseIdx_cons_succ] at H5; refine fin _ cap _ [] (Builtin.zeroCells z.cells (cap - (0 + ys.length))).toList hcap (Nat.le_of_eq (by rw [zeroCells_len, hzk]; rfl)) ((Same.drew w).trans (.alloc _ _)) ?_
   have hc : (([] ++ flatL F ys).toArray ++ Builtin.zeroCells z.cells (cap - (0 + ys.length))) = ([] ++ flatL F ([] ++ ys) ++ (Builtin.zeroCells z.cells (cap - (0 + ys.length))).toList).toArray := by simp
   rw [hc] at H5 ⊢; exact H5
 · have hgi : (L.set i (blk b e (pre ++ flatL F xs ++ sp)))[i]? = some (blk b e (pre ++ flatL F xs ++ sp)) := set_get hi
   have hold : ∀ q u, (flatL F xs)[q]? = some u → w.cell? ((⟨b, pre.length, none⟩ : Addr).add q) = some u := by
     intro q u hu; rw [addr_add, Hb.cell i hgi, List.append_assoc, List.getElem?_append_right (by omega), List.getElem?_append_left (by have := (List.getElem?_eq_some_iff.1 hu).1; omega), show pre.length + q - pre.length = q by omega]; exact hu
   rcases Nat.lt_or_ge m ys.length with hg | hg
   · have hrun := run_append_grow_src (P := P) w t t ty e inf z hr.und hinf hzz (some ⟨b, pre.length, none⟩) xs.length (xs.length + m) (flatL F xs) (run_firstCells_some w.drew inf.size xs.length ⟨b, pre.length, none⟩ xs.length (xs.length + m) (flatL F xs) (by rw [hlen, hsz]) (by simpa using hold)) _ ys.length _ hsrc (by omega) (by omega) (growslice_fits (by omega) hmul); refine ⟨_, _, hrun, ?_⟩; have hcap := grownCap_ge w (xs.length + ys.length) (xs.length + m) e; generalize grownCap w (xs.length + ys.length) (xs.length + m) e = cap at hcap ⊢; have H2 := (Hb.same (w' := w.drew) rfl).alloc (.cells ((flatL F xs ++ flatL F ys).toArray ++ Builtin.zeroCells z.cells (cap - (xs.length + ys.length))) e); have H5 := H2.dropAt (i + 1); rw [List.eraseIdx_cons_succ, List.eraseIdx_set_eq] at H5; refine fin _ cap _ [] (Builtin.zeroCells z.cells (cap - (xs.length + ys.length))).toList hcap (Nat.le_of_eq (by rw [zeroCells_len, hzk])) ((Same.drew w).trans (.alloc _ _)) ?_
     have hc : ((flatL F xs ++ flatL F ys).toArray ++ Builtin.zeroCells z.cells (cap - (xs.length + ys.length))) = ([] ++ flatL F (xs ++ ys) ++ (Builtin.zeroCells z.cells (cap - (xs.length + ys.length))).toList).toArray := by
       rw [flatL_app]; simp
     rw [hc] at H5 ⊢; exact H5
   · have hroom : ys.length * k ≤ m * k := Nat.mul_le_mul_right _ hg
     have hrun := run_append_room_src (P := P) w t t ty e inf hr.und hinf b pre.length xs.length (xs.length + m) _ ys.length _ hsrc (by omega)
       (fun q hq => by
         rw [hlen] at hq
         rw [Hb.cell i hgi, hsz, List.getElem?_eq_getElem (by rw [List.length_append, List.length_append, hlen]; omega)]; rfl)
       (fun q hq => Hb.frozen i hgi _)
     refine ⟨_, _, hrun, ?_⟩; rw [setCells_eq, hsz]; have H3 := Holds.setCells (o := 0) i (flatL F ys) (pre.length + xs.length * k) Hb hgi; rw [List.set_set, setL_mid _ _ _ (by rw [List.length_append, List.length_append, hlen, hlen]; omega)] at H3
     have e2 : (pre ++ flatL F xs ++ sp).take (0 + (pre.length + xs.length * k)) ++ flatL F ys ++ (pre ++ flatL F xs ++ sp).drop (0 + (pre.length + xs.length * k) + (flatL F ys).length) = pre ++ flatL F (xs ++ ys) ++ sp.drop (ys.length * k) := by
       have e3 : (pre ++ flatL F xs).length = pre.length + xs.length * k := by rw [List.length_append, hlen]
       rw [Nat.zero_add, ← e3, List.take_left' rfl, flatL_app, ← List.drop_drop, List.drop_left' rfl, hlen]; simp
     rw [e2] at H3; have H6 := H3.front i (set_get hi); rw [List.eraseIdx_set_eq] at H6; refine fin b (xs.length + m) _ pre (sp.drop (ys.length * k)) (by omega) ?_ (Same.setCells _ _ _ _) H6; rw [List.length_drop, show xs.length + m - (xs.length + ys.length) = m - ys.length by omega, Nat.sub_mul]; omega
theorem r_apROnil {t : TypeId} [hr : RowN P t e k] (H : Holds w L) (i : Nat) {b : Option Addr} {c : Nat} {ty : TypeId} {K : Value → World → Prop} (hi : L[i]? = some (RO F k e v xs)) (h : K v w) : Ap P #[t, t] ty #[v, .slice b 0 c] w K := by
 obtain ⟨inf, z, hinf, hsz, hby, hzz, hzk⟩ := hr.inf
 have hsrc : Src P inf.size t (.slice b 0 c) 0 [] w := by
   cases b with
   | none => exact Src.ofNil w hr.und c
   | some p => exact Src.ofSlice w hr.und p 0 c [] (by simp) (fun j u hu => by simp at hu) (fun _ h => by cases h)
 rcases H.openRO i hi with ⟨rfl, rfl⟩ | ⟨b', pre, m, sp, rfl, _, _⟩
 · exact ⟨_, _, run_append_nothing w t t ty e inf hr.und hinf none _ _ (by omega) _ hsrc, h⟩
 · exact ⟨_, _, run_append_nothing w t t ty e inf hr.und hinf _ _ _ (by omega) _ hsrc, h⟩
end
end Go.Vc
namespace Go.Q24
open Go.M01 Go.Mb Go.Mp Go.M10 Go.Mc Go.Mz Go.Mk Go.M02 Go.M03
structure US where
 unit : Nat
 due : Nat
 at_ : Nat
 level : Nat
 blk : Option BS
 last : List UInt8
 frm : Nat
 sum : Nat
 total : Nat
 ended : Bool
def u0 (unit : Nat) : US := ⟨unit, 0, 0, 0, none, [], 0, 0, 0, false⟩
def US.mayEnd (u : US) : Bool := u.ended && decide (u.due = 0) && decide (u.at_ = 0)
def letters : List Nat := [66, 90, 104]
def uletter (u : US) (l : List Bool) : Res (US × Nat) :=
 if l.length < 8 then .short
 else if u.at_ < 3 then
   if valB (l.take 8) = letters.getD u.at_ 0 then .ok (⟨u.unit, u.due, u.at_ + 1, u.level, u.blk, u.last, u.frm, u.sum, u.total, u.ended⟩, 0) 8 else .bad 20
 else if valB (l.take 8) < 49 ∨ 57 < valB (l.take 8) then .bad 20
 else .ok (⟨u.unit, 1, 0, valB (l.take 8) - 48, u.blk, u.last, u.frm, u.sum, 0, u.ended⟩, 0) 8
def umagic (u : US) (l : List Bool) : Res (US × Nat) :=
 if l.length < 48 then .short
 else if valB (l.take 48) = 54156738319193 then .ok (⟨u.unit, 2, u.at_, u.level, some (b0 (u.level * u.unit)), u.last, u.frm, u.sum, u.total, u.ended⟩, 0) 48
 else if valB (l.take 48) = 25779555029136 then .ok (⟨u.unit, 3, u.at_, u.level, u.blk, u.last, u.frm, u.sum, u.total, u.ended⟩, 0) 48
 else .bad 20
def uwith (u : US) : Res BS → Res (US × Nat)
 | .short => .short
 | .bad e => .bad e
 | .ok b n => if b.done = true then .ok (⟨u.unit, 1, u.at_, u.level, none, b.last, b.frm, b.sum, comb u.total b.sum, u.ended⟩, 1) n
   else .ok (⟨u.unit, u.due, u.at_, u.level, some b, u.last, u.frm, u.sum, u.total, u.ended⟩, 0) n
def ubody (u : US) (l : List Bool) : Res (US × Nat) := match u.blk with
 | none => .bad 7
 | some b => uwith u (bstep b l)
def usum (u : US) (l : List Bool) : Res (US × Nat) :=
 if l.length < 32 then .short
 else if valB (l.take 32) = u.total then .ok (⟨u.unit, 0, u.at_, u.level, u.blk, u.last, u.frm, u.sum, u.total, true⟩, 2) (32 + (l.length - 32) % 8)
 else .bad 21
def ustep (u : US) (l : List Bool) : Res (US × Nat) :=
 if u.due = 0 then uletter u l else if u.due = 1 then umagic u l else if u.due = 2 then ubody u l else usum u l
structure US.Ok (u : US) : Prop where
 unit : 24 ≤ u.unit ∧ u.unit ≤ 100000
 due : u.due ≤ 3
 at_ : u.at_ ≤ 3
 at0 : u.due ≠ 0 → u.at_ = 0
 lev : u.level ≤ 9
 lev1 : u.due ≠ 0 → 1 ≤ u.level
 blk : ∀ b, u.blk = some b → u.due = 2 ∧ b.Ok ∧ b.done = false ∧ b.room = u.level * u.unit
 body : u.due = 2 → u.blk ≠ none
 last : u.last.length ≤ 900000
 frm : u.frm < 16777216
 sum : u.sum < 4294967296
 total : u.total < 4294967296
theorem u0_ok {unit : Nat} (h : 24 ≤ unit ∧ unit ≤ 100000) : (u0 unit).Ok :=
 ⟨h, by simp [u0], by simp [u0], fun _ => rfl, by simp [u0], fun h => absurd rfl h, fun b h => by simp [u0] at h, fun h => by simp [u0] at h, by simp [u0], by simp [u0], by simp [u0], by simp [u0]⟩
theorem US.Ok.none_ {u : US} (h : u.Ok) (hd : u.due ≠ 2) : u.blk = none := by
 cases hb : u.blk with
 | none => rfl
 | some b => exact absurd (h.blk b hb).1 hd
theorem bstep_okB {b b' : BS} {l : List Bool} {n : Nat} (hb : b.Ok) (hd : b.done = false) (h : bstep b l = .ok b' n) : b'.Ok := by
 unfold bstep at h; split at h
 · rename_i hh; unfold bhead at h; split at h
   · cases h
   · split at h
     · cases h
     · have h1 := valB_take_lt l 32; have h2 := valB_take_lt (l.drop 33) 24; exact (bend_ok (head_pre hb hh (by omega) (by omega)).2 h).1
 · rename_i hh; split at h
   · rename_i hr; unfold buse at h; split at h
     · cases h
     · cases h
     · rename_i T k hu; exact (bend_ok (use_pre hb (by simpa using hh) hr (Q23.uread_pos hu).2.2) h).1
   · rename_i r hr; split at h
     · rename_i hw; exact (bend_ok (next_pre hb hd hr hw) h).1
     · rename_i hw; unfold bsym at h; split at h
       · cases h
       · cases h
       · rename_i c k hc; exact (bend_ok (sym_pre hb hd hr hc) h).1
       · rename_i c s k hc; unfold btold at h; split at h
         · cases h
         · rename_i z d p hz; exact (bend_ok (told_pre hb hd hr (by simpa using hw) hc hz) h).1
theorem ustep_ok {u u' : US} {l : List Bool} {n w : Nat} (hu : u.Ok) (h : ustep u l = .ok (u', w) n) : u'.Ok ∧ u'.unit = u.unit := by
 have hun := hu.unit; have hlev := hu.lev; unfold ustep at h; split at h
 · rename_i hd; have hbn := hu.none_ (by omega); unfold uletter at h; split at h
   · cases h
   · split at h
     · split at h
       · cases h; exact ⟨⟨hun, hu.due, by show u.at_ + 1 ≤ 3; omega, fun h => absurd hd h, hlev, hu.lev1, fun b hb => (by rw [hbn] at hb; cases hb), hu.body, hu.last, hu.frm, hu.sum, hu.total⟩, rfl⟩
       · cases h
     · split at h
       · cases h
       · cases h; exact ⟨⟨hun, by show 1 ≤ 3; omega, Nat.zero_le _, fun _ => rfl, by show valB (l.take 8) - 48 ≤ 9; omega, fun _ => by show 1 ≤ valB (l.take 8) - 48; omega, fun b hb => (by rw [hbn] at hb; cases hb), fun h => (by cases h), hu.last, hu.frm, hu.sum, by show 0 < 4294967296; omega⟩, rfl⟩
 · rename_i hd0; have hat := hu.at0 hd0; have hl1 := hu.lev1 hd0; split at h
   · rename_i hd; have hbn := hu.none_ (by omega); unfold umagic at h; split at h
     · cases h
     · split at h
       · cases h; refine ⟨⟨hun, by show 2 ≤ 3; omega, hu.at_, fun _ => hat, hlev, fun _ => hl1, fun b hb => ?_, fun _ h => (by cases h), hu.last, hu.frm, hu.sum, hu.total⟩, rfl⟩; cases hb; refine ⟨rfl, b0_ok ?_, rfl, rfl⟩; exact Nat.le_trans (Nat.mul_le_mul hlev hun.2) (by omega)
       · split at h
         · cases h; exact ⟨⟨hun, by show 3 ≤ 3; omega, hu.at_, fun _ => hat, hlev, fun _ => hl1, fun b hb => (by rw [hbn] at hb; cases hb), fun h => (by cases h), hu.last, hu.frm, hu.sum, hu.total⟩, rfl⟩
         · cases h
   · split at h
     · rename_i hd; unfold ubody at h; split at h
       · cases h
       · rename_i b hb; obtain ⟨_, hbo, hbd, hbr⟩ := hu.blk b hb; unfold uwith at h; split at h
         · cases h
         · cases h
         · rename_i b' n' hs; have hok := bstep_okB hbo hbd hs; have hrm := (Q23.bstep_prog hbo hs).1; split at h
           · cases h; have := Q23.last_room hok; have := hok.room; exact ⟨⟨hun, by show 1 ≤ 3; omega, hu.at_, fun _ => hat, hlev, fun _ => hl1, fun b hb => (by cases hb), fun h => (by cases h), by show b'.last.length ≤ 900000; omega, hok.frm, hok.sum, comb_lt hu.total hok.sum⟩, rfl⟩
           · rename_i hnd; cases h; refine ⟨⟨hun, hu.due, hu.at_, hu.at0, hlev, hu.lev1, fun b2 hb2 => ?_, fun _ h => (by cases h), hu.last, hu.frm, hu.sum, hu.total⟩, rfl⟩; cases hb2; exact ⟨hd, hok, by simpa using hnd, by rw [hrm]; exact hbr⟩
     · rename_i hd1 hd2
       have hd3 : u.due = 3 := by have := hu.due; omega
       have hbn := hu.none_ (by omega); unfold usum at h; split at h
       · cases h
       · split at h
         · cases h; exact ⟨⟨hun, Nat.zero_le _, hu.at_, fun h => absurd rfl h, hlev, fun h => absurd rfl h, fun b hb => (by rw [hbn] at hb; cases hb), fun h => (by cases h), hu.last, hu.frm, hu.sum, hu.total⟩, rfl⟩
         · cases h
theorem ustep_bad {u : US} {l : List Bool} {e : Nat} (hu : u.Ok) (h : ustep u l = .bad e) : e = 20 ∨ e = 21 ∨ e = 22 ∨ e = 23 ∨ e = 25 := by
 unfold ustep at h; split at h
 · unfold uletter at h
   repeat' split at h
   all_goals first
     | (cases h; omega)
     | cases h
 · split at h
   · unfold umagic at h
     repeat' split at h
     all_goals first
       | (cases h; omega)
       | cases h
   · split at h
     · rename_i hd; unfold ubody at h; split at h
       · rename_i hb; exact absurd hb (hu.body hd)
       · unfold uwith at h; split at h
         · cases h
         · rename_i hb; cases h
           rcases bstep_bad hb with h | h | h <;> omega
         · split at h <;> cases h
     · unfold usum at h
       repeat' split at h
       all_goals first
         | (cases h; omega)
         | cases h
def inB (unit level : Nat) (last : List UInt8) (frm sum total : Nat) (en : Bool) (b : BS) : US := ⟨unit, 2, 0, level, some b, last, frm, sum, total, en⟩
section
variable {unit level frm sum total : Nat} {last t : List UInt8} {en : Bool}
end
theorem foldl_val (l : List Bool) : ∀ a : Nat, l.foldl (fun a b => 2 * a + b.toNat) a = a * 2 ^ l.length + valB l := by
 induction l with
 | nil => intro a; simp [valB]
 | cons x l ih =>
   intro a; have h0 := ih x.toNat
   have e : valB (x :: l) = x.toNat * 2 ^ l.length + valB l := by
     rw [← h0]; simp [valB]
   rw [e, List.foldl_cons, ih, List.length_cons, Nat.pow_succ, Nat.add_mul]
   have : 2 * a * 2 ^ l.length = a * (2 ^ l.length * 2) := by
     rw [Nat.mul_comm 2 a, Nat.mul_assoc, Nat.mul_comm 2]
   omega
theorem valB_cons (x : Bool) (l : List Bool) : valB (x :: l) = x.toNat * 2 ^ l.length + valB l := by
 have := foldl_val l x.toNat; rw [← this]; simp [valB]
theorem valB_inj : ∀ {a b : List Bool}, a.length = b.length → valB a = valB b → a = b
 | [], [], _, _ => rfl
 | [], _ :: _, h, _ => by simp at h
 | _ :: _, [], h, _ => by simp at h
 | x :: a, y :: b, h, hv => by
   have hl : a.length = b.length := by simpa using h
   rw [valB_cons, valB_cons, hl] at hv; have h1 := valB_lt a; have h2 := valB_lt b; rw [hl] at h1
   have hx : x = y ∧ valB a = valB b := by
     cases x <;> cases y <;> simp only [Bool.toNat_true, Bool.toNat_false, Nat.one_mul, Nat.zero_mul, Nat.zero_add] at hv
     · exact ⟨rfl, hv⟩
     · omega
     · omega
     · exact ⟨rfl, by omega⟩
   rw [hx.1, valB_inj hl hx.2]
theorem valB_app (a b : List Bool) : valB (a ++ b) = valB a * 2 ^ b.length + valB b := by
 have := foldl_val b (valB a); rw [← this]; simp [valB]
end Go.Q24
namespace Go.Vc
section
variable {P : Program} {w : World} {L : List HProp} {e : TypeId} {v : Value} {xs : List UInt8}
def OB (e : TypeId) (v : Value) (xs : List UInt8) : HProp := fun h =>
 (xs = [] ∧ v = .slice none 0 0) ∨ ∃ (b : Nat) (pre : List Value) (m : Nat) (sp : List Value), v = .slice (some ⟨b, pre.length, none⟩) xs.length (xs.length + m) ∧ m ≤ sp.length ∧ blk b e (pre ++ xs.map bv ++ sp) h
theorem Holds.openOB (H : Holds w L) (i : Nat) (hi : L[i]? = some (OB e v xs)) : (xs = [] ∧ v = .slice none 0 0) ∨ ∃ (b : Nat) (pre : List Value) (m : Nat) (sp : List Value), v = .slice (some ⟨b, pre.length, none⟩) xs.length (xs.length + m) ∧ m ≤ sp.length ∧ Holds w (L.set i (blk b e (pre ++ xs.map bv ++ sp))) := by
 obtain ⟨g, hg, hs, hL⟩ := H.front i hi; rcases hg with ⟨h1, h2⟩ | ⟨b, pre, m, sp, hv, hm, hg⟩
 · exact .inl ⟨h1, h2⟩
 · exact .inr ⟨b, pre, m, sp, hv, hm, Sat.push i hi ⟨g, hg, hs, hL⟩⟩
theorem Holds.sgOB (H : Holds w L) (i : Nat) (hi : L[i]? = some (OB e v xs)) : sg v = true := by
 rcases H.openOB i hi with ⟨_, rfl⟩ | ⟨_, _, _, _, rfl, _, _⟩ <;> rfl
theorem Holds.nilOB (H : Holds w L) (e : TypeId) : Holds w (OB e (.slice none 0 0) [] :: L) := Holds.imp (H.nilSL bv e) fun _ _ => .inl ⟨rfl, rfl⟩
theorem r_lnOB (i : Nat) (H : Holds w L) {K : Value → Prop} (hi : L[i]? = some (OB e v xs)) (h : K (nv xs.length)) : Lnl v K := by
 rcases H.openOB i hi with ⟨rfl, rfl⟩ | ⟨b, pre, m, sp, rfl, _, _⟩
 · exact r_lnl h
 · exact r_lnl h
theorem r_apStrO {t tx : TypeId} {z : Value} [hr : Row P t e z] (hk : P.underlying tx = some .string) (H : Holds w L) (i : Nat) {ys : List UInt8} {ty : TypeId} {K : Value → World → Prop}
   (hi : L[i]? = some (OB e v xs)) (hn : xs.length + ys.length ≤ 1099511627776)
   (h : ∀ v' w', Same w w' → Holds w' (L.set i (OB e v' (xs ++ ys))) → K v' w') : Ap P #[t, tx] ty #[v, .string ⟨ys.toArray⟩] w K := by
 obtain ⟨inf, hinf, hsz, hby, hzz⟩ := hr.inf
 have hb : byteCells ⟨ys.toArray⟩ = ys.map bv := by
   unfold byteCells; simp
 have hsrc : Src P inf.size tx (.string ⟨ys.toArray⟩) ys.length (ys.map bv) w := by
   have := Src.ofString (P := P) w hk ⟨ys.toArray⟩; rw [hb] at this; rw [hsz]
   have e : (⟨ys.toArray⟩ : ByteArray).size = ys.length := by show ys.toArray.size = _; simp
   rw [e] at this; exact this
 by_cases hy : ys = []
 · subst hy
   have e0 : L.set i (OB e v (xs ++ [])) = L := by
     rw [List.append_nil]; have e1 : L[i]'(List.getElem?_eq_some_iff.1 hi).1 = _ := (List.getElem?_eq_some_iff.1 hi).2; rw [← e1, List.set_getElem_self]
   rcases H.openOB i hi with ⟨rfl, rfl⟩ | ⟨b, pre, m, sp, rfl, _, _⟩
   · exact ⟨_, _, run_append_nothing w t tx ty e inf hr.und hinf none _ _ (by omega) _ hsrc, h _ _ (.refl _) (by rw [e0]; exact H)⟩
   · exact ⟨_, _, run_append_nothing w t tx ty e inf hr.und hinf _ _ _ (by omega) _ hsrc, h _ _ (.refl _) (by rw [e0]; exact H)⟩
 have hy0 : 0 < ys.length := List.length_pos_iff.2 hy; have hmul : (xs.length + ys.length) * inf.bytes ≤ 140737488355328 := Nat.le_trans (Nat.mul_le_mul_left _ hby) (by omega)
 have fin : ∀ (b' cap : Nat) (w' : World) (pre sp' : List Value), xs.length + ys.length ≤ cap → cap - (xs.length + ys.length) ≤ sp'.length → Same w w' →
     Holds w' (blk b' e (pre ++ (xs ++ ys).map bv ++ sp') :: L.eraseIdx i) → K (.slice (some ⟨b', pre.length, none⟩) (xs.length + ys.length) cap) w' := by
   intro b' cap w' pre sp' hc hsp S' H'
   have H4 := Holds.imp H' (Q := OB e (.slice (some ⟨b', pre.length, none⟩) (xs.length + ys.length) cap) (xs ++ ys)) fun g hg => .inr ⟨b', pre, cap - (xs.length + ys.length), sp', by
     rw [List.length_append]; congr 1; omega, hsp, hg⟩
   exact h _ _ S' (Sat.push i hi H4)
 have hz2 : ∀ n, Builtin.zeroCells z.cells n = (List.replicate n z).toArray := by
   intro n; rw [hr.one]; apply Array.ext
   · simp [Builtin.zeroCells]
   · intro j h1 h2; simp [Builtin.zeroCells, Nat.mod_one]
 rcases H.openOB i hi with ⟨h1, h2⟩ | ⟨b, pre, m, sp, rfl, hmk, Hb⟩
 · subst h1; subst h2; have hrun := run_append_grow_src (P := P) w t tx ty e inf z hr.und hinf hzz none 0 0 [] (run_firstCells_none w.drew inf.size 0 0 0) _ ys.length _ hsrc (by omega) (by simp at hn; omega) (growslice_fits (by omega) (by simpa using hmul)); refine ⟨_, _, hrun, ?_⟩; have hcap := grownCap_ge w (0 + ys.length) 0 e; generalize grownCap w (0 + ys.length) 0 e = cap at hcap ⊢; have H2 := (H.same (w' := w.drew) rfl).alloc (.cells (([] ++ ys.map bv).toArray ++ Builtin.zeroCells z.cells (cap - (0 + ys.length))) e); have H5 := H2.dropAt (i + 1); rw [List.eraseIdx_cons_succ] at H5; refine fin _ cap _ [] (List.replicate (cap - (0 + ys.length)) z) hcap (Nat.le_of_eq (by rw [List.length_replicate]; rfl)) ((Same.drew w).trans (.alloc _ _)) ?_
   have hc : (([] ++ ys.map bv).toArray ++ Builtin.zeroCells z.cells (cap - (0 + ys.length))) = ([] ++ ([] ++ ys).map bv ++ List.replicate (cap - (0 + ys.length)) z).toArray := by rw [hz2]; simp
   rw [hc] at H5 ⊢; exact H5
 · have hgi : (L.set i (blk b e (pre ++ xs.map bv ++ sp)))[i]? = some (blk b e (pre ++ xs.map bv ++ sp)) := set_get hi; have hlen : (ys.map bv).length = ys.length := List.length_map ..; have hlex : (xs.map bv).length = xs.length := List.length_map ..
   have hold : ∀ q u, (xs.map bv)[q]? = some u → w.cell? ((⟨b, pre.length, none⟩ : Addr).add q) = some u := by
     intro q u hu; rw [addr_add, Hb.cell i hgi, List.append_assoc, List.getElem?_append_right (by omega), List.getElem?_append_left (by have := (List.getElem?_eq_some_iff.1 hu).1; omega), show pre.length + q - pre.length = q by omega]; exact hu
   rcases Nat.lt_or_ge m ys.length with hg | hg
   · have hrun := run_append_grow_src (P := P) w t tx ty e inf z hr.und hinf hzz (some ⟨b, pre.length, none⟩) xs.length (xs.length + m) (xs.map bv) (run_firstCells_some w.drew inf.size xs.length ⟨b, pre.length, none⟩ xs.length (xs.length + m) (xs.map bv) (by rw [hlex, hsz, Nat.mul_one]) (by simpa using hold)) _ ys.length _ hsrc (by omega) (by omega) (growslice_fits (by omega) hmul); refine ⟨_, _, hrun, ?_⟩; have hcap := grownCap_ge w (xs.length + ys.length) (xs.length + m) e; generalize grownCap w (xs.length + ys.length) (xs.length + m) e = cap at hcap ⊢; have H2 := (Hb.same (w' := w.drew) rfl).alloc (.cells ((xs.map bv ++ ys.map bv).toArray ++ Builtin.zeroCells z.cells (cap - (xs.length + ys.length))) e); have H5 := H2.dropAt (i + 1); rw [List.eraseIdx_cons_succ, List.eraseIdx_set_eq] at H5; refine fin _ cap _ [] (List.replicate (cap - (xs.length + ys.length)) z) hcap (Nat.le_of_eq (by rw [List.length_replicate])) ((Same.drew w).trans (.alloc _ _)) ?_
     have hc : ((xs.map bv ++ ys.map bv).toArray ++ Builtin.zeroCells z.cells (cap - (xs.length + ys.length))) = ([] ++ (xs ++ ys).map bv ++ List.replicate (cap - (xs.length + ys.length)) z).toArray := by rw [hz2]; simp
     rw [hc] at H5 ⊢; exact H5
   · have hrun := run_append_room_src (P := P) w t tx ty e inf hr.und hinf b pre.length xs.length (xs.length + m) _ ys.length _ hsrc (by omega)
       (fun q hq => by
         rw [hlen] at hq
         rw [Hb.cell i hgi, hsz, List.getElem?_eq_getElem (by rw [List.length_append, List.length_append, hlex]; omega)]; rfl)
       (fun q hq => Hb.frozen i hgi _)
     refine ⟨_, _, hrun, ?_⟩; rw [setCells_eq, hsz]; have H3 := Holds.setCells (o := 0) i (ys.map bv) (pre.length + xs.length * 1) Hb hgi; rw [List.set_set, setL_mid _ _ _ (by rw [List.length_append, List.length_append, hlen, hlex]; omega)] at H3
     have e2 : (pre ++ xs.map bv ++ sp).take (0 + (pre.length + xs.length * 1)) ++ ys.map bv ++ (pre ++ xs.map bv ++ sp).drop (0 + (pre.length + xs.length * 1) + (ys.map bv).length) = pre ++ (xs ++ ys).map bv ++ sp.drop ys.length := by
       have e3 : (pre ++ xs.map bv).length = pre.length + xs.length * 1 := by rw [List.length_append, hlex, Nat.mul_one]
       rw [Nat.zero_add, ← e3, List.take_left' rfl, List.map_append, ← List.drop_drop, List.drop_left' rfl, hlen]; simp
     rw [e2] at H3; have H6 := H3.front i (set_get hi); rw [List.eraseIdx_set_eq] at H6; refine fin b (xs.length + m) _ pre (sp.drop ys.length) (by omega) ?_ (Same.setCells _ _ _ _) H6; rw [List.length_drop]; omega
theorem r_cutO {t d : TypeId} [hr : Bytes P t e d] (i : Nat) (H : Holds w L) {n : Nat} {kk : IntKind} {K : Value → World → Prop} (hi : L[i]? = some (OB e v xs)) (hn : n ≤ xs.length) (h : K (.string ⟨(xs.take n).toArray⟩) w) :
   Ssl 1 v none (some (.int kk (n : Int))) fun y => Cw P t d y w K := by
 rcases H.openOB i hi with ⟨rfl, rfl⟩ | ⟨b, pre, m, sp, rfl, hm, Hb⟩
 · have hn0 : n = 0 := by simpa using hn
   subst hn0; refine r_ssl0 (Nat.le_refl 0) ⟨.string ⟨[].toArray⟩, w, ?_, h⟩; rw [run_convert_bytes_string (P := P) w t d e none _ _ hr.und hr.el hr.str]; rfl
 · refine r_ssl0 (by omega) ⟨_, w, ?_, h⟩; rw [run_convert_bytes_string (P := P) w t d e _ _ _ hr.und hr.el hr.str]; have hgi : (L.set i (blk b e (pre ++ xs.map bv ++ sp)))[i]? = some (blk b e (pre ++ xs.map bv ++ sp)) := set_get hi
   have htl : (xs.take n).length = n := by rw [List.length_take]; omega
   have hload : (loadCells (⟨b, pre.length, none⟩ : Addr) n).run P w = .ok (((xs.take n).map fun c => (c.toNat : Int)).map (Value.int .u8)).toArray w := by
     have hcells : (((xs.take n).map fun c => (c.toNat : Int)).map (Value.int .u8)) = (xs.take n).map bv := by rw [List.map_map]; rfl
     rw [hcells]
     have := run_loadCells (P := P) (w := w) (a := ⟨b, pre.length, none⟩) (cs := ((xs.take n).map bv).toArray) (fun j v hv => by
       have hv' : ((xs.take n).map bv)[j]? = some v := by simpa using hv
       have hj : j < n := by have := (List.getElem?_eq_some_iff.1 hv').1; rw [List.length_map, htl] at this; exact this
       rw [addr_add, Hb.cell i hgi, List.append_assoc, List.getElem?_append_right (by omega), show pre.length + j - pre.length = j by omega, List.getElem?_append_left (by rw [List.length_map]; omega)]
       rw [← hv', List.map_take, List.getElem?_take_of_lt hj])
     simpa [htl, Nat.min_eq_left hn] using this
   rw [run_bytesToString (P := P) w _ n _ _ hload, foldl_push]; simp
theorem r_offO (i : Nat) (H : Holds w L) {n : Nat} {kk : IntKind} {K : Value → Prop} (hi : L[i]? = some (OB e v xs)) (hn : n ≤ xs.length) (h : ∀ v', Holds w (L.set i (OB e v' (xs.drop n))) → K v') :
   Ssl 1 v (some (.int kk (n : Int))) none K := by
 rcases H.openOB i hi with ⟨rfl, rfl⟩ | ⟨b, pre, m, sp, rfl, hm, Hb⟩
 · have hn0 : n = 0 := by simpa using hn
   subst hn0; refine ⟨_, _, _, 0, 0, rfl, ⟨kk, rfl⟩, rfl, by omega, by omega, ?_⟩; rw [if_pos rfl]; refine h _ ?_
   have e0 : L.set i (OB e (.slice none 0 0) (([] : List UInt8).drop 0)) = L := by
     have e1 : L[i]'(List.getElem?_eq_some_iff.1 hi).1 = _ := (List.getElem?_eq_some_iff.1 hi).2; rw [List.drop_zero, ← e1, List.set_getElem_self]
   have h_ : Holds w (L.set i (OB e (.slice none 0 0) (([] : List UInt8).drop 0))) := by rw [e0]; exact H
   exact h_
 · have hgi : (L.set i (blk b e (pre ++ xs.map bv ++ sp)))[i]? = some _ := set_get hi; refine ⟨_, _, _, n, xs.length, rfl, ⟨kk, rfl⟩, rfl, hn, by omega, ?_⟩; have hl : (xs.drop n).length = xs.length - n := List.length_drop ..
   by_cases hc : xs.length + m = n
   · rw [if_pos hc]
     have hnx : n = xs.length := by omega
     have hm0 : m = 0 := by omega
     subst hm0; refine h _ ?_
     have := Hb.at i hgi (Q := OB e (.slice (some ⟨b, pre.length, none⟩) (xs.length - n) (xs.length + 0 - n)) (xs.drop n)) fun g hg => .inr ⟨b, pre, 0, xs.map bv ++ sp, by rw [hl]; congr 1, by omega, by
       have e1 : pre ++ (xs.drop n).map bv ++ (xs.map bv ++ sp) = pre ++ xs.map bv ++ sp := by rw [List.drop_of_length_le (by omega)]; simp
       rw [e1]; exact hg⟩
     rw [List.set_set] at this; exact this
   · rw [if_neg hc]; refine h _ ?_
     have e0 : (some (⟨b, pre.length, none⟩ : Addr)).map (·.add (n * 1)) = some ⟨b, (pre ++ (xs.take n).map bv).length, none⟩ := by
       rw [Option.map_some, addr_add, List.length_append, List.length_map, List.length_take, Nat.mul_one, Nat.min_eq_left hn]
     rw [e0]
     have := Hb.at i hgi (Q := OB e (.slice (some ⟨b, (pre ++ (xs.take n).map bv).length, none⟩) (xs.length - n) (xs.length + m - n)) (xs.drop n)) fun g hg => .inr ⟨b, pre ++ (xs.take n).map bv, m, sp, by rw [hl]; congr 1; omega, hm, by
       have e1 : pre ++ (xs.take n).map bv ++ (xs.drop n).map bv ++ sp = pre ++ xs.map bv ++ sp := by rw [List.append_assoc pre, ← List.map_append, List.take_append_drop]
       rw [e1]; exact hg⟩
     rw [List.set_set] at this; exact this
end
end Go.Vc
namespace Go.Proofs.YtpbbfonfakjecaaGreat
open Go Go.Vc
attribute [local irreducible] Vc.Nc Vc.Ld Vc.LdA Vc.St Vc.StA Vc.Fo Vc.Iaa Vc.Ias Vc.Ixs Vc.Ixa Vc.Fd Vc.FdA Vc.Bp Vc.Bb Vc.Bn Vc.Up Vc.Ci Vc.Lns Vc.Lnl Vc.Ex Vc.Sst Vc.Ssl Vc.New Vc.Vif Vc.VJoin Vc.VLoop Vc.KE Vc.Dr Vc.Rk Vc.Cl Vc.Cx Vc.Inv Vc.Be Vc.Cv Vc.Cw Vc.Mf Vc.Sl Vc.Lk Vc.Bd Vc.Bs Vc.Ms Vc.Mm Vc.Mu Vc.Me Vc.Es Vc.Rg Vc.Nx Vc.Ta Vc.Ap Vc.Usd Vc.Ust Vc.Cp Vc.Ln Vc.Bc Vc.Bmin Vc.Bmax Vc.Bdel Vc.Bclr Vc.Pk
namespace B20
open Go.M01 Go.Mb Go.Mp Go.M10 Go.Mc Go.Mz Go.Mk Rb
variable {w : World} {L : List HProp} {K : Value → World → Prop} {b rb cb zb mb r : Nat} {B : List UInt8} {d at_ n k : Nat} {s : BS} {x : RS} {lv : Value}
abbrev tBk : Nat := 298
abbrev tRw : Nat := 302
def bkC (rv lv : Value) (s : BS) : List Value := [rv, nv s.room, .bool s.head, uv s.sum, nv s.frm, lv, .bool s.done, iv 0]
def rwC (cb zb mb : Nat) (x : RS) : List Value := [pt cb, pt zb, pt mb, nv x.due, nv x.place]
def rawN (b : Nat) (s : BS) (lv : Value) : List HProp := [blk b tBk (bkC (.pointer none) lv s), SL bv tB lv s.last]
def rawS (b : Nat) (s : BS) (x : RS) (rb cb zb mb : Nat) (lv : Value) : List HProp :=
 [blk b tBk (bkC (pt rb) lv s), SL bv tB lv s.last, blk rb tRw (rwC cb zb mb x), C14.CdR cb x.code, Z07.ZrR zb x.zeros, F06.MtR mb x.list]
def RawR (b : Nat) (s : BS) : HProp := match s.row with
 | none => fun h => ∃ lv, Sat (rawN b s lv) h
 | some x => fun h => ∃ rb cb zb mb lv, Sat (rawS b s x rb cb zb mb lv) h
def BkR (b : Nat) (s : BS) : HProp := fun h => s.Ok ∧ RawR b s h
theorem BkR_open (H : Holds w (BkR b s :: L)) : s.Ok ∧ Holds w (RawR b s :: L) := Holds.pure H
theorem BkR_close (h : s.Ok) (H : Holds w (RawR b s :: L)) : Holds w (BkR b s :: L) := Holds.imp H fun _ hh => ⟨h, hh⟩
theorem Raw_openN (hr : s.row = none) (H : Holds w (RawR b s :: L)) : ∃ lv, Holds w (rawN b s lv ++ L) := by
 unfold RawR at H; rw [hr] at H; obtain ⟨lv, H⟩ := Holds.ex H; exact ⟨lv, Holds.unpack H⟩
theorem Raw_closeN (hr : s.row = none) (H : Holds w (rawN b s lv ++ L)) : Holds w (RawR b s :: L) := by
 unfold RawR; rw [hr]; exact Holds.imp (Holds.pack H) fun _ hh => ⟨lv, hh⟩
theorem Raw_openS (hr : s.row = some x) (H : Holds w (RawR b s :: L)) : ∃ rb cb zb mb lv, Holds w (rawS b s x rb cb zb mb lv ++ L) := by
 unfold RawR at H; rw [hr] at H; obtain ⟨rb, H⟩ := Holds.ex H; obtain ⟨cb, H⟩ := Holds.ex H; obtain ⟨zb, H⟩ := Holds.ex H; obtain ⟨mb, H⟩ := Holds.ex H; obtain ⟨lv, H⟩ := Holds.ex H; exact ⟨rb, cb, zb, mb, lv, Holds.unpack H⟩
theorem Raw_closeS (hr : s.row = some x) (H : Holds w (rawS b s x rb cb zb mb lv ++ L)) : Holds w (RawR b s :: L) := by
 unfold RawR; rw [hr]; exact Holds.imp (Holds.pack H) fun _ hh => ⟨rb, cb, zb, mb, lv, hh⟩
def AfterB (y : Res BS) (b : Nat) (s : BS) (r : Nat) (B : List UInt8) (d at_ : Nat) (L : List HProp) (e : Int) (w : World) : Prop :=
 match y with
 | .short => e = 3 ∧ Holds w (BkR b s :: RdR r B d at_ :: L)
 | .bad c => e = (c : Int) ∧ ∃ q v1 v2 v3 v4 v5 v6, Holds w (blk b tBk [v1, v2, v3, v4, v5, v6, .bool false, iv 0] :: RdR r B d q :: L)
 | .ok s' n => e = 0 ∧ Holds w (BkR b s' :: RdR r B d (at_ + n) :: L)
theorem szT (T : Nat → Bool) : (⟨(listed T).toArray⟩ : ByteArray).size = (listed T).length := by show (listed T).toArray.size = _; simp
theorem rowOf_spec {T : Nat → Bool} {room : Nat} (H : Holds w L) (hT : listed T ≠ []) (hr : room ≤ 900000)
   (k : ∀ rb cb zb mb w', Same w w' → Holds w' (blk rb tRw (rwC cb zb mb (rowOf T room)) :: C14.CdR cb (rowOf T room).code :: Z07.ZrR zb (rowOf T room).zeros :: F06.MtR mb (rowOf T room).list :: L) → K (pt rb) w') : Cl Tryz.prog F.block_rowOf #[S_ (listed T), nv room] w K := by
 refine Tie.block_rowOf ?_; unfold Vcf.block_rowOf; have hl := listed_len T; have hl0 : 0 < (listed T).length := List.length_pos_iff.2 hT; refine r_lns ?_; rw [szT]; refine r_addN (b := 2) (by omega) ?_; refine C14.NewReader_spec H (by omega) (by omega) fun cb w1 S1 H1 => ?_; refine r_ex20 (r_ex21 (r_lns ?_)); rw [szT]; refine Z07.NewReader_spec H1 hl0 hl hr fun zb w2 S2 H2 => ?_; refine r_ex20 (r_ex21 ?_); refine F06.New_spec H2 hT fun mb w3 S3 H3 => ?_; refine r_ex20 (r_ex21 ?_); refine r_bd (v := .agg #[pt cb, pt zb, pt mb, nv 0, nv 0]) (by kernel_rfl) ?_; refine r_new H3 fun rb w4 S4 H4 => ?_; replace H4 : Holds w4 (blk rb tRw [pt cb, pt zb, pt mb, nv 0, nv 0] :: F06.MtR mb (listed T) :: Z07.ZrR zb (z0 (listed T).length room) :: C14.CdR cb (c0 ((listed T).length + 2)) :: L) := H4; exact k rb cb zb mb _ (((S1.trans S2).trans S3).trans S4) (by have h_ := Holds.ord 4 [0, 3, 2, 1] H4 rfl; exact h_)
theorem waits_spec (H : Holds w L) (i : Nat) (hi : L[i]? = some (blk rb tRw (rwC cb zb mb x))) (k : K (.bool x.waits) w) : Cl Tryz.prog F.block_row_waits #[pt rb] w K := by
 refine Tie.block_row_waits ?_; unfold Vcf.block_row_waits; refine r_bnST (r_vt ?_); refine r_nc (r_fo0 ?_); refine r_ld i H hi rfl ?_; refine r_gtr (r_ifD (fun h => ?_) fun h => ?_)
 · have e : x.waits = true := by unfold RS.waits; simp; left; omega
   rw [e] at k; exact k
 · refine r_nc (r_fo0 ?_); refine r_ld i H hi rfl ?_; refine r_gtr ?_
   have e : x.waits = decide ((0 : Int) < (x.place : Int)) := by
     unfold RS.waits; rw [decide_eq_false (by omega), Bool.false_or, Bool.eq_iff_iff, decide_eq_true_iff, decide_eq_true_iff]; omega
   rw [e] at k; exact k
theorem told_spec {c : CS} {sy : Nat} (H : Holds w (blk rb tRw (rwC cb zb mb x) :: Z07.ZrR zb x.zeros :: L)) (hs : sy ≤ x.zeros.n + 1) (hd : x.zeros.done = false)
   (kb : zput x.zeros sy = none → ∀ w', Same w w' → Holds w' L → K (iv 25) w')
   (k : ∀ z d p, zput x.zeros sy = some (z, d, p) → ∀ w', Same w w' → Holds w' (blk rb tRw (rwC cb zb mb ⟨c, z, x.list, d, p.toNat⟩) :: Z07.ZrR zb z :: L) → K (iv 0) w') : Cl Tryz.prog F.block_row_told #[pt rb, nv sy] w K := by
 refine Tie.block_row_told ?_; unfold Vcf.block_row_told; refine r_nc (r_fo0 (r_ld 0 H rfl rfl ?_)); refine Z07.Put_spec H.swap hs hd (fun hn e w2 he S2 H2 => ?_) fun z d p hz w2 S2 H2 => ?_
 · refine r_ex30 (r_ex31 (r_ex32 ?_)); refine r_neq (r_vtN he ?_); exact kb hn _ S2 H2.drop
 · refine r_ex30 (r_ex31 (r_ex32 ?_)); refine r_neq (r_vfN rfl ?_); have S := S2; have H := H2.swap; clear H2 S2
   repeat (first | refine r_nc ?_ | refine r_fo0 ?_)
   refine r_st 0 H rfl (by simp [rwC]) rfl fun w3 S3 H3 => ?_; replace H3 : Holds w3 (blk rb tRw [pt cb, pt zb, pt mb, nv d, nv x.place] :: Z07.ZrR zb z :: L) := H3; refine r_max ?_; rw [show max p 0 = ((p.toNat : Nat) : Int) by omega]
   repeat (first | refine r_nc ?_ | refine r_fo0 ?_)
   refine r_st 0 H3 rfl (by simp) rfl fun w4 S4 H4 => ?_; exact k z d p hz _ ((S.trans S3).trans S4) H4
theorem next_spec (H : Holds w (blk rb tRw (rwC cb zb mb x) :: F06.MtR mb x.list :: L)) (hat : x.at_ < x.list.length) (hdue : x.due ≤ 900000)
   (k : ∀ w', Same w w' → Holds w' (blk rb tRw (rwC cb zb mb x.next) :: F06.MtR mb x.next.list :: L) → K (bv x.byte) w') : Cl Tryz.prog F.block_row_next #[pt rb] w K := by
 refine Tie.block_row_next ?_; unfold Vcf.block_row_next; have S := Same.refl w; refine r_join1 (fun y w' => y = nv x.at_ ∧ Same w w' ∧ Holds w' (blk rb tRw (rwC cb zb mb x.next) :: F06.MtR mb x.list :: L)) ?_ ?_
 · clear H S; rintro _ _ w1 ⟨rfl, S, H⟩; refine r_nc (r_fo0 (r_ld 0 H rfl rfl ?_)); refine F06.At_spec H.swap hat fun w2 S2 H2 => ?_; refine r_ex20 (r_ex21 ?_); exact k _ (S.trans S2) H2.swap
 · refine r_nc (r_fo0 (r_ld 0 H rfl rfl ?_)); refine r_gtr (r_ifD (fun h => ?_) fun h => ?_)
   · refine r_nc (r_fo0 (r_ld 0 H rfl rfl ?_))
     repeat (first | refine r_nc ?_ | refine r_fo0 ?_ | (refine r_sub1N (by omega) (by omega) ?_))
     refine r_st 0 H rfl (by simp [rwC]) rfl fun w3 S3 H3 => ?_
     repeat (refine r_ke ?_)
     have h0 : 0 < x.due := by omega
     refine ⟨by unfold RS.at_; rw [if_pos h0]; rfl, S.trans S3, ?_⟩; rw [rwC, RS.next, if_pos h0]; exact H3
   · refine r_nc (r_fo0 (r_ld 0 H rfl rfl ?_)); refine r_nc (r_fo0 ?_); refine r_st 0 H rfl (by simp [rwC]) rfl fun w3 S3 H3 => ?_
     repeat (refine r_ke ?_)
     have h0 : ¬ 0 < x.due := by omega
     refine ⟨by unfold RS.at_; rw [if_neg h0], S.trans S3, ?_⟩; rw [rwC, RS.next, if_neg h0, show x.due - 1 = x.due by omega]; exact H3
theorem NewReader_spec {room : Nat} (H : Holds w L) (h1 : 5 ≤ room) (h2 : room ≤ 900000) (k : ∀ b w', Same w w' → Holds w' (BkR b (b0 room) :: L) → K (.tuple #[pt b, iv 0]) w') : Cl Tryz.prog F.block_NewReader #[nv room] w K := by
 refine Tie.block_NewReader ?_; unfold Vcf.block_NewReader; refine r_join1 (fun x w' => w = w' ∧ x = .bool false) ?_ ?_
 · rintro _ _ _ ⟨rfl, rfl⟩; refine r_vf ?_; refine r_bd (v := .agg #[.pointer none, nv room, .bool false, uv 0, nv 0, .slice none 0 0, .bool false, iv 0]) (by kernel_rfl) ?_; refine r_new H fun b w2 S2 H2 => ?_; refine k b _ S2 (BkR_close (b0_ok h2) (Raw_closeN (lv := .slice none 0 0) rfl ?_)); exact (H2.nilSL bv tB).swap
 · repeat (first | refine r_ke ?_ | refine r_lss ?_ | refine r_gtr ?_ | ((with_reducible refine r_vfD ?h ?_); (case h => omega)))
   exact ⟨rfl, by rw [decide_eq_false (by omega)]⟩
theorem end_spec (H : Holds w (RawR b s :: RdR r B d (at_ + n) :: L)) (hp : Pre s) (s0 : BS) (post : ∀ e w', Same w w' → AfterB (bend s n) b s0 r B d at_ L e w' → K (iv e) w') : Cl Tryz.prog F.block_Reader_end #[pt b] w K := by
 refine Tie.block_Reader_end ?_; unfold Vcf.block_Reader_end; have S := Same.refl w; have hok := fun s' k' (h : bend s n = .ok s' k') => (bend_ok hp h).1
 cases hr : s.row with
 | none =>
   have e0 : bend s n = .ok s n := by unfold bend; rw [hr]
   rw [e0] at post hok; obtain ⟨lv, H⟩ := Raw_openN hr H; refine r_join1 (fun y w' => w = w' ∧ y = .bool true) ?_ ?_
   · rintro _ _ _ ⟨rfl, rfl⟩; refine r_vt ?_; exact post 0 _ S ⟨rfl, BkR_close (hok _ _ rfl) (Raw_closeN hr H)⟩
   · unfold rawN at H
     repeat (first | refine r_nc ?_ | refine r_fo0 ?_ | refine r_ke ?_ | (with_reducible refine r_bnNT ?_) | (with_reducible refine r_vt ?_) | refine r_ld 0 H rfl rfl ?_)
     exact ⟨rfl, rfl⟩
 | some x =>
   obtain ⟨rb, cb, zb, mb, lv, H⟩ := Raw_openS hr H
   have e0 : bend s n = if x.code.done = false ∨ x.waits = true then .ok s n else if s.last.length ≤ s.frm then .bad 23 else .ok ⟨s.room, s.head, s.sum, s.frm, s.row, s.last, true⟩ n := by
     unfold bend; rw [hr]
   rw [e0] at post hok; unfold rawS at H; have hf := hp.frm; refine r_join1 (fun y w' => w = w' ∧ y = .bool (!x.code.done || x.waits)) ?_ ?_
   · rintro _ _ _ ⟨rfl, rfl⟩
     by_cases hc : x.code.done = false ∨ x.waits = true
     · rw [if_pos hc] at post hok
       have : (!x.code.done || x.waits) = true := by
         rcases hc with h | h
         · rw [h]; rfl
         · rw [h]; simp
       rw [this]; refine r_vt ?_; exact post 0 _ S ⟨rfl, BkR_close (hok _ _ rfl) (Raw_closeS hr H)⟩
     · rw [if_neg hc] at post hok
       have : (!x.code.done || x.waits) = false := by
         rw [Bool.or_eq_false_iff]
         constructor
         · cases h : x.code.done with
           | false => exact absurd (.inl h) hc
           | true => rfl
         · cases h : x.waits with
           | false => rfl
           | true => exact absurd (.inr h) hc
       rw [this]; refine r_vf ?_
       repeat (first | refine r_nc ?_ | refine r_fo0 ?_ | (refine r_dr H ?_; clear H; intro _ S_ H; replace S := S.trans S_; clear S_) | refine r_ld 0 H rfl rfl ?_)
       refine r_lnS 1 H rfl ?_
       repeat (refine r_geq ?_)
       refine r_ifD (fun h => ?_) fun h => ?_
       · rw [if_pos (by omega)] at post; have H9 := (by have h_ := Holds.ord 7 [0, 6] H rfl; exact h_); rw [bkC, hp.done] at H9; exact post 23 _ S ⟨rfl, at_ + n, _, _, _, _, _, _, H9⟩
       · rw [if_neg (by omega)] at post hok
         repeat (first | refine r_nc ?_ | refine r_fo0 ?_)
         refine r_st 0 H rfl (by simp [bkC]) rfl fun w3 S3 H3 => ?_; exact post 0 _ (S.trans S3) ⟨rfl, BkR_close (hok _ _ rfl) (Raw_closeS (s := ⟨s.room, s.head, s.sum, s.frm, s.row, s.last, true⟩) hr H3)⟩
   · repeat (first | refine r_nc ?_ | refine r_fo0 ?_ | (with_reducible refine r_bnSF ?_) | (with_reducible refine r_vf ?_) | refine r_ld 0 H rfl rfl ?_ | refine r_ld 2 H rfl rfl ?_)
     have H2 : Holds w (C14.CdR cb x.code :: blk b tBk (bkC (pt rb) lv s) :: SL bv tB lv s.last :: blk rb tRw (rwC cb zb mb x) :: Z07.ZrR zb x.zeros :: F06.MtR mb x.list :: RdR r B d (at_ + n) :: L) := (by have h_ := Holds.ord 7 [3, 0, 1, 2, 4, 5, 6] H rfl; exact h_); refine C14.Done_spec H2 ?_
     cases hcd : x.code.done with
     | false =>
       refine r_notF (r_vt ?_)
       repeat (refine r_ke ?_)
       exact ⟨rfl, rfl⟩
     | true =>
       refine r_notT (r_vf ?_)
       repeat (first | refine r_nc ?_ | refine r_fo0 ?_ | refine r_ld 0 H rfl rfl ?_)
       refine waits_spec H 2 rfl ?_
       repeat (refine r_ke ?_)
       exact ⟨rfl, by simp⟩
def Mid (y : Res BS) (b : Nat) (s : BS) (r : Nat) (B : List UInt8) (d at_ : Nat) (L : List HProp) (v : Value) (w : World) : Prop :=
 (∃ e : Int, v = iv e ∧ e ≠ 0 ∧ AfterB y b s r B d at_ L e w) ∨ (v = iv 0 ∧ ∃ s' n, y = bend s' n ∧ Pre s' ∧ Holds w (RawR b s' :: RdR r B d (at_ + n) :: L))
theorem begin_spec (H : Holds w (BkR b s :: RdR r B d at_ :: L)) (hh : s.head = false) (post : ∀ v w', Same w w' → Mid (bstep s (rest B at_)) b s r B d at_ L v w' → K v w') :
   Cl Tryz.prog F.block_Reader_begin #[pt b, pt r] w K := by
 refine Tie.block_Reader_begin ?_; unfold Vcf.block_Reader_begin; obtain ⟨hs, H⟩ := BkR_open H; have hrow := (head_pre (s := 0) (f := 0) hs hh (by omega) (by omega)).1; obtain ⟨lv, H⟩ := Raw_openN hrow H
 have e0 : bstep s (rest B at_) = bhead s (rest B at_) := by unfold bstep; rw [if_pos hh]
 rw [e0] at post; have hrl := rest_len B at_; have H1 : Holds w (RdR r B d at_ :: blk b tBk (bkC (.pointer none) lv s) :: SL bv tB lv s.last :: L) := (by have h_ := Holds.ord 3 [2, 0, 1] H rfl; exact h_); clear H; refine Left_spec H1 fun w2 S2 H2 => ?_; have S := S2; have H := H2; clear H1 H2 S2; refine r_lss (r_ifD (fun h => ?_) fun h => ?_)
 · refine post _ _ S (.inl ⟨3, rfl, by decide, ?_⟩); unfold bhead; rw [if_pos (by omega)]; exact ⟨rfl, BkR_close hs (Raw_closeN hrow (by have h_ := Holds.ord 3 [1, 2, 0] H rfl; exact h_))⟩
 · have h57 : ¬ (rest B at_).length < 57 := by omega
   have h32 := rest_len B (at_ + 32); have h33 := rest_len B (at_ + 32 + 1); refine Get_spec (n := 32) H (by omega) (fun hx => absurd hx (by omega)) fun _ w3 S3 H3 => ?_; refine r_ex20 (r_ex21 ?_); refine Get1_spec H3 (fun hx => ?_) fun c hc w4 S4 H4 => ?_
   · have := (List.getElem?_eq_none_iff.1 hx); omega
   refine r_ex20 (r_ex21 ?_); refine Get_spec (n := 24) H4 (by omega) (fun hx => absurd hx (by omega)) fun _ w5 S5 H5 => ?_; refine r_ex20 (r_ex21 ?_); replace S := ((S.trans S3).trans S4).trans S5; clear H H3 H4; have H := H5; clear H5; have hv1 := valB_take_lt (rest B at_) 32; have hv2 := valB_take_lt (rest B (at_ + 32 + 1)) 24; have e1 : (rest B at_).drop 33 = rest B (at_ + 32 + 1) := rest_drop B at_ 33
   have e2 : valB (((rest B at_).drop 32).take 1) = c.toNat := by
     rw [rest_drop, take_snoc (n := 0) hc, List.take_zero, List.nil_append, valB_one]
   have eh : bhead s (rest B at_) = if c.toNat = 1 then .bad 25 else bend ⟨s.room, true, valB ((rest B at_).take 32), valB ((rest B (at_ + 32 + 1)).take 24), s.row, s.last, s.done⟩ 57 := by
     unfold bhead; rw [if_neg h57, e1, e2]
   rw [eh] at post; have hpre := (head_pre (s := valB ((rest B at_).take 32)) (f := valB ((rest B (at_ + 32 + 1)).take 24)) hs hh (by omega) (by omega)).2; generalize valB ((rest B at_).take 32) = sm at *; generalize valB ((rest B (at_ + 32 + 1)).take 24) = fm at *; refine r_nc (r_fo0 ?_); refine r_st 1 H rfl (by simp [bkC]) rfl fun w3 S3 H3 => ?_; replace H3 : Holds w3 (RdR r B d (at_ + 32 + 1 + 24) :: blk b tBk [.pointer none, nv s.room, .bool true, uv s.sum, nv s.frm, lv, .bool s.done, iv 0] :: SL bv tB lv s.last :: L) := H3; refine r_nc (r_fo0 ?_); refine r_st 1 H3 rfl (by simp) rfl fun w4 S4 H4 => ?_; replace H4 : Holds w4 (RdR r B d (at_ + 32 + 1 + 24) :: blk b tBk [.pointer none, nv s.room, .bool true, uv sm, nv s.frm, lv, .bool s.done, iv 0] :: SL bv tB lv s.last :: L) := H4; refine r_ci64 (by omega) (by omega) ?_; refine r_nc (r_fo0 ?_); refine r_st 1 H4 rfl (by simp) rfl fun w5 S5 H5 => ?_; replace H5 : Holds w5 (RdR r B d (at_ + 32 + 1 + 24) :: blk b tBk [.pointer none, nv s.room, .bool true, uv sm, nv fm, lv, .bool s.done, iv 0] :: SL bv tB lv s.last :: L) := H5; replace S := ((S.trans S3).trans S4).trans S5; refine r_eql (r_ifE (fun h => ?_) fun h => ?_)
   · rw [if_pos (by omega)] at post; rw [(hs.none_ hrow).2] at H5; exact post _ _ S (.inl ⟨25, rfl, by decide, rfl, _, _, _, _, _, _, _, (by have h_ := Holds.ord 3 [1, 0] H5 rfl; exact h_)⟩)
   · rw [if_neg (by omega)] at post; exact post _ _ S (.inr ⟨rfl, _, _, rfl, hpre, Raw_closeN hrow (by have h_ := Holds.ord 3 [1, 2, 0] H5 rfl; exact h_)⟩)
theorem symbols_spec (H : Holds w (BkR b s :: RdR r B d at_ :: L)) (hh : s.head = true) (hrow : s.row = none) (post : ∀ v w', Same w w' → Mid (bstep s (rest B at_)) b s r B d at_ L v w' → K v w') :
   Cl Tryz.prog F.block_Reader_symbols #[pt b, pt r] w K := by
 refine Tie.block_Reader_symbols ?_; unfold Vcf.block_Reader_symbols; obtain ⟨hs, H⟩ := BkR_open H; obtain ⟨lv, H⟩ := Raw_openN hrow H
 have e0 : bstep s (rest B at_) = buse s (uread (rest B at_)) := by unfold bstep; rw [if_neg (by rw [hh]; decide), hrow]
 rw [e0] at post; have H1 : Holds w (RdR r B d at_ :: blk b tBk (bkC (.pointer none) lv s) :: SL bv tB lv s.last :: L) := (by have h_ := Holds.ord 3 [2, 0, 1] H rfl; exact h_); clear H; have hroom := hs.room; refine U05.Read_spec H1 (fun hx w2 S2 H2 => ?_) (fun hx w2 S2 H2 => ?_) fun T n hx hT w2 S2 H2 => ?_
 · rw [hx] at post; refine r_ex20 (r_ex21 (r_eql (r_vfE (by decide) ?_))); exact post _ _ S2 (.inl ⟨3, rfl, by decide, rfl, BkR_close hs (Raw_closeN hrow (by have h_ := Holds.ord 3 [1, 2, 0] H2 rfl; exact h_))⟩)
 · rw [hx] at post; refine r_ex20 (r_ex21 (r_eql (r_vfE (by decide) ?_))); rw [bkC, (hs.none_ hrow).2] at H2; exact post _ _ S2 (.inl ⟨25, rfl, by decide, rfl, _, _, _, _, _, _, _, (by have h_ := Holds.ord 3 [1, 0] H2 rfl; exact h_)⟩)
 · rw [hx] at post; refine r_ex20 (r_ex21 (r_eql (r_vtE rfl ?_))); refine r_nc (r_fo0 (r_ld 1 H2 rfl rfl ?_)); refine rowOf_spec H2 hT hroom fun rb cb zb mb w3 S3 H3 => ?_; refine r_nc (r_fo0 ?_); refine r_st 5 H3 rfl (by simp [bkC]) rfl fun w4 S4 H4 => ?_; replace H4 : Holds w4 (blk rb tRw (rwC cb zb mb (rowOf T s.room)) :: C14.CdR cb (rowOf T s.room).code :: Z07.ZrR zb (rowOf T s.room).zeros :: F06.MtR mb (rowOf T s.room).list :: RdR r B d (at_ + n) :: blk b tBk (bkC (pt rb) lv s) :: SL bv tB lv s.last :: L) := H4; refine post _ _ ((S2.trans S3).trans S4) (.inr ⟨rfl, _, _, rfl, use_pre hs hh hrow hT, Raw_closeS (rb := rb) (cb := cb) (zb := zb) (mb := mb) (lv := lv) rfl ?_⟩); exact (by have h_ := Holds.ord 7 [5, 6, 0, 1, 2, 3, 4] H4 rfl; exact h_)
theorem symbol_spec (H : Holds w (BkR b s :: RdR r B d at_ :: L)) (hd : s.done = false) (hh : s.head = true) (hrow : s.row = some x) (hw : x.waits = false) (post : ∀ v w', Same w w' → Mid (bstep s (rest B at_)) b s r B d at_ L v w' → K v w') :
   Cl Tryz.prog F.block_Reader_symbol #[pt b, pt r] w K := by
 refine Tie.block_Reader_symbol ?_; unfold Vcf.block_Reader_symbol; obtain ⟨hs, H⟩ := BkR_open H; obtain ⟨rb, cb, zb, mb, lv, H⟩ := Raw_openS hrow H
 have e0 : bstep s (rest B at_) = bsym s x (cstep x.code (rest B at_)) := by unfold bstep; rw [if_neg (by rw [hh]; decide), hrow]; simp only; rw [if_neg (by rw [hw]; decide)]
 rw [e0] at post; have hcd := waits_or hs hd hrow hw; obtain ⟨g1, g2, g3, g4, g5⟩ := hs.some_ x hrow; unfold rawS at H; refine r_nc (r_fo0 (r_ld 0 H rfl rfl ?_)); refine r_nc (r_fo0 (r_ld 2 H rfl rfl ?_)); have H1 : Holds w (C14.CdR cb x.code :: RdR r B d at_ :: blk b tBk (bkC (pt rb) lv s) :: SL bv tB lv s.last :: blk rb tRw (rwC cb zb mb x) :: Z07.ZrR zb x.zeros :: F06.MtR mb x.list :: L) := (by have h_ := Holds.ord 7 [3, 6, 0, 1, 2, 4, 5] H rfl; exact h_); refine C14.Step_spec H1 hcd fun v w2 S2 hA => ?_; clear H1 H
 cases hx : cstep x.code (rest B at_) with
 | short =>
   rw [hx] at hA post; obtain ⟨rfl, H⟩ := hA; refine r_ex20 (r_ex21 ?_); refine r_join1 (fun y w' => w2 = w' ∧ y = .bool true) ?_ ?_
   · rintro _ _ _ ⟨rfl, rfl⟩; refine r_vt ?_; exact post _ _ S2 (.inl ⟨3, rfl, by decide, rfl, BkR_close hs (Raw_closeS (rb := rb) (cb := cb) (zb := zb) (mb := mb) (lv := lv) hrow (by have h_ := Holds.ord 7 [2, 3, 4, 0, 5, 6, 1] H rfl; exact h_))⟩)
   · refine r_neq (r_vtN (by decide) ?_)
     repeat (refine r_ke ?_)
     exact ⟨rfl, rfl⟩
 | bad c =>
   have hcb := cstep_bad hx
   have hc0 : (c : Int) ≠ 0 := by omega
   rw [hx] at hA post; obtain ⟨rfl, q, H⟩ := hA; refine r_ex20 (r_ex21 ?_); refine r_join1 (fun y w' => w2 = w' ∧ y = .bool true) ?_ ?_
   · rintro _ _ _ ⟨rfl, rfl⟩; refine r_vt ?_; rw [bkC, hd] at H; exact post _ _ S2 (.inl ⟨c, rfl, hc0, rfl, q, _, _, _, _, _, _, (by have h_ := Holds.ord 6 [1, 0] H rfl; exact h_)⟩)
   · refine r_neq (r_vtN hc0 ?_)
     repeat (refine r_ke ?_)
     exact ⟨rfl, rfl⟩
 | ok y k =>
   obtain ⟨c, o⟩ := y; rw [hx] at hA post; obtain ⟨rfl, H⟩ := hA; refine r_ex20 (r_ex21 ?_)
   cases o with
   | none =>
     refine r_join1 (fun y w' => w2 = w' ∧ y = .bool true) ?_ ?_
     · rintro _ _ _ ⟨rfl, rfl⟩; refine r_vt ?_; refine post _ _ S2 (.inr ⟨rfl, _, _, rfl, sym_pre hs hd hrow hx, Raw_closeS (rb := rb) (cb := cb) (zb := zb) (mb := mb) (lv := lv) rfl ?_⟩); exact (by have h_ := Holds.ord 7 [2, 3, 4, 0, 5, 6, 1] H rfl; exact h_)
     · refine r_neq (r_vfN rfl ?_); refine r_lss (r_ke ?_); exact ⟨rfl, rfl⟩
   | some sy =>
     have hsy := (cstep_ok hx g2.code).2.2 sy rfl; have hsz := g2.size; refine r_join1 (fun y w' => w2 = w' ∧ y = .bool false) ?_ ?_
     · rintro _ _ _ ⟨rfl, rfl⟩; refine r_vf ?_; refine r_nc (r_fo0 (r_ld 2 H rfl rfl ?_)); have H1 : Holds w2 (blk rb tRw (rwC cb zb mb x) :: Z07.ZrR zb x.zeros :: C14.CdR cb c :: RdR r B d (at_ + k) :: blk b tBk (bkC (pt rb) lv s) :: SL bv tB lv s.last :: F06.MtR mb x.list :: L) := (by have h_ := Holds.ord 7 [4, 5, 0, 1, 2, 3, 6] H rfl; exact h_); refine told_spec (c := c) H1 (by omega) (by rw [g2.zd]; exact hcd) (fun hn w3 S3 H3 => ?_) fun z dd p hz w3 S3 H3 => ?_
       · have e1 : bsym s x (.ok (c, some sy) k) = .bad 25 := by show btold s x c sy k = _; unfold btold; rw [hn]
         rw [e1] at post; rw [bkC, hd] at H3; exact post _ _ (S2.trans S3) (.inl ⟨25, rfl, by decide, rfl, _, _, _, _, _, _, _, (by have h_ := Holds.ord 5 [2, 1] H3 rfl; exact h_)⟩)
       · refine post _ _ (S2.trans S3) (.inr ⟨rfl, ⟨s.room, s.head, s.sum, s.frm, some ⟨c, z, x.list, dd, p.toNat⟩, s.last, s.done⟩, k, ?_, told_pre hs hd hrow hw hx hz, Raw_closeS (rb := rb) (cb := cb) (zb := zb) (mb := mb) (lv := lv) rfl ?_⟩)
         · show btold s x c sy k = _; unfold btold; rw [hz]
         · exact (by have h_ := Holds.ord 7 [4, 5, 0, 2, 1, 6, 3] H3 rfl; exact h_)
     · refine r_neq (r_vfN rfl ?_); refine r_lss (r_ke ?_); exact ⟨rfl, by rw [decide_eq_false (by omega)]⟩
theorem step_spec (H : Holds w (BkR b s :: RdR r B d at_ :: L)) (hd : s.done = false) (post : ∀ e w', Same w w' → AfterB (bstep s (rest B at_)) b s r B d at_ L e w' → K (iv e) w') :
   Cl Tryz.prog F.block_Reader_step #[pt b, pt r] w K := by
 refine Tie.block_Reader_step ?_; unfold Vcf.block_Reader_step; refine r_join1 (fun v w' => Same w w' ∧ Mid (bstep s (rest B at_)) b s r B d at_ L v w') ?_ ?_
 · rintro _ v w1 ⟨S, ⟨e, rfl, he, hA⟩ | ⟨rfl, s', n, hy, hp, H'⟩⟩
   · refine r_neq (r_vtN he ?_); exact post e _ S hA
   · refine r_neq (r_vfN rfl ?_); rw [hy] at post; exact end_spec H' hp s fun e w' S' hA => post e w' (S.trans S') hA
 clear post; have S := Same.refl w; have hs := (BkR_open H).1; have hraw := (BkR_open H).2
 cases hh : s.head with
 | false =>
   have hrow := (head_pre (s := 0) (f := 0) hs hh (by omega) (by omega)).1; obtain ⟨lv, H0⟩ := Raw_openN hrow hraw; refine r_nc (r_fo0 (r_ld 0 H0 rfl rfl ?_)); rw [hh]; refine r_notF (r_vt ?_); refine begin_spec H hh fun v w' S' hA => ?_
   repeat (refine r_ke ?_)
   exact ⟨S', hA⟩
 | true =>
   cases hrow : s.row with
   | none =>
     obtain ⟨lv, H0⟩ := Raw_openN hrow hraw; refine r_nc (r_fo0 (r_ld 0 H0 rfl rfl ?_)); rw [hh]; refine r_notT (r_vf ?_); refine r_nc (r_fo0 (r_ld 0 H0 rfl rfl ?_)); refine r_bnNT (r_vt ?_); refine symbols_spec H hh hrow fun v w' S' hA => ?_
     repeat (refine r_ke ?_)
     exact ⟨S', hA⟩
   | some x =>
     obtain ⟨rb, cb, zb, mb, lv, H0⟩ := Raw_openS hrow hraw; refine r_nc (r_fo0 (r_ld 0 H0 rfl rfl ?_)); rw [hh]; refine r_notT (r_vf ?_); refine r_nc (r_fo0 (r_ld 0 H0 rfl rfl ?_)); refine r_bnSF (r_vf ?_); refine r_nc (r_fo0 (r_ld 0 H0 rfl rfl ?_)); refine waits_spec H0 2 rfl ?_
     cases hw : x.waits with
     | false =>
       refine r_vf ?_; refine symbol_spec H hd hh hrow hw fun v w' S' hA => ?_
       repeat (refine r_ke ?_)
       exact ⟨S', hA⟩
     | true =>
       refine r_vt ?_; obtain ⟨g1, g2, g3, g4, g5⟩ := hs.some_ x hrow; have hzs := g2.zeros.sum; have hzm := g2.zeros.most
       have hat : x.at_ < x.list.length := by
         have := g2.list; have := g2.place; unfold RS.at_
         split <;> omega
       have hpre := next_pre hs hd hrow hw
       have eb : bstep s (rest B at_) = bnext s x := by unfold bstep; rw [if_neg (by rw [hh]; decide), hrow]; simp only; rw [if_pos hw]
       clear H hraw; have H := H0; clear H0; unfold rawS at H
       repeat (first | refine r_nc ?_ | refine r_fo0 ?_ | (refine r_dr H ?_; clear H; intro _ S_ H; replace S := S.trans S_; clear S_) | refine r_ld 0 H rfl rfl ?_)
       have H1 : Holds _ (blk rb tRw (rwC cb zb mb x) :: F06.MtR mb x.list :: blk b tBk (bkC (pt rb) lv s) :: SL bv tB lv s.last :: C14.CdR cb x.code :: Z07.ZrR zb x.zeros :: RdR r B d at_ :: L) := (by have h_ := Holds.ord 7 [2, 5, 0, 1, 3, 4, 6] H rfl; exact h_); refine next_spec H1 hat (by omega) fun w3 S3 H3 => ?_; refine r_rk (r_ld 2 H3 rfl rfl rfl) ?_; refine r_app1K H3 3 (f := bv) (xs := s.last) rfl x.byte (fun _ => rfl) (by omega) (fun w' H' => r_ld 2 H' rfl rfl rfl) fun lv' w4 S4 H4 => ?_; replace H4 : Holds w4 (blk rb tRw (rwC cb zb mb x.next) :: F06.MtR mb x.next.list :: blk b tBk (bkC (pt rb) lv s) :: SL bv tB lv' (s.last ++ [x.byte]) :: C14.CdR cb x.code :: Z07.ZrR zb x.zeros :: RdR r B d at_ :: L) := H4; refine r_nc (r_fo0 ?_); refine r_st 2 H4 rfl (by simp [bkC]) (SL_sg H4 3 rfl) fun w5 S5 H5 => ?_; replace H5 : Holds w5 (blk rb tRw (rwC cb zb mb x.next) :: F06.MtR mb x.next.list :: blk b tBk (bkC (pt rb) lv' s) :: SL bv tB lv' (s.last ++ [x.byte]) :: C14.CdR cb x.code :: Z07.ZrR zb x.zeros :: RdR r B d at_ :: L) := H5
       repeat (refine r_ke ?_)
       refine ⟨((S.trans S3).trans S4).trans S5, .inr ⟨rfl, ⟨s.room, s.head, s.sum, s.frm, some x.next, s.last ++ [x.byte], s.done⟩, 0, by rw [eb]; rfl, hpre, Raw_closeS (rb := rb) (cb := cb) (zb := zb) (mb := mb) (lv := lv') rfl ?_⟩⟩; exact (by have h_ := Holds.ord 7 [2, 3, 0, 4, 5, 1, 6] H5 rfl; exact h_)
def BadB (b e : Nat) : HProp := fun h => ∃ v1 v2 v3 v4 v5 v6, blk b tBk [v1, v2, v3, v4, v5, v6, .bool false, nv e] h
def AfterBS (y : Res BS) (b : Nat) (s : BS) (r : Nat) (B : List UInt8) (d at_ : Nat) (L : List HProp) (e : Int) (w : World) : Prop :=
 match y with
 | .short => e = 3 ∧ Holds w (BkR b s :: RdR r B d at_ :: L)
 | .bad c => e = (c : Int) ∧ ∃ q, Holds w (BadB b c :: RdR r B d q :: L)
 | .ok s' n => e = 0 ∧ Holds w (BkR b s' :: RdR r B d (at_ + n) :: L)
theorem Raw_cells (H : Holds w (BkR b s :: L)) : ∃ rv lv L', Holds w (blk b tBk (bkC rv lv s) :: L') ∧ ∀ w' v, Holds w' (blk b tBk ((bkC rv lv s).set 7 v) :: L') → v = iv 0 → Holds w' (BkR b s :: L) := by
 obtain ⟨hs, H⟩ := BkR_open H
 cases hrow : s.row with
 | none =>
   obtain ⟨lv, H⟩ := Raw_openN hrow H; exact ⟨_, lv, _, H, fun w' v H' hv => by subst hv; exact BkR_close hs (Raw_closeN hrow H')⟩
 | some x =>
   obtain ⟨rb, cb, zb, mb, lv, H⟩ := Raw_openS hrow H; exact ⟨_, lv, _, H, fun w' v H' hv => by subst hv; exact BkR_close hs (Raw_closeS hrow H')⟩
theorem Step_spec (H : Holds w (BkR b s :: RdR r B d at_ :: L)) (hd : s.done = false) (post : ∀ e w', Same w w' → AfterBS (bstep s (rest B at_)) b s r B d at_ L e w' → K (iv e) w') :
   Cl Tryz.prog F.block_Reader_Step #[pt b, pt r] w K := by
 refine Tie.block_Reader_Step ?_; unfold Vcf.block_Reader_Step; obtain ⟨rv, lv, L', H0, hback⟩ := Raw_cells H; refine r_join1 (fun y w' => w = w' ∧ y = .bool false) ?_ ?_
 · rintro _ _ _ ⟨rfl, rfl⟩; refine r_vf ?_; refine r_nc (r_fo0 (r_ld 0 H0 rfl rfl ?_)); refine r_neq (r_vfN rfl ?_); refine step_spec H hd fun e w2 S2 hA => ?_
   cases hx : bstep s (rest B at_) with
   | short =>
     rw [hx] at hA post; obtain ⟨rfl, H'⟩ := hA; refine r_neq (r_vfN rfl ?_); exact post _ _ S2 ⟨rfl, H'⟩
   | bad c =>
     have hcb := bstep_bad hx; rw [hx] at hA post; obtain ⟨rfl, q, v1, v2, v3, v4, v5, v6, H'⟩ := hA; refine r_neq (r_vtN (by omega) ?_); refine r_nc (r_fo0 ?_); refine r_st 0 H' rfl (by simp) rfl fun w5 S5 H5 => ?_; exact post _ _ (S2.trans S5) ⟨rfl, q, Holds.imp H5 fun _ hh => ⟨v1, v2, v3, v4, v5, v6, hh⟩⟩
   | ok s' k =>
     rw [hx] at hA post; obtain ⟨rfl, H'⟩ := hA; refine r_neq (r_vtN (by decide) ?_); obtain ⟨rv, lv, L', H1, hback⟩ := Raw_cells H'; refine r_nc (r_fo0 ?_); refine r_st 0 H1 rfl (by simp [bkC]) rfl fun w5 S5 H5 => ?_; exact post _ _ (S2.trans S5) ⟨rfl, hback _ _ H5 rfl⟩
 · repeat (first | refine r_ld 0 H0 rfl rfl ?_ | refine r_nc ?_ | refine r_fo0 ?_ | refine r_ke ?_ | (with_reducible refine r_bnSF ?_) | (with_reducible refine r_vf ?_))
   exact ⟨rfl, by rw [hd]⟩
theorem Done_spec (H : Holds w (BkR b s :: L)) (k : K (.bool s.done) w) : Cl Tryz.prog F.block_Reader_Done #[pt b] w K := by
 refine Tie.block_Reader_Done ?_; unfold Vcf.block_Reader_Done; obtain ⟨rv, lv, L', H0, _⟩ := Raw_cells H
 repeat (first | refine r_ld 0 H0 rfl rfl ?_ | refine r_nc ?_ | refine r_fo0 ?_ | (with_reducible refine r_bnST ?_) | (with_reducible refine r_vt ?_))
 exact k
end B20
namespace B20
open Go.M01 Go.Mb Go.Mp Go.M10 Go.Mc Go.Mz Go.Mk Go.Q23 Rb
variable {w : World} {L : List HProp} {K : Value → World → Prop} {b rb cb zb mb r : Nat} {B : List UInt8} {d at_ n k : Nat} {s : BS} {x : RS} {lv : Value}
abbrev tGt : Nat := 114
abbrev gotV (t : List UInt8) (o u : Nat) : List Value := [S_ t, nv o, uv u]
theorem got_zero : (zeroP Tryz.prog tGt).cells.toList = gotV [] 0 0 := by kernel_rfl
theorem r_cvb {t e d : TypeId} [hr : Bytes Tryz.prog t e d] (H : Holds w L) (i : Nat) {oa : Option Addr} {xs : List UInt8} {sp : List Value} {l c : Nat} {K : Value → Prop}
   (hi : L[i]? = some (slb bv e oa xs sp)) (hl : l = xs.length) (h : K (.string ⟨xs.toArray⟩)) : Cv Tryz.prog t d (.slice oa l c) w K := by
 have h0 : Cw Tryz.prog t d (.slice oa l c) w (fun v w' => v = .string ⟨xs.toArray⟩ ∧ w' = w) := r_cbs H i hi hl ⟨rfl, rfl⟩; unfold Cw at h0; obtain ⟨v, w', hr, rfl, rfl⟩ := h0; unfold Cv; exact ⟨_, hr, h⟩
theorem raw_cells2 (H : Holds w (BkR b s :: L)) : ∃ rv oa c L' sp, Holds w (blk b tBk (bkC rv (.slice oa s.last.length c) s) :: slb bv tB oa s.last sp :: L') ∧ (∀ w', Holds w' (blk b tBk (bkC rv (.slice oa s.last.length c) s) :: slb bv tB oa s.last sp :: L') → Holds w' (BkR b s :: L)) := by
 obtain ⟨hs, H⟩ := BkR_open H
 have back : ∀ {oa : Option Addr} {sp : List Value} {w' : World} {rv lv : Value} {L' : List HProp}, lv = .slice oa s.last.length (s.last.length + sp.length) → Holds w' (blk b tBk (bkC rv lv s) :: slb bv tB oa s.last sp :: L') → Holds w' (blk b tBk (bkC rv lv s) :: SL bv tB lv s.last :: L') := by
   intro oa sp w' rv lv L' he H'; subst he; exact H'.close 1 rfl
 cases hrow : s.row with
 | none =>
   obtain ⟨lv, H⟩ := Raw_openN hrow H; obtain ⟨oa, sp, rfl, H1⟩ := H.open 1 rfl; exact ⟨_, oa, _, L, sp, H1, fun w' H' => BkR_close hs (Raw_closeN hrow (back rfl H'))⟩
 | some x =>
   obtain ⟨rb, cb, zb, mb, lv, H⟩ := Raw_openS hrow H; obtain ⟨oa, sp, rfl, H1⟩ := H.open 1 rfl; exact ⟨_, oa, _, _, sp, H1, fun w' H' => BkR_close hs (Raw_closeS hrow (back rfl H'))⟩
theorem Got_done (H : Holds w (BkR b s :: L)) (hd : s.done = true) (k : ∀ w', Same w w' → Holds w' (BkR b s :: L) → K (.agg (gotV s.last s.frm s.sum).toArray) w') : Cl Tryz.prog F.block_Reader_Got #[pt b] w K := by
 refine Tie.block_Reader_Got ?_; unfold Vcf.block_Reader_Got; refine r_new H fun gb w1 S1 H1 => ?_; rw [got_zero] at H1; refine Done_spec H1.swap ?_; rw [hd]; refine r_notT (r_vf ?_); refine r_dr H1 fun w2 S2 H2 => ?_; obtain ⟨rv, oa, c, L', sp, H3, hback⟩ := raw_cells2 H2.swap; refine r_nc (r_fo0 (r_ld 0 H3 rfl rfl ?_)); refine r_cvb H3 1 rfl rfl ?_; refine r_nc (r_fo0 (r_ld 0 H3 rfl rfl ?_)); refine r_nc (r_fo0 (r_ld 0 H3 rfl rfl ?_)); refine r_bd (v := .agg (gotV s.last s.frm s.sum).toArray) (by kernel_rfl) ?_; refine r_stA 0 H2 (vs := gotV s.last s.frm s.sum) rfl (Nat.le_refl 3) rfl rfl fun w4 S4 H4 => ?_; replace H4 : Holds w4 (blk gb tGt (gotV s.last s.frm s.sum) :: BkR b s :: L) := H4; refine r_ldA 0 H4 (gotV s.last s.frm s.sum) rfl rfl rfl ?_; exact k _ ((S1.trans S2).trans S4) H4.drop
end B20
namespace P20
open Go.M01 Go.Mb Go.Me Go.M03
variable {w : World} {L : List HProp} {K : Value → World → Prop}
def RepC : Prop := ∀ {w : World} {L : List HProp} {K : Value → World → Prop} {c : UInt8} {n : Nat}, Holds w L → n ≤ 255 → (∀ w', Same w w' → Holds w' L → K (S_ (List.replicate n c)) w') → Cl Tryz.prog F.strings_Repeat #[S_ [c], nv n] w K
theorem RText_spec (hR : RepC) {x : UInt8 × Nat} (H : Holds w L) (h : 1 ≤ x.2 ∧ x.2 ≤ 255) (k : ∀ w', Same w w' → Holds w' L → K (S_ (pieceB x)) w') : Cl Tryz.prog F.rle_text #[.agg (Fpc x).toArray] w K := by
 refine Tie.rle_text ?_; unfold Vcf.rle_text; obtain ⟨a, n⟩ := x; simp only at h; refine r_new H fun b w1 S1 H1 => ?_; replace H1 : Holds w1 (blk b tPc [bv a, nv n] :: L) := H1; refine r_fo0 (r_ld 0 H1 rfl rfl ?_); refine q_str H1 a fun w2 S2 H2 => ?_; refine r_fo0 (r_ld 0 H2 rfl rfl ?_); refine r_lss (r_ifD (fun h4 => ?_) fun h4 => ?_)
 · refine r_fo0 (r_ld 0 H2 rfl rfl ?_); refine hR H2 (by omega) fun w3 S3 H3 => ?_; have := k w3 (S1.trans (S2.trans S3)) H3.drop; unfold pieceB at this; simp only at this; rw [if_neg (by omega), List.append_nil, show min n 4 = n by omega] at this; exact this
 · have e : ((n : Nat) : Int) - 4 = (((UInt8.ofNat (n - 4)).toNat : Nat) : Int) := by
     simp only [UInt8.toNat_ofNat']; rw [Nat.mod_eq_of_lt (by omega)]; omega
   have fin : ∀ w', Same w w' → Holds w' L → K (S_ (List.replicate 4 a ++ [UInt8.ofNat (n - 4)])) w' := fun w' S' H' => by
     have := k w' S' H'; unfold pieceB at this; simp only at this; rw [if_pos (by omega), show min n 4 = 4 by omega] at this; exact this
   refine r_dr H2 fun w5 S5 H5 => ?_; refine r_fo0 (r_ld 0 H5 rfl rfl ?_); refine r_sub (by omega) (by omega) ?_; refine r_ciu8 (by omega) (by omega) ?_; rw [e]; refine ⟨?_, ?_⟩
   · refine hR (n := 4) H5 (by decide) fun w6 S6 H6 => ?_; refine r_rk (r_ld 0 H6 rfl rfl rfl) ?_; refine r_bs1 H6 rfl fun b3 w7 S7 H7 => ?_; refine B20.r_cvb (sp := []) (xs := [UInt8.ofNat (n - 4)]) (oa := some ⟨b3, 0, none⟩) ((H7.imp fun h hh => (⟨rfl, rfl, hh⟩ : (slb bv tB (some ⟨b3, 0, none⟩) [UInt8.ofNat (n - 4)] []) h))) 0 rfl rfl ?_; refine r_catL (by simp) ?_; exact fin w7 (S1.trans (S2.trans (S5.trans (S6.trans S7)))) H7.drop.drop
   · refine r_bs1 H5 rfl fun b3 w7 S7 H7 => ?_; have H8 : Holds w7 (slb bv tB (some ⟨b3, 0, none⟩) [UInt8.ofNat (n - 4)] [] :: blk b tPc [bv a, nv n] :: L) := H7.imp fun h hh => (⟨rfl, rfl, hh⟩ : (slb bv tB (some ⟨b3, 0, none⟩) [UInt8.ofNat (n - 4)] []) h); refine B20.r_cvb (sp := []) (xs := [UInt8.ofNat (n - 4)]) H8 0 rfl rfl ?_; refine hR (n := 4) H8 (by decide) fun w9 S9 H9 => ?_; refine r_rk (B20.r_cvb (sp := []) (xs := [UInt8.ofNat (n - 4)]) H9 0 rfl rfl rfl) ?_; refine r_rk (r_ld 1 H9 rfl rfl rfl) ?_; refine r_catL (by simp) ?_; exact fin w9 (S1.trans (S2.trans (S5.trans (S7.trans S9)))) H9.drop.drop
theorem RPiece_spec (hR : RepC) {x : UInt8 × Nat} (H : Holds w L) (h : 1 ≤ x.2 ∧ x.2 ≤ 255) (k : ∀ w', Same w w' → Holds w' L → K (.tuple #[S_ (pieceB x), iv 0]) w') : Cl Tryz.prog F.rle_Piece #[.agg (Fpc x).toArray] w K := by
 refine Tie.rle_Piece ?_; unfold Vcf.rle_Piece; refine r_new H fun b w1 S1 H1 => ?_; replace H1 : Holds w1 (blk b tPc (Fpc x) :: L) := H1; refine r_join1 (fun t w' => w1 = w' ∧ t = .bool false) ?_ ?_
 rotate_left
 · refine r_fo0 (r_ld 0 H1 rfl rfl ?_); refine r_lss (r_vfD (by omega) ?_); refine r_fo0 (r_ld 0 H1 rfl rfl ?_); refine r_gtr (r_ke ⟨rfl, ?_⟩); rw [decide_eq_false (by omega)]
 rintro _ _ _ ⟨rfl, rfl⟩; refine r_vf ?_; refine r_ldA 0 H1 (Fpc x) rfl rfl rfl ?_; refine RText_spec hR H1 h fun w2 S2 H2 => ?_; exact k _ (S1.trans S2) H2.drop
theorem RPiece_none {c : UInt8} (H : Holds w L) (k : ∀ w', Same w w' → Holds w' L → K (.tuple #[S_ [], iv 1]) w') : Cl Tryz.prog F.rle_Piece #[.agg (Fpc (c, 0)).toArray] w K := by
 refine Tie.rle_Piece ?_; unfold Vcf.rle_Piece; refine r_new H fun b w1 S1 H1 => ?_; replace H1 : Holds w1 (blk b tPc (Fpc (c, 0)) :: L) := H1; refine r_join1 (fun t w' => w1 = w' ∧ t = .bool true) ?_ ?_
 rotate_left
 · refine r_fo0 (r_ld 0 H1 rfl rfl ?_); refine r_lss (r_vtD (by show ((0 : Nat) : Int) < 1; decide) (r_ke ⟨rfl, rfl⟩))
 rintro _ _ _ ⟨rfl, rfl⟩; exact r_vt (k _ S1 H1.drop)
end P20
namespace P20
open Go.M01 Go.Mb Go.Me Go.M03
variable {w : World} {L : List HProp} {K : Value → World → Prop} {b : Nat} {c : UInt8} {n : Nat}
abbrev tPk : Nat := 126
theorem PkRow_spec {x : UInt8 × Nat} (H : Holds w (blk b tPk (Fpc x) :: L)) (k : ∀ w', Same w w' → Holds w' (blk b tPk (Fpc x) :: L) → K (.agg (Fpc x).toArray) w') : Cl Tryz.prog F.feed_Packer_Row #[pt b] w K := by
 refine Tie.feed_Packer_Row ?_; unfold Vcf.feed_Packer_Row; refine r_new H fun t w1 S1 H1 => ?_; rw [pc_zero] at H1; refine r_bnSF (r_vf (r_nc (r_fo0 ?_))); refine r_ldA 1 H1 (Fpc x) rfl rfl rfl ?_; refine r_stA 0 H1 (vs := Fpc x) rfl (Nat.le_refl 2) rfl rfl fun w2 S2 H2 => ?_; replace H2 : Holds w2 (blk t tPc (Fpc x) :: blk b tPk (Fpc x) :: L) := H2; refine r_ldA 0 H2 (Fpc x) rfl rfl rfl ?_; exact k _ (S1.trans S2) H2.drop
theorem PkClose_spec (hR : RepC) {x : UInt8 × Nat} (H : Holds w (blk b tPk (Fpc x) :: L)) (h : 1 ≤ x.2 ∧ x.2 ≤ 255) (k : ∀ w', Same w w' → Holds w' (blk b tPk (Fpc (0, 0)) :: L) → K (S_ (pieceB x)) w') : Cl Tryz.prog F.feed_Packer_close #[pt b] w K := by
 refine Tie.feed_Packer_close ?_; unfold Vcf.feed_Packer_close; refine r_nc (r_fo0 ?_); refine r_ldA 0 H (Fpc x) rfl rfl rfl ?_; refine RPiece_spec hR H h fun w1 S1 H1 => ?_; refine r_ex20 (r_ex21 ?_); refine r_bd (v := .agg (Fpc (0, 0)).toArray) (by kernel_rfl) ?_; refine r_nc (r_fo0 ?_); refine r_stA 0 H1 (vs := Fpc (0, 0)) rfl (Nat.le_refl 2) rfl rfl fun w2 S2 H2 => ?_; exact k _ (S1.trans S2) H2
theorem PkClose_none (H : Holds w (blk b tPk (Fpc (c, 0)) :: L)) (k : ∀ w', Same w w' → Holds w' (blk b tPk (Fpc (0, 0)) :: L) → K (S_ []) w') : Cl Tryz.prog F.feed_Packer_close #[pt b] w K := by
 refine Tie.feed_Packer_close ?_; unfold Vcf.feed_Packer_close; refine r_nc (r_fo0 ?_); refine r_ldA 0 H (Fpc (c, 0)) rfl rfl rfl ?_; refine RPiece_none H fun w1 S1 H1 => ?_; refine r_ex20 (r_ex21 ?_); refine r_bd (v := .agg (Fpc (0, 0)).toArray) (by kernel_rfl) ?_; refine r_nc (r_fo0 ?_); refine r_stA 0 H1 (vs := Fpc (0, 0)) rfl (Nat.le_refl 2) rfl rfl fun w2 S2 H2 => ?_; exact k _ (S1.trans S2) H2
theorem PkEnd_spec (hR : RepC) {x : UInt8 × Nat} (H : Holds w (blk b tPk (Fpc x) :: L)) (h : x.2 ≤ 255) (k : ∀ w', Same w w' → Holds w' (blk b tPk (Fpc (0, 0)) :: L) → K (S_ (if x.2 = 0 then [] else pieceB x)) w') : Cl Tryz.prog F.feed_Packer_End #[pt b] w K := by
 refine Tie.feed_Packer_End ?_; unfold Vcf.feed_Packer_End; refine r_bnSF (r_vf ?_); obtain ⟨c, n⟩ := x; simp only at h k
 by_cases h0 : n = 0
 · subst h0; rw [if_pos rfl] at k; exact PkClose_none H k
 · rw [if_neg h0] at k; exact PkClose_spec hR H ⟨by show 1 ≤ n; omega, h⟩ k
end P20
namespace P20
open Go.M01 Go.Mb Go.Me Go.M02 Go.M03
variable {w : World} {L : List HProp} {K : Value → World → Prop} {p sm pk room size : Nat} {body tx : List UInt8} {bd : Value} {x : UInt8 × Nat}
abbrev tSp : Nat := 104
abbrev spC (bd : Value) (sm size room pk : Nat) : List Value := [bd, pt sm, nv size, nv room, pt pk]
abbrev SpL (p : Nat) (bd : Value) (sm pk room : Nat) (body tx : List UInt8) (x : UInt8 × Nat) (L : List HProp) : List HProp :=
 blk p tSp (spC bd sm tx.length room pk) :: SL bv tB bd body :: R3b.SumR sm (crcF 4294967295 tx) :: blk pk tPk (Fpc x) :: L
theorem bgTake_spec (hR : RepC) {y : UInt8 × Nat} (H : Holds w (SpL p bd sm pk room body tx x L)) (hy : 1 ≤ y.2 ∧ y.2 ≤ 255) (hb : body.length ≤ 1000000) (ht : tx.length ≤ 1000000)
   (k : ∀ bd' w', Same w w' → Holds w' (SpL p bd' sm pk room (body ++ pieceB y) (tx ++ List.replicate y.2 y.1) x L) → K (.tuple #[]) w') : Cl Tryz.prog F.split_begun_take #[pt p, .agg (Fpc y).toArray] w K := by
 refine Tie.split_begun_take ?_; unfold Vcf.split_begun_take; have h5 := pieceB_len y; refine r_new H fun q w1 S1 H1 => ?_; replace H1 : Holds w1 (blk q tPc (Fpc y) :: SpL p bd sm pk room body tx x L) := H1; refine r_ldA 0 H1 (Fpc y) rfl rfl rfl ?_; refine RPiece_spec hR H1 hy fun w2 S2 H2 => ?_; refine r_ex20 (r_ex21 ?_); refine r_nc (r_fo0 (r_ld 1 H2 rfl rfl ?_)); refine r_apStr (e := tB) (by kernel_rfl) H2 2 rfl (by omega) fun bd' w3 S3 H3 => ?_; replace H3 : Holds w3 (blk q tPc (Fpc y) :: blk p tSp (spC bd sm tx.length room pk) :: SL bv tB bd' (body ++ pieceB y) :: R3b.SumR sm (crcF 4294967295 tx) :: blk pk tPk (Fpc x) :: L) := H3; refine r_nc (r_fo0 ?_)
 obtain ⟨oa, l, c, rfl⟩ : ∃ oa l c, bd' = .slice oa l c := by
   obtain ⟨oa, sp, rfl, _⟩ := H3.open 2 rfl; exact ⟨oa, _, _, rfl⟩
 refine r_st 1 H3 rfl (by simp) rfl fun w4 S4 H4 => ?_; replace H4 : Holds w4 (blk q tPc (Fpc y) :: blk p tSp (spC (.slice oa l c) sm tx.length room pk) :: SL bv tB (.slice oa l c) (body ++ pieceB y) :: R3b.SumR sm (crcF 4294967295 tx) :: blk pk tPk (Fpc x) :: L) := H4; refine r_dr H4 fun w5 S5 H5 => ?_; refine r_nc (r_fo0 (r_ld 1 H5 rfl rfl ?_)); refine r_fo0 (r_ld 0 H5 rfl rfl ?_); refine r_addN (a := tx.length) (b := y.2) (by omega) ?_; refine r_nc (r_fo0 ?_); refine r_st 1 H5 rfl (by simp) rfl fun w6 S6 H6 => ?_; replace H6 : Holds w6 (blk q tPc (Fpc y) :: blk p tSp (spC (.slice oa l c) sm (tx.length + y.2) room pk) :: SL bv tB (.slice oa l c) (body ++ pieceB y) :: R3b.SumR sm (crcF 4294967295 tx) :: blk pk tPk (Fpc x) :: L) := H6; refine r_fo0 (r_ld 0 H6 rfl rfl ?_)
 refine r_loop1n (fun j v w' => ∃ i, j = y.2 - i ∧ i ≤ y.2 ∧ v = nv i ∧ Same w w' ∧ Holds w' (blk q tPc (Fpc y) :: blk p tSp (spC (.slice oa l c) sm (tx.length + y.2) room pk) :: SL bv tB (.slice oa l c) (body ++ pieceB y) :: R3b.SumR sm (crcF 4294967295 (tx ++ List.replicate i y.1)) :: blk pk tPk (Fpc x) :: L)) y.2
   ⟨0, rfl, Nat.zero_le _, rfl, S1.trans (S2.trans (S3.trans (S4.trans (S5.trans S6)))), by rw [List.replicate_zero, List.append_nil]; exact H6⟩ ?_
 clear H H1 H2 H3 H4 H5 H6 S1 S2 S3 S4 S5 S6; rintro _ j _ w7 _ ⟨i, rfl, hi, rfl, S7, H7⟩ hgo; refine r_lss (r_ifD (fun h => ?_) fun h => ?_)
 · refine r_dr H7 fun w8 S8 H8 => ?_; refine r_nc (r_fo0 (r_ld 1 H8 rfl rfl ?_)); refine r_fo0 (r_ld 0 H8 rfl rfl ?_)
   have H9 : Holds w8 (R3b.SumR sm (crcF 4294967295 (tx ++ List.replicate i y.1)) :: blk q tPc (Fpc y) :: blk p tSp (spC (.slice oa l c) sm (tx.length + y.2) room pk) :: SL bv tB (.slice oa l c) (body ++ pieceB y) :: blk pk tPk (Fpc x) :: L) := by
     have h_ := Holds.ord 5 [3, 0, 1, 2, 4] H8 rfl; exact h_
   refine R3b.Put_spec H9 fun w9 S9 Ha => ?_
   have Hb : Holds w9 (blk q tPc (Fpc y) :: blk p tSp (spC (.slice oa l c) sm (tx.length + y.2) room pk) :: SL bv tB (.slice oa l c) (body ++ pieceB y) :: R3b.SumR sm (crcB (crcF 4294967295 (tx ++ List.replicate i y.1)) y.1) :: blk pk tPk (Fpc x) :: L) := by
     have h_ := Holds.ord 5 [1, 2, 3, 0, 4] Ha rfl; exact h_
   refine r_add1N (by omega) (r_ke (hgo (y.2 - (i + 1)) _ _ (by omega) ⟨i + 1, rfl, by omega, rfl, S7.trans (S8.trans S9), ?_⟩)); rw [List.replicate_succ', ← List.append_assoc, crcF_snoc]; exact Hb
 · obtain rfl : i = y.2 := by omega
   refine k (.slice oa l c) _ S7 ?_
   have e : (tx ++ List.replicate y.2 y.1).length = tx.length + y.2 := by rw [List.length_append, List.length_replicate]
   show Holds w7 (blk p tSp (spC (.slice oa l c) sm (tx ++ List.replicate y.2 y.1).length room pk) :: _); rw [e]; exact H7.drop
theorem smValue_spec (H : Holds w (R3b.SumR sm (crcF 4294967295 tx) :: L)) (k : K (uv (crcOf tx)) w) : Cl Tryz.prog F.crc_Sum_Value #[pt sm] w K := by
 refine Tie.crc_Sum_Value ?_; unfold Vcf.crc_Sum_Value; obtain ⟨hs, H⟩ := R3b.SumR_open H; refine r_bnSF (r_vf (r_nc (r_fo0 (r_ld 0 H rfl R3b.sm256 ?_)))); exact r_upxU32 hs k
theorem smReset_spec (H : Holds w (R3b.SumR sm (crcF 4294967295 tx) :: L)) (k : ∀ w', Same w w' → Holds w' (R3b.SumR sm (crcF 4294967295 []) :: L) → K (.tuple #[]) w') : Cl Tryz.prog F.crc_Sum_Reset #[pt sm] w K := by
 refine Tie.crc_Sum_Reset ?_; unfold Vcf.crc_Sum_Reset; obtain ⟨hs, H⟩ := R3b.SumR_open H; refine r_bnST ?_; refine r_vt (r_nc (r_fo0 ?_)); refine r_st 0 H rfl (by rw [R3b.smlen]; decide) rfl fun w1 S1 H1 => ?_
 have H2 : Holds w1 (blk sm R3b.tS (R3b.smC 4294967295) :: L) := by
   have h_ := H1; rw [List.set_cons_zero] at h_; have e := R3b.smset (s := crcF 4294967295 tx) 4294967295; rw [← e]; exact h_
 exact k _ S1 (R3b.SumR_close (by decide) H2)
end P20
namespace U22
open Go.M01 Go.Mb Go.Mp Go.M10 Go.Mc Go.Mz Go.Mk Go.M02 Go.M03 Go.Q24 Rb
variable {w : World} {L : List HProp} {K : Value → World → Prop} {b r : Nat} {B : List UInt8} {d at_ : Nat} {u : US}
abbrev tUs : Nat := 116
def usC (p : Value) (u : US) (e : Nat) : List Value := [nv u.unit, nv u.due, nv u.at_, nv u.level, p, S_ u.last, nv u.frm, uv u.sum, uv u.total, .bool u.ended, nv e]
def RawU (b : Nat) (u : US) : HProp := match u.blk with
 | none => blk b tUs (usC (.pointer none) u 0)
 | some s => fun h => ∃ q, Sat [blk b tUs (usC (pt q) u 0), B20.BkR q s] h
def UsR (b : Nat) (u : US) : HProp := fun h => u.Ok ∧ RawU b u h
theorem UsR_open (H : Holds w (UsR b u :: L)) : u.Ok ∧ Holds w (RawU b u :: L) := Holds.pure H
theorem UsR_close (h : u.Ok) (H : Holds w (RawU b u :: L)) : Holds w (UsR b u :: L) := Holds.imp H fun _ hh => ⟨h, hh⟩
theorem Raw_openN (hr : u.blk = none) (H : Holds w (RawU b u :: L)) : Holds w (blk b tUs (usC (.pointer none) u 0) :: L) := by
 unfold RawU at H; rw [hr] at H; exact H
theorem Raw_closeN (hr : u.blk = none) (H : Holds w (blk b tUs (usC (.pointer none) u 0) :: L)) : Holds w (RawU b u :: L) := by
 unfold RawU; rw [hr]; exact H
theorem Raw_openS {s : BS} (hr : u.blk = some s) (H : Holds w (RawU b u :: L)) : ∃ q, Holds w (blk b tUs (usC (pt q) u 0) :: B20.BkR q s :: L) := by
 unfold RawU at H; rw [hr] at H; obtain ⟨q, H⟩ := Holds.ex H; exact ⟨q, Holds.unpack H⟩
theorem Raw_closeS {s : BS} {q : Nat} (hr : u.blk = some s) (H : Holds w (blk b tUs (usC (pt q) u 0) :: B20.BkR q s :: L)) : Holds w (RawU b u :: L) := by
 unfold RawU; rw [hr]; exact Holds.imp (Holds.pack (A := [blk b tUs (usC (pt q) u 0), B20.BkR q s]) H) fun _ hh => ⟨q, hh⟩
def BadU (b e : Nat) : HProp := fun h => ∃ p u, blk b tUs (usC p u e) h
theorem BadU_open {e : Nat} (H : Holds w (BadU b e :: L)) : ∃ p u, Holds w (blk b tUs (usC p u e) :: L) := by
 obtain ⟨p, H⟩ := Holds.ex H; obtain ⟨u, H⟩ := Holds.ex H; exact ⟨p, u, H⟩
def AfterU (y : Res (US × Nat)) (b : Nat) (u : US) (r : Nat) (B : List UInt8) (d at_ : Nat) (L : List HProp) (wt e : Int) (w : World) : Prop :=
 match y with
 | .short => wt = 0 ∧ e = 3 ∧ Holds w (UsR b u :: RdR r B d at_ :: L)
 | .bad c => wt = 0 ∧ e = (c : Int) ∧ ∃ q, Holds w (BadU b 0 :: RdR r B d q :: L)
 | .ok (u', k) n => wt = (k : Int) ∧ e = 0 ∧ Holds w (UsR b u' :: RdR r B d (at_ + n) :: L)
theorem letter_spec (H : Holds w (UsR b u :: RdR r B d at_ :: L)) (hd : u.due = 0) (post : ∀ e w', Same w w' → AfterU (uletter u (rest B at_)) b u r B d at_ L 0 e w' → K (iv e) w') :
   Cl Tryz.prog F.unstream_Reader_letter #[pt b, pt r] w K := by
 refine Tie.unstream_Reader_letter ?_; unfold Vcf.unstream_Reader_letter; obtain ⟨hu, H⟩ := UsR_open H; have hbn := hu.none_ (by omega); have hok : ∀ u' k n, uletter u (rest B at_) = .ok (u', k) n → u'.Ok := fun u' k n h => (ustep_ok hu (by unfold ustep; rw [if_pos hd]; exact h)).1; have H1 := (Raw_openN hbn H).swap; clear H; refine Rb.Get_spec (n := 8) H1 (by omega) (fun h w2 S2 H2 => ?_) fun h w2 S2 H2 => ?_
 · refine r_ex20 (r_ex21 ?_); refine r_neq (r_vtN (by decide) ?_); refine post _ _ S2 ?_; unfold uletter; rw [if_pos h]; exact ⟨rfl, rfl, UsR_close hu (Raw_closeN hbn H2.swap)⟩
 refine r_ex20 (r_ex21 ?_); refine r_neq (r_vfN rfl ?_); have hv := valB_take_lt (rest B at_) 8
 have h8 : ¬ (rest B at_).length < 8 := by omega
 unfold uletter at post hok; rw [if_neg h8] at post; simp only [if_neg h8] at hok; generalize valB ((rest B at_).take 8) = c at *; have ha := hu.at_; have hbad : Holds w2 (BadU b 0 :: RdR r B d (at_ + 8) :: L) := Holds.imp H2.swap fun _ hh => ⟨_, u, hh⟩; refine r_nc (r_fo0 (r_ld 1 H2 rfl rfl ?_)); refine r_lss (r_ifD (fun h3 => ?_) fun h3 => ?_)
 · have h3' : u.at_ < 3 := by omega
   rw [if_pos h3'] at post; simp only [if_pos h3'] at hok; refine r_nc (r_fo0 (r_ld 1 H2 rfl rfl ?_)); refine r_ixs (n := (u.at_ : Int)) (by omega) (by show (u.at_ : Int) < ((3 : Nat) : Int); omega) ?_; rw [Int.toNat_natCast]
   have hl : (((⟨#[66, 90, 104]⟩ : ByteArray).data.toList.getD u.at_ 0).toNat : Int) = ((letters.getD u.at_ 0 : Nat) : Int) := by
     rcases (show u.at_ = 0 ∨ u.at_ = 1 ∨ u.at_ = 2 by omega) with h | h | h <;> rw [h] <;> rfl
   rw [hl]
   have hl2 : letters.getD u.at_ 0 < 256 := by
     rcases (show u.at_ = 0 ∨ u.at_ = 1 ∨ u.at_ = 2 by omega) with h | h | h <;> rw [h] <;> decide
   refine r_ciu32 (by omega) (by omega) ?_; refine r_neq (r_ifN (fun h4 => ?_) fun h4 => ?_)
   · rw [if_neg (by omega)] at post; exact post _ _ S2 ⟨rfl, rfl, _, hbad⟩
   · rw [if_pos (by omega)] at post; simp only [if_pos (show c = letters.getD u.at_ 0 by omega)] at hok; refine r_nc (r_fo0 (r_ld 1 H2 rfl rfl ?_)); refine r_add1N (by omega) ?_; refine r_nc (r_fo0 ?_); refine r_st 1 H2 rfl (by simp [usC]) rfl fun w3 S3 H3 => ?_; exact post _ _ (S2.trans S3) ⟨rfl, rfl, UsR_close (hok _ _ _ rfl) (Raw_closeN hbn H3.swap)⟩
 · have h3' : ¬ u.at_ < 3 := by omega
   rw [if_neg h3'] at post; simp only [if_neg h3'] at hok; refine r_join1 (fun x w' => w2 = w' ∧ x = .bool (decide (c < 49 ∨ 57 < c))) ?_ ?_
   rotate_left
   · refine r_lss (r_ifD (fun h => ?_) fun h => ?_)
     · exact r_ke ⟨rfl, by rw [decide_eq_true (by omega)]⟩
     · exact r_gtr (r_ke ⟨rfl, congrArg Value.bool (by rw [Bool.eq_iff_iff, decide_eq_true_iff, decide_eq_true_iff]; omega)⟩)
   rintro _ _ _ ⟨rfl, rfl⟩; refine r_ifD (fun h => ?_) fun h => ?_
   · rw [if_pos h] at post; exact post _ _ S2 ⟨rfl, rfl, _, hbad⟩
   · rw [if_neg h] at post; simp only [if_neg h] at hok; refine r_subU32 (s := c) (t := 48) (by omega) (by omega) ?_; refine r_ci64 (by omega) (by omega) ?_; refine r_nc (r_fo0 ?_); refine r_st 1 H2 rfl (by simp [usC]) rfl fun w3 S3 H3 => ?_; refine r_nc (r_fo0 ?_); refine r_st 1 H3 rfl (by simp [usC]) rfl fun w4 S4 H4 => ?_; refine r_nc (r_fo0 ?_); refine r_st 1 H4 rfl (by simp [usC]) rfl fun w5 S5 H5 => ?_; refine r_nc (r_fo0 ?_); refine r_st 1 H5 rfl (by simp [usC]) rfl fun w6 S6 H6 => ?_; exact post _ _ ((((S2.trans S3).trans S4).trans S5).trans S6) ⟨rfl, rfl, UsR_close (hok _ _ _ rfl) (Raw_closeN hbn H6.swap)⟩
theorem Combine_spec {a c : Nat} (ha : a < 4294967296) (hc : c < 4294967296) (k : K (uv (comb a c)) w) : Cl Tryz.prog F.crc_Combine #[uv a, uv c] w K := by
 refine Tie.crc_Combine ?_; unfold Vcf.crc_Combine; refine r_shlU32 (n := 1) (by omega) ?_; refine r_shrU (n := 31) (by decide) ?_; have h31 : a / 2 ^ 31 = a / 2147483648 := rfl; rw [h31]; refine r_xorU32 (by omega) (by omega) ?_; have hx : (a * 2 ^ 1 % 4294967296) ^^^ (a / 2147483648) < 2 ^ 32 := Nat.xor_lt_two_pow (n := 32) (by omega) (by omega); refine r_xorU32 hx hc ?_; exact k
theorem shl24 {hi : Nat} (h : hi < 2 ^ 24) : bp .shl (.int .u64 (hi : Int)) (.int .u64 24) = some (.int .u64 ((hi * 16777216 : Nat) : Int)) := by
 have hb : IntKind.u64.bits = 64 := rfl; show bp .shl (.int .u64 (hi : Int)) (.int .u64 ((24 : Nat) : Int)) = _; simp only [bp]; rw [if_neg (by omega), Int.toNat_natCast, hb, Nat.min_eq_left (by decide)]
 have e : (hi : Int) * 2 ^ 24 = ((hi * 16777216 : Nat) : Int) := by
   rw [Int.natCast_mul]; rfl
 rw [e]
 have hw : IntKind.u64.wrap ((hi * 16777216 : Nat) : Int) = ((hi * 16777216 : Nat) : Int) := by
   show ((hi * 16777216 : Nat) : Int) % 18446744073709551616 = _; omega
 rw [hw]
theorem or24 {hi lo : Nat} (h : hi < 2 ^ 24) (h2 : lo < 2 ^ 24) : bp .or (.int .u64 ((hi * 16777216 : Nat) : Int)) (.int .u64 (lo : Int)) = some (.int .u64 ((hi * 16777216 + lo : Nat) : Int)) := by
 have hb : IntKind.u64.bits = 64 := rfl; simp only [bp, if_true]; rw [hb, BitVec.toNat_or, BitVec.toNat_ofInt, BitVec.toNat_ofInt]
 have e1 : (((hi * 16777216 : Nat) : Int) % ((2 ^ 64 : Nat) : Int)).toNat = hi * 16777216 := by omega
 have e2 : ((lo : Int) % ((2 ^ 64 : Nat) : Int)).toNat = lo := by omega
 have e3 : hi * 16777216 ||| lo = hi * 16777216 + lo := by
   have := Nat.two_pow_add_eq_or_of_lt (i := 24) h2 hi; rw [Nat.mul_comm hi, show (16777216 : Nat) = 2 ^ 24 by rfl]; exact this.symm
 rw [e1, e2, e3]
 have hw : IntKind.u64.wrap ((hi * 16777216 + lo : Nat) : Int) = ((hi * 16777216 + lo : Nat) : Int) := by
   show ((hi * 16777216 + lo : Nat) : Int) % 18446744073709551616 = _; omega
 rw [hw]
theorem magic_spec (H : Holds w (UsR b u :: RdR r B d at_ :: L)) (hd : u.due = 1) (post : ∀ e w', Same w w' → AfterU (umagic u (rest B at_)) b u r B d at_ L 0 e w' → K (iv e) w') :
   Cl Tryz.prog F.unstream_Reader_magic #[pt b, pt r] w K := by
 refine Tie.unstream_Reader_magic ?_; unfold Vcf.unstream_Reader_magic; obtain ⟨hu, H⟩ := UsR_open H; have hbn := hu.none_ (by omega); have hok : ∀ u' k n, umagic u (rest B at_) = .ok (u', k) n → u'.Ok := fun u' k n h => (ustep_ok hu (by unfold ustep; rw [if_neg (by omega), if_pos hd]; exact h)).1; have H1 := (Raw_openN hbn H).swap; clear H; have hrl := rest_len B at_; have hr2 := rest_len B (at_ + 24); refine Rb.Left_spec H1 fun w2 S2 H2 => ?_; unfold umagic at post hok; refine r_lss (r_ifD (fun h => ?_) fun h => ?_)
 · rw [if_pos (by omega)] at post; exact post _ _ S2 ⟨rfl, rfl, UsR_close hu (Raw_closeN hbn H2.swap)⟩
 have h48 : ¬ (rest B at_).length < 48 := by omega
 rw [if_neg h48] at post; simp only [if_neg h48] at hok; refine Rb.Get_spec (n := 24) H2 (by omega) (fun h w3 S3 H3 => by omega) fun h w3 S3 H3 => ?_; refine r_ex20 (r_ex21 ?_); refine Rb.Get_spec (n := 24) H3 (by omega) (fun h w4 S4 H4 => by omega) fun h w4 S4 H4 => ?_; refine r_ex20 (r_ex21 ?_); have hv1 := valB_take_lt (rest B at_) 24; have hv2 := valB_take_lt (rest B (at_ + 24)) 24
 have hval : valB ((rest B at_).take 48) = valB ((rest B at_).take 24) * 16777216 + valB ((rest B (at_ + 24)).take 24) := by
   have e : (rest B at_).take 48 = (rest B at_).take 24 ++ (rest B (at_ + 24)).take 24 := by
     rw [← rest_drop, show 48 = 24 + 24 by rfl, List.take_add]
   rw [e, valB_app, List.length_take, Nat.min_eq_left (by omega)]
 rw [hval] at post; rw [hval] at hok; generalize valB ((rest B at_).take 24) = hi at *; generalize valB ((rest B (at_ + 24)).take 24) = lo at *; replace S2 := (S2.trans S3).trans S4
 replace H4 : Holds w4 (RdR r B d (at_ + 48) :: blk b tUs (usC (.pointer none) u 0) :: L) := by rw [show at_ + 48 = at_ + 24 + 24 by omega]; exact H4
 clear H1 H2 H3 S3 S4; refine r_ciu64 (by omega) (by omega) ?_; refine r_bpK (.int .u64 ((hi * 16777216 : Nat) : Int)) (shl24 hv1) ?_; refine r_ciu64 (by omega) (by omega) ?_; refine r_bpK (.int .u64 ((hi * 16777216 + lo : Nat) : Int)) (or24 hv1 hv2) ?_; refine r_eql (r_ifE (fun h1 => ?_) fun h1 => ?_)
 · have h1' : hi * 16777216 + lo = 54156738319193 := by omega
   rw [if_pos h1'] at post; simp only [if_pos h1'] at hok; refine r_dr H4 fun w5 S5 H5 => ?_; refine r_nc (r_fo0 (r_ld 1 H5 rfl rfl ?_)); refine r_nc (r_fo0 (r_ld 1 H5 rfl rfl ?_)); have hl1 := hu.lev1 (by omega); have hl9 := hu.lev; have hun := hu.unit; have hm1 : u.level * u.unit ≤ 9 * 100000 := Nat.mul_le_mul hl9 hun.2; have hm2 : 1 * 24 ≤ u.level * u.unit := Nat.mul_le_mul hl1 hun.1; refine r_mulE ((u.level * u.unit : Nat) : Int) (by simp) (by omega) (by omega) ?_; refine B20.NewReader_spec H5 (by omega) (by omega) fun q w6 S6 H6 => ?_; refine r_ex20 (r_ex21 ?_); refine r_nc (r_fo0 ?_); refine r_st 2 H6 rfl (by simp [usC]) rfl fun w7 S7 H7 => ?_; refine r_nc (r_fo0 ?_); refine r_st 2 H7 rfl (by simp [usC]) rfl fun w8 S8 H8 => ?_; replace H8 : Holds w8 (B20.BkR q (b0 (u.level * u.unit)) :: RdR r B d (at_ + 48) :: blk b tUs (usC (pt q) ⟨u.unit, 2, u.at_, u.level, some (b0 (u.level * u.unit)), u.last, u.frm, u.sum, u.total, u.ended⟩ 0) :: L) := H8; exact post _ _ ((((S2.trans S5).trans S6).trans S7).trans S8) ⟨rfl, rfl, UsR_close (hok _ _ _ rfl) (Raw_closeS (s := b0 (u.level * u.unit)) rfl (by have h_ := Holds.ord 3 [2, 0, 1] H8 rfl; exact h_))⟩
 · have h1' : ¬ hi * 16777216 + lo = 54156738319193 := by omega
   rw [if_neg h1'] at post; simp only [if_neg h1'] at hok; refine r_eql (r_ifE (fun h2 => ?_) fun h2 => ?_)
   · have h2' : hi * 16777216 + lo = 25779555029136 := by omega
     rw [if_pos h2'] at post; simp only [if_pos h2'] at hok; refine r_nc (r_fo0 ?_); refine r_st 1 H4 rfl (by simp [usC]) rfl fun w5 S5 H5 => ?_; exact post _ _ (S2.trans S5) ⟨rfl, rfl, UsR_close (hok _ _ _ rfl) (Raw_closeN hbn H5.swap)⟩
   · rw [if_neg (by omega)] at post; exact post _ _ S2 ⟨rfl, rfl, _, Holds.imp H4.swap fun _ hh => ⟨_, u, hh⟩⟩
theorem body_spec {s : BS} (H : Holds w (UsR b u :: RdR r B d at_ :: L)) (hb : u.blk = some s) (post : ∀ wt e w', Same w w' → AfterU (ubody u (rest B at_)) b u r B d at_ L wt e w' → K (.tuple #[iv wt, iv e]) w') :
   Cl Tryz.prog F.unstream_Reader_body #[pt b, pt r] w K := by
 refine Tie.unstream_Reader_body ?_; unfold Vcf.unstream_Reader_body; obtain ⟨hu, H⟩ := UsR_open H; obtain ⟨hd, hbo, hbd, hbr⟩ := hu.blk s hb; have hok : ∀ u' k n, ubody u (rest B at_) = .ok (u', k) n → u'.Ok := fun u' k n h => (ustep_ok hu (by unfold ustep; rw [if_neg (by omega), if_neg (by omega), if_pos hd]; exact h)).1
 have e0 : ubody u (rest B at_) = uwith u (bstep s (rest B at_)) := by unfold ubody; rw [hb]
 rw [e0] at post hok; obtain ⟨q, H0⟩ := Raw_openS hb H; have H1 : Holds w (B20.BkR q s :: RdR r B d at_ :: blk b tUs (usC (pt q) u 0) :: L) := (by have h_ := Holds.ord 3 [1, 2, 0] H0 rfl; exact h_); clear H H0; refine r_nc (r_fo0 (r_ld 2 H1 rfl rfl ?_)); refine B20.Step_spec H1 hbd fun e w2 S2 hA => ?_
 cases hx : bstep s (rest B at_) with
 | short =>
   rw [hx] at hA post; obtain ⟨rfl, H2⟩ := hA; refine r_join1 (fun x w' => w2 = w' ∧ x = .bool true) ?_ ?_
   · rintro _ _ _ ⟨rfl, rfl⟩; refine r_vt ?_; exact post 0 3 _ S2 ⟨rfl, rfl, UsR_close hu (Raw_closeS hb (by have h_ := Holds.ord 3 [2, 0, 1] H2 rfl; exact h_))⟩
   · refine r_neq (r_vtN (by decide) ?_); exact r_ke ⟨rfl, rfl⟩
 | bad c =>
   have hcb := bstep_bad hx; rw [hx] at hA post; obtain ⟨rfl, q', H2⟩ := hA; refine r_join1 (fun x w' => w2 = w' ∧ x = .bool true) ?_ ?_
   · rintro _ _ _ ⟨rfl, rfl⟩; refine r_vt ?_; exact post 0 c _ S2 ⟨rfl, rfl, q', Holds.imp (show Holds w2 (blk b tUs (usC (pt q) u 0) :: RdR r B d q' :: L) from (by have h_ := Holds.ord 3 [2, 1] H2 rfl; exact h_)) fun _ hh => ⟨_, u, hh⟩⟩
   · refine r_neq (r_vtN (by omega) ?_); exact r_ke ⟨rfl, rfl⟩
 | ok s' n =>
   rw [hx] at hA post hok; obtain ⟨rfl, H2⟩ := hA; refine r_join1 (fun x w' => w2 = w' ∧ x = .bool (!s'.done)) ?_ ?_
   rotate_left
   · refine r_neq (r_vfN rfl ?_); refine r_nc (r_fo0 (r_ld 2 H2 rfl rfl ?_)); refine B20.Done_spec H2 ?_; exact r_not (r_ke ⟨rfl, rfl⟩)
   rintro _ _ _ ⟨rfl, rfl⟩; unfold uwith at post hok
   cases hsd : s'.done with
   | false =>
     refine r_vt ?_; simp only [hsd, Bool.false_eq_true, if_false] at post hok; exact post 0 0 _ S2 ⟨rfl, rfl, UsR_close (hok _ _ _ rfl) (Raw_closeS (s := s') (q := q) rfl (by have h_ := Holds.ord 3 [2, 0, 1] H2 rfl; exact h_))⟩
   | true =>
     refine r_vf ?_; simp only [hsd, if_true] at post hok; have hok' := (B20.BkR_open H2).1; refine r_nc (r_fo0 (r_ld 2 H2 rfl rfl ?_)); refine B20.Got_done H2 hsd fun w3 S3 H3 => ?_; refine r_nc (r_fo0 ?_); refine r_stA 2 H3 (vs := [S_ s'.last, nv s'.frm, uv s'.sum]) rfl (by simp [usC]) rfl rfl fun w4 S4 H4 => ?_; refine r_nc (r_fo0 ?_); refine r_st 2 H4 rfl (by simp [usC, setL]) rfl fun w5 S5 H5 => ?_; refine r_dr H5 fun w6 S6 H6 => ?_; replace H6 : Holds w6 (B20.BkR q s' :: RdR r B d (at_ + n) :: blk b tUs [nv u.unit, nv u.due, nv u.at_, nv u.level, .pointer none, S_ s'.last, nv s'.frm, uv s'.sum, uv u.total, .bool u.ended, nv 0] :: L) := H6; refine r_nc (r_fo0 (r_ld 2 H6 rfl rfl ?_)); refine r_nc (r_fo0 (r_fo (r_ld 2 H6 rfl rfl ?_))); refine Combine_spec hu.total hok'.sum ?_; refine r_nc (r_fo0 ?_); refine r_st 2 H6 rfl (by simp) rfl fun w7 S7 H7 => ?_; refine r_nc (r_fo0 ?_); refine r_st 2 H7 rfl (by simp) rfl fun w8 S8 H8 => ?_; replace H8 : Holds w8 (B20.BkR q s' :: RdR r B d (at_ + n) :: blk b tUs (usC (.pointer none) ⟨u.unit, 1, u.at_, u.level, none, s'.last, s'.frm, s'.sum, comb u.total s'.sum, u.ended⟩ 0) :: L) := H8; exact post 1 0 _ ((((((S2.trans S3).trans S4).trans S5).trans S6).trans S7).trans S8) ⟨rfl, rfl, UsR_close (hok _ _ _ rfl) (Raw_closeN rfl (by have h_ := Holds.ord 3 [2, 1] H8 rfl; exact h_))⟩
theorem sum_spec (H : Holds w (UsR b u :: RdR r B d at_ :: L)) (hd : u.due = 3) (post : ∀ wt e w', Same w w' → AfterU (usum u (rest B at_)) b u r B d at_ L wt e w' → K (.tuple #[iv wt, iv e]) w') :
   Cl Tryz.prog F.unstream_Reader_sum #[pt b, pt r] w K := by
 refine Tie.unstream_Reader_sum ?_; unfold Vcf.unstream_Reader_sum; obtain ⟨hu, H⟩ := UsR_open H; have hbn := hu.none_ (by omega); have hok : ∀ u' k n, usum u (rest B at_) = .ok (u', k) n → u'.Ok := fun u' k n h => (ustep_ok hu (by unfold ustep; rw [if_neg (by omega), if_neg (by omega), if_neg (by omega)]; exact h)).1; have H1 := (Raw_openN hbn H).swap; clear H; have hrl := rest_len B at_; unfold usum at post hok; refine Rb.Get_spec (n := 32) H1 (by omega) (fun h w2 S2 H2 => ?_) fun h w2 S2 H2 => ?_
 · refine r_ex20 (r_ex21 ?_); refine r_neq (r_vtN (by decide) ?_); rw [if_pos h] at post; exact post 0 3 _ S2 ⟨rfl, rfl, UsR_close hu (Raw_closeN hbn H2.swap)⟩
 refine r_ex20 (r_ex21 ?_); refine r_neq (r_vfN rfl ?_)
 have h32 : ¬ (rest B at_).length < 32 := by omega
 rw [if_neg h32] at post; simp only [if_neg h32] at hok; refine r_nc (r_fo0 (r_ld 1 H2 rfl rfl ?_)); refine r_neq (r_ifN (fun h1 => ?_) fun h1 => ?_)
 · rw [if_neg (by omega)] at post; exact post 0 21 _ S2 ⟨rfl, rfl, _, Holds.imp H2.swap fun _ hh => ⟨_, u, hh⟩⟩
 · have h1' : valB ((rest B at_).take 32) = u.total := by omega
   rw [if_pos h1'] at post; simp only [if_pos h1'] at hok; refine Rb.Align_spec H2 fun w3 S3 H3 => ?_
   have ea : at_ + 32 + (8 * B.length - (at_ + 32)) % 8 = at_ + (32 + ((rest B at_).length - 32) % 8) := by rw [hrl]; omega
   rw [ea] at H3; refine r_nc (r_fo0 ?_); refine r_st 1 H3 rfl (by simp [usC]) rfl fun w4 S4 H4 => ?_; refine r_nc (r_fo0 ?_); refine r_st 1 H4 rfl (by simp [usC]) rfl fun w5 S5 H5 => ?_; exact post 2 0 _ (((S2.trans S3).trans S4).trans S5) ⟨rfl, rfl, UsR_close (hok _ _ _ rfl) (Raw_closeN hbn H5.swap)⟩
theorem step_spec (H : Holds w (UsR b u :: RdR r B d at_ :: L)) (post : ∀ wt e w', Same w w' → AfterU (ustep u (rest B at_)) b u r B d at_ L wt e w' → K (.tuple #[iv wt, iv e]) w') :
   Cl Tryz.prog F.unstream_Reader_step #[pt b, pt r] w K := by
 refine Tie.unstream_Reader_step ?_; unfold Vcf.unstream_Reader_step; have hu := (UsR_open H).1; have hd3 := hu.due; have H0 := (UsR_open H).2
 have hc : ∃ p L', Holds w (blk b tUs (usC p u 0) :: L') := by
   cases hb : u.blk with
   | none => exact ⟨_, _, Raw_openN hb H0⟩
   | some s =>
     obtain ⟨q, h⟩ := Raw_openS hb H0; exact ⟨_, _, h⟩
 obtain ⟨p, L', H1⟩ := hc; unfold ustep at post; refine r_nc (r_fo0 (r_ld 0 H1 rfl rfl ?_)); refine r_eql (r_ifE (fun h => ?_) fun h => ?_)
 · rw [if_pos (by omega)] at post; exact letter_spec H (by omega) fun e w' S' hA => post 0 e w' S' hA
 rw [if_neg (by omega)] at post; refine r_eql (r_ifE (fun h1 => ?_) fun h1 => ?_)
 · rw [if_pos (by omega)] at post; exact magic_spec H (by omega) fun e w' S' hA => post 0 e w' S' hA
 rw [if_neg (by omega)] at post; refine r_eql (r_ifE (fun h2 => ?_) fun h2 => ?_)
 · rw [if_pos (by omega)] at post
   cases hb : u.blk with
   | none => exact absurd hb (hu.body (by omega))
   | some s =>
     refine body_spec H hb fun wt e w' S' hA => ?_; refine r_ex20 (r_ex21 ?_); exact post wt e w' S' hA
 · rw [if_neg (by omega)] at post; refine sum_spec H (by omega) fun wt e w' S' hA => ?_; refine r_ex20 (r_ex21 ?_); exact post wt e w' S' hA
def AfterUS (y : Res (US × Nat)) (b : Nat) (u : US) (r : Nat) (B : List UInt8) (d at_ : Nat) (L : List HProp) (wt e : Int) (w : World) : Prop :=
 match y with
 | .short => wt = 0 ∧ e = 3 ∧ Holds w (UsR b u :: RdR r B d at_ :: L)
 | .bad c => wt = 0 ∧ e = (c : Int) ∧ ∃ q, Holds w (BadU b c :: RdR r B d q :: L)
 | .ok (u', k) n => wt = (k : Int) ∧ e = 0 ∧ Holds w (UsR b u' :: RdR r B d (at_ + n) :: L)
theorem Us_cells (H : Holds w (UsR b u :: L)) : ∃ p L', Holds w (blk b tUs (usC p u 0) :: L') ∧ ∀ w', Holds w' (blk b tUs (usC p u 0) :: L') → Holds w' (UsR b u :: L) := by
 obtain ⟨hu, H0⟩ := UsR_open H
 cases hb : u.blk with
 | none => exact ⟨_, _, Raw_openN hb H0, fun w' H' => UsR_close hu (Raw_closeN hb H')⟩
 | some s =>
   obtain ⟨q, h⟩ := Raw_openS hb H0; exact ⟨_, _, h, fun w' H' => UsR_close hu (Raw_closeS hb H')⟩
theorem Step_spec (H : Holds w (UsR b u :: RdR r B d at_ :: L)) (post : ∀ wt e w', Same w w' → AfterUS (ustep u (rest B at_)) b u r B d at_ L wt e w' → K (.tuple #[iv wt, iv e]) w') :
   Cl Tryz.prog F.unstream_Reader_Step #[pt b, pt r] w K := by
 refine Tie.unstream_Reader_Step ?_; unfold Vcf.unstream_Reader_Step; have hu := (UsR_open H).1; obtain ⟨p, L', H1, _⟩ := Us_cells H; refine r_join1 (fun x w' => w = w' ∧ x = .bool false) ?_ ?_
 rotate_left
 · refine r_bnSF (r_vf ?_); refine r_bnSF ?_; exact r_ke ⟨rfl, rfl⟩
 rintro _ _ _ ⟨rfl, rfl⟩; refine r_vf ?_; refine r_nc (r_fo0 (r_ld 0 H1 rfl rfl ?_)); refine r_neq (r_vfN rfl ?_); refine step_spec H fun wt e w2 S2 hA => ?_; refine r_ex20 (r_ex21 ?_)
 cases hx : ustep u (rest B at_) with
 | short =>
   rw [hx] at hA post; obtain ⟨rfl, rfl, H2⟩ := hA; refine r_neq (r_vfN rfl ?_); exact post _ _ _ S2 ⟨rfl, rfl, H2⟩
 | bad c =>
   have hcb := ustep_bad hu hx; rw [hx] at hA post; obtain ⟨rfl, rfl, q, H2⟩ := hA; refine r_neq (r_vtN (by omega) ?_); obtain ⟨p2, u2, H3⟩ := BadU_open H2; refine r_nc (r_fo0 ?_); refine r_st 0 H3 rfl (by simp [usC]) rfl fun w4 S4 H4 => ?_; exact post _ _ _ (S2.trans S4) ⟨rfl, rfl, q, Holds.imp H4 fun _ hh => ⟨p2, u2, hh⟩⟩
 | ok y n =>
   obtain ⟨u', k⟩ := y; rw [hx] at hA post; obtain ⟨rfl, rfl, H2⟩ := hA; refine r_neq (r_vtN (by decide) ?_); obtain ⟨p2, L2, H3, hback⟩ := Us_cells H2; refine r_nc (r_fo0 ?_); refine r_st 0 H3 rfl (by simp [usC]) rfl fun w4 S4 H4 => ?_; exact post _ _ _ (S2.trans S4) ⟨rfl, rfl, hback _ H4⟩
theorem MayEnd_spec (H : Holds w (UsR b u :: L)) (k : K (.bool u.mayEnd) w) : Cl Tryz.prog F.unstream_Reader_MayEnd #[pt b] w K := by
 refine Tie.unstream_Reader_MayEnd ?_; unfold Vcf.unstream_Reader_MayEnd; obtain ⟨p, L', H1, _⟩ := Us_cells H; unfold US.mayEnd at k; refine r_bnST (r_vt ?_); refine r_nc (r_fo0 (r_ld 0 H1 rfl rfl ?_))
 cases he : u.ended with
 | false =>
   rw [he] at k; refine r_vf ?_; exact k
 | true =>
   rw [he] at k; refine r_vt ?_; refine r_nc (r_fo0 (r_ld 0 H1 rfl rfl ?_)); refine r_eql (r_ifE (fun h => ?_) fun h => ?_)
   · refine r_nc (r_fo0 (r_ld 0 H1 rfl rfl ?_)); refine r_eql (r_ifE (fun h2 => ?_) fun h2 => ?_)
     · refine r_nc (r_fo0 (r_ld 0 H1 rfl rfl ?_)); refine r_eql ?_; rw [decide_eq_true (by omega), decide_eq_true (by omega)] at k; exact k
     · rw [decide_eq_false (p := u.at_ = 0) (by omega), Bool.and_false] at k; exact k
   · rw [decide_eq_false (p := u.due = 0) (by omega), Bool.and_false, Bool.false_and] at k; exact k
theorem Got_spec (H : Holds w (UsR b u :: L)) (k : ∀ w', Same w w' → Holds w' (UsR b u :: L) → K (.agg (B20.gotV u.last u.frm u.sum).toArray) w') : Cl Tryz.prog F.unstream_Reader_Got #[pt b] w K := by
 refine Tie.unstream_Reader_Got ?_; unfold Vcf.unstream_Reader_Got; refine r_new H fun gb w1 S1 H1 => ?_; rw [B20.got_zero] at H1; obtain ⟨p, L', H2, hback⟩ := Us_cells H1.swap; refine r_bnSF (r_vf ?_); refine r_nc (r_fo0 ?_); refine r_ldA 0 H2 (B20.gotV u.last u.frm u.sum) rfl rfl rfl ?_; refine r_stA 0 H1 (vs := B20.gotV u.last u.frm u.sum) rfl (Nat.le_refl 3) rfl rfl fun w4 S4 H4 => ?_; replace H4 : Holds w4 (blk gb B20.tGt (B20.gotV u.last u.frm u.sum) :: UsR b u :: L) := H4; refine r_ldA 0 H4 (B20.gotV u.last u.frm u.sum) rfl rfl rfl ?_; exact k _ (S1.trans S4) H4.drop
theorem Room_spec {n : Int} (kb : n < 24 ∨ 100000 < n → K (.tuple #[iv 0, iv 1]) w) (k : ∀ v, 24 ≤ n → n ≤ 100000 → K (.tuple #[v, iv 0]) w) : Cl Tryz.prog F.split_Room #[iv 1, iv n] w K := by
 refine Tie.split_Room ?_; unfold Vcf.split_Room; refine r_join1 (fun x w' => w = w' ∧ x = .bool (decide (n < 24 ∨ 100000 < n))) ?_ ?_
 rotate_left
 · refine r_lss (r_vfD (by omega) ?_); refine r_gtr (r_vfD (by omega) ?_); refine r_lss (r_ifD (fun h => ?_) fun h => ?_)
   · exact r_ke ⟨rfl, by rw [decide_eq_true (by omega)]⟩
   · exact r_gtr (r_ke ⟨rfl, congrArg Value.bool (by rw [Bool.eq_iff_iff, decide_eq_true_iff, decide_eq_true_iff]; omega)⟩)
 rintro _ _ _ ⟨rfl, rfl⟩; refine r_ifD (fun h => ?_) fun h => ?_
 · exact kb h
 · refine r_mulE n (by omega) (by omega) (by omega) ?_; refine r_sub (by omega) (by omega) ?_; exact k _ (by omega) (by omega)
theorem New_spec {n : Nat} (H : Holds w L) (h1 : 24 ≤ n) (h2 : n ≤ 100000) (k : ∀ b w', Same w w' → Holds w' (UsR b (u0 n) :: L) → K (.tuple #[pt b, iv 0]) w') : Cl Tryz.prog F.unstream_New #[nv n] w K := by
 refine Tie.unstream_New ?_; unfold Vcf.unstream_New; refine Room_spec (fun h => by omega) fun v _ _ => ?_; refine r_ex20 (r_ex21 ?_); refine r_neq (r_vfN rfl ?_); refine r_bd (v := .agg (usC (.pointer none) (u0 n) 0).toArray) (by kernel_rfl) ?_; refine r_new H fun b w1 S1 H1 => ?_; exact k b _ S1 (UsR_close (u0_ok ⟨h1, h2⟩) (Raw_closeN rfl H1))
end U22
namespace U38
open Go.M01 Go.M02 W01 W02
variable {w : World} {L : List HProp} {K : Value → World → Prop} {b : Nat}
theorem room_spec {level unit : Int} (h1 : 1 ≤ level) (h2 : level ≤ 9) (h3 : 24 ≤ unit) (h4 : unit ≤ 100000) (post : ∀ r : Nat, 5 ≤ r → r ≤ 900000 → (r : Int) = level * unit - 19 → K (.tuple #[nv r, iv 0]) w) :
   Cl Tryz.prog F.split_Room #[iv level, iv unit] w K := by
 refine Tie.split_Room ?_; unfold Vcf.split_Room; refine r_join1 (fun x w' => w = w' ∧ x = .bool false) ?_ ?_
 · rintro _ _ _ ⟨rfl, rfl⟩; have h5 : 1 * 24 ≤ level * unit := Int.mul_le_mul h1 h3 (by omega) (by omega); have h6 : level * unit ≤ 9 * 100000 := Int.mul_le_mul h2 h4 (by omega) (by omega); refine r_vf ?_; refine r_mul (by omega) (by omega) ?_; refine r_sub (by omega) (by omega) ?_; have := post (level * unit - 19).toNat (by omega) (by omega) (by omega); rw [show nv (level * unit - 19).toNat = iv (level * unit - 19) by unfold nv iv; congr 1; omega] at this; exact this
 · repeat (first | refine r_ke ?_ | refine r_lss ?_ | refine r_gtr ?_ | ((with_reducible refine r_vfD ?h ?_); (case h => omega)))
   exact ⟨rfl, by rw [decide_eq_false (by omega)]⟩
abbrev tPress : Nat := 80
abbrev tSplit : Nat := 104
abbrev tSum : Nat := 122
abbrev tPack : Nat := 126
abbrev tStream : Nat := 109
theorem crcNew_spec (H : Holds w L) (post : ∀ b w', Same w w' → Holds w' (blk b tSum (tabL.map uv ++ [uv 4294967295]) :: L) → K (.pointer (some ⟨b, 0, none⟩)) w') : Cl Tryz.prog F.crc_New #[] w K := by
 refine Tie.crc_New ?_; unfold Vcf.crc_New; refine Table_spec H fun w2 S2 H2 => ?_; refine r_bd (v := .agg (tabL.map uv ++ [uv 4294967295]).toArray) (by kernel_rfl) ?_; refine r_new H2 fun b w3 S3 H3 => ?_; exact post b _ (S2.trans S3) H3
theorem Packer_spec (H : Holds w L) (post : ∀ b w', Same w w' → Holds w' (blk b tPack [.int .u8 0, nv 0] :: L) → K (.pointer (some ⟨b, 0, none⟩)) w') : Cl Tryz.prog F.feed_NewPacker #[] w K := by
 refine Tie.feed_NewPacker ?_; unfold Vcf.feed_NewPacker; refine r_bd (v := .agg #[.int .u8 0, nv 0]) (by kernel_rfl) ?_; refine r_new H fun b w3 S3 H3 => ?_; exact post b _ S3 H3
def SplR0 (b : Nat) (room : Nat) : HProp := fun h => ∃ b1 b2, Sat [blk b tSplit [.slice none 0 0, .pointer (some ⟨b1, 0, none⟩), nv 0, nv room, .pointer (some ⟨b2, 0, none⟩)], blk b1 tSum (tabL.map uv ++ [uv 4294967295]), blk b2 tPack [.int .u8 0, nv 0]] h
theorem SplR0_open {r : Nat} (H : Holds w (SplR0 b r :: L)) : ∃ b1 b2, Holds w (blk b tSplit [.slice none 0 0, .pointer (some ⟨b1, 0, none⟩), nv 0, nv r, .pointer (some ⟨b2, 0, none⟩)] :: blk b1 tSum (tabL.map uv ++ [uv 4294967295]) :: blk b2 tPack [.int .u8 0, nv 0] :: L) := by
 obtain ⟨b1, H⟩ := Holds.ex H; obtain ⟨b2, H⟩ := Holds.ex H; exact ⟨b1, b2, Holds.unpack H⟩
theorem SplR0_close {r b1 b2 : Nat} (H : Holds w (blk b tSplit [.slice none 0 0, .pointer (some ⟨b1, 0, none⟩), nv 0, nv r, .pointer (some ⟨b2, 0, none⟩)] :: blk b1 tSum (tabL.map uv ++ [uv 4294967295]) :: blk b2 tPack [.int .u8 0, nv 0] :: L)) : Holds w (SplR0 b r :: L) :=
 Holds.imp (Holds.pack (A := [_, _, _]) H) fun h hh => ⟨b1, b2, hh⟩
theorem splitNew_spec {r : Nat} (H : Holds w L) (h1 : 5 ≤ r) (h2 : r ≤ 900000) (post : ∀ b w', Same w w' → Holds w' (SplR0 b r :: L) → K (.tuple #[.pointer (some ⟨b, 0, none⟩), iv 0]) w') :
   Cl Tryz.prog F.split_New #[nv r] w K := by
 refine Tie.split_New ?_; unfold Vcf.split_New; refine r_join1 (fun x w' => w = w' ∧ x = .bool false) ?_ ?_
 · rintro _ _ _ ⟨rfl, rfl⟩; refine r_vf ?_; refine crcNew_spec H fun b1 w1 S1 H1 => ?_; refine r_bd (v := .agg #[.slice none 0 0, .pointer (some ⟨b1, 0, none⟩), nv 0]) (by kernel_rfl) ?_; refine Packer_spec H1 fun b2 w2 S2 H2 => ?_; refine r_bd (v := .agg #[.slice none 0 0, .pointer (some ⟨b1, 0, none⟩), nv 0, nv r, .pointer (some ⟨b2, 0, none⟩)]) (by kernel_rfl) ?_; refine r_new H2 fun b w3 S3 H3 => ?_; replace H3 : Holds w3 (blk b tSplit [.slice none 0 0, .pointer (some ⟨b1, 0, none⟩), nv 0, nv r, .pointer (some ⟨b2, 0, none⟩)] :: blk b2 tPack [.int .u8 0, nv 0] :: blk b1 tSum (tabL.map uv ++ [uv 4294967295]) :: L) := H3; exact post b _ ((S1.trans S2).trans S3) (SplR0_close ((H3.front 2 rfl).swap))
 · repeat (first | refine r_ke ?_ | refine r_lss ?_ | refine r_gtr ?_ | ((with_reducible refine r_vfD ?h ?_); (case h => omega)))
   exact ⟨rfl, by rw [decide_eq_false (by omega)]⟩
def bzh : ByteArray := ⟨#[66, 90, 104]⟩
def hdB : Nat → List Bool
 | 0 => []
 | i + 1 => hdB i ++ bitsOf (bzh.data.toList.getD i 0).toNat 8
theorem hdB_len : ∀ i, (hdB i).length = 8 * i
 | 0 => rfl
 | i + 1 => by rw [hdB, List.length_append, hdB_len i, bitsOf_len]; omega
def headB (level : Nat) : List Bool := hdB 3 ++ bitsOf (48 + level) 8
theorem headB_len (l : Nat) : (headB l).length = 32 := by rw [headB, List.length_append, hdB_len, bitsOf_len]
theorem streamNew_spec {level : Nat} (H : Holds w L) (h1 : 1 ≤ level) (h2 : level ≤ 9) (post : ∀ b bw w', Same w w' → Holds w' (blk b tStream [.pointer (some ⟨bw, 0, none⟩), .int .u32 0, .bool false] :: WrR bw (headB level) 0 :: L) → K (.tuple #[.pointer (some ⟨b, 0, none⟩), iv 0]) w') :
   Cl Tryz.prog F.stream_New #[nv level] w K := by
 refine Tie.stream_New ?_; unfold Vcf.stream_New; refine r_join1 (fun x w' => w = w' ∧ x = .bool false) ?_ ?_
 · rintro _ _ _ ⟨rfl, rfl⟩; refine r_vf ?_; refine NewWriter_spec H fun bw w1 S1 H1 => ?_; refine r_bd (v := .agg #[.pointer (some ⟨bw, 0, none⟩), .int .u32 0, .bool false]) (by kernel_rfl) ?_; refine r_new H1 fun b w2 S2 H2 => ?_; replace H2 : Holds w2 (blk b tStream [.pointer (some ⟨bw, 0, none⟩), .int .u32 0, .bool false] :: WrR bw (hdB 0) 0 :: L) := H2; refine r_loop1 (fun x w' => ∃ i : Nat, i ≤ 3 ∧ x = nv i ∧ Same w w' ∧ Holds w' (blk b tStream [.pointer (some ⟨bw, 0, none⟩), .int .u32 0, .bool false] :: WrR bw (hdB i) 0 :: L)) (fun x _ => 3 - (RowKit.intOf x).toNat) ⟨0, by omega, rfl, S1.trans S2, H2⟩ ?_; clear H H1 H2 S1 S2; rintro _ _ w3 ⟨i, hi, rfl, S, H⟩; have hhl := hdB_len i
   repeat (refine r_lss ?_)
   refine r_ifD (fun h => ?_) fun h => ?_
   · have hsz : bzh.size = 3 := rfl; have hby : (bzh.data.toList.getD i 0).toNat < 256 := UInt8.toNat_lt _
     repeat (first | refine r_ixsN (s := bzh) (by omega) ?_ | refine r_nc ?_ | refine r_fo0 ?_ | (refine r_ciu32 (by omega) (by omega) ?_) | (refine r_dr H ?_; clear H; intro _ S_ H; replace S := S.trans S_; clear S_) | refine r_ld 0 H rfl rfl ?_)
     refine Put_spec (n := 8) H.swap (by omega) (by omega) (by omega) (by omega) fun w4 S4 H4 => ?_
     repeat (first | refine r_ke ?_ | (refine r_add1N (by omega) ?_))
     refine ⟨⟨i + 1, by omega, rfl, S.trans S4, H4.swap⟩, ?_⟩; simp [nv, RowKit.intOf]; omega
   · obtain rfl : i = 3 := by omega
     repeat (first | refine r_nc ?_ | refine r_fo0 ?_ | (refine r_ciu32 (by omega) (by omega) ?_) | (refine r_add (by omega) (by omega) ?_) | refine r_ld 0 H rfl rfl ?_)
     rw [show (48 : Int) + (level : Int) = ((48 + level : Nat) : Int) by omega]; refine Put_spec (n := 8) H.swap (by omega) (by omega) (by omega) (by omega) fun w4 S4 H4 => ?_; exact post b bw _ (S.trans S4) H4.swap
 · repeat (first | refine r_ke ?_ | refine r_lss ?_ | refine r_gtr ?_ | ((with_reducible refine r_vfD ?h ?_); (case h => omega)))
   exact ⟨rfl, by rw [decide_eq_false (by omega)]⟩
theorem streamTake_spec {bw k : Nat} {bs : List Bool} {r : List Value} (H : Holds w (blk b tStream (.pointer (some ⟨bw, 0, none⟩) :: r) :: WrR bw bs k :: L))
   (post : ∀ w', Same w w' → Holds w' (blk b tStream (.pointer (some ⟨bw, 0, none⟩) :: r) :: WrR bw bs (bs.length / 8) :: L) → K (.string ⟨((wholeB bs).drop k).toArray⟩) w') :
   Cl Tryz.prog F.stream_Writer_Take #[.pointer (some ⟨b, 0, none⟩)] w K := by
 refine Tie.stream_Writer_Take ?_; unfold Vcf.stream_Writer_Take
 repeat (first | refine r_nc ?_ | refine r_fo0 ?_ | (with_reducible refine r_bnSF ?_) | (with_reducible refine r_vf ?_) | refine r_ld 0 H rfl rfl ?_)
 refine W01.Take_spec H.swap fun w2 S2 H2 => ?_; exact post _ S2 H2.swap
def PrR0 (b : Nat) (window room level : Nat) (inp : ByteArray) : HProp := fun h => ∃ bs bt bw, Sat [blk b tPress [nv window, .string inp, .bool false, .pointer (some ⟨bs, 0, none⟩), .bool false, .slice none 0 0, .pointer none, nv 0, .pointer (some ⟨bt, 0, none⟩), .string ⟨(wholeB (headB level)).toArray⟩, .bool false, nv 0],
 SplR0 bs room, blk bt tStream [.pointer (some ⟨bw, 0, none⟩), .int .u32 0, .bool false], WrR bw (headB level) 4] h
theorem PrR0_open {window room level : Nat} {inp : ByteArray} (H : Holds w (PrR0 b window room level inp :: L)) : ∃ bs bt bw, Holds w (blk b tPress [nv window, .string inp, .bool false, .pointer (some ⟨bs, 0, none⟩), .bool false, .slice none 0 0, .pointer none, nv 0, .pointer (some ⟨bt, 0, none⟩), .string ⟨(wholeB (headB level)).toArray⟩, .bool false, nv 0] ::
 SplR0 bs room :: blk bt tStream [.pointer (some ⟨bw, 0, none⟩), .int .u32 0, .bool false] :: WrR bw (headB level) 4 :: L) := by
 obtain ⟨bs, H⟩ := Holds.ex H; obtain ⟨bt, H⟩ := Holds.ex H; obtain ⟨bw, H⟩ := Holds.ex H; exact ⟨bs, bt, bw, Holds.unpack H⟩
theorem PrR0_close {window room level bs bt bw : Nat} {inp : ByteArray} (H : Holds w (blk b tPress [nv window, .string inp, .bool false, .pointer (some ⟨bs, 0, none⟩), .bool false, .slice none 0 0, .pointer none, nv 0, .pointer (some ⟨bt, 0, none⟩), .string ⟨(wholeB (headB level)).toArray⟩, .bool false, nv 0] ::
 SplR0 bs room :: blk bt tStream [.pointer (some ⟨bw, 0, none⟩), .int .u32 0, .bool false] :: WrR bw (headB level) 4 :: L)) : Holds w (PrR0 b window room level inp :: L) :=
 Holds.imp (Holds.pack (A := [_, _, _, _]) H) fun h hh => ⟨bs, bt, bw, hh⟩
theorem pressNew_spec {level unit window : Nat} (H : Holds w L) (h1 : 1 ≤ level) (h2 : level ≤ 9) (h3 : 24 ≤ unit) (h4 : unit ≤ 100000) (h5 : 64 ≤ window) (h6 : window ≤ 1048576)
   (post : ∀ b w', Same w w' → Holds w' (PrR0 b window (level * unit - 19) level ⟨#[]⟩ :: L) → K (.tuple #[.pointer (some ⟨b, 0, none⟩), iv 0]) w') :
   Cl Tryz.prog F.press_New #[nv level, nv unit, nv window] w K := by
 refine Tie.press_New ?_; unfold Vcf.press_New; refine room_spec (by omega) (by omega) (by omega) (by omega) fun r g1 g2 g3 => ?_
 have hr : r = level * unit - 19 := by
   have : ((level * unit : Nat) : Int) = (level : Int) * (unit : Int) := by simp
   omega
 repeat (first | (with_reducible refine r_ex20 ?_) | (with_reducible refine r_ex21 ?_))
 refine r_join1 (fun x w' => w = w' ∧ x = .bool false) ?_ ?_
 · rintro _ _ _ ⟨rfl, rfl⟩; refine r_vf ?_; refine splitNew_spec H g1 g2 fun bs w1 S1 H1 => ?_
   repeat (first | (with_reducible refine r_ex20 ?_) | (with_reducible refine r_ex21 ?_))
   refine streamNew_spec H1 h1 h2 fun bt bw w2 S2 H2 => ?_
   repeat (first | (with_reducible refine r_ex20 ?_) | (with_reducible refine r_ex21 ?_))
   refine streamTake_spec H2 fun w3 S3 H3 => ?_; rw [headB_len, List.drop_zero] at *; refine r_bd (v := .agg #[nv window, .string ⟨#[]⟩, .bool false, .pointer (some ⟨bs, 0, none⟩), .bool false, .slice none 0 0, .pointer none, nv 0, .pointer (some ⟨bt, 0, none⟩), .string ⟨(wholeB (headB level)).toArray⟩, .bool false, nv 0]) (by kernel_rfl) ?_; refine r_new H3 fun b w4 S4 H4 => ?_; replace H4 : Holds w4 (blk b tPress [nv window, .string ⟨#[]⟩, .bool false, .pointer (some ⟨bs, 0, none⟩), .bool false, .slice none 0 0, .pointer none, nv 0, .pointer (some ⟨bt, 0, none⟩), .string ⟨(wholeB (headB level)).toArray⟩, .bool false, nv 0] :: blk bt tStream [.pointer (some ⟨bw, 0, none⟩), .int .u32 0, .bool false] :: WrR bw (headB level) 4 :: SplR0 bs r :: L) := H4; rw [hr] at H4; exact post b _ (((S1.trans S2).trans S3).trans S4) (PrR0_close ((H4.front 3 rfl).swap))
 · repeat (first | refine r_neq ?_ | ((with_reducible refine r_vfN ?h ?_); (case h => omega)))
   refine Tie.press_windowed ?_; unfold Vcf.press_windowed
   repeat (first | refine r_ke ?_ | refine r_leq ?_ | refine r_geq ?_ | refine r_not ?_ | ((with_reducible refine r_vtD ?h ?_); (case h => omega)))
   exact ⟨rfl, by rw [decide_eq_true (by omega)]; rfl⟩
theorem pressFeed_spec {window room level : Nat} {il s : List UInt8} (H : Holds w (PrR0 b window room level ⟨il.toArray⟩ :: L)) (h6 : window ≤ 1048576) (hi : il.length ≤ window) (hs : s.length ≤ 1000000000)
   (post : ∀ w', Same w w' → Holds w' (PrR0 b window room level ⟨(il ++ s.take (min s.length (window - il.length))).toArray⟩ :: L) → K (nv (min s.length (window - il.length))) w') :
   Cl Tryz.prog F.press_Press_Feed #[.pointer (some ⟨b, 0, none⟩), .string ⟨s.toArray⟩] w K := by
 refine Tie.press_Press_Feed ?_; unfold Vcf.press_Press_Feed; obtain ⟨bs, bt, bw, H⟩ := PrR0_open H; have S := Same.refl w
 have hsz : (⟨s.toArray⟩ : ByteArray).size = s.length := by simp [ByteArray.size]
 have hiz : (⟨il.toArray⟩ : ByteArray).size = il.length := by simp [ByteArray.size]
 refine r_join1 (fun x w' => w = w' ∧ x = .bool false) ?_ ?_
 · rintro _ _ _ ⟨rfl, rfl⟩; refine r_vf ?_
   repeat (first | refine r_min ?_ | refine r_nc ?_ | refine r_fo0 ?_ | refine r_lns ?_ | (refine r_sub (by omega) (by omega) ?_) | (refine r_dr H ?_; clear H; intro _ S_ H; replace S := S.trans S_; clear S_) | refine r_ld 0 H rfl rfl ?_)
   rw [hsz, hiz, show min (s.length : Int) ((window : Int) - (il.length : Int)) = ((min s.length (window - il.length) : Nat) : Int) by omega]; refine r_sstT (by omega) ?_; rw [show (⟨s.toArray⟩ : ByteArray).data.toList = s by simp]; refine r_catL (by rw [List.length_take]; omega) ?_
   repeat (first | refine r_nc ?_ | refine r_fo0 ?_)
   refine r_st 0 H rfl (by simp) rfl fun w2 S2 H2 => ?_; exact post _ (S.trans S2) (PrR0_close H2)
 · repeat (first | refine r_nc ?_ | refine r_fo0 ?_ | refine r_ke ?_ | (with_reducible refine r_bnSF ?_) | (with_reducible refine r_vf ?_) | refine r_ld 0 H rfl rfl ?_)
   exact ⟨rfl, rfl⟩
theorem pressDone_spec {window room level : Nat} {inp : ByteArray} (H : Holds w (PrR0 b window room level inp :: L)) (post : K (.bool false) w) : Cl Tryz.prog F.press_Press_Done #[.pointer (some ⟨b, 0, none⟩)] w K := by
 refine Tie.press_Press_Done ?_; unfold Vcf.press_Press_Done; obtain ⟨bs, bt, bw, H⟩ := PrR0_open H
 repeat (first | refine r_nc ?_ | refine r_fo0 ?_ | (with_reducible refine r_bnST ?_) | (with_reducible refine r_vt ?_) | refine r_ld 0 H rfl rfl ?_)
 exact post
theorem Row_spec {vb : Value} {n : Nat} (H : Holds w (blk b tPack [vb, nv n] :: L)) (hv : sg vb = true) (post : ∀ w', Same w w' → Holds w' (blk b tPack [vb, nv n] :: L) → K (.agg #[vb, nv n]) w') :
   Cl Tryz.prog F.feed_Packer_Row #[.pointer (some ⟨b, 0, none⟩)] w K := by
 refine Tie.feed_Packer_Row ?_; unfold Vcf.feed_Packer_Row
 have hz : (zeroP Tryz.prog 124).cells.toList = [.int .u8 0, nv 0] := by kernel_rfl
 refine r_new H fun b1 w1 S1 H1 => ?_; rw [hz] at H1; clear H; have H := H1; have S := S1
 repeat (first | refine r_ldA 1 H [vb, nv n] rfl rfl rfl ?_ | refine r_nc ?_ | refine r_fo0 ?_ | (with_reducible refine r_bnSF ?_) | (with_reducible refine r_vf ?_))
 refine r_stA 0 H (vs := [vb, nv n]) rfl (by decide) rfl (by rw [List.all_cons, hv]; rfl) fun w3 S3 H3 => ?_; replace H3 : Holds w3 (blk b1 124 [vb, nv n] :: blk b tPack [vb, nv n] :: L) := H3; refine r_ldA 0 H3 [vb, nv n] rfl rfl rfl ?_; exact post _ (S.trans S3) H3.drop
theorem splitHeld_spec {r : Nat} (H : Holds w (SplR0 b r :: L)) (post : ∀ w', Same w w' → Holds w' (SplR0 b r :: L) → K (iv 0) w') : Cl Tryz.prog F.split_Splitter_Held #[.pointer (some ⟨b, 0, none⟩)] w K := by
 refine Tie.split_Splitter_Held ?_; unfold Vcf.split_Splitter_Held; obtain ⟨b1, b2, H⟩ := SplR0_open H; have S := Same.refl w
 repeat (first | refine r_nc ?_ | refine r_fo0 ?_ | refine r_lnl ?_ | (with_reducible refine r_bnSF ?_) | (with_reducible refine r_vf ?_) | (refine r_dr H ?_; clear H; intro _ S_ H; replace S := S.trans S_; clear S_) | refine r_ld 0 H rfl rfl ?_)
 refine Row_spec (H.front 2 rfl) rfl fun w2 S2 H2 => ?_; have H4 := (H2.front 2 rfl).front 2 rfl; replace H4 : Holds w2 (blk b tSplit [.slice none 0 0, .pointer (some ⟨b1, 0, none⟩), nv 0, nv r, .pointer (some ⟨b2, 0, none⟩)] :: blk b1 tSum (tabL.map uv ++ [uv 4294967295]) :: blk b2 tPack [.int .u8 0, nv 0] :: L) := H4; refine r_rk (r_lnl rfl) ?_; refine r_rk (r_ld 0 H4 rfl rfl rfl) ?_; refine r_fd rfl ?_; refine r_min ?_
 repeat (refine r_addN (by omega) ?_)
 exact post _ (S.trans S2) (SplR0_close H4)
end U38
namespace V38
open Go.M01 Go.M02 W01 W02 U38
variable {w : World} {L : List HProp} {K : Value → World → Prop} {b : Nat}
abbrev ptr (b : Nat) : Value := .pointer (some ⟨b, 0, none⟩)
theorem turnerHeld_nil (H : Holds w L) (post : K (iv 0) w) : Cl Tryz.prog F.bwt_Turner_Held #[.pointer none] w K := by
 refine Tie.bwt_Turner_Held ?_; unfold Vcf.bwt_Turner_Held
 repeat (first | (with_reducible refine r_bnNT ?_) | (with_reducible refine r_vt ?_))
 exact post
theorem pressHeld_spec {window room level : Nat} {il : List UInt8} (H : Holds w (PrR0 b window room level ⟨il.toArray⟩ :: L)) (hi : il.length ≤ 1000000)
   (post : ∀ w', Same w w' → Holds w' (PrR0 b window room level ⟨il.toArray⟩ :: L) → K (nv (il.length + 4)) w') : Cl Tryz.prog F.press_Press_Held #[ptr b] w K := by
 refine Tie.press_Press_Held ?_; unfold Vcf.press_Press_Held; obtain ⟨bs, bt, bw, H⟩ := PrR0_open H
 have hiz : (⟨il.toArray⟩ : ByteArray).size = il.length := by simp [ByteArray.size]
 have ho : (⟨(wholeB (headB level)).toArray⟩ : ByteArray).size = 4 := by
   show Array.size _ = 4; rw [List.size_toArray, wholeB_len, headB_len]
 repeat (first | (with_reducible refine r_bnSF ?_) | (with_reducible refine r_vf ?_))
 refine r_dr H fun w1 S1 H1 => ?_; have S := S1; have H := H1
 repeat (first | refine r_nc ?_ | refine r_fo0 ?_ | refine r_lns ?_ | refine r_ld 0 H rfl rfl ?_)
 have H2 := H.front 1 rfl; refine splitHeld_spec H2 fun w2 S2 H3 => ?_; replace S := S.trans S2
 have H4 : Holds w2 (blk b tPress [nv window, .string ⟨il.toArray⟩, .bool false, .pointer (some ⟨bs, 0, none⟩), .bool false, .slice none 0 0, .pointer none, nv 0, .pointer (some ⟨bt, 0, none⟩), .string ⟨(wholeB (headB level)).toArray⟩, .bool false, nv 0] ::
   SplR0 bs room :: blk bt tStream [.pointer (some ⟨bw, 0, none⟩), .int .u32 0, .bool false] :: WrR bw (headB level) 4 :: L) := H3.swap
 refine r_rk (r_lns rfl) ?_; refine r_rk (r_ld 0 H4 rfl rfl rfl) ?_; rw [hiz]; refine r_add (by omega) (by omega) ?_; refine r_nc ?_; refine r_fo0 ?_; refine r_ld 0 H4 rfl rfl ?_; refine r_rk (r_ld 0 H rfl rfl rfl) ?_; refine turnerHeld_nil H4 ?_; rw [← hiz]; refine r_rk (r_lns rfl) ?_; refine r_rk (r_ld 0 H4 rfl rfl rfl) ?_; rw [hiz]; refine r_add (by omega) (by omega) ?_; refine r_nc ?_; refine r_fo0 ?_; refine r_ld 0 H4 rfl rfl ?_; refine r_rk (r_ld 0 H4 rfl rfl rfl) ?_; refine r_rk (r_ld 0 H rfl rfl rfl) ?_; refine r_lns ?_; refine r_rk (r_lns rfl) ?_; refine r_rk (r_lns rfl) ?_; rw [ho]; refine r_add (by omega) (by omega) ?_; refine r_nc ?_; refine r_fo0 ?_; refine r_ld 0 H4 rfl rfl ?_; refine r_lnl ?_; rw [show ((il.length : Nat) : Int) + 0 + 0 + ((4 : Nat) : Int) = ((il.length + 4 : Nat) : Int) by omega]; refine r_loop2 (fun x y w' => w2 = w' ∧ x = nv (il.length + 4) ∧ y = iv 0) (fun _ _ _ => 0) ⟨rfl, rfl, rfl⟩ ?_; rintro _ _ _ _ ⟨rfl, rfl, rfl⟩
 repeat (first | refine r_lss ?_ | ((with_reducible refine r_vfD ?h ?_); (case h => omega)))
 exact post _ S (PrR0_close H4)
abbrev tExp : Nat := 89
abbrev tRd : Nat := 118
abbrev tUr : Nat := 116
abbrev tTs : Nat := 93
theorem NewReader_spec {s : ByteArray} (H : Holds w L) (post : ∀ b w', Same w w' → Holds w' (blk b tRd [.string s, iv 0, iv 0] :: L) → K (ptr b) w') : Cl Tryz.prog F.bits_NewReader #[.string s] w K := by
 refine Tie.bits_NewReader ?_; unfold Vcf.bits_NewReader; refine r_bd (v := .agg #[.string s, iv 0, iv 0]) (by kernel_rfl) ?_; refine r_new H fun b w2 S2 H2 => ?_; exact post b _ S2 H2
def ExR0 (b : Nat) (window : Nat) (inp : ByteArray) (short : Bool) : HProp := fun h => ∃ bi br u, Sat [blk b tExp [nv window, nv 4096, .bool false, ptr bi, ptr br, .pointer none, .bool short, .slice none 0 0, .bool false, iv 0, iv 0],
 blk bi tRd [.string inp, iv 0, iv 0], blk br tUr [nv u, iv 0, iv 0, iv 0, .pointer none, .string ⟨#[]⟩, iv 0, .int .u32 0, .int .u32 0, .bool false, iv 0]] h
theorem ExR0_open {window : Nat} {inp : ByteArray} {short : Bool} (H : Holds w (ExR0 b window inp short :: L)) : ∃ bi br u, Holds w (blk b tExp [nv window, nv 4096, .bool false, ptr bi, ptr br, .pointer none, .bool short, .slice none 0 0, .bool false, iv 0, iv 0] ::
 blk bi tRd [.string inp, iv 0, iv 0] :: blk br tUr [nv u, iv 0, iv 0, iv 0, .pointer none, .string ⟨#[]⟩, iv 0, .int .u32 0, .int .u32 0, .bool false, iv 0] :: L) := by
 obtain ⟨bi, H⟩ := Holds.ex H; obtain ⟨br, H⟩ := Holds.ex H; obtain ⟨u, H⟩ := Holds.ex H; exact ⟨bi, br, u, Holds.unpack H⟩
theorem ExR0_close {window bi br u : Nat} {inp : ByteArray} {short : Bool} (H : Holds w (blk b tExp [nv window, nv 4096, .bool false, ptr bi, ptr br, .pointer none, .bool short, .slice none 0 0, .bool false, iv 0, iv 0] ::
 blk bi tRd [.string inp, iv 0, iv 0] :: blk br tUr [nv u, iv 0, iv 0, iv 0, .pointer none, .string ⟨#[]⟩, iv 0, .int .u32 0, .int .u32 0, .bool false, iv 0] :: L)) : Holds w (ExR0 b window inp short :: L) :=
 Holds.imp (Holds.pack (A := [_, _, _]) H) fun h hh => ⟨bi, br, u, hh⟩
theorem readerHeld_spec {s : ByteArray} {r : List Value} (i : Nat) (H : Holds w L) (hi : L[i]? = some (blk b tRd (.string s :: r))) (post : K (nv s.size) w) : Cl Tryz.prog F.bits_Reader_Held #[ptr b] w K := by
 refine Tie.bits_Reader_Held ?_; unfold Vcf.bits_Reader_Held
 repeat (first | refine r_nc ?_ | refine r_fo0 ?_ | (with_reducible refine r_bnSF ?_) | (with_reducible refine r_vf ?_))
 refine r_ld i H hi rfl ?_
 repeat (refine r_lns ?_)
 exact post
theorem more_spec {xs ys : List UInt8} {r : List Value} (H : Holds w (blk b tRd (.string ⟨xs.toArray⟩ :: r) :: L)) (hs : xs.length + ys.length ≤ 1000000000000) (post : ∀ w', Same w w' → Holds w' (blk b tRd (.string ⟨(xs ++ ys).toArray⟩ :: r) :: L) → K (iv 0) w') :
   Cl Tryz.prog F.bits_Reader_More #[ptr b, .string ⟨ys.toArray⟩] w K := by
 refine Tie.bits_Reader_More ?_; unfold Vcf.bits_Reader_More
 repeat (first | refine r_nc ?_ | refine r_fo0 ?_ | (with_reducible refine r_bnSF ?_) | (with_reducible refine r_vf ?_) | refine r_ld 0 H rfl rfl ?_)
 refine r_catL (by omega) ?_
 repeat (first | refine r_nc ?_ | refine r_fo0 ?_)
 refine r_st 0 H rfl (Nat.succ_pos _) rfl fun w2 S2 H2 => ?_; exact post _ S2 H2
theorem expFeed_spec {window : Nat} {il s : List UInt8} {short : Bool} (H : Holds w (ExR0 b window ⟨il.toArray⟩ short :: L)) (h6 : window ≤ 1048576) (hi : il.length ≤ window) (hs : s.length ≤ 1000000000)
   (post : ∀ short w', Same w w' → Holds w' (ExR0 b window ⟨(il ++ s.take (min s.length (window - il.length))).toArray⟩ short :: L) → K (nv (min s.length (window - il.length))) w') :
   Cl Tryz.prog F.unpress_Expander_Feed #[ptr b, .string ⟨s.toArray⟩] w K := by
 refine Tie.unpress_Expander_Feed ?_; unfold Vcf.unpress_Expander_Feed; obtain ⟨bi, br, u, H⟩ := ExR0_open H; have S := Same.refl w
 have hsz : (⟨s.toArray⟩ : ByteArray).size = s.length := by simp [ByteArray.size]
 have hiz : (⟨il.toArray⟩ : ByteArray).size = il.length := by simp [ByteArray.size]
 refine r_join1 (fun x w' => w = w' ∧ x = .bool false) ?_ ?_
 rotate_left
 · repeat (first | refine r_nc ?_ | refine r_fo0 ?_ | refine r_ke ?_ | (with_reducible refine r_bnSF ?_) | (with_reducible refine r_vf ?_) | refine r_ld 0 H rfl rfl ?_)
   exact ⟨rfl, rfl⟩
 rintro _ _ _ ⟨rfl, rfl⟩; refine r_vf ?_; refine r_dr H fun w1 S1 H1 => ?_; replace S := S.trans S1; clear H S1; have H := H1; clear H1
 repeat (first | refine r_nc ?_ | refine r_fo0 ?_ | refine r_lns ?_ | refine r_ld 0 H rfl rfl ?_)
 refine readerHeld_spec 1 H rfl ?_; refine r_rk (r_ld 0 H rfl rfl rfl) ?_; refine r_rk (r_lns rfl) ?_; rw [hsz, hiz]; refine r_sub (by omega) (by omega) ?_; refine r_min ?_; rw [show min (s.length : Int) ((window : Int) - (il.length : Int)) = ((min s.length (window - il.length) : Nat) : Int) by omega]; obtain ⟨n, hn⟩ : ∃ n, n = min s.length (window - il.length) := ⟨_, rfl⟩; rw [← hn] at post ⊢; refine r_dr H fun w2 S2 H2 => ?_; replace S := S.trans S2; clear H S2; have H := H2; clear H2
 repeat (first | refine r_nc ?_ | refine r_fo0 ?_ | refine r_ld 0 H rfl rfl ?_)
 refine r_sstT (by omega) ?_; rw [show (⟨s.toArray⟩ : ByteArray).data.toList = s by simp]; refine more_spec (H.front 1 rfl) (by rw [List.length_take]; omega) fun w3 S3 H3 => ?_; replace S := S.trans S3
 have H4 : Holds w3 (blk b tExp [nv window, nv 4096, .bool false, ptr bi, ptr br, .pointer none, .bool short, .slice none 0 0, .bool false, iv 0, iv 0] ::
   blk bi tRd [.string ⟨(il ++ s.take n).toArray⟩, iv 0, iv 0] :: blk br tUr [nv u, iv 0, iv 0, iv 0, .pointer none, .string ⟨#[]⟩, iv 0, .int .u32 0, .int .u32 0, .bool false, iv 0] :: L) := H3.swap
 repeat (refine r_gtr ?_)
 refine r_ifD (fun h => ?_) fun h => ?_
 · repeat (first | refine r_nc ?_ | refine r_fo0 ?_)
   refine r_st 0 H4 rfl (by simp) rfl fun w5 S5 H5 => ?_; exact post _ _ (S.trans S5) (ExR0_close H5)
 · exact post _ _ S (ExR0_close H4)
theorem expDone_spec {window : Nat} {inp : ByteArray} {short : Bool} (H : Holds w (ExR0 b window inp short :: L)) (post : K (.bool false) w) : Cl Tryz.prog F.unpress_Expander_Done #[ptr b] w K := by
 refine Tie.unpress_Expander_Done ?_; unfold Vcf.unpress_Expander_Done; obtain ⟨bi, br, u, H⟩ := ExR0_open H
 repeat (first | refine r_nc ?_ | refine r_fo0 ?_ | (with_reducible refine r_bnST ?_) | (with_reducible refine r_vt ?_) | refine r_ld 0 H rfl rfl ?_)
 exact post
def TsR0 (b : Nat) (window : Nat) (inp : ByteArray) : HProp := fun h => ∃ bx short, Sat [blk b tTs [ptr bx, iv 0, .string ⟨#[]⟩, .bool false], ExR0 bx window inp short] h
theorem TsR0_open {window : Nat} {inp : ByteArray} (H : Holds w (TsR0 b window inp :: L)) : ∃ bx short, Holds w (blk b tTs [ptr bx, iv 0, .string ⟨#[]⟩, .bool false] :: ExR0 bx window inp short :: L) := by
 obtain ⟨bx, H⟩ := Holds.ex H; obtain ⟨short, H⟩ := Holds.ex H; exact ⟨bx, short, Holds.unpack H⟩
theorem TsR0_close {window bx : Nat} {inp : ByteArray} {short : Bool} (H : Holds w (blk b tTs [ptr bx, iv 0, .string ⟨#[]⟩, .bool false] :: ExR0 bx window inp short :: L)) : Holds w (TsR0 b window inp :: L) :=
 Holds.imp (Holds.pack (A := [_, _]) H) fun h hh => ⟨bx, short, hh⟩
theorem testerFeed_spec {window : Nat} {il s : List UInt8} (H : Holds w (TsR0 b window ⟨il.toArray⟩ :: L)) (h6 : window ≤ 1048576) (hi : il.length ≤ window) (hs : s.length ≤ 1000000000)
   (post : ∀ w', Same w w' → Holds w' (TsR0 b window ⟨(il ++ s.take (min s.length (window - il.length))).toArray⟩ :: L) → K (nv (min s.length (window - il.length))) w') :
   Cl Tryz.prog F.tester_Tester_Feed #[ptr b, .string ⟨s.toArray⟩] w K := by
 refine Tie.tester_Tester_Feed ?_; unfold Vcf.tester_Tester_Feed; obtain ⟨bx, short, H⟩ := TsR0_open H
 repeat (first | refine r_nc ?_ | refine r_fo0 ?_ | (with_reducible refine r_bnSF ?_) | (with_reducible refine r_vf ?_) | refine r_ld 0 H rfl rfl ?_)
 refine expFeed_spec H.swap h6 hi hs fun short w2 S2 H2 => ?_; exact post _ S2 (TsR0_close H2.swap)
theorem testerDone_spec {window : Nat} {inp : ByteArray} (H : Holds w (TsR0 b window inp :: L)) (post : K (.bool false) w) : Cl Tryz.prog F.tester_Tester_Done #[ptr b] w K := by
 refine Tie.tester_Tester_Done ?_; unfold Vcf.tester_Tester_Done; obtain ⟨bx, short, H⟩ := TsR0_open H
 repeat (first | refine r_nc ?_ | refine r_fo0 ?_ | (with_reducible refine r_bnST ?_) | (with_reducible refine r_vt ?_) | refine r_ld 0 H rfl rfl ?_)
 exact expDone_spec H.swap post
abbrev tPp : Nat := 59
abbrev tTp : Nat := 65
abbrev tJob : Nat := 56
abbrev tFlow : Nat := 46
def MaR (k : Nat) (b : Nat) (inp : List UInt8) : HProp := if k = 1 then PrR0 b 64 5 1 ⟨inp.toArray⟩ else TsR0 b 64 ⟨inp.toArray⟩
def tM (k : Nat) : Nat := if k = 1 then tPp else tTp
theorem machineOf1 (H : Holds w L) (post : ∀ b w', Same w w' → Holds w' (MaR 1 b [] :: L) → K (.tuple #[.iface tPp (ptr b), iv 0]) w') : Cl Tryz.prog F.job_machineOf #[iv 1, iv 1, iv 24, iv 64] w K := by
 refine Tie.job_machineOf ?_; unfold Vcf.job_machineOf
 repeat (first | refine r_eql ?_ | ((with_reducible refine r_vtE ?h ?_); (case h => omega)))
 refine pressNew_spec (level := 1) (unit := 24) (window := 64) H (by omega) (by omega) (by omega) (by omega) (by omega) (by omega) fun b w1 S1 H1 => ?_
 repeat (first | (with_reducible refine r_ex20 ?_) | (with_reducible refine r_ex21 ?_))
 exact post b _ S1 H1
def JoR (k : Nat) (b : Nat) (inp : List UInt8) : HProp := fun h => ∃ bm, Sat [blk b tJob [nv k, .iface (tM k) (ptr bm)], MaR k bm inp] h
theorem JoR_open {k : Nat} {inp : List UInt8} (H : Holds w (JoR k b inp :: L)) : ∃ bm, Holds w (blk b tJob [nv k, .iface (tM k) (ptr bm)] :: MaR k bm inp :: L) := by
 obtain ⟨bm, H⟩ := Holds.ex H; exact ⟨bm, Holds.unpack H⟩
theorem JoR_close {k bm : Nat} {inp : List UInt8} (H : Holds w (blk b tJob [nv k, .iface (tM k) (ptr bm)] :: MaR k bm inp :: L)) : Holds w (JoR k b inp :: L) :=
 Holds.imp (Holds.pack (A := [_, _]) H) fun h hh => ⟨bm, hh⟩
theorem jobNew1 (H : Holds w L) (post : ∀ b w', Same w w' → Holds w' (JoR 1 b [] :: L) → K (.tuple #[ptr b, iv 0]) w') : Cl Tryz.prog F.job_New #[iv 1, iv 1, iv 24, iv 64] w K := by
 refine Tie.job_New ?_; unfold Vcf.job_New; refine machineOf1 H fun bm w1 S1 H1 => ?_
 repeat (first | refine r_neq ?_ | (with_reducible refine r_ex20 ?_) | (with_reducible refine r_ex21 ?_) | ((with_reducible refine r_vfN ?h ?_); (case h => omega)))
 refine r_bd (v := .agg #[iv 1, .iface tPp (ptr bm)]) (by kernel_rfl) ?_; refine r_new H1 fun b w2 S2 H2 => ?_; exact post b _ (S1.trans S2) (JoR_close H2)
theorem jobDone_spec {k : Nat} {inp : List UInt8} (hk : k = 1 ∨ k = 3) (H : Holds w (JoR k b inp :: L)) (post : K (.bool false) w) : Cl Tryz.prog F.job_Job_Done #[ptr b] w K := by
 refine Tie.job_Job_Done ?_; unfold Vcf.job_Job_Done; obtain ⟨bm, H⟩ := JoR_open H
 repeat (first | refine r_nc ?_ | refine r_fo0 ?_ | (with_reducible refine r_bnST ?_) | (with_reducible refine r_vt ?_) | refine r_ld 0 H rfl rfl ?_)
 rcases hk with rfl | rfl
 · refine r_inv (f := F.press_Press_Done) (args := #[ptr bm]) (by kernel_rfl) ?_; exact pressDone_spec H.swap post
 · refine r_inv (f := F.tester_Tester_Done) (args := #[ptr bm]) (by kernel_rfl) ?_; exact testerDone_spec H.swap post
theorem jobFeed_spec {k : Nat} {il s : List UInt8} (hk : k = 1 ∨ k = 3) (H : Holds w (JoR k b il :: L)) (hi : il.length ≤ 64) (hs : s.length ≤ 1000000000)
   (post : ∀ w', Same w w' → Holds w' (JoR k b (il ++ s.take (min s.length (64 - il.length))) :: L) → K (nv (min s.length (64 - il.length))) w') :
   Cl Tryz.prog F.job_Job_Feed #[ptr b, .string ⟨s.toArray⟩] w K := by
 refine Tie.job_Job_Feed ?_; unfold Vcf.job_Job_Feed; refine r_join1 (fun x w' => w = w' ∧ x = .bool false) ?_ ?_
 rotate_left
 · repeat (first | (with_reducible refine r_bnSF ?_) | (with_reducible refine r_vf ?_))
   refine jobDone_spec hk H ?_; exact r_ke ⟨rfl, rfl⟩
 rintro _ _ _ ⟨rfl, rfl⟩; refine r_vf ?_; obtain ⟨bm, H⟩ := JoR_open H
 repeat (first | refine r_nc ?_ | refine r_fo0 ?_ | refine r_ld 0 H rfl rfl ?_)
 rcases hk with rfl | rfl
 · refine r_inv (f := F.press_Press_Feed) (args := #[ptr bm, .string ⟨s.toArray⟩]) (by kernel_rfl) ?_; refine pressFeed_spec H.swap (by omega) hi hs fun w2 S2 H2 => ?_; exact post _ S2 (JoR_close H2.swap)
 · refine r_inv (f := F.tester_Tester_Feed) (args := #[ptr bm, .string ⟨s.toArray⟩]) (by kernel_rfl) ?_; refine testerFeed_spec H.swap (by omega) hi hs fun w2 S2 H2 => ?_; exact post _ S2 (JoR_close H2.swap)
theorem jobHeld1 {il : List UInt8} (H : Holds w (JoR 1 b il :: L)) (hi : il.length ≤ 1000000) (post : ∀ w', Same w w' → Holds w' (JoR 1 b il :: L) → K (nv (il.length + 4)) w') : Cl Tryz.prog F.job_Job_Held #[ptr b] w K := by
 refine Tie.job_Job_Held ?_; unfold Vcf.job_Job_Held; refine r_join1 (fun x w' => w = w' ∧ x = .bool false) ?_ ?_
 rotate_left
 · repeat (first | (with_reducible refine r_bnSF ?_) | (with_reducible refine r_vf ?_))
   refine Tie.job_Job_failed ?_; unfold Vcf.job_Job_failed; refine Tie.job_Job_Err ?_; unfold Vcf.job_Job_Err; obtain ⟨bm, H⟩ := JoR_open H
   repeat (first | refine r_nc ?_ | refine r_fo0 ?_ | (with_reducible refine r_bnSF ?_) | (with_reducible refine r_vf ?_) | refine r_ld 0 H rfl rfl ?_)
   refine r_taNo (z := .nilIface) (i := Tryz.t59) Tryz.underlying95 (by kernel_rfl) (by decide +kernel) (fun w => by kernel_rfl) ?_
   repeat (first | refine r_ke ?_ | refine r_neq ?_ | (with_reducible refine r_ex20 ?_) | (with_reducible refine r_ex21 ?_) | (with_reducible refine r_vf ?_))
   exact ⟨rfl, rfl⟩
 rintro _ _ _ ⟨rfl, rfl⟩; refine r_vf ?_; obtain ⟨bm, H⟩ := JoR_open H
 repeat (first | refine r_nc ?_ | refine r_fo0 ?_ | refine r_ld 0 H rfl rfl ?_)
 refine r_inv (f := F.press_Press_Held) (args := #[ptr bm]) (by kernel_rfl) ?_; refine pressHeld_spec H.swap hi fun w2 S2 H2 => ?_; exact post _ S2 (JoR_close H2.swap)
def FlR (k : Nat) (b j : Nat) (inp rest : List UInt8) (taken : Nat) : HProp := fun h => Sat [blk b tFlow [ptr j, .string ⟨rest.toArray⟩, .bool false, nv taken], JoR k j inp] h
theorem flowNew {k j : Nat} {inp : List UInt8} (H : Holds w (JoR k j inp :: L)) (post : ∀ b w', Same w w' → Holds w' (FlR k b j inp [] 0 :: L) → K (.tuple #[ptr b, iv 0]) w') : Cl Tryz.prog F.upload_New #[ptr j] w K := by
 refine Tie.upload_New ?_; unfold Vcf.upload_New
 repeat (first | (with_reducible refine r_bnSF ?_) | (with_reducible refine r_vf ?_))
 refine r_bd (v := .agg #[ptr j, .string ⟨#[]⟩, .bool false, iv 0]) (by kernel_rfl) ?_; refine r_new H fun b w2 S2 H2 => ?_; exact post b _ S2 (Holds.pack (A := [_, _]) H2)
theorem put_spec {k j taken : Nat} {il s : List UInt8} (hk : k = 1 ∨ k = 3) (H : Holds w (FlR k b j il [] taken :: L)) (hi : il.length ≤ 64) (hs : s.length ≤ 65536) (ht : taken ≤ 1000000)
   (post : ∀ w', Same w w' → Holds w' (FlR k b j (il ++ s.take (min s.length (64 - il.length))) (s.drop (min s.length (64 - il.length))) (taken + min s.length (64 - il.length)) :: L) → K (iv 0) w') :
   Cl Tryz.prog F.upload_Flow_Put #[ptr b, .string ⟨s.toArray⟩] w K := by
 refine Tie.upload_Flow_Put ?_; unfold Vcf.upload_Flow_Put; replace H : Holds w (blk b tFlow [ptr j, .string ⟨([] : List UInt8).toArray⟩, .bool false, nv taken] :: JoR k j il :: L) := Holds.unpack H
 have hsz : (⟨s.toArray⟩ : ByteArray).size = s.length := by simp [ByteArray.size]
 have hz : (⟨([] : List UInt8).toArray⟩ : ByteArray).size = 0 := rfl
 repeat (first | refine r_nc ?_ | refine r_fo0 ?_ | refine r_lns ?_ | refine r_gtr ?_ | refine r_sne0 ?_ | (with_reducible refine r_bnSF ?_) | (with_reducible refine r_vf ?_) | refine r_ld 0 H rfl rfl ?_ | ((with_reducible refine r_vfD ?h ?_); (case h => omega)))
 refine r_st 0 H rfl (by simp) rfl fun w2 S2 H2 => ?_; replace H2 : Holds w2 (blk b tFlow [ptr j, .string ⟨s.toArray⟩, .bool false, nv taken] :: JoR k j il :: L) := H2; have S := S2; clear H S2; have H := H2; clear H2; refine Tie.upload_Flow_Move ?_; unfold Vcf.upload_Flow_Move
 repeat (first | refine r_nc ?_ | refine r_fo0 ?_ | refine r_lns ?_ | (with_reducible refine r_bnSF ?_) | (with_reducible refine r_vf ?_) | refine r_ld 0 H rfl rfl ?_)
 refine jobDone_spec hk H.swap ?_; refine r_vf ?_; refine r_dr H fun w3 S3 H3 => ?_; replace S := S.trans S3; clear H S3; have H := H3; clear H3
 repeat (first | refine r_nc ?_ | refine r_fo0 ?_ | refine r_ld 0 H rfl rfl ?_)
 refine jobFeed_spec hk H.swap hi (by omega) fun w4 S4 H4 => ?_; replace S := S.trans S4; clear H S4; have H := H4.swap; clear H4; obtain ⟨n, hn⟩ : ∃ n, n = min s.length (64 - il.length) := ⟨_, rfl⟩; rw [← hn] at post H ⊢
 repeat (first | refine r_nc ?_ | refine r_fo0 ?_ | refine r_ld 0 H rfl rfl ?_)
 refine r_sstD (by omega) ?_; rw [show (⟨s.toArray⟩ : ByteArray).data.toList = s by simp]
 repeat (first | refine r_nc ?_ | refine r_fo0 ?_)
 refine r_st 0 H rfl (by simp) rfl fun w5 S5 H5 => ?_; replace H5 : Holds w5 (blk b tFlow [ptr j, .string ⟨(s.drop n).toArray⟩, .bool false, nv taken] :: JoR k j (il ++ s.take n) :: L) := H5; replace S := S.trans S5; clear H S5; have H := H5; clear H5
 repeat (first | refine r_nc ?_ | refine r_fo0 ?_ | (refine r_addN (by omega) ?_) | refine r_ld 0 H rfl rfl ?_)
 refine r_st 0 H rfl (by simp) rfl fun w6 S6 H6 => ?_; replace H6 : Holds w6 (blk b tFlow [ptr j, .string ⟨(s.drop n).toArray⟩, .bool false, nv (taken + n)] :: JoR k j (il ++ s.take n) :: L) := H6; replace S := S.trans S6; clear H S6; have H := H6; clear H6; refine r_join1 (fun x w' => w6 = w' ∧ x = .bool false) ?_ ?_
 rotate_left
 · repeat (first | refine r_nc ?_ | refine r_fo0 ?_ | refine r_ke ?_ | (with_reducible refine r_vf ?_) | refine r_ld 0 H rfl rfl ?_)
   exact ⟨rfl, rfl⟩
 rintro _ _ _ ⟨rfl, rfl⟩; refine r_vf ?_; exact post _ S (Holds.pack (A := [_, _]) H)
theorem put_busy {k j taken : Nat} {il rest : List UInt8} {s : ByteArray} (H : Holds w (FlR k b j il rest taken :: L)) (hr : 0 < rest.length) (post : K (iv 34) w) :
   Cl Tryz.prog F.upload_Flow_Put #[ptr b, .string s] w K := by
 refine Tie.upload_Flow_Put ?_; unfold Vcf.upload_Flow_Put; replace H : Holds w (blk b tFlow [ptr j, .string ⟨rest.toArray⟩, .bool false, nv taken] :: JoR k j il :: L) := Holds.unpack H
 have hsz : (⟨rest.toArray⟩ : ByteArray).size = rest.length := by simp [ByteArray.size]
 repeat (first | refine r_nc ?_ | refine r_fo0 ?_ | refine r_sne0 ?_ | (with_reducible refine r_bnSF ?_) | (with_reducible refine r_vf ?_) | refine r_ld 0 H rfl rfl ?_ | ((with_reducible refine r_vtD ?h ?_); (case h => omega)))
 exact post
theorem rest_spec {k j taken : Nat} {il rest : List UInt8} (H : Holds w (FlR k b j il rest taken :: L)) (post : K (nv rest.length) w) : Cl Tryz.prog F.upload_Flow_Rest #[ptr b] w K := by
 refine Tie.upload_Flow_Rest ?_; unfold Vcf.upload_Flow_Rest; replace H : Holds w (blk b tFlow [ptr j, .string ⟨rest.toArray⟩, .bool false, nv taken] :: JoR k j il :: L) := Holds.unpack H
 have hsz : (⟨rest.toArray⟩ : ByteArray).size = rest.length := by simp [ByteArray.size]
 rw [← hsz] at post
 repeat (first | refine r_nc ?_ | refine r_fo0 ?_ | refine r_lns ?_ | (with_reducible refine r_bnSF ?_) | (with_reducible refine r_vf ?_) | refine r_ld 0 H rfl rfl ?_)
 exact post
theorem taken_spec {k j taken : Nat} {il rest : List UInt8} (H : Holds w (FlR k b j il rest taken :: L)) (post : K (nv taken) w) : Cl Tryz.prog F.upload_Flow_Taken #[ptr b] w K := by
 refine Tie.upload_Flow_Taken ?_; unfold Vcf.upload_Flow_Taken; replace H : Holds w (blk b tFlow [ptr j, .string ⟨rest.toArray⟩, .bool false, nv taken] :: JoR k j il :: L) := Holds.unpack H
 repeat (first | refine r_nc ?_ | refine r_fo0 ?_ | (with_reducible refine r_bnSF ?_) | (with_reducible refine r_vf ?_) | refine r_ld 0 H rfl rfl ?_)
 exact post
instance : Bytes Tryz.prog 44 5 9 := ⟨by kernel_rfl, by kernel_rfl, by kernel_rfl⟩
theorem hundred_spec (H : Holds w L) (post : ∀ w', Same w w' → Holds w' L → K (.bool true) w') : Cl Tryz.prog F.balerlaw38_hundred #[] w K := by
 refine Tie.balerlaw38_hundred ?_; unfold Vcf.balerlaw38_hundred; refine jobNew1 H fun j w1 S1 H1 => ?_
 repeat (first | (with_reducible refine r_ex20 ?_) | (with_reducible refine r_ex21 ?_))
 refine flowNew H1 fun b w2 S2 H2 => ?_
 repeat (first | (with_reducible refine r_ex20 ?_) | (with_reducible refine r_ex21 ?_))
 refine r_ms (f := bv) (x := 0) H2 rfl (by omega) (by omega) fun bz w3 S3 H3 => ?_; refine r_cbs H3 0 rfl (by simp) ?_; generalize hz : List.replicate (Int.toNat 100) (0 : UInt8) = zs
 have hzl : zs.length = 100 := by rw [← hz]; simp
 refine put_spec (.inl rfl) H3.drop (by simp) (by omega) (by omega) fun w4 S4 H4 => ?_; rw [hzl, List.length_nil, List.nil_append, Nat.sub_zero, show min 100 64 = 64 from rfl, Nat.zero_add] at H4
 have h36 : (zs.drop 64).length = 36 := by rw [List.length_drop, hzl]
 have h64 : (zs.take 64).length = 64 := by rw [List.length_take, hzl]; rfl
 refine put_busy H4 (by omega) ?_; have S := ((S1.trans S2).trans S3).trans S4
 repeat (first | refine r_eql ?_ | ((with_reducible refine r_vtE ?h ?_); (case h => omega)))
 refine rest_spec H4 ?_; rw [h36]
 repeat (first | refine r_eql ?_ | ((with_reducible refine r_vtE ?h ?_); (case h => omega)))
 refine taken_spec H4 ?_
 repeat (first | refine r_eql ?_ | ((with_reducible refine r_vtE ?h ?_); (case h => omega)))
 have H5 := (Holds.unpack H4).swap; refine jobHeld1 H5 (by omega) fun w5 S5 H5 => ?_; rw [h64]
 repeat (refine r_eql ?_)
 exact post _ (S.trans S5) H5.drop.drop
end V38
end Go.Proofs.YtpbbfonfakjecaaGreat
set_option maxRecDepth 1000000
namespace Go.Proofs.YtpbbfonfakjecaaGreat
open Go Go.Vc
attribute [local irreducible] Vc.Nc Vc.Ld Vc.LdA Vc.St Vc.StA Vc.Fo Vc.Iaa Vc.Ias Vc.Ixs Vc.Ixa Vc.Fd Vc.FdA Vc.Bp Vc.Bb Vc.Bn Vc.Up Vc.Ci Vc.Lns Vc.Lnl Vc.Ex Vc.Sst Vc.Ssl Vc.New Vc.Vif Vc.VJoin Vc.VLoop Vc.KE Vc.Dr Vc.Rk Vc.Cl Vc.Cx Vc.Inv Vc.Be Vc.Cv Vc.Cw Vc.Mf Vc.Sl Vc.Lk Vc.Bd Vc.Bs Vc.Ms Vc.Mm Vc.Mu Vc.Me Vc.Es Vc.Rg Vc.Nx Vc.Ta Vc.Ap Vc.Usd Vc.Ust Vc.Cp Vc.Ln Vc.Bc Vc.Bmin Vc.Bmax Vc.Bdel Vc.Bclr Vc.Pk
namespace Jg
open S4r
theorem seg_of {H : Type} {enc : TypeId × Value → H} {P : Program} {w : World} {base : Nat} {spare : Nat → Bool} {held : Bool} {t : TypeId} {fs : Array Field} {fuel : Nat} {cs : List Value} {x : DataW H × List MemPlace}
   (ht : P.underlying t = some (.struct fs)) (h : DataW.trod enc P w base spare held fuel t cs = some x) (i : Nat) (f : Field) (hi : fs[i]? = some f) :
   ∃ y n, DataW.trod enc P w base spare held n f.type ((cs.drop f.offset).take (P.cellsOf f.type)) = some y := by
 obtain ⟨xs, n, _, _, hlen, hxl, hf⟩ := DataW.trod_struct ht h; have h1 := hf i f hi
 have hlt : i < xs.length := by
   rw [hxl]; exact (Array.getElem?_eq_some_iff.1 hi).1
 rw [List.getElem?_eq_getElem hlt] at h1; exact ⟨_, _, h1⟩
theorem cell_of {H : Type} {enc : TypeId × Value → H} {P : Program} {w : World} {base : Nat} {spare : Nat → Bool} {held : Bool} {t : TypeId} {fs : Array Field} {fuel : Nat} {cs : List Value} {x : DataW H × List MemPlace}
   (ht : P.underlying t = some (.struct fs)) (h : DataW.trod enc P w base spare held fuel t cs = some x) (i : Nat) (f : Field) (hi : fs[i]? = some f) (o : Nat) (ho : f.offset = o) (hc : P.cellsOf f.type = 1) (hl : o < P.cellsOf t) :
   ∃ c y n, cs[o]? = some c ∧ DataW.trod enc P w base spare held n f.type [c] = some y := by
 obtain ⟨xs, n, _, _, hlen, hxl, hf⟩ := DataW.trod_struct ht h; obtain ⟨y, n', h1⟩ := seg_of ht h i f hi; rw [ho, hc] at h1
 have hcl : o < cs.length := by omega
 refine ⟨cs[o], y, n', List.getElem?_eq_getElem hcl, ?_⟩; rw [← h1]
 congr 1
 rw [List.drop_eq_getElem_cons hcl]; rfl
theorem slice_open {α : Type} [Inhabited α] (F : α → List Value) (k : Nat) {H : Type} {enc : TypeId × Value → H} {P : Program} {W : World} {tS tE : TypeId} (hu : P.underlying tS = some (.slice tE)) (hk : P.cellsOf tE = k) (hF : ∀ x, (F x).length = k)
   (el : ∀ {spare : Nat → Bool} {held : Bool} {fuel : Nat} {cs : List Value} {x : DataW H × List MemPlace}, DataW.trod enc P W 0 spare held fuel tE cs = some x → ∃ a, cs = F a)
   {n0 : Nat} {c0 : Value} {y : DataW H × List MemPlace} (h0 : DataW.trod enc P W 0 (fun _ => true) true n0 tS [c0] = some y) :
   ∃ (a : Option Addr) (xs : List α) (c : Nat), c0 = .slice a xs.length c ∧ xs.length ≤ c ∧ InG F k [whole W] a xs := by
 rcases Deep.open_slice hu h0 with ⟨g0, _⟩ | ⟨a, len, cap, m, n, D, Pl, g0, _, hlc, _, hm, _, hall⟩
 · simp only [List.cons.injEq, and_true] at g0; refine ⟨none, [], 0, g0, Nat.le_refl _, ?_⟩; intro w' H' i t hi; simp at hi
 · simp only [List.cons.injEq, and_true] at g0
   have hlm : len ≤ m := by rw [hm]; split <;> omega
   have each : ∀ i, i < m → ∃ t : α, ∀ j v, (F t)[j]? = some v → W.cell? ((a.add (i * k)).add j) = some v := by
     intro i hi; obtain ⟨cs', hc1, hc2⟩ := hall i hi; obtain ⟨t, rfl⟩ := el hc2; rw [hk] at hc1; obtain ⟨_, _, hc3⟩ := World.cells?_some hc1; refine ⟨t, fun j v hj => ?_⟩
     have hj5 : j < k := by have := (List.getElem?_eq_some_iff.1 hj).1; rw [hF] at this; exact this
     rw [hc3 j hj5, hj]
   obtain ⟨f, hf⟩ := Deep.choose_lt each; refine ⟨some a, (List.range len).map f, cap, by rw [g0]; simp, by simpa using hlc, ?_⟩; intro w' H' i t hi; rw [List.getElem?_map] at hi
   by_cases hil : i < len
   · rw [List.getElem?_range hil] at hi; simp only [Option.map_some, Option.some.injEq] at hi; subst hi; refine ⟨a, rfl, fun j v hj => ?_⟩; have h7 := hf i (by omega) j v hj; obtain ⟨g, hg, hgs, _⟩ := H'; unfold World.cell? at h7 ⊢
     cases hb : W.heap[((a.add (i * k)).add j).block]? with
     | none => rw [hb] at h7; cases h7
     | some o =>
       rw [hb] at h7; have := hgs _ _ (hg _ _ hb); rw [show w'.heap[((a.add (i * k)).add j).block]? = some o from this]; exact h7
   · rw [List.getElem?_eq_none (by simpa using hil)] at hi; cases hi
theorem list3 {α : Type} {l : List α} {a b c : α} (hl : l.length = 3) (h0 : l[0]? = some a) (h1 : l[1]? = some b) (h2 : l[2]? = some c) : l = [a, b, c] := by
 match l, hl with
 | [x0, x1, x2], _ => simp at h0 h1 h2; simp [h0, h1, h2]
end Jg
end Go.Proofs.YtpbbfonfakjecaaGreat
namespace Go.Proofs.YtpbbfonfakjecaaGreat
open Go Go.Vc
namespace P20
theorem x105 : Builder.Extra Tryz.prog Tryz.lays105_ren := {
 sizeBuilder := by kernel_rfl
 liesBuilder := by kernel_rfl
 t5 := Tryz.lays105.t5
 a5 := Tryz.lays105.a5
 z5 := Tryz.lays105.z5
 v5 := Tryz.lays105.v5
 infoByte := by kernel_rfl
 cellsByte := by kernel_rfl
 sizeByte := by kernel_rfl
 neB5 := by decide }
theorem rep1 (c : UInt8) : ∀ n, Lib.repeatL [c] n = List.replicate n c
 | 0 => rfl
 | n + 1 => by
   show [c] ++ Lib.repeatL [c] n = _; rw [rep1 c n]; rfl
theorem rep_ok : RepC := by
 intro w L K c n H hn k; have h := Any.strings_Repeat Tryz.lays105 x105 ⟨#[c]⟩ n w (by omega) (by show 1 * n ≤ _; omega); rw [show Tryz.lays105_ren.f 105 = 144 from by kernel_rfl] at h; refine ⟨Tryz.call144 _ _, h.mono fun e w' ⟨he, hb⟩ => ⟨_, he, ?_⟩⟩; have e : Lib.repeatL (ByteArray.mk #[c]).data.toList n = List.replicate n c := rep1 c n; rw [e]
 exact k w' ⟨hb.os, hb.tape, hb.output, hb.size⟩ (Sat.mono H fun c o hc => by
   show w'.heap[c]? = some o; have hc' : w.heap[c]? = some o := hc
   rw [hb.block c (Array.getElem?_eq_some_iff.1 hc').1, hc'])
end P20
end Go.Proofs.YtpbbfonfakjecaaGreat
namespace Go.Proofs.YtpbbfonfakjecaaGreat
open Go Go.Vc
section
variable {w : World} {L : List HProp} {K : Value → World → Prop}
end
attribute [local irreducible] Vc.Nc Vc.Ld Vc.LdA Vc.St Vc.StA Vc.Fo Vc.Iaa Vc.Ias Vc.Ixs Vc.Ixa Vc.Fd Vc.FdA Vc.Bp Vc.Bb Vc.Bn Vc.Up Vc.Ci Vc.Lns Vc.Lnl Vc.Ex Vc.Sst Vc.Ssl Vc.New Vc.Vif Vc.VJoin Vc.VLoop Vc.KE Vc.Dr Vc.Rk Vc.Cl Vc.Cx Vc.Inv Vc.Be Vc.Cv Vc.Cw Vc.Mf Vc.Sl Vc.Lk Vc.Bd Vc.Bs Vc.Ms Vc.Mm Vc.Mu Vc.Me Vc.Es Vc.Rg Vc.Nx Vc.Ta Vc.Ap Vc.Usd Vc.Ust Vc.Cp Vc.Ln Vc.Bc Vc.Bmin Vc.Bmax Vc.Bdel Vc.Bclr Vc.Pk
namespace P20
open Go.M01 Go.Mb Go.Me Go.M02 Go.M03
variable {w : World} {L : List HProp} {K : Value → World → Prop} {p sm pk room : Nat} {body tx s : List UInt8} {bd : Value} {x : UInt8 × Nat}
abbrev tSb : Nat := 148
def Fsb (x : Bl) : List Value := [S_ x.1, uv (crcOf x.2), nv x.2.length]
theorem sb_zero : (zeroP Tryz.prog tSb).cells.toList = [S_ [], uv 0, iv 0] := by kernel_rfl
abbrev Zsb : List Value := [S_ [], uv 0, iv 0]
theorem Fsb_sg : ∀ y : Bl, ∀ u ∈ Fsb y, sg u = true := by
 intro y u hu; simp only [Fsb, List.mem_cons, List.not_mem_nil, or_false] at hu
 rcases hu with rfl | rfl | rfl <;> rfl
instance rowSb : RowN Tryz.prog 77 tSb 3 := ⟨by kernel_rfl, ⟨Tryz.t148, .agg #[S_ [], uv 0, iv 0], by kernel_rfl, by kernel_rfl, by decide, by kernel_rfl, by kernel_rfl⟩⟩
theorem close_none2 (H : Holds w (SpL p bd sm pk room [] tx x L)) (k : ∀ w', Same w w' → Holds w' (SpL p bd sm pk room [] tx x L) → K (.tuple #[.agg Zsb.toArray, .bool false]) w') : Cl Tryz.prog F.split_begun_close #[pt p] w K := by
 refine Tie.split_begun_close ?_; unfold Vcf.split_begun_close; refine r_new H fun q w1 S1 H1 => ?_; rw [sb_zero] at H1; refine r_nc (r_fo0 (r_ld 1 H1 rfl rfl ?_)); refine r_lnS 2 H1 rfl ?_; refine r_eql (r_vtE rfl ?_); refine r_bd (v := .agg Zsb.toArray) (by kernel_rfl) ?_; refine r_stA 0 H1 (vs := Zsb) rfl (Nat.le_refl 3) rfl rfl fun w2 S2 H2 => ?_; replace H2 : Holds w2 (blk q tSb Zsb :: SpL p bd sm pk room [] tx x L) := H2; refine r_ldA 0 H2 Zsb rfl rfl rfl ?_; exact k _ (S1.trans S2) H2.drop
theorem close_some2 (h0 : body ≠ []) (H : Holds w (SpL p bd sm pk room body tx x L)) (k : ∀ w', Same w w' → Holds w' (SpL p (.slice none 0 0) sm pk room [] [] x L) → K (.tuple #[.agg (Fsb (body, tx)).toArray, .bool true]) w') : Cl Tryz.prog F.split_begun_close #[pt p] w K := by
 refine Tie.split_begun_close ?_; unfold Vcf.split_begun_close; have hp : 0 < body.length := List.length_pos_iff.2 h0; obtain ⟨oa, sp, rfl, H⟩ := H.open 1 rfl; replace H : Holds w (blk p tSp (spC (.slice oa body.length (body.length + sp.length)) sm tx.length room pk) :: slb bv tB oa body sp :: R3b.SumR sm (crcF 4294967295 tx) :: blk pk tPk (Fpc x) :: L) := H; generalize hbd : Value.slice oa body.length (body.length + sp.length) = bd at *; refine r_new H fun q w1 S1 H1 => ?_; rw [sb_zero] at H1; refine r_nc (r_fo0 (r_ld 1 H1 rfl rfl ?_)); rw [← hbd]; refine r_lnl (r_eql (r_vfE (by omega) ?_)); refine r_join1 (fun v w' => ∃ nb, v = pt nb ∧ Same w w' ∧ Holds w' (blk nb tSb (Fsb (body, tx)) :: blk q tSb Zsb :: blk p tSp (spC bd sm tx.length room pk) :: slb bv tB oa body sp :: R3b.SumR sm (crcF 4294967295 tx) :: blk pk tPk (Fpc x) :: L)) ?_ ?_
 rotate_left
 · refine r_dr H1 fun w2 S2 H2 => ?_; refine r_nc (r_fo0 (r_ld 1 H2 rfl rfl ?_))
   have cv : ∀ {wz : World} {i : Nat} {Lz : List HProp} {Kz : Value → Prop}, Holds wz Lz → Lz[i]? = some (slb bv tB oa body sp) → Kz (S_ body) → Cv Tryz.prog 44 9 bd wz Kz := by
     intro wz i Lz Kz Hz hz kz; rw [← hbd]; exact B20.r_cvb Hz i hz rfl kz
   refine cv (i := 2) H2 rfl ?_; refine r_nc (r_fo0 (r_ld 1 H2 rfl rfl ?_)); refine r_nc (r_fo0 (r_ld 1 H2 rfl rfl ?_)); refine ⟨?_, ?_⟩
   · refine smValue_spec (tx := tx) (by have h_ := Holds.ord 4 [3, 0, 1, 2] H2 rfl; exact h_) ?_; refine r_rk (r_ld 1 H2 rfl rfl rfl) ?_; refine r_rk (cv (i := 2) H2 rfl rfl) ?_; refine r_rk (r_ld 1 H2 rfl rfl rfl) ?_; refine r_bd (v := .agg (Fsb (body, tx)).toArray) (by kernel_rfl) ?_; refine r_new H2 fun ob w3 S3 H3 => ?_; rw [sb_zero] at H3; refine r_rk (r_bd (v := .agg (Fsb (body, tx)).toArray) (by kernel_rfl) rfl) ?_; refine r_rk (r_ld 2 H3 rfl rfl rfl) ?_; refine r_rk (r_ld 2 H3 rfl rfl rfl) ?_; refine r_rk (cv (i := 3) H3 rfl rfl) ?_; refine r_rk (r_ld 2 H3 rfl rfl rfl) ?_; refine r_stA 0 H3 (vs := Fsb (body, tx)) rfl (Nat.le_refl 3) rfl rfl fun w4 S4 H4 => ?_; exact r_ke ⟨ob, rfl, S1.trans (S2.trans (S3.trans S4)), H4⟩
   · refine r_new H2 fun ob w3 S3 H3 => ?_; rw [sb_zero] at H3; refine r_rk (r_ld 2 H3 rfl rfl rfl) ?_; refine r_rk (r_ld 2 H3 rfl rfl rfl) ?_; refine r_rk (cv (i := 3) H3 rfl rfl) ?_; refine r_rk (r_ld 2 H3 rfl rfl rfl) ?_; refine smValue_spec (tx := tx) (by have h_ := Holds.ord 5 [4, 0, 1, 2, 3] H3 rfl; exact h_) ?_; refine r_rk (r_ld 2 H3 rfl rfl rfl) ?_; refine r_rk (cv (i := 3) H3 rfl rfl) ?_; refine r_rk (r_ld 2 H3 rfl rfl rfl) ?_; refine r_bd (v := .agg (Fsb (body, tx)).toArray) (by kernel_rfl) ?_; refine r_stA 0 H3 (vs := Fsb (body, tx)) rfl (Nat.le_refl 3) rfl rfl fun w4 S4 H4 => ?_; exact r_ke ⟨ob, rfl, S1.trans (S2.trans (S3.trans S4)), H4⟩
 clear H H1 S1; rintro _ _ w2 ⟨nb, rfl, S2, H2⟩; refine r_nc (r_fo0 ?_); refine r_st 2 H2 rfl (by simp) rfl fun w3 S3 H3 => ?_; replace H3 : Holds w3 (blk nb tSb (Fsb (body, tx)) :: blk q tSb Zsb :: blk p tSp (spC (.slice none 0 0) sm tx.length room pk) :: slb bv tB oa body sp :: R3b.SumR sm (crcF 4294967295 tx) :: blk pk tPk (Fpc x) :: L) := H3; refine r_nc (r_fo0 ?_); refine r_st 2 H3 rfl (by simp) rfl fun w4 S4 H4 => ?_; replace H4 : Holds w4 (blk nb tSb (Fsb (body, tx)) :: blk q tSb Zsb :: blk p tSp (spC (.slice none 0 0) sm 0 room pk) :: slb bv tB oa body sp :: R3b.SumR sm (crcF 4294967295 tx) :: blk pk tPk (Fpc x) :: L) := H4; refine r_nc (r_fo0 (r_ld 2 H4 rfl rfl ?_)); refine smReset_spec (tx := tx) (by have h_ := Holds.ord 5 [4, 0, 1, 2] H4 rfl; exact h_) fun w5 S5 H5 => ?_; replace H5 : Holds w5 (R3b.SumR sm (crcF 4294967295 []) :: blk nb tSb (Fsb (body, tx)) :: blk q tSb Zsb :: blk p tSp (spC (.slice none 0 0) sm 0 room pk) :: blk pk tPk (Fpc x) :: L) := H5; refine r_ldA 1 H5 (Fsb (body, tx)) rfl rfl rfl ?_; refine r_stA 2 H5 (vs := Fsb (body, tx)) rfl (Nat.le_refl 3) rfl rfl fun w6 S6 H6 => ?_; replace H6 : Holds w6 (R3b.SumR sm (crcF 4294967295 []) :: blk nb tSb (Fsb (body, tx)) :: blk q tSb (Fsb (body, tx)) :: blk p tSp (spC (.slice none 0 0) sm 0 room pk) :: blk pk tPk (Fpc x) :: L) := H6; refine r_ldA 2 H6 (Fsb (body, tx)) rfl rfl rfl ?_; refine k _ (S2.trans (S3.trans (S4.trans (S5.trans S6)))) ?_; have h_ := Holds.ord 6 [4, 0, 1, 5] (H6.nilSL bv tB) rfl; exact h_
theorem piece_spec (hR : RepC) {y : UInt8 × Nat} (H : Holds w (SpL p bd sm pk room body tx x L)) (hy : 1 ≤ y.2 ∧ y.2 ≤ 255) (hb : body.length ≤ 1000000) (ht : tx.length ≤ 1000000) (h5 : 5 ≤ room)
   (k1 : body.length + (pieceB y).length ≤ room → ∀ bd' w', Same w w' → Holds w' (SpL p bd' sm pk room (body ++ pieceB y) (tx ++ List.replicate y.2 y.1) x L) → K (.tuple #[.agg Zsb.toArray, .bool false]) w')
   (k2 : room < body.length + (pieceB y).length → ∀ bd' w', Same w w' → Holds w' (SpL p bd' sm pk room (pieceB y) (List.replicate y.2 y.1) x L) → K (.tuple #[.agg (Fsb (body, tx)).toArray, .bool true]) w') :
   Cl Tryz.prog F.split_Splitter_piece #[pt p, .agg (Fpc y).toArray, nv (pieceB y).length] w K := by
 refine Tie.split_Splitter_piece ?_; unfold Vcf.split_Splitter_piece; have hp := (pieceB_le y).2; refine r_new H fun xb w1 S1 H1 => ?_; replace H1 : Holds w1 (blk xb tPc (Fpc y) :: SpL p bd sm pk room body tx x L) := H1; refine r_new H1 fun x2 w2 S2 H2 => ?_; rw [sb_zero] at H2; refine r_new H2 fun o3 w3 S3 H3 => ?_; rw [sb_zero] at H3; have S := S1.trans (S2.trans S3); clear S1 S2 S3 H H1 H2
 refine r_join1 (fun v w' => ∃ (v0 v1 v2 : Value) (c : Bool) (bd' : Value) (body' tx' : List UInt8), v = .bool c ∧ [v0, v1, v2].all sg = true ∧ body'.length ≤ 1000000 ∧ tx'.length ≤ 1000000 ∧ Same w w' ∧ Holds w' (blk o3 tSb [v0, v1, v2] :: blk x2 tSb Zsb :: blk xb tPc (Fpc y) :: SpL p bd' sm pk room body' tx' x L) ∧
     (∀ bd'' w'', Same w w'' → Holds w'' (SpL p bd'' sm pk room (body' ++ pieceB y) (tx' ++ List.replicate y.2 y.1) x L) → K (.tuple #[.agg #[v0, v1, v2], .bool c]) w'')) ?_ ?_
 rotate_left
 · refine r_dr H3 fun w4 S4 H4 => ?_; refine r_nc (r_fo0 (r_fo0 (r_ld 3 H4 rfl rfl ?_))); refine r_lnS 4 H4 rfl ?_; refine r_addN (a := body.length) (b := (pieceB y).length) (by omega) ?_; refine r_nc (r_fo0 (r_ld 3 H4 rfl rfl ?_)); refine r_gtr (r_ifD (fun hc => ?_) fun hc => ?_)
   · have hne : body ≠ [] := fun e => by rw [e] at hc; simp at hc; omega
     refine r_nc (r_fo0 ?_); refine close_some2 hne (by have h_ := Holds.ord 7 [3, 4, 5, 6, 0, 1, 2] H4 rfl; exact h_) fun w5 S5 H5 => ?_; replace H5 : Holds w5 (SpL p (.slice none 0 0) sm pk room [] [] x (blk o3 tSb Zsb :: blk x2 tSb Zsb :: blk xb tPc (Fpc y) :: L)) := H5; refine r_ex20 (r_ex21 ?_); refine r_stA 4 H5 (vs := Fsb (body, tx)) rfl (Nat.le_refl 3) rfl rfl fun w6 S6 H6 => ?_; have H7 := Holds.ord 7 [4, 5, 6, 0, 1, 2, 3] H6 rfl; refine r_ke ⟨S_ body, uv (crcOf tx), nv tx.length, true, .slice none 0 0, [], [], rfl, rfl, Nat.zero_le _, Nat.zero_le _, S.trans (S4.trans (S5.trans S6)), H7, fun bd'' w'' S'' H'' => k2 (by omega) bd'' w'' S'' ?_⟩; rw [List.nil_append, List.nil_append] at H''; exact H''
   · exact r_ke ⟨S_ [], uv 0, iv 0, false, bd, body, tx, rfl, rfl, hb, ht, S.trans S4, H4, fun bd'' w'' S'' H'' => k1 (by omega) bd'' w'' S'' H''⟩
 clear H3 S k1 k2 hb ht; rintro _ _ w4 ⟨v0, v1, v2, c, bd', body', tx', rfl, hsg, hb, ht, S4, H4, k⟩; refine r_dr H4 fun w5 S5 H5 => ?_; refine r_nc (r_fo0 ?_); refine r_ldA 2 H5 (Fpc y) rfl rfl rfl ?_; refine bgTake_spec hR (by have h_ := Holds.ord 7 [3, 4, 5, 6, 0, 1, 2] H5 rfl; exact h_) hy hb ht fun bd'' w6 S6 H6 => ?_; replace H6 : Holds w6 (SpL p bd'' sm pk room (body' ++ pieceB y) (tx' ++ List.replicate y.2 y.1) x (blk o3 tSb [v0, v1, v2] :: blk x2 tSb Zsb :: blk xb tPc (Fpc y) :: L)) := H6; refine r_ldA 4 H6 [v0, v1, v2] rfl rfl rfl ?_; refine r_stA 5 H6 (vs := [v0, v1, v2]) rfl (Nat.le_refl 3) rfl hsg fun w7 S7 H7 => ?_; refine r_ldA 5 H7 [v0, v1, v2] rfl rfl rfl ?_; exact k bd'' w7 (S4.trans (S5.trans (S6.trans S7))) (Holds.dropAt (Holds.dropAt (Holds.dropAt H7 4) 4) 4)
def nxR (x : UInt8 × Nat) (d : UInt8) : UInt8 × Nat := if 0 < x.2 ∧ x.1 ≠ d then (d, 1) else if x.2 + 1 = 255 then (0, 0) else (d, x.2 + 1)
def toldR (x : UInt8 × Nat) (d : UInt8) : List UInt8 := if 0 < x.2 ∧ x.1 ≠ d then pieceB x else if x.2 + 1 = 255 then pieceB (d, 255) else []
theorem piece_pos {x : UInt8 × Nat} (h : 0 < x.2) : 1 ≤ (pieceB x).length := by
 unfold pieceB; rw [List.length_append, List.length_replicate]; omega
theorem PkPut_spec (hR : RepC) {b : Nat} {x : UInt8 × Nat} {d : UInt8} (H : Holds w (blk b tPk (Fpc x) :: L)) (h : x.2 ≤ 254)
   (k : ∀ w', Same w w' → Holds w' (blk b tPk (Fpc (nxR x d)) :: L) → K (S_ (toldR x d)) w') : Cl Tryz.prog F.feed_Packer_Put #[pt b, bv d] w K := by
 refine Tie.feed_Packer_Put ?_; unfold Vcf.feed_Packer_Put; refine r_bnSF (r_vf ?_); refine r_join1 (fun t w' => ∃ y : UInt8 × Nat, y.2 ≤ 254 ∧ t = S_ (if 0 < x.2 ∧ x.1 ≠ d then pieceB x else []) ∧ (if 0 < x.2 ∧ x.1 ≠ d then y.2 = 0 else y.2 = x.2) ∧ Same w w' ∧ Holds w' (blk b tPk (Fpc y) :: L)) ?_ ?_
 rotate_left
 · refine r_join1 (fun t w' => w = w' ∧ t = .bool (decide (0 < x.2 ∧ x.1 ≠ d))) ?_ ?_
   rotate_left
   · refine r_nc (r_fo0 (r_fo0 (r_ld 0 H rfl rfl ?_))); refine r_gtr (r_ifD (fun h1 => ?_) fun h1 => r_ke ⟨rfl, by rw [decide_eq_false (by omega)]⟩); refine r_nc (r_fo0 (r_fo0 (r_ld 0 H rfl rfl ?_))); refine r_neq (r_ke ⟨rfl, congrArg Value.bool ?_⟩); rw [Bool.eq_iff_iff, decide_eq_true_iff]; simp only [bne_iff_ne, ne_eq]
     constructor
     · intro e; exact ⟨by omega, fun e2 => e (by rw [e2])⟩
     · rintro ⟨_, e⟩ e2; exact e (UInt8.toNat_inj.1 (by omega))
   rintro _ _ _ ⟨rfl, rfl⟩; refine r_ifD (fun h1 => ?_) fun h1 => ?_
   · refine PkClose_spec hR H ⟨h1.1, by omega⟩ fun w1 S1 H1 => ?_; exact r_ke ⟨(0, 0), by decide, by rw [if_pos h1], by rw [if_pos h1], S1, H1⟩
   · exact r_ke ⟨x, h, by rw [if_neg h1], by rw [if_neg h1], .refl _, H⟩
 rintro _ _ w1 ⟨y, hy, rfl, hz, S1, H1⟩; refine r_nc (r_fo0 (r_fo0 ?_)); refine r_st 0 H1 rfl (by simp [Fpc]) rfl fun w2 S2 H2 => ?_; replace H2 : Holds w2 (blk b tPk (Fpc (d, y.2)) :: L) := H2; refine r_nc (r_fo0 (r_fo0 (r_ld 0 H2 rfl rfl ?_))); refine r_add1N (by omega) ?_; refine r_nc (r_fo0 (r_fo0 ?_)); refine r_st 0 H2 rfl (by simp [Fpc]) rfl fun w3 S3 H3 => ?_; replace H3 : Holds w3 (blk b tPk (Fpc (d, y.2 + 1)) :: L) := H3; refine r_nc (r_fo0 (r_fo0 (r_ld 0 H3 rfl rfl ?_)))
 by_cases hc : 0 < x.2 ∧ x.1 ≠ d
 · rw [if_pos hc] at hz ⊢; refine r_eql (r_vfE (by omega) ?_)
   have e1 : toldR x d = pieceB x := by unfold toldR; rw [if_pos hc]
   have e2 : nxR x d = (d, y.2 + 1) := by unfold nxR; rw [if_pos hc, hz]
   rw [← e1]; rw [← e2] at H3; exact k _ (S1.trans (S2.trans S3)) H3
 · rw [if_neg hc] at hz ⊢; refine r_eql (r_ifE (fun h1 => ?_) fun h1 => ?_)
   · have h2 : x.2 + 1 = 255 := by omega
     have e1 : toldR x d = pieceB (d, 255) := by unfold toldR; rw [if_neg hc, if_pos h2]
     have e2 : nxR x d = (0, 0) := by unfold nxR; rw [if_neg hc, if_pos h2]
     rw [show y.2 + 1 = 255 by omega] at H3; refine PkClose_spec hR H3 ⟨by show 1 ≤ 255; decide, by show 255 ≤ 255; decide⟩ fun w4 S4 H4 => ?_; refine r_catL (xs := []) (by have := (pieceB_le (d, 255)).2; rw [List.length_nil]; omega) ?_; rw [List.nil_append, ← e1]; rw [← e2] at H4; exact k _ (S1.trans (S2.trans (S3.trans S4))) H4
   · have h2 : ¬ x.2 + 1 = 255 := by omega
     have e1 : toldR x d = [] := by unfold toldR; rw [if_neg hc, if_neg h2]
     have e2 : nxR x d = (d, y.2 + 1) := by unfold nxR; rw [if_neg hc, if_neg h2, hz]
     rw [← e1]; rw [← e2] at H3; exact k _ (S1.trans (S2.trans S3)) H3
def SpOk (room : Nat) (body tx : List UInt8) (x : UInt8 × Nat) : Prop := body.length ≤ room ∧ tx.length ≤ 255 * body.length ∧ x.2 ≤ 254
def SpR (p room : Nat) : HProp := fun h => ∃ bd sm pk body tx x, SpOk room body tx x ∧ Sat [blk p tSp (spC bd sm tx.length room pk), SL bv tB bd body, R3b.SumR sm (crcF 4294967295 tx), blk pk tPk (Fpc x)] h
theorem SpR_open (H : Holds w (SpR p room :: L)) : ∃ bd sm pk body tx x, SpOk room body tx x ∧ Holds w (SpL p bd sm pk room body tx x L) := by
 obtain ⟨bd, H⟩ := Holds.ex H; obtain ⟨sm, H⟩ := Holds.ex H; obtain ⟨pk, H⟩ := Holds.ex H; obtain ⟨body, H⟩ := Holds.ex H; obtain ⟨tx, H⟩ := Holds.ex H; obtain ⟨x, H⟩ := Holds.ex H; obtain ⟨h, H⟩ := Holds.pure H; exact ⟨bd, sm, pk, body, tx, x, h, Holds.unpack H⟩
theorem SpR_close (h : SpOk room body tx x) (H : Holds w (SpL p bd sm pk room body tx x L)) : Holds w (SpR p room :: L) :=
 Holds.imp (Holds.pack (A := [_, _, _, _]) H) fun g hg => ⟨bd, sm, pk, body, tx, x, h, hg⟩
def BlOk (room : Nat) (b : Bl) : Prop := b.1 ≠ [] ∧ b.1.length ≤ room
theorem SpPut_spec (hR : RepC) {d : UInt8} (H : Holds w (SpR p room :: L)) (hr : 5 ≤ room ∧ room ≤ 3000)
   (k1 : ∀ w', Same w w' → Holds w' (SpR p room :: L) → K (.tuple #[.agg Zsb.toArray, .bool false]) w')
   (k2 : ∀ b w', BlOk room b → Same w w' → Holds w' (SpR p room :: L) → K (.tuple #[.agg (Fsb b).toArray, .bool true]) w') :
   Cl Tryz.prog F.split_Splitter_Put #[pt p, bv d] w K := by
 refine Tie.split_Splitter_Put ?_; unfold Vcf.split_Splitter_Put; obtain ⟨bd, sm, pk, body, tx, x, ho, H⟩ := SpR_open H; obtain ⟨ho1, ho2, ho3⟩ := ho; refine r_new H fun q w1 S1 H1 => ?_; rw [sb_zero] at H1; refine r_bnSF (r_vf (r_nc (r_fo0 (r_ld 1 H1 rfl rfl ?_)))); refine PkRow_spec (by have h_ := Holds.ord 5 [4, 0, 1, 2, 3] H1 rfl; exact h_) fun w2 S2 H2 => ?_; refine r_new H2 fun rb w3 S3 H3 => ?_; rw [pc_zero] at H3; refine r_stA 0 H3 (vs := Fpc x) rfl (Nat.le_refl 2) rfl rfl fun w4 S4 H4 => ?_; replace H4 : Holds w4 (blk rb tPc (Fpc x) :: blk pk tPk (Fpc x) :: blk q tSb Zsb :: blk p tSp (spC bd sm tx.length room pk) :: SL bv tB bd body :: R3b.SumR sm (crcF 4294967295 tx) :: L) := H4; refine r_nc (r_fo0 (r_ld 3 H4 rfl rfl ?_)); refine PkPut_spec hR (by have h_ := Holds.ord 2 [1, 0] H4 rfl; exact h_) ho3 fun w5 S5 H5 => ?_; have S := S1.trans (S2.trans (S3.trans (S4.trans S5))); clear S1 S2 S3 S4 S5 H H1 H2 H3 H4
 have hnx : (nxR x d).2 ≤ 254 := by
   unfold nxR; split
   · show 1 ≤ 254; decide
   · split
     · decide
     · show x.2 + 1 ≤ 254; omega
 -- the piece that is told, if one is
 have go : ∀ (y : UInt8 × Nat) (w6 : World), 1 ≤ y.2 → y.2 ≤ 255 → toldR x d = pieceB y → Same w w6 → Holds w6 (blk rb tPc (Fpc y) :: blk pk tPk (Fpc (nxR x d)) :: blk q tSb Zsb :: blk p tSp (spC bd sm tx.length room pk) :: SL bv tB bd body :: R3b.SumR sm (crcF 4294967295 tx) :: L) →
     LdA 2 (pt rb) w6 fun x_15 => Lns (S_ (toldR x d)) fun x_16 => Cl Tryz.prog F.split_Splitter_piece #[pt p, x_15, x_16] w6 fun x_17 w9 => Ex x_17 0 fun x_18 => Ex x_17 1 fun x_19 => StA 3 (pt q) x_18 w9 fun w10 => LdA 3 (pt q) w10 fun x_20 => K (.tuple #[x_20, x_19]) w10 := by
   intro y w6 hy1 hy2 hty S6 H6; refine r_ldA 0 H6 (Fpc y) rfl rfl rfl ?_; rw [hty]; refine q_len ?_
   have H7 : Holds w6 (SpL p bd sm pk room body tx (nxR x d) (blk rb tPc (Fpc y) :: blk q tSb Zsb :: L)) := by
     have h_ := Holds.ord 6 [3, 4, 5, 1, 0, 2] H6 rfl; exact h_
   have hpp := piece_pos hy1; have hp5 := (pieceB_le y).2; refine piece_spec hR H7 ⟨hy1, hy2⟩ (by omega) (by omega) hr.1 (fun hf bd' w7 S7 H8 => ?_) fun hf bd' w7 S7 H8 => ?_
   · refine r_ex20 (r_ex21 ?_); refine r_stA 5 H8 (vs := Zsb) rfl (Nat.le_refl 3) rfl rfl fun w8 S8 H9 => ?_; refine r_ldA 5 H9 Zsb rfl rfl rfl ?_; refine k1 w8 (S6.trans (S7.trans S8)) (SpR_close (x := nxR x d) ⟨by simp only [List.length_append]; omega, by simp only [List.length_append, List.length_replicate]; omega, hnx⟩ (Holds.dropAt (Holds.dropAt H9 4) 4))
   · refine r_ex20 (r_ex21 ?_); refine r_stA 5 H8 (vs := Fsb (body, tx)) rfl (Nat.le_refl 3) rfl rfl fun w8 S8 H9 => ?_; refine r_ldA 5 H9 (Fsb (body, tx)) rfl rfl rfl ?_
     have hbne : body ≠ [] := fun e => by rw [e, List.length_nil] at hf; omega
     refine k2 (body, tx) w8 ⟨hbne, ho1⟩ (S6.trans (S7.trans S8)) (SpR_close (x := nxR x d) ⟨by omega, by rw [List.length_replicate]; omega, hnx⟩ (Holds.dropAt (Holds.dropAt H9 4) 4))
 by_cases hc : 0 < x.2 ∧ x.1 ≠ d
 · have e1 : toldR x d = pieceB x := by unfold toldR; rw [if_pos hc]
   have hpp := piece_pos hc.1; refine r_seq0 (r_vfD (by show ¬ (toldR x d).toArray.size = 0; rw [e1, List.size_toArray]; omega) ?_); refine r_join0 (fun w' => w5 = w') ?_ ?_
   rotate_left
   · refine r_fo0 (r_ld 1 H5 rfl rfl ?_); refine r_eql (r_vfE (fun e => hc.2 (UInt8.toNat_inj.1 (by omega))) (r_ke rfl))
   rintro _ _ rfl; exact go x w5 hc.1 (by omega) e1 S (by have h_ := Holds.ord 2 [1, 0] H5 rfl; exact h_)
 · by_cases h2 : x.2 + 1 = 255
   · have e1 : toldR x d = pieceB (d, 255) := by unfold toldR; rw [if_neg hc, if_pos h2]
     have hd : x.1 = d := Classical.byContradiction fun e => hc ⟨by omega, e⟩; have hpp := piece_pos (x := (d, 255)) (by show 0 < 255; decide); refine r_seq0 (r_vfD (by show ¬ (toldR x d).toArray.size = 0; rw [e1, List.size_toArray]; omega) ?_); refine r_join0 (fun w' => Same w w' ∧ Holds w' (blk rb tPc (Fpc (d, 255)) :: blk pk tPk (Fpc (nxR x d)) :: blk q tSb Zsb :: blk p tSp (spC bd sm tx.length room pk) :: SL bv tB bd body :: R3b.SumR sm (crcF 4294967295 tx) :: L)) ?_ ?_
     rotate_left
     · refine r_fo0 (r_ld 1 H5 rfl rfl ?_); refine r_eql (r_vtE (by rw [hd]) ?_); refine r_fo0 (r_ld 1 H5 rfl rfl (r_add1N (by omega) (r_fo0 (r_st 1 H5 rfl (by show 1 < 2; decide) rfl fun w6 S6 H6 => ?_)))); refine r_ke ⟨S.trans S6, ?_⟩; have h_ := Holds.ord 2 [1, 0] H6 rfl
       have e3 : [bv x.1, nv (x.2 + 1)] = Fpc (d, 255) := by rw [hd, h2]; rfl
       have h3 : Holds w6 (blk rb tPc [bv x.1, nv (x.2 + 1)] :: blk pk tPk (Fpc (nxR x d)) :: blk q tSb Zsb :: blk p tSp (spC bd sm tx.length room pk) :: SL bv tB bd body :: R3b.SumR sm (crcF 4294967295 tx) :: L) := h_; rw [e3] at h3; exact h3
     rintro _ w6 ⟨S6, H6⟩; exact go (d, 255) w6 (by show 1 ≤ 255; decide) (by show 255 ≤ 255; decide) e1 S6 H6
   · have e1 : toldR x d = [] := by unfold toldR; rw [if_neg hc, if_neg h2]
     rw [e1]; refine r_seq0 (r_vtD rfl ?_); refine r_bd (v := .agg Zsb.toArray) (by kernel_rfl) ?_; refine r_stA 2 H5 (vs := Zsb) rfl (Nat.le_refl 3) rfl rfl fun w6 S6 H6 => ?_; refine r_ldA 2 H6 Zsb rfl rfl rfl ?_
     have H7 : Holds w6 (SpL p bd sm pk room body tx (nxR x d) (blk rb tPc (Fpc x) :: blk q tSb Zsb :: L)) := by
       have h_ := Holds.ord 6 [3, 4, 5, 0, 1, 2] H6 rfl; exact h_
     exact k1 w6 (S.trans S6) (SpR_close (x := nxR x d) ⟨ho1, ho2, hnx⟩ (Holds.dropAt (Holds.dropAt H7 4) 4))
theorem SpEnd_spec (hR : RepC) (H : Holds w (SpR p room :: L)) (hr : 5 ≤ room ∧ room ≤ 3000)
   (k : ∀ v rs w', rs.length ≤ 2 → (∀ b ∈ rs, BlOk room b) → Same w w' → Holds w' (RW Fsb 3 tSb v rs :: SpR p room :: L) → K v w') :
   Cl Tryz.prog F.split_Splitter_End #[pt p] w K := by
 refine Tie.split_Splitter_End ?_; unfold Vcf.split_Splitter_End; obtain ⟨bd, sm, pk, body, tx, x, ho, H⟩ := SpR_open H; obtain ⟨ho1, ho2, ho3⟩ := ho; refine r_bnSF (r_vf (r_nc (r_fo0 (r_ld 0 H rfl rfl ?_)))); refine PkRow_spec (by have h_ := Holds.ord 4 [3, 0, 1, 2] H rfl; exact h_) fun w2 S2 H2 => ?_; refine r_new H2 fun rb w3 S3 H3 => ?_; rw [pc_zero] at H3; refine r_stA 0 H3 (vs := Fpc x) rfl (Nat.le_refl 2) rfl rfl fun w4 S4 H4 => ?_; replace H4 : Holds w4 (blk rb tPc (Fpc x) :: blk pk tPk (Fpc x) :: blk p tSp (spC bd sm tx.length room pk) :: SL bv tB bd body :: R3b.SumR sm (crcF 4294967295 tx) :: L) := H4; have S := S2.trans (S3.trans S4); clear S2 S3 S4 H H2 H3; refine r_join1 (fun v w' => ∃ (bd' : Value) (body' tx' : List UInt8) (rs : List Bl), SpOk room body' tx' (0, 0) ∧ rs.length ≤ 1 ∧ (∀ b ∈ rs, BlOk room b) ∧ Same w w' ∧ Holds w' (SpL p bd' sm pk room body' tx' (0, 0) (RW Fsb 3 tSb v rs :: L))) ?_ ?_
 rotate_left
 · refine r_nc (r_fo0 (r_ld 2 H4 rfl rfl ?_)); refine PkEnd_spec hR (by have h_ := Holds.ord 2 [1, 0] H4 rfl; exact h_) (by omega) fun w5 S5 H5 => ?_; replace S := S.trans S5
   by_cases h0 : x.2 = 0
   · rw [if_pos h0]; refine r_sne0 (r_vfD (fun h => h rfl) ?_); refine r_ke ⟨bd, body, tx, [], ⟨ho1, ho2, by decide⟩, by decide, (fun b hb => by cases hb), S, ?_⟩
     have H6 : Holds w5 (SpL p bd sm pk room body tx (0, 0) (blk rb tPc (Fpc x) :: L)) := by
       have h_ := Holds.ord 5 [2, 3, 4, 0, 1] H5 rfl; exact h_
     have h_ := Holds.ord 6 [1, 2, 3, 4, 0] (H6.nilRW Fsb 3 tSb) rfl; exact h_
   · rw [if_neg h0]; have hpp := piece_pos (x := x) (by omega); have hp5 := (pieceB_le x).2; refine r_sne0 (r_vtD (by show ¬ (pieceB x).toArray.size = 0; rw [List.size_toArray]; omega) ?_); refine r_ldA 1 H5 (Fpc x) rfl rfl rfl ?_; refine q_len ?_
     have H6 : Holds w5 (SpL p bd sm pk room body tx (0, 0) (blk rb tPc (Fpc x) :: L)) := by
       have h_ := Holds.ord 5 [2, 3, 4, 0, 1] H5 rfl; exact h_
     refine piece_spec hR H6 ⟨by omega, by omega⟩ (by omega) (by omega) hr.1 (fun hf bd' w6 S6 H7 => ?_) fun hf bd' w6 S6 H7 => ?_
     · refine r_ex20 (r_ex21 ?_); refine r_new H7 fun nb w7 S7 H8 => ?_; rw [sb_zero] at H8; refine r_stA 0 H8 (vs := Zsb) rfl (Nat.le_refl 3) rfl rfl fun w8 S8 H9 => ?_; refine r_vf ?_; refine r_ke ⟨bd', body ++ pieceB x, tx ++ List.replicate x.2 x.1, [], ⟨by simp only [List.length_append]; omega, by simp only [List.length_append, List.length_replicate]; omega, by decide⟩, by decide, (fun b hb => by cases hb), S.trans (S6.trans (S7.trans S8)), ?_⟩; have h_ := Holds.ord 7 [2, 3, 4, 5, 0] (H9.nilRW Fsb 3 tSb) rfl; exact h_
     · have hbne : body ≠ [] := fun e => by rw [e, List.length_nil] at hf; omega
       refine r_ex20 (r_ex21 ?_); refine r_new H7 fun nb w7 S7 H8 => ?_; rw [sb_zero] at H8; refine r_stA 0 H8 (vs := Fsb (body, tx)) rfl (Nat.le_refl 3) rfl rfl fun w8 S8 H9 => ?_; refine r_vt ?_; refine r_ldA 0 H9 (Fsb (body, tx)) rfl rfl rfl ?_; refine r_appN (H9.nilRW Fsb 3 tSb) 0 ((body, tx) : Bl) rfl (by kernel_rfl) (fun y => rfl) Fsb_sg (by decide) (by decide) fun v' w9 S9 Ha => ?_; refine r_ke ⟨bd', pieceB x, List.replicate x.2 x.1, [(body, tx)], ⟨by omega, by rw [List.length_replicate]; omega, by decide⟩, Nat.le_refl 1, (fun b hb => by rw [List.mem_singleton.1 hb]; exact ⟨hbne, ho1⟩), S.trans (S6.trans (S7.trans (S8.trans S9))), ?_⟩; have h_ := Holds.ord 7 [2, 3, 4, 5, 0] Ha rfl; exact h_
 clear H4 S; rintro _ v w5 ⟨bd', body', tx', rs, ho', hl, hrs, S, H5⟩; refine r_nc (r_fo0 ?_)
 by_cases hb0 : body' = []
 · subst hb0; refine close_none2 H5 fun w6 S6 H6 => ?_; refine r_ex20 (r_ex21 ?_); refine r_new H6 fun nb w7 S7 H7 => ?_; rw [sb_zero] at H7; refine r_stA 0 H7 (vs := Zsb) rfl (Nat.le_refl 3) rfl rfl fun w8 S8 H8 => ?_; refine r_vf ?_; refine k v rs w8 (by omega) hrs (S.trans (S6.trans (S7.trans S8))) ?_; have h_ := Holds.ord 6 [1, 2, 3, 4, 5] H8 rfl; exact (SpR_close (x := (0, 0)) ho' h_).swap
 · refine close_some2 hb0 H5 fun w6 S6 H6 => ?_; refine r_ex20 (r_ex21 ?_); refine r_new H6 fun nb w7 S7 H7 => ?_; rw [sb_zero] at H7; refine r_stA 0 H7 (vs := Fsb (body', tx')) rfl (Nat.le_refl 3) rfl rfl fun w8 S8 H8 => ?_; refine r_vt ?_; refine r_ldA 0 H8 (Fsb (body', tx')) rfl rfl rfl ?_; refine r_appN H8 5 ((body', tx') : Bl) rfl (by kernel_rfl) (fun y => rfl) Fsb_sg (by omega) (by decide) fun v' w9 S9 Ha => ?_; refine k v' (rs ++ [(body', tx')]) w9 (by rw [List.length_append, List.length_singleton]; omega) (fun b hb => ?_) (S.trans (S6.trans (S7.trans (S8.trans S9)))) ?_
   · rcases List.mem_append.1 hb with hb | hb
     · exact hrs b hb
     · rw [List.mem_singleton.1 hb]; exact ⟨hb0, ho'.1⟩
   · have h_ := Holds.ord 6 [1, 2, 3, 4, 5] Ha rfl; exact (SpR_close (x := (0, 0)) ⟨Nat.zero_le _, Nat.zero_le _, by decide⟩ h_).swap
end P20
namespace P23
open Go.M01 Go.Mb Go.Me Go.M02 Go.M03 Go.M18 P20 S17
variable {w : World} {L : List HProp} {K : Value → World → Prop} {b : Nat}
abbrev tPr : Nat := 80
abbrev tSt : Nat := 109
abbrev stC (wb tot : Nat) (en : Bool) : List Value := [pt wb, uv tot, .bool en]
structure Pz where
 win : Nat
 inp : List UInt8
 en : Bool
 room : Nat
 fl : Bool
 bls : List Bl
 tu : Option Tun
 paid : Nat
 tot : Nat
 bits : List Bool
 tk : Nat
 out : List UInt8
 dn : Bool
 st : Nat
 cnt : Nat
structure PzOk (z : Pz) (g : Nat) : Prop where
 wi : z.win ≤ 1048576
 ip : z.inp.length ≤ z.win
 rm : 5 ≤ z.room ∧ z.room ≤ 3000
 bl : ∀ x ∈ z.bls, P20.BlOk z.room x
 ln : z.bls.length ≤ 3 ∧ (z.fl = false → z.bls.length ≤ 1)
 tn : z.tu ≠ none → z.bls ≠ []
 pd : ∀ x r, z.bls = x :: r → z.paid < x.1.length
 p0 : z.bls = [] → z.paid = 0
 tt : z.tot < 4294967296
 bi : z.bits.length ≤ 1000 + 260000 * z.cnt
 tk : z.tk ≤ z.bits.length / 8
 gh : 2 * z.cnt + (if z.tu.isSome then 1 else 0) ≤ g
 gl : z.st ≤ g
 fe : z.fl = true → z.inp = [] ∧ z.en = true
def cellsPz (z : Pz) (sp : Nat) (bv tv : Value) (wt : Nat) : List Value := [nv z.win, S_ z.inp, .bool z.en, pt sp, .bool z.fl, bv, tv, nv z.paid, pt wt, S_ z.out, .bool z.dn, nv z.st]
def hd1 (z : Pz) : List UInt8 := match z.bls with
 | [] => []
 | x :: _ => x.1
def tuV (tb : Nat) : Option Tun → Value
 | none => .pointer none
 | some _ => pt tb
def tuH (tb : Nat) (s : List UInt8) : Option Tun → List HProp
 | none => []
 | some t => [TuR tb s t]
def PzL (b : Nat) (z : Pz) (sp : Nat) (bv : Value) (tb wt wb : Nat) : List HProp :=
 [blk b tPr (cellsPz z sp bv (tuV tb z.tu) wt), SpR sp z.room, RO Fsb 3 tSb bv z.bls, blk wt tSt (stC wb z.tot z.dn), W01.WrR wb z.bits z.tk] ++ tuH tb (hd1 z) z.tu
def PzR (b : Nat) (z : Pz) : HProp := fun h => ∃ sp bv tb wt wb, Sat (PzL b z sp bv tb wt wb) h
theorem PzR_open {z : Pz} (H : Holds w (PzR b z :: L)) : ∃ sp bv tb wt wb, Holds w (PzL b z sp bv tb wt wb ++ L) := by
 obtain ⟨sp, H⟩ := Holds.ex H; obtain ⟨bv, H⟩ := Holds.ex H; obtain ⟨tb, H⟩ := Holds.ex H; obtain ⟨wt, H⟩ := Holds.ex H; obtain ⟨wb, H⟩ := Holds.ex H; exact ⟨sp, bv, tb, wt, wb, Holds.unpack H⟩
theorem PzR_close {z : Pz} {sp : Nat} {bv : Value} {tb wt wb : Nat} (H : Holds w (PzL b z sp bv tb wt wb ++ L)) : Holds w (PzR b z :: L) :=
 Holds.imp (Holds.pack H) fun g hg => ⟨sp, bv, tb, wt, wb, hg⟩
theorem whole_spec {z : Pz} (H : Holds w (PzR b z :: L)) (k : K (.bool (decide (z.bls ≠ []))) w) : Cl Tryz.prog F.press_Press_whole #[pt b] w K := by
 refine Tie.press_Press_whole ?_; unfold Vcf.press_Press_whole; obtain ⟨sp, bv, tb, wt, wb, H⟩ := PzR_open H; refine r_nc (r_fo0 (r_ld 0 H rfl rfl (r_lnO 2 H rfl (r_gtr ?_)))); rw [show decide ((0 : Int) < ((z.bls.length : Nat) : Int)) = decide (z.bls ≠ []) from decide_eq_decide.2 ⟨fun h e => by rw [e] at h; simp at h, fun h => by have := List.length_pos_iff.2 h; omega⟩]; exact k
theorem Done_spec {z : Pz} (H : Holds w (PzR b z :: L)) (k : K (.bool z.dn) w) : Cl Tryz.prog F.press_Press_Done #[pt b] w K := by
 refine Tie.press_Press_Done ?_; unfold Vcf.press_Press_Done; obtain ⟨sp, bv, tb, wt, wb, H⟩ := PzR_open H; exact r_bnST (r_vt (r_nc (r_fo0 (r_ld 0 H rfl rfl k))))
theorem q_sne {a b : List UInt8} {K : Value → Prop} (h : K (.bool (decide (¬ a = b)))) : Bp .neq (S_ a) (S_ b) K := by
 refine r_sne ?_; rw [show (!decide ((⟨a.toArray⟩ : ByteArray) = ⟨b.toArray⟩)) = decide (¬ a = b) from by rw [← decide_not]; exact decide_eq_decide.2 (not_congr ba_inj)]; exact h
def PzB (b : Nat) (z : Pz) (sp : Nat) (bv tv : Value) (wt wb : Nat) : List HProp :=
 [blk b tPr (cellsPz z sp bv tv wt), SpR sp z.room, RO Fsb 3 tSb bv z.bls, blk wt tSt (stC wb z.tot z.dn), W01.WrR wb z.bits z.tk]
theorem Pz_openN {z : Pz} (ht : z.tu = none) (H : Holds w (PzR b z :: L)) : ∃ sp bv wt wb, Holds w (PzB b z sp bv (.pointer none) wt wb ++ L) := by
 obtain ⟨sp, bv, tb, wt, wb, H⟩ := PzR_open H; unfold PzL at H; rw [ht] at H; exact ⟨sp, bv, wt, wb, H⟩
theorem Pz_openS {z : Pz} {t : Tun} (ht : z.tu = some t) (H : Holds w (PzR b z :: L)) : ∃ sp bv tb wt wb, Holds w (PzB b z sp bv (pt tb) wt wb ++ (TuR tb (hd1 z) t :: L)) := by
 obtain ⟨sp, bv, tb, wt, wb, H⟩ := PzR_open H; unfold PzL at H; rw [ht] at H; exact ⟨sp, bv, tb, wt, wb, H⟩
theorem Pz_closeN {z : Pz} {sp wt wb : Nat} {bv : Value} (ht : z.tu = none) (H : Holds w (PzB b z sp bv (.pointer none) wt wb ++ L)) : Holds w (PzR b z :: L) := by
 refine PzR_close (sp := sp) (bv := bv) (tb := 0) (wt := wt) (wb := wb) ?_; unfold PzL; rw [ht]; exact H
theorem Pz_closeS {z : Pz} {t : Tun} {sp tb wt wb : Nat} {bv : Value} (ht : z.tu = some t) (H : Holds w (PzB b z sp bv (pt tb) wt wb ++ (TuR tb (hd1 z) t :: L))) : Holds w (PzR b z :: L) := by
 refine PzR_close (sp := sp) (bv := bv) (tb := tb) (wt := wt) (wb := wb) ?_; unfold PzL; rw [ht]; exact H
theorem Pz_cells {z : Pz} (H : Holds w (PzR b z :: L)) : ∃ sp bv tv wt wb L', Holds w (PzB b z sp bv tv wt wb ++ L') ∧ ∀ (z' : Pz) w' bv', z'.tu = z.tu → (z.tu ≠ none → hd1 z' = hd1 z) → Holds w' (PzB b z' sp bv' tv wt wb ++ L') → Holds w' (PzR b z' :: L) := by
 cases ht : z.tu with
 | none =>
   obtain ⟨sp, bv, wt, wb, H⟩ := Pz_openN ht H; exact ⟨sp, bv, _, wt, wb, L, H, fun z' w' bv' h1 _ H' => Pz_closeN h1 H'⟩
 | some t =>
   obtain ⟨sp, bv, tb, wt, wb, H⟩ := Pz_openS ht H; exact ⟨sp, bv, _, wt, wb, _, H, fun z' w' bv' h1 h2 H' => Pz_closeS h1 (by rw [h2 (by simp)]; exact H')⟩
theorem PzOk.mono {z : Pz} {g g' : Nat} (h : PzOk z g) (hg : g ≤ g') : PzOk z g' :=
 ⟨h.wi, h.ip, h.rm, h.bl, h.ln, h.tn, h.pd, h.p0, h.tt, h.bi, h.tk, Nat.le_trans h.gh hg, Nat.le_trans h.gl hg, h.fe⟩
theorem PzOk.app {z : Pz} {g : Nat} (h : PzOk z g) {rs : List Bl} {f : Bool} (hr : ∀ x ∈ rs, P20.BlOk z.room x) (hl : (z.bls ++ rs).length ≤ 3 ∧ (f = false → (z.bls ++ rs).length ≤ 1)) (hf : f = true → z.inp = [] ∧ z.en = true) : PzOk { z with bls := z.bls ++ rs, fl := f } g := by
 refine ⟨h.wi, h.ip, h.rm, ?_, hl, ?_, ?_, ?_, h.tt, h.bi, h.tk, h.gh, h.gl, hf⟩
 · intro x hx; rcases List.mem_append.1 hx with hx | hx
   · exact h.bl x hx
   · exact hr x hx
 · intro ht e; exact h.tn ht (List.append_eq_nil_iff.1 e).1
 · intro x r e
   cases hb : z.bls with
   | nil =>
     rw [show ({ z with bls := z.bls ++ rs, fl := f } : Pz).bls = z.bls ++ rs from rfl, hb, List.nil_append] at e; have := (hr x (by rw [e]; exact List.mem_cons_self ..)).1; show z.paid < _; rw [h.p0 hb]; exact List.length_pos_iff.2 this
   | cons y r' =>
     rw [show ({ z with bls := z.bls ++ rs, fl := f } : Pz).bls = z.bls ++ rs from rfl, hb, List.cons_append] at e; cases e; exact h.pd x r' hb
 · intro e; exact h.p0 (List.append_eq_nil_iff.1 e).1
theorem hd1_app {z : Pz} {rs : List Bl} {f : Bool} (h : z.bls ≠ []) : hd1 { z with bls := z.bls ++ rs, fl := f } = hd1 z := by
 unfold hd1
 cases hb : z.bls with
 | nil => exact absurd hb h
 | cons y r => rfl
def Kp (z z' : Pz) : Prop := z'.out = z.out ∧ z'.dn = z.dn ∧ z'.st = z.st
theorem Kp.refl (z : Pz) : Kp z z := ⟨rfl, rfl, rfl⟩
theorem flush_spec {z : Pz} {g : Nat} (H : Holds w (PzR b z :: L)) (hz : PzOk z g)
   (k : ∀ z' w', PzOk z' g → Kp z z' → Same w w' → Holds w' (PzR b z' :: L) → K (.tuple #[]) w') : Cl Tryz.prog F.press_Press_flush #[pt b] w K := by
 refine Tie.press_Press_flush ?_; unfold Vcf.press_Press_flush; obtain ⟨sp, bv, tv, wt, wb, L', H1, back⟩ := Pz_cells H; refine r_join1 (fun x w' => w = w' ∧ x = .bool (decide (z.en = true ∧ z.inp = [] ∧ z.fl = false))) ?_ ?_
 rotate_left
 · refine r_nc (r_fo0 (r_ld 0 H1 rfl rfl ?_))
   cases he : z.en with
   | false => exact r_vf (r_ke ⟨rfl, by rw [decide_eq_false (by simp)]⟩)
   | true =>
     refine r_vt (r_nc (r_fo0 (r_ld 0 H1 rfl rfl (r_seqL (r_ifD (fun h => ?_) fun h => ?_)))))
     · refine r_nc (r_fo0 (r_ld 0 H1 rfl rfl (r_not (r_ke ⟨rfl, ?_⟩))))
       cases hf : z.fl with
       | false => rw [decide_eq_true ⟨rfl, h, rfl⟩]; rfl
       | true => rw [decide_eq_false (by simp)]; rfl
     · exact r_ke ⟨rfl, by rw [decide_eq_false (fun e => h e.2.1)]⟩
 rintro _ _ _ ⟨rfl, rfl⟩; refine r_ifD (fun h => ?_) fun h => k z w hz (.refl z) (.refl _) H; obtain ⟨he, hi, hf⟩ := h; refine r_dr H1 fun w2 S2 H2 => ?_; refine r_nc (r_fo0 (r_ld 0 H2 rfl rfl (r_nc (r_fo0 (r_ld 0 H2 rfl rfl ?_))))); refine SpEnd_spec P20.rep_ok (by have h_ := Holds.front H2 1 rfl; exact h_) hz.rm fun v rs w3 hl hrs S3 H3 => ?_
 have H4 : Holds w3 (RW Fsb 3 tSb v rs :: (PzB b z sp bv tv wt wb ++ L')) := by have h_ := Holds.ord 6 [0, 2, 1, 3, 4, 5] H3 rfl; exact h_
 clear H1 H3; refine r_rk (r_ld 1 H4 rfl rfl rfl) ?_; have hb1 := hz.ln.2 hf
 have fin : ∀ v' w4, Same w3 w4 → Holds w4 ([blk b tPr (cellsPz z sp bv tv wt), SpR sp z.room, RO Fsb 3 tSb v' (z.bls ++ rs), blk wt tSt (stC wb z.tot z.dn), W01.WrR wb z.bits z.tk] ++ L') →
     (Nc (pt b) <| Fo 5 (pt b) fun x_10 => St x_10 v' w4 fun w5 => Nc (pt b) <| Fo 4 (pt b) fun x_11 => St x_11 (.bool true) w5 fun w6 => K (.tuple #[]) w6) := by
   intro v' w4 S4 H5; refine r_nc (r_fo0 (r_st 0 H5 rfl (by simp [cellsPz]) (H5.sgRO 2 rfl) fun w5 S5 H6 => ?_)); refine r_nc (r_fo0 (r_st 0 H6 rfl (by simp [cellsPz]) rfl fun w6 S6 H7 => ?_)); refine k { z with bls := z.bls ++ rs, fl := true } w6 (hz.app hrs ⟨by rw [List.length_append]; omega, fun e => by cases e⟩ fun _ => ⟨hi, he⟩) ⟨rfl, rfl, rfl⟩ (S2.trans (S3.trans (S4.trans (S5.trans S6)))) ?_; exact back { z with bls := z.bls ++ rs, fl := true } w6 v' rfl (fun ht => hd1_app (hz.tn ht)) H7
 cases hrz : rs with
 | nil =>
   subst hrz; obtain ⟨oa, m, spc, rfl, H5⟩ := Holds.openRW H4 0 rfl; refine r_apROnil H4 3 rfl ?_; refine fin bv w3 (.refl _) ?_; rw [List.append_nil]; exact H4.drop
 | cons x r =>
   obtain ⟨oa, m, spc, rfl, H5⟩ := Holds.openRW H4 0 rfl; obtain ⟨b2, rfl, hsp, H6⟩ := Holds.rwb H5 0 rfl (.inl (by rw [hrz]; exact Nat.succ_pos _)); replace H6 : Holds w3 (blk b2 tSb (flatL Fsb rs ++ spc) :: (PzB b z sp bv tv wt wb ++ L')) := H6; refine r_apRO (ys := rs) H6 3 0 rfl rfl (by decide) (List.take_left' (flatL_len (k := 3) (fun _ => rfl) rs)) rfl (fun y => rfl) Fsb_sg (by omega) (by rw [hrz]; exact Nat.succ_pos _) fun v' w4 S4 H7 => ?_; exact fin v' w4 S4 H7.drop
theorem Feed_spec {z : Pz} {g : Nat} {s : List UInt8} (H : Holds w (PzR b z :: L)) (hz : PzOk z g) (hs : s.length ≤ 1000000000)
   (k : ∀ n z' w', n ≤ s.length → PzOk z' g → Kp z z' → Same w w' → Holds w' (PzR b z' :: L) → K (nv n) w') : Cl Tryz.prog F.press_Press_Feed #[pt b, S_ s] w K := by
 refine Tie.press_Press_Feed ?_; unfold Vcf.press_Press_Feed; obtain ⟨sp, bv, tv, wt, wb, L', H1, back⟩ := Pz_cells H; have hip := hz.ip; have hwi := hz.wi; refine r_join1 (fun x w' => w = w' ∧ x = .bool z.en) ?_ ?_
 rotate_left
 · exact r_bnSF (r_vf (r_nc (r_fo0 (r_ld 0 H1 rfl rfl (r_ke ⟨rfl, rfl⟩)))))
 rintro _ _ _ ⟨rfl, rfl⟩
 cases he : z.en with
 | true => exact r_vt (k 0 z w (Nat.zero_le _) hz (.refl z) (.refl _) H)
 | false =>
   refine r_vf (r_dr H1 fun w2 S2 H2 => ?_); refine q_len (r_nc (r_fo0 (r_ld 0 H2 rfl rfl (r_nc (r_fo0 (r_ld 0 H2 rfl rfl (q_len ?_))))))); refine r_sub (by omega) (by omega) (r_min ?_); rw [show min (s.length : Int) ((z.win : Int) - (z.inp.length : Int)) = ((min s.length (z.win - z.inp.length) : Nat) : Int) by omega]; generalize hn : min s.length (z.win - z.inp.length) = n; refine r_dr H2 fun w3 S3 H3 => ?_; refine r_nc (r_fo0 (r_ld 0 H3 rfl rfl (q_T (by omega) ?_))); refine r_catL (by rw [List.length_take]; omega) ?_; refine r_nc (r_fo0 (r_st 0 H3 rfl (by simp [cellsPz]) rfl fun w4 S4 H4 => ?_)); refine k n { z with inp := z.inp ++ s.take n } w4 (by omega) ⟨hz.wi, ?_, hz.rm, hz.bl, hz.ln, hz.tn, hz.pd, hz.p0, hz.tt, hz.bi, hz.tk, hz.gh, hz.gl, fun e => ?_⟩ ⟨rfl, rfl, rfl⟩ (S2.trans (S3.trans S4)) ?_
   · show (z.inp ++ s.take n).length ≤ z.win; rw [List.length_append, List.length_take]; omega
   · rw [(hz.fe e).2] at he; cases he
   · exact back { z with inp := z.inp ++ s.take n } w4 bv rfl (fun _ => rfl) H4
theorem End_spec {z : Pz} {g : Nat} (H : Holds w (PzR b z :: L)) (hz : PzOk z g)
   (k : ∀ v z' w', PzOk z' g → Kp z z' → Same w w' → Holds w' (PzR b z' :: L) → K v w') : Cl Tryz.prog F.press_Press_End #[pt b] w K := by
 refine Tie.press_Press_End ?_; unfold Vcf.press_Press_End; obtain ⟨sp, bv, tv, wt, wb, L', H1, back⟩ := Pz_cells H; refine r_join1 (fun x w' => w = w' ∧ x = .bool z.en) ?_ ?_
 rotate_left
 · exact r_bnSF (r_vf (r_nc (r_fo0 (r_ld 0 H1 rfl rfl (r_ke ⟨rfl, rfl⟩)))))
 rintro _ _ _ ⟨rfl, rfl⟩
 cases he : z.en with
 | true => exact r_vt (k _ z w hz (.refl z) (.refl _) H)
 | false =>
   refine r_vf (r_nc (r_fo0 (r_st 0 H1 rfl (by simp [cellsPz]) rfl fun w2 S2 H2 => ?_))); have H3 := back { z with en := true } w2 bv rfl (fun _ => rfl) H2; have hz2 : PzOk { z with en := true } g := ⟨hz.wi, hz.ip, hz.rm, hz.bl, hz.ln, hz.tn, hz.pd, hz.p0, hz.tt, hz.bi, hz.tk, hz.gh, hz.gl, fun e => ⟨(hz.fe e).1, rfl⟩⟩; exact flush_spec H3 hz2 fun z' w3 hz' h1 S3 H4 => k _ z' w3 hz' h1 (S2.trans S3) H4
def tuD (z : Pz) : Bool := match z.tu with
 | none => false
 | some t => t.done (hd1 z)
def wrt (z : Pz) : Bool := if z.bls = [] then z.fl else tuD z && decide (z.paid + 1 = (hd1 z).length)
def stp (z : Pz) : Bool := z.dn || (if wrt z = true then decide (z.out ≠ []) else decide (z.bls = [] ∧ z.inp = []))
theorem hd1_of {z : Pz} (h : z.bls ≠ []) : ∃ x r, z.bls = x :: r ∧ hd1 z = x.1 := by
 unfold hd1
 cases hb : z.bls with
 | nil => exact absurd hb h
 | cons y r => exact ⟨y, r, rfl, rfl⟩
theorem hd1_ok {z : Pz} {g : Nat} (hz : PzOk z g) (h : z.bls ≠ []) : hd1 z ≠ [] ∧ (hd1 z).length ≤ 3000 ∧ z.paid < (hd1 z).length := by
 obtain ⟨x, r, hx, e⟩ := hd1_of h; have h1 := hz.bl x (by rw [hx]; exact List.mem_cons_self ..); have h2 := hz.rm.2; rw [e]; exact ⟨h1.1, by have := h1.2; omega, hz.pd x r hx⟩
theorem len_first {z : Pz} {sp wt wb : Nat} {bv tv : Value} {K : Value → Prop} (h : z.bls ≠ []) (H : Holds w (PzB b z sp bv tv wt wb ++ L)) (k : K (S_ (hd1 z))) : Ias 3 bv (.int .i64 0) fun x => Fo 0 x fun y => Ld y w K := by
 obtain ⟨x, r, hx, e⟩ := hd1_of h; refine r_fldO (xs := z.bls) (F := Fsb) (e := tSb) 2 H rfl (fun _ => rfl) (q := 0) (x := x) (u := S_ x.1) (by rw [hx]; rfl) rfl ?_; rw [← e]; exact k
theorem writes_spec {z : Pz} {g : Nat} (H : Holds w (PzR b z :: L)) (hz : PzOk z g) (k : ∀ w', Same w w' → Holds w' (PzR b z :: L) → K (.bool (wrt z)) w') : Cl Tryz.prog F.press_Press_writes #[pt b] w K := by
 refine Tie.press_Press_writes ?_; unfold Vcf.press_Press_writes; refine whole_spec H ?_
 by_cases hb : z.bls = []
 · refine r_vfD (fun h => h hb) ?_; obtain ⟨sp, bv, tv, wt, wb, L', H1, back⟩ := Pz_cells H; refine r_nc (r_fo0 (r_ld 0 H1 rfl rfl ?_)); have := k w (.refl _) H; unfold wrt at this; rw [if_pos hb] at this; exact this
 · refine r_vtD hb ?_; obtain ⟨h0, h3, hp⟩ := hd1_ok hz hb; unfold wrt at k; rw [if_neg hb] at k; unfold tuD at k; refine r_dr H fun w2 S2 H2 => ?_
   cases ht : z.tu with
   | none =>
     rw [ht] at k; obtain ⟨sp, bv, wt, wb, H3⟩ := Pz_openN ht H2; refine r_nc (r_fo0 (r_ld 0 H3 rfl rfl (r_bnNF (r_vf ?_)))); exact k w2 S2 H2
   | some t =>
     rw [ht] at k; obtain ⟨sp, bv, tb, wt, wb, H3⟩ := Pz_openS ht H2; refine r_nc (r_fo0 (r_ld 0 H3 rfl rfl (r_bnST (r_vt ?_)))); refine r_nc (r_fo0 (r_ld 0 H3 rfl rfl ?_)); refine TuDone_spec h0 (by have h_ := Holds.front H3 5 rfl; exact h_) fun w3 S3 H4 => ?_
     have H5 : Holds w3 (PzB b z sp bv (pt tb) wt wb ++ (TuR tb (hd1 z) t :: L)) := by have h_ := Holds.ord 6 [1, 2, 3, 4, 5, 0] H4 rfl; exact h_
     have k3 := k w3 (S2.trans S3) (Pz_closeS ht H5)
     cases hd : t.done (hd1 z) with
     | false =>
       simp only [hd, Bool.false_and] at k3; exact r_vf k3
     | true =>
       simp only [hd, Bool.true_and] at k3; refine r_vt (r_nc (r_fo0 (r_ld 0 H5 rfl rfl (r_nc (r_fo0 (r_ld 0 H5 rfl rfl ?_)))))); refine len_first hb H5 (q_len ?_); refine r_sub (by omega) (by omega) (r_eql ?_); rw [show ((z.paid : Int) == (((hd1 z).length : Nat) : Int) - 1) = decide (z.paid + 1 = (hd1 z).length) from by rw [Bool.eq_iff_iff, beq_iff_eq, decide_eq_true_iff]; omega]; exact k3
theorem Stopped_spec {z : Pz} {g : Nat} (H : Holds w (PzR b z :: L)) (hz : PzOk z g) (k : ∀ w', Same w w' → Holds w' (PzR b z :: L) → K (.bool (stp z)) w') : Cl Tryz.prog F.press_Press_Stopped #[pt b] w K := by
 refine Tie.press_Press_Stopped ?_; unfold Vcf.press_Press_Stopped; unfold stp at k; obtain ⟨sp, bv, tv, wt, wb, L', H1, back⟩ := Pz_cells H; refine r_join1 (fun x w' => w = w' ∧ x = .bool z.dn) ?_ ?_
 rotate_left
 · exact r_bnSF (r_vf (r_nc (r_fo0 (r_ld 0 H1 rfl rfl (r_ke ⟨rfl, rfl⟩)))))
 rintro _ _ _ ⟨rfl, rfl⟩
 cases hd : z.dn with
 | true =>
   rw [hd] at k; exact r_vt (k w (.refl _) H)
 | false =>
   rw [hd] at k; simp only [Bool.false_or] at k; refine r_vf ?_; refine writes_spec H hz fun w2 S2 H2 => ?_; obtain ⟨sp2, bv2, tv2, wt2, wb2, L2, H3, _⟩ := Pz_cells H2
   cases hw : wrt z with
   | true =>
     rw [if_pos hw] at k; refine r_vt (r_nc (r_fo0 (r_ld 0 H3 rfl rfl ?_))); exact q_sne (k w2 S2 H2)
   | false =>
     rw [if_neg (by rw [hw]; decide)] at k; refine r_vf ?_; refine whole_spec H2 (r_not ?_)
     by_cases hb : z.bls = []
     · rw [decide_eq_false (fun h => h hb)]; refine r_vt (r_nc (r_fo0 (r_ld 0 H3 rfl rfl (r_seqL ?_)))); have := k w2 S2 H2; rw [show decide (z.bls = [] ∧ z.inp = []) = decide (z.inp = []) from decide_eq_decide.2 ⟨fun h => h.2, fun h => ⟨hb, h⟩⟩] at this; exact this
     · rw [decide_eq_true hb]; refine r_vf ?_; have := k w2 S2 H2; rw [decide_eq_false (fun h => hb h.1)] at this; exact this
theorem take_spec {z : Pz} {g : Nat} (H : Holds w (PzR b z :: L)) (hz : PzOk z g) (hb : z.bls = []) (hi : z.inp ≠ []) (hf : z.fl = false)
   (k : ∀ z' w', PzOk z' g → Kp z z' → Same w w' → Holds w' (PzR b z' :: L) → K (.tuple #[]) w') : Cl Tryz.prog F.press_Press_take #[pt b] w K := by
 refine Tie.press_Press_take ?_; unfold Vcf.press_Press_take
 have ht : z.tu = none := by
   cases ht : z.tu with
   | none => rfl
   | some t => exact absurd hb (hz.tn (by rw [ht]; simp))
 obtain ⟨sp, bv, wt, wb, H1⟩ := Pz_openN ht H; have hpos := List.length_pos_iff.2 hi; have hz1 : PzOk { z with inp := z.inp.drop 1 } g := ⟨hz.wi, by show (z.inp.drop 1).length ≤ z.win; rw [List.length_drop]; have := hz.ip; omega, hz.rm, hz.bl, hz.ln, hz.tn, hz.pd, hz.p0, hz.tt, hz.bi, hz.tk, hz.gh, hz.gl, fun e => by rw [show ({ z with inp := z.inp.drop 1 } : Pz).fl = z.fl from rfl, hf] at e; cases e⟩; refine r_join2 (fun x y w' => ∃ (q : Nat) (c : Bool) (vs : List Value), x = pt q ∧ y = .bool c ∧ Same w w' ∧ Holds w' (PzB b z sp bv (.pointer none) wt wb ++ (blk q tSb vs :: L)) ∧ (c = true → ∃ x : Bl, P20.BlOk z.room x ∧ vs = Fsb x)) ?_ ?_
 · rintro _ _ _ w2 ⟨q, c, vs, rfl, rfl, S2, H2, hc⟩; refine r_nc (r_fo0 (r_ld 0 H2 rfl rfl (q_D (m := 1) (by omega) ?_))); refine r_nc (r_fo0 (r_st 0 H2 rfl (by simp [cellsPz]) rfl fun w3 S3 H3 => ?_)); replace H3 : Holds w3 (PzB b { z with inp := z.inp.drop 1 } sp bv (.pointer none) wt wb ++ (blk q tSb vs :: L)) := H3
   cases c with
   | false =>
     refine r_vf ?_; refine flush_spec (Pz_closeN (z := { z with inp := z.inp.drop 1 }) (bv := bv) ht (Holds.dropAt H3 5)) hz1 fun z' w4 h1 h2 S4 H4 => ?_; exact k z' w4 h1 h2 (S2.trans (S3.trans S4)) H4
   | true =>
     obtain ⟨x, hx, rfl⟩ := hc rfl; refine r_vt (r_dr H3 fun w4 S4 H4 => ?_); refine r_nc (r_fo0 (r_ld 0 H4 rfl rfl ?_)); refine r_ldA 5 H4 (Fsb x) rfl rfl rfl ?_; refine r_bsK (e := tSb) (Fsb x) H4 (by kernel_rfl) fun b2 w5 S5 H5 => ?_; refine r_rk (r_ld 1 H5 rfl rfl rfl) ?_; refine r_apRO (ys := [x]) H5 3 0 rfl rfl (by decide) rfl rfl (fun y => rfl) Fsb_sg (by show z.bls.length + 1 ≤ _; rw [hb]; decide) (Nat.succ_pos _) fun v' w6 S6 H6 => ?_; replace H6 := Holds.dropAt H6.drop 5; refine r_nc (r_fo0 (r_st 0 H6 rfl (by simp [cellsPz]) (H6.sgRO 2 rfl) fun w7 S7 H7 => ?_)); have hz2 := hz1.app (rs := [x]) (f := false) (fun y hy => by rw [List.mem_singleton.1 hy]; exact hx) (by show (z.bls ++ [x]).length ≤ 3 ∧ _; rw [hb]; exact ⟨by simp, fun _ => by simp⟩) (fun e => by cases e)
     have H8 : Holds w7 (PzB b { { z with inp := z.inp.drop 1 } with bls := z.bls ++ [x], fl := false } sp v' (.pointer none) wt wb ++ L) := by
       have h_ := H7; unfold PzB cellsPz; rw [← hf]; exact h_
     refine flush_spec (Pz_closeN (bv := v') (by exact ht) H8) hz2 fun z' w8 h1 h2 S8 H9 => ?_; exact k z' w8 h1 h2 (S2.trans (S3.trans (S4.trans (S5.trans (S6.trans (S7.trans S8)))))) H9
 · refine r_dr H1 fun w2 S2 H2 => ⟨?_, ?_⟩
   · refine r_nc (r_fo0 (r_ld 0 H2 rfl rfl (r_nc (r_fo0 (r_ld 0 H2 rfl rfl ?_))))); refine q_ix (m := 0) hpos ?_; have fin : ∀ (vs : List Value) (c : Bool) w3, Same w2 w3 → vs.length = 3 → vs.all sg = true → (c = true → ∃ x : Bl, P20.BlOk z.room x ∧ vs = Fsb x) → Holds w3 (SpR sp z.room :: blk b tPr (cellsPz z sp bv (.pointer none) wt) :: RO Fsb 3 tSb bv z.bls :: blk wt tSt (stC wb z.tot z.dn) :: W01.WrR wb z.bits z.tk :: L) → True := fun _ _ _ _ _ _ _ _ => trivial; refine SpPut_spec P20.rep_ok (by have h_ := Holds.front H2 1 rfl; exact h_) hz.rm (fun w3 S3 H3 => ?_) fun x w3 hx S3 H3 => ?_
     · refine r_ex20 (r_ex21 ?_); refine r_new H3 fun q w4 S4 H4 => ?_; rw [sb_zero] at H4; refine r_rk (r_ld 2 H4 rfl rfl rfl) (r_rk (r_ld 2 H4 rfl rfl rfl) ?_); refine r_stA 0 H4 (vs := Zsb) rfl (Nat.le_refl 3) rfl rfl fun w5 S5 H5 => ?_; refine r_ke ⟨q, false, Zsb, rfl, rfl, S2.trans (S3.trans (S4.trans S5)), ?_, fun e => by cases e⟩; have h_ := Holds.ord 6 [2, 1, 3, 4, 5, 0] H5 rfl; exact h_
     · refine r_ex20 (r_ex21 ?_); refine r_new H3 fun q w4 S4 H4 => ?_; rw [sb_zero] at H4; refine r_rk (r_ld 2 H4 rfl rfl rfl) (r_rk (r_ld 2 H4 rfl rfl rfl) ?_); refine r_stA 0 H4 (vs := Fsb x) rfl (Nat.le_refl 3) rfl rfl fun w5 S5 H5 => ?_; refine r_ke ⟨q, true, Fsb x, rfl, rfl, S2.trans (S3.trans (S4.trans S5)), ?_, fun _ => ⟨x, hx, rfl⟩⟩; have h_ := Holds.ord 6 [2, 1, 3, 4, 5, 0] H5 rfl; exact h_
   · refine r_nc (r_fo0 (r_ld 0 H2 rfl rfl (r_nc (r_fo0 (r_ld 0 H2 rfl rfl ?_))))); refine q_ix (m := 0) hpos ?_; refine r_new H2 fun q w3 S3 H3 => ?_; rw [sb_zero] at H3; refine r_rk (r_ld 1 H3 rfl rfl rfl) (r_rk (r_ld 1 H3 rfl rfl rfl) ?_); refine SpPut_spec P20.rep_ok (by have h_ := Holds.front H3 2 rfl; exact h_) hz.rm (fun w4 S4 H4 => ?_) fun x w4 hx S4 H4 => ?_
     · refine r_ex20 (r_ex21 ?_); refine r_stA 1 H4 (vs := Zsb) rfl (Nat.le_refl 3) rfl rfl fun w5 S5 H5 => ?_; refine r_ke ⟨q, false, Zsb, rfl, rfl, S2.trans (S3.trans (S4.trans S5)), ?_, fun e => by cases e⟩; have h_ := Holds.ord 6 [2, 0, 3, 4, 5, 1] H5 rfl; exact h_
     · refine r_ex20 (r_ex21 ?_); refine r_stA 1 H4 (vs := Fsb x) rfl (Nat.le_refl 3) rfl rfl fun w5 S5 H5 => ?_; refine r_ke ⟨q, true, Fsb x, rfl, rfl, S2.trans (S3.trans (S4.trans S5)), ?_, fun _ => ⟨x, hx, rfl⟩⟩; have h_ := Holds.ord 6 [2, 0, 3, 4, 5, 1] H5 rfl; exact h_
theorem pay_spec {z : Pz} {g : Nat} (H : Holds w (PzR b z :: L)) (hz : PzOk z g) (hb : z.bls ≠ []) (hp : z.paid + 1 < (hd1 z).length)
   (k : ∀ w', PzOk { z with paid := z.paid + 1 } g → Same w w' → Holds w' (PzR b { z with paid := z.paid + 1 } :: L) → K (.tuple #[]) w') : Cl Tryz.prog F.press_Press_pay #[pt b] w K := by
 refine Tie.press_Press_pay ?_; unfold Vcf.press_Press_pay; obtain ⟨h0, h3, _⟩ := hd1_ok hz hb; obtain ⟨sp, bv, tv, wt, wb, L', H1, back⟩ := Pz_cells H; refine r_nc (r_fo0 (r_ld 0 H1 rfl rfl (r_add1N (by omega) ?_))); refine r_nc (r_fo0 (r_st 0 H1 rfl (by simp [cellsPz]) rfl fun w2 S2 H2 => ?_)); replace H2 : Holds w2 (PzB b { z with paid := z.paid + 1 } sp bv tv wt wb ++ L') := H2; refine r_dr H2 fun w3 S3 H3 => ?_; refine r_nc (r_fo0 (r_ld 0 H3 rfl rfl (r_nc (r_fo0 (r_ld 0 H3 rfl rfl ?_))))); refine len_first (z := { z with paid := z.paid + 1 }) hb H3 (q_len (r_lss (r_vtD ?_ ?_)))
 · show ((z.paid + 1 : Nat) : Int) < (((hd1 z).length : Nat) : Int); omega
 · refine k w3 ⟨hz.wi, hz.ip, hz.rm, hz.bl, hz.ln, hz.tn, fun x r e => ?_, fun e => absurd e hb, hz.tt, hz.bi, hz.tk, hz.gh, hz.gl, hz.fe⟩ (S2.trans S3) (back _ w3 bv rfl (fun _ => rfl) H3); have e' : z.bls = x :: r := e; show z.paid + 1 < x.1.length
   have : hd1 z = x.1 := by unfold hd1; rw [e']
   rw [← this]; exact hp
theorem work_spec {z : Pz} {g q : Nat} (H : Holds w (PzR b z :: L)) (hz : PzOk z g) (hs : stp z = false) (ho : z.out ≠ []) (hq1 : 1 ≤ q) (hq : q ≤ 1099511627776)
   (k : ∀ z' r w', 1 ≤ r → r ≤ q → PzOk z' (g + r) → Kp z z' → Same w w' → Holds w' (PzR b z' :: L) → K (nv r) w') : Cl Tryz.prog F.press_Press_work #[pt b, nv q] w K := by
 refine Tie.press_Press_work ?_; unfold Vcf.press_Press_work
 have hw : wrt z = false := by
   cases hw : wrt z with
   | false => rfl
   | true =>
     unfold stp at hs; rw [if_pos hw, decide_eq_true ho, Bool.or_true] at hs; cases hs
 have hn : ¬ (z.bls = [] ∧ z.inp = []) := by
   intro h; unfold stp at hs; rw [if_neg (by rw [hw]; decide), decide_eq_true h, Bool.or_true] at hs; cases hs
 refine whole_spec H ?_
 by_cases hb : z.bls = []
 · have hi : z.inp ≠ [] := fun e => hn ⟨hb, e⟩
   have hf : z.fl = false := by
     unfold wrt at hw; rw [if_pos hb] at hw; exact hw
   refine r_vfD (fun h => h hb) ?_; obtain ⟨sp, bv, tv, wt, wb, L', H1, back⟩ := Pz_cells H; refine r_nc (r_fo0 (r_ld 0 H1 rfl rfl (q_sne (r_vtD hi ?_)))); refine take_spec H hz hb hi hf fun z' w2 h1 h2 S2 H2 => ?_; exact k z' 1 w2 (Nat.le_refl 1) hq1 (h1.mono (Nat.le_succ g)) h2 S2 H2
 · refine r_vtD hb ?_; obtain ⟨h0, h3, hp⟩ := hd1_ok hz hb; refine r_join0 (fun w' => ∃ z' t, z'.tu = some t ∧ (z.tu = some t ∧ z' = z ∨ t = .sorts ∧ z' = { z with tu := some .sorts }) ∧ Same w w' ∧ Holds w' (PzR b z' :: L)) ?_ ?_
   rotate_left
   · cases ht : z.tu with
     | none =>
       obtain ⟨sp, bv, wt, wb, H1⟩ := Pz_openN ht H; refine r_nc (r_fo0 (r_ld 0 H1 rfl rfl (r_bnNT (r_vt ?_)))); refine r_nc (r_fo0 (r_ld 0 H1 rfl rfl ?_)); refine len_first hb H1 ?_; refine TuNew_spec H1 h0 (by omega) fun tb w2 S2 H2 => ?_; refine r_ex20 (r_ex21 ?_); refine r_nc (r_fo0 (r_st 1 H2 rfl (by simp [cellsPz]) rfl fun w3 S3 H3 => ?_)); refine r_ke ⟨{ z with tu := some .sorts }, .sorts, rfl, .inr ⟨rfl, rfl⟩, S2.trans S3, ?_⟩; refine Pz_closeS (z := { z with tu := some .sorts }) (t := .sorts) (sp := sp) (tb := tb) (wt := wt) (wb := wb) (bv := bv) rfl ?_; have h_ := Holds.ord 6 [1, 2, 3, 4, 5, 0] H3 rfl; exact h_
     | some t =>
       obtain ⟨sp, bv, tb, wt, wb, H1⟩ := Pz_openS ht H; refine r_nc (r_fo0 (r_ld 0 H1 rfl rfl (r_bnSF (r_vf ?_)))); exact r_ke ⟨z, t, ht, .inl ⟨rfl, rfl⟩, .refl _, H⟩
   rintro _ w2 ⟨z', t, ht, hzt, S2, H2⟩; obtain ⟨sp, bv, tb, wt, wb, H3⟩ := Pz_openS ht H2
   have hh : hd1 z' = hd1 z := by rcases hzt with ⟨_, rfl⟩ | ⟨_, rfl⟩ <;> rfl
   rw [hh] at H3; refine r_nc (r_fo0 (r_ld 0 H3 rfl rfl ?_)); refine TuDone_spec h0 (by have h_ := Holds.front H3 5 rfl; exact h_) fun w3 S3 H4 => ?_
   have H5 : Holds w3 (PzB b z' sp bv (pt tb) wt wb ++ (TuR tb (hd1 z) t :: L)) := by have h_ := Holds.ord 6 [1, 2, 3, 4, 5, 0] H4 rfl; exact h_
   cases hd : t.done (hd1 z) with
   | false =>
     refine r_notF (r_vt (r_nc (r_fo0 (r_ld 0 H5 rfl rfl ?_)))); refine TuStep_spec H4 h0 (by omega) hd hq1 hq fun t' r w4 hr1 hr2 S4 H6 => ?_; refine k { z' with tu := some t' } r w4 hr1 hr2 ?_ ?_ (S2.trans (S3.trans S4)) ?_
     · have h1 : PzOk { z with tu := some t' } (g + r) := ⟨hz.wi, hz.ip, hz.rm, hz.bl, hz.ln, fun _ => hb, hz.pd, hz.p0, hz.tt, hz.bi, hz.tk, by
         have := hz.gh; show 2 * z.cnt + 1 ≤ g + r
         omega, Nat.le_trans hz.gl (Nat.le_add_right _ _), hz.fe⟩
       rcases hzt with ⟨_, rfl⟩ | ⟨_, rfl⟩ <;> exact h1
     · rcases hzt with ⟨_, rfl⟩ | ⟨_, rfl⟩ <;> exact ⟨rfl, rfl, rfl⟩
     · refine Pz_closeS (z := { z' with tu := some t' }) (t := t') (sp := sp) (tb := tb) (wt := wt) (wb := wb) (bv := bv) rfl ?_; have e : hd1 { z' with tu := some t' } = hd1 z := hh; rw [e]; have h_ := Holds.ord 6 [1, 2, 3, 4, 5, 0] H6 rfl; exact h_
   | true =>
     have hz' : z' = z ∧ z.tu = some t := by
       rcases hzt with ⟨h1, h2⟩ | ⟨rfl, _⟩
       · exact ⟨h2, h1⟩
       · cases hd
     obtain ⟨rfl, ht'⟩ := hz'; refine r_notT (r_vf ?_)
     have hp1 : z'.paid + 1 ≠ (hd1 z').length := by
       intro e; unfold wrt tuD at hw; rw [if_neg hb, ht'] at hw; simp only [hd, Bool.true_and] at hw; rw [decide_eq_true e] at hw; cases hw
     refine pay_spec (Pz_closeS ht H5) hz hb (by omega) fun w4 h1 S4 H6 => ?_; exact k _ 1 w4 (Nat.le_refl 1) hq1 (h1.mono (Nat.le_succ g)) ⟨rfl, rfl, rfl⟩ (S2.trans (S3.trans S4)) H6
theorem Step_spec {z : Pz} {g q : Nat} (H : Holds w (PzR b z :: L)) (hz : PzOk z g) (ho : z.out ≠ []) (hd : z.dn = false) (hq : q ≤ 1000000) (hg : g ≤ 1000000000000)
   (k : ∀ z' m w', m ≤ q → PzOk z' (g + m) → z'.out = z.out → z'.dn = false → Same w w' → Holds w' (PzR b z' :: L) → K (nv m) w') : Cl Tryz.prog F.press_Press_Step #[pt b, nv q] w K := by
 refine Tie.press_Press_Step ?_; unfold Vcf.press_Press_Step; have hgl := hz.gl; refine r_loop1n (fun j x w' => ∃ m z', j = q - m ∧ m ≤ q ∧ x = nv m ∧ PzOk z' (g + m) ∧ Kp z z' ∧ Same w w' ∧ Holds w' (PzR b z' :: L)) q ⟨0, z, rfl, Nat.zero_le _, rfl, hz, .refl z, .refl _, H⟩ ?_; clear H hz; rintro _ j _ w1 _ ⟨m, z1, rfl, hm, rfl, hz, hk, S1, H1⟩ hgo; refine r_join1 (fun x w' => ∃ c : Bool, x = .bool c ∧ (c = true → m < q ∧ stp z1 = false) ∧ Same w w' ∧ Holds w' (PzR b z1 :: L)) ?_ ?_
 · rintro _ _ w2 ⟨c, rfl, hc, S2, H2⟩
   cases c with
   | true =>
     obtain ⟨hlt, hst⟩ := hc rfl; refine r_vt (r_sub (by omega) (by omega) ?_); rw [show (q : Int) - (m : Int) = ((q - m : Nat) : Int) by omega]; refine work_spec H2 hz hst (by rw [hk.1]; exact ho) (by omega) (by omega) fun z' r w3 h1 h2 h3 h4 S3 H3 => ?_; refine r_addN (by omega) (r_ke (hgo (q - (m + r)) _ _ (by omega) ⟨m + r, z', rfl, by omega, rfl, ?_, ⟨h4.1.trans hk.1, h4.2.1.trans hk.2.1, h4.2.2.trans hk.2.2⟩, S2.trans S3, H3⟩)); rw [← Nat.add_assoc]; exact h3
   | false =>
     refine r_vf (r_bnST (r_vt ?_)); obtain ⟨sp, bv, tv, wt, wb, L', H3, back⟩ := Pz_cells H2; have hst := hk.2.2; refine r_nc (r_fo0 (r_ld 0 H3 rfl rfl (r_addN (by omega) ?_))); refine r_nc (r_fo0 (r_st 0 H3 rfl (by simp [cellsPz]) rfl fun w4 S4 H4 => ?_)); refine k { z1 with st := z1.st + m } m w4 hm ⟨hz.wi, hz.ip, hz.rm, hz.bl, hz.ln, hz.tn, hz.pd, hz.p0, hz.tt, hz.bi, hz.tk, hz.gh, ?_, hz.fe⟩ hk.1 (hk.2.1.trans hd) (S2.trans S4) (back { z1 with st := z1.st + m } w4 bv rfl (fun _ => rfl) H4); show z1.st + m ≤ g + m; omega
 · refine r_lss (r_ifD (fun h => ?_) fun h => ?_)
   · refine Stopped_spec H1 hz fun w2 S2 H2 => r_not (r_ke ⟨!stp z1, rfl, fun e => ⟨by omega, by simpa using e⟩, S1.trans S2, H2⟩)
   · exact r_ke ⟨false, rfl, (fun e => by cases e), S1, H1⟩
end P23
namespace K24
open Go.M01 Go.Mb Go.Mk Go.M02 Go.M03 Go.Q24 P20
variable {w : World} {L : List HProp} {K : Value → World → Prop} {b : Nat}
theorem bend_frm {b b' : BS} {k n : Nat} (h : bend b k = .ok b' n) (hb : b.done = false) (hd : b'.done = true) : b'.frm < b'.last.length := by
 unfold bend at h; split at h
 · cases h; rw [hb] at hd; cases hd
 · split at h
   · cases h; rw [hb] at hd; cases hd
   · split at h
     · cases h
     · cases h; show b.frm < b.last.length; omega
theorem bstep_frm {b b' : BS} {l : List Bool} {n : Nat} (h : bstep b l = .ok b' n) (hb : b.done = false) (hd : b'.done = true) : b'.frm < b'.last.length := by
 unfold bstep at h; split at h
 · unfold bhead at h; split at h
   · cases h
   · split at h
     · cases h
     · exact bend_frm h hb hd
 · split at h
   · unfold buse at h; split at h
     · cases h
     · cases h
     · exact bend_frm h hb hd
   · split at h
     · exact bend_frm h hb hd
     · unfold bsym at h; split at h
       · cases h
       · cases h
       · exact bend_frm h hb hd
       · unfold btold at h; split at h
         · cases h
         · exact bend_frm h hb hd
theorem ustep_frm {u u' : US} {l : List Bool} {n : Nat} (hu : u.Ok) (h : ustep u l = .ok (u', 1) n) : u'.frm < u'.last.length := by
 unfold ustep at h; split at h
 · unfold uletter at h
   repeat' split at h
   all_goals cases h
 · split at h
   · unfold umagic at h
     repeat' split at h
     all_goals cases h
   · split at h
     · unfold ubody at h; split at h
       · cases h
       · rename_i s hs; have hsd := (hu.blk s hs).2.2.1; unfold uwith at h; split at h
         · cases h
         · cases h
         · rename_i s' k hb; split at h
           · rename_i hd; cases h; exact bstep_frm hb hsd hd
           · cases h
     · unfold usum at h
       repeat' split at h
       all_goals cases h
abbrev tX : Nat := 89
abbrev tOp : Nat := 283
abbrev tUn : Nat := 306
structure Opn where
 last : List UInt8
 org : Nat
 sum : Nat
 s : Nat
 row : UInt8 × Nat
 cs : Nat
structure Opn.Ok (o : Opn) : Prop where
 og : o.org < o.last.length
 ln : o.last.length ≤ 900000
 sm : o.sum < 4294967296
 st : o.s ≤ 3 * o.last.length
 rw : o.row.2 ≤ 4
def OpL (q : Nat) (o : Opn) (ib pb sb : Nat) : List HProp := [blk q tOp [S_ o.last, nv o.org, uv o.sum, pt ib, pt pb, pt sb], U18.InvR ib ⟨o.last.toArray⟩ o.org o.s (o.s - 2 * o.last.length), blk pb tUn (Fpc o.row), R3b.SumR sb o.cs]
def OpR (q : Nat) (o : Opn) : HProp := fun h => ∃ ib pb sb, o.Ok ∧ Sat (OpL q o ib pb sb) h
theorem OpR_open {q : Nat} {o : Opn} (H : Holds w (OpR q o :: L)) : ∃ ib pb sb, o.Ok ∧ Holds w (OpL q o ib pb sb ++ L) := by
 obtain ⟨ib, H⟩ := Holds.ex H; obtain ⟨pb, H⟩ := Holds.ex H; obtain ⟨sb, H⟩ := Holds.ex H; obtain ⟨h, H⟩ := Holds.pure H; exact ⟨ib, pb, sb, h, Holds.unpack H⟩
theorem OpR_close {q ib pb sb : Nat} {o : Opn} (h : o.Ok) (H : Holds w (OpL q o ib pb sb ++ L)) : Holds w (OpR q o :: L) :=
 Holds.imp (Holds.pack H) fun g hg => ⟨ib, pb, sb, h, hg⟩
theorem szb (l : List UInt8) : (⟨l.toArray⟩ : ByteArray).size = l.length := by simp [ByteArray.size]
theorem Wants_spec {x : UInt8 × Nat} (H : Holds w (blk b tUn (Fpc x) :: L)) (k : K (.bool (decide (x.2 = 4))) w) : Cl Tryz.prog F.feed_Unpacker_Wants #[pt b] w K := by
 refine Tie.feed_Unpacker_Wants ?_; unfold Vcf.feed_Unpacker_Wants; refine r_bnST (r_vt (r_nc (r_fo0 (r_fo0 (r_ld 0 H rfl rfl (r_eql ?_)))))); rw [show (((x.2 : Nat) : Int) == 4) = decide (x.2 = 4) from by rw [Bool.eq_iff_iff, beq_iff_eq, decide_eq_true_iff]; omega]; exact k
theorem UnPut_spec {x : UInt8 × Nat} {c : UInt8} (H : Holds w (blk b tUn (Fpc x) :: L)) (hx : x.2 ≤ 4)
   (k : ∀ (t : List UInt8) (e : Int) y w', t.length ≤ 251 → y.2 ≤ 4 → Same w w' → Holds w' (blk b tUn (Fpc y) :: L) → K (.tuple #[S_ t, iv e]) w') : Cl Tryz.prog F.feed_Unpacker_Put #[pt b, bv c] w K := by
 refine Tie.feed_Unpacker_Put ?_; unfold Vcf.feed_Unpacker_Put; refine r_bnSF (r_vf ?_); refine Wants_spec H (r_ifD (fun h4 => ?_) fun h4 => ?_)
 · refine r_gtr (r_ifD (fun h => ?_) fun h => ?_)
   · exact k [] 25 x w (Nat.zero_le _) hx (.refl _) H
   · have hc : c.toNat ≤ 251 := by omega
     refine r_nc (r_fo0 (r_fo0 (r_ld 0 H rfl rfl ?_))); refine q_str H x.1 fun w2 S2 H2 => ?_; refine r_ci64 (by omega) (by omega) ?_; refine P20.rep_ok (n := c.toNat) H2 (by omega) fun w3 S3 H3 => ?_; refine r_bd (v := .agg #[.int .u8 0, iv 0]) (by kernel_rfl) ?_; refine r_nc (r_fo0 ?_); refine r_stA 0 H3 (vs := [.int .u8 0, iv 0]) rfl (Nat.le_refl 2) rfl rfl fun w4 S4 H4 => ?_; exact k (List.replicate c.toNat x.1) 0 (0, 0) w4 (by rw [List.length_replicate]; exact hc) (by decide) (S2.trans (S3.trans S4)) H4
 · refine r_join1 (fun y w' => w = w' ∧ ∃ d : Bool, y = .bool d) ?_ ?_
   · rintro _ _ _ ⟨rfl, d, rfl⟩
     cases d with
     | true =>
       refine r_vt (r_nc (r_fo0 (r_fo0 (r_ld 0 H rfl rfl (r_add1N (by omega) ?_))))); refine r_nc (r_fo0 (r_fo0 (r_st 0 H rfl (by simp [Fpc]) rfl fun w2 S2 H2 => ?_))); replace H2 : Holds w2 (blk b tUn (Fpc (x.1, x.2 + 1)) :: L) := H2; refine q_str H2 c fun w3 S3 H3 => ?_; exact k [c] 0 (x.1, x.2 + 1) w3 (by simp) (by show x.2 + 1 ≤ 4; omega) (S2.trans S3) H3
     | false =>
       refine r_vf ?_; refine r_bd (v := .agg #[bv c, iv 1]) (by kernel_rfl) ?_; refine r_nc (r_fo0 ?_); refine r_stA 0 H (vs := [bv c, iv 1]) rfl (Nat.le_refl 2) rfl rfl fun w2 S2 H2 => ?_; replace H2 : Holds w2 (blk b tUn (Fpc (c, 1)) :: L) := H2; refine q_str H2 c fun w3 S3 H3 => ?_; exact k [c] 0 (c, 1) w3 (by simp) (by show 1 ≤ 4; decide) (S2.trans S3) H3
   · refine r_nc (r_fo0 (r_fo0 (r_ld 0 H rfl rfl (r_gtr (r_ifD (fun h => ?_) fun h => ?_)))))
     · refine r_nc (r_fo0 (r_fo0 (r_ld 0 H rfl rfl (r_eql ?_)))); exact r_ke ⟨rfl, _, rfl⟩
     · exact r_ke ⟨rfl, false, rfl⟩
theorem UnEnd_spec {x : UInt8 × Nat} (H : Holds w (blk b tUn (Fpc x) :: L)) (hx : x.2 ≤ 4)
   (k : ∀ (e : Int) y w', y.2 ≤ 4 → Same w w' → Holds w' (blk b tUn (Fpc y) :: L) → K (iv e) w') : Cl Tryz.prog F.feed_Unpacker_End #[pt b] w K := by
 refine Tie.feed_Unpacker_End ?_; unfold Vcf.feed_Unpacker_End; refine r_bnSF (r_vf ?_); refine Wants_spec H (r_ifD (fun h4 => ?_) fun h4 => ?_)
 · exact k 24 x w hx (.refl _) H
 · refine r_bd (v := .agg #[.int .u8 0, iv 0]) (by kernel_rfl) ?_; refine r_nc (r_fo0 ?_); refine r_stA 0 H (vs := [.int .u8 0, iv 0]) rfl (Nat.le_refl 2) rfl rfl fun w4 S4 H4 => ?_; exact k 0 (0, 0) w4 (by decide) S4 H4
theorem NewUn_spec (H : Holds w L) (k : ∀ b w', Same w w' → Holds w' (blk b tUn (Fpc (0, 0)) :: L) → K (pt b) w') : Cl Tryz.prog F.feed_NewUnpacker #[] w K := by
 refine Tie.feed_NewUnpacker ?_; unfold Vcf.feed_NewUnpacker; refine r_bd (v := .agg #[.int .u8 0, iv 0]) (by kernel_rfl) ?_; refine r_new H fun b w2 S2 H2 => ?_; exact k b w2 S2 H2
theorem SumText_spec {s : Nat} {t : List UInt8} (H : Holds w (R3b.SumR b s :: L)) (ht : t.length ≤ 1000000000) (k : ∀ s' w', Same w w' → Holds w' (R3b.SumR b s' :: L) → K (.tuple #[]) w') : Cl Tryz.prog F.crc_Sum_Text #[pt b, S_ t] w K := by
 refine Tie.crc_Sum_Text ?_; unfold Vcf.crc_Sum_Text; have hs : (⟨t.toArray⟩ : ByteArray).size = t.length := szb t
 repeat (refine r_lns ?_)
 rw [hs]; refine r_loop1 (fun x w' => ∃ (i s' : Nat), i ≤ t.length ∧ x = nv i ∧ Same w w' ∧ Holds w' (R3b.SumR b s' :: L)) (fun x _ => t.length - (RowKit.intOf x).toNat) ⟨0, s, by omega, rfl, .refl _, H⟩ ?_; clear H; rintro _ _ w2 ⟨i, s', hi, rfl, S, H⟩
 repeat (refine r_lss ?_)
 refine r_ifD (fun h => ?_) fun h => ?_
 · have hlt : i < t.length := by omega
   repeat (refine r_ixsN (by omega) ?_)
   refine R3b.Put_spec (c := t.getD i 0) H fun w3 S3 H3 => ?_
   repeat (first | refine r_ke ?_ | (refine r_add1N (by omega) ?_))
   refine ⟨⟨i + 1, _, by omega, rfl, S.trans S3, H3⟩, ?_⟩; simp [nv, RowKit.intOf]; omega
 · exact k s' w2 S H
theorem SumValue_spec {s : Nat} (H : Holds w (R3b.SumR b s :: L)) (k : ∀ v, K (.int .u32 v) w) : Cl Tryz.prog F.crc_Sum_Value #[pt b] w K := by
 refine Tie.crc_Sum_Value ?_; unfold Vcf.crc_Sum_Value; obtain ⟨hs, H⟩ := R3b.SumR_open H; refine r_bnSF (r_vf (r_nc (r_fo0 (r_ld 0 H rfl R3b.sm256 ?_)))); exact r_upxU32 hs (k _)
theorem opnEnd_spec {q ib pb sb : Nat} {o : Opn} (H : Holds w (OpL q o ib pb sb ++ L)) (ho : o.Ok)
   (k : ∀ (e : Int) y w', y.2 ≤ 4 → Same w w' → Holds w' (OpL q { o with row := y } ib pb sb ++ L) → K (iv e) w') : Cl Tryz.prog F.unpress_opening_end #[pt q] w K := by
 refine Tie.unpress_opening_end ?_; unfold Vcf.unpress_opening_end; have hl := ho.ln; have hsz := szb o.last; refine r_nc (r_fo0 (r_ld 0 H rfl rfl ?_)); refine U18.Done_spec (by have h_ := Holds.front H 1 rfl; exact h_) (by rw [hsz]; omega) fun w2 S2 H2 => ?_
 have H3 : Holds w2 (OpL q o ib pb sb ++ L) := by have h_ := Holds.ord 4 [1, 0, 2, 3] H2 rfl; exact h_
 refine r_not ?_
 cases hc : ((o.s : Int) == 3 * (((⟨o.last.toArray⟩ : ByteArray).size : Nat) : Int)) with
 | false => exact r_vt (k 0 o.row w2 ho.rw S2 H3)
 | true =>
   refine r_vf (r_nc (r_fo0 (r_ld 0 H3 rfl rfl ?_))); refine UnEnd_spec (by have h_ := Holds.front H3 2 rfl; exact h_) ho.rw fun e y w4 hy S4 H4 => ?_
   have H5 : Holds w4 (OpL q { o with row := y } ib pb sb ++ L) := by have h_ := Holds.ord 4 [1, 2, 0, 3] H4 rfl; exact h_
   refine r_neq ?_
   cases hc2 : (e != 0) with
   | true => exact r_vt (k 25 y w4 hy (S2.trans S4) H5)
   | false =>
     refine r_vf (r_dr H5 fun w5 S5 H6 => ?_); refine r_nc (r_fo0 (r_ld 0 H6 rfl rfl ?_)); refine SumValue_spec (by have h_ := Holds.front H6 3 rfl; exact h_) fun v => ?_; refine r_nc (r_fo0 (r_fo0 (r_ld 0 H6 rfl rfl ?_))); refine r_rk (r_ld 0 H6 rfl rfl rfl) ?_; refine r_neq ?_
     cases (v != ((o.sum : Nat) : Int)) with
     | true => exact r_vt (k 21 y w5 hy (S2.trans (S4.trans S5)) H6)
     | false => exact r_vf (k 0 y w5 hy (S2.trans (S4.trans S5)) H6)
theorem opnStep_spec {q ib pb sb : Nat} {o : Opn} (H : Holds w (OpL q o ib pb sb ++ L)) (ho : o.Ok) (hs : o.s < 3 * o.last.length)
   (k : ∀ (t : List UInt8) (e : Int) (o' : Opn) w', t.length ≤ 251 → o'.Ok → o'.last = o.last → o'.s = o.s + 1 → Same w w' → Holds w' (OpL q o' ib pb sb ++ L) → K (.tuple #[S_ t, iv e]) w') : Cl Tryz.prog F.unpress_opening_step #[pt q] w K := by
 refine Tie.unpress_opening_step ?_; unfold Vcf.unpress_opening_step; have hl := ho.ln; have hg := ho.og; have hsz := szb o.last
 have hdl : (⟨o.last.toArray⟩ : ByteArray).data.toList = o.last := by simp
 refine r_nc (r_fo0 (r_ld 0 H rfl rfl ?_)); refine U18.Step_spec (budget := 1) (by have h_ := Holds.front H 1 rfl; exact h_) (by rw [hsz]; omega) (by rw [hsz]; omega) (by rw [hsz]; omega) (by rw [hsz]; omega) fun w2 S2 H2 => ?_
 have e1 : o.s + min (1 : Int).toNat (3 * (⟨o.last.toArray⟩ : ByteArray).size - o.s) = o.s + 1 := by
   rw [hsz]; show o.s + min 1 _ = _; omega
 rw [e1] at H2
 have H3 : Holds w2 (blk q tOp [S_ o.last, nv o.org, uv o.sum, pt ib, pt pb, pt sb] :: U18.InvR ib ⟨o.last.toArray⟩ o.org (o.s + 1) (o.s - 2 * o.last.length) :: blk pb tUn (Fpc o.row) :: R3b.SumR sb o.cs :: L) := by have h_ := Holds.ord 4 [1, 0, 2, 3] H2 rfl; exact h_
 refine r_nc (r_fo0 (r_ld 0 H3 rfl rfl ?_)); refine U18.Take_spec (by have h_ := Holds.front H3 1 rfl; exact h_) fun w3 S3 H4 => ?_; rw [hsz] at H4; have hok : ∀ y c, y.2 ≤ 4 → (⟨o.last, o.org, o.sum, o.s + 1, y, c⟩ : Opn).Ok := fun y c hy => ⟨hg, hl, ho.sm, hs, hy⟩
 have H5 : ∀ {w3 : World}, Holds w3 (U18.InvR ib ⟨o.last.toArray⟩ o.org (o.s + 1) (o.s + 1 - 2 * o.last.length) :: blk q tOp [S_ o.last, nv o.org, uv o.sum, pt ib, pt pb, pt sb] :: blk pb tUn (Fpc o.row) :: R3b.SumR sb o.cs :: L) → Holds w3 (OpL q ⟨o.last, o.org, o.sum, o.s + 1, o.row, o.cs⟩ ib pb sb ++ L) := fun h => by
   have h_ := Holds.ord 4 [1, 0, 2, 3] h rfl; exact h_
 replace H5 := H5 H4; generalize hta : (Go.M18.outK _ _ _).drop _ = ta; refine r_seq0 ?_
 by_cases h0 : ta = []
 · subst h0; refine r_vtD (by show ([] : List UInt8).toArray.size = 0; rfl) ?_; exact k [] 0 ⟨o.last, o.org, o.sum, o.s + 1, o.row, o.cs⟩ w3 (Nat.zero_le _) (hok _ _ ho.rw) rfl rfl (S2.trans S3) H5
 · have hpos := List.length_pos_iff.2 h0; refine r_vfD (by rw [szb]; omega) ?_; refine r_dr H5 fun w4 S4 H6 => ?_; refine r_nc (r_fo0 (r_ld 0 H6 rfl rfl ?_)); refine q_ix (m := 0) hpos ?_; refine UnPut_spec (by have h_ := Holds.front H6 2 rfl; exact h_) ho.rw fun t e y w5 ht hy S5 H7 => ?_
   have H8 : Holds w5 (OpL q ⟨o.last, o.org, o.sum, o.s + 1, y, o.cs⟩ ib pb sb ++ L) := by have h_ := Holds.ord 4 [1, 2, 0, 3] H7 rfl; exact h_
   refine r_ex20 (r_ex21 (r_neq ?_))
   cases hc : (e != 0) with
   | true => exact r_vt (k [] e ⟨o.last, o.org, o.sum, o.s + 1, y, o.cs⟩ w5 (Nat.zero_le _) (hok _ _ hy) rfl rfl (S2.trans (S3.trans (S4.trans S5))) H8)
   | false =>
     refine r_vf (r_nc (r_fo0 (r_ld 0 H8 rfl rfl ?_))); refine SumText_spec (by have h_ := Holds.front H8 3 rfl; exact h_) (by omega) fun c w6 S6 H9 => ?_
     have Ha : Holds w6 (OpL q ⟨o.last, o.org, o.sum, o.s + 1, y, c⟩ ib pb sb ++ L) := by have h_ := Holds.ord 4 [1, 2, 3, 0] H9 rfl; exact h_
     refine opnEnd_spec Ha (hok _ _ hy) fun e2 y2 w7 hy2 S7 Hb => ?_; exact k t e2 ⟨o.last, o.org, o.sum, o.s + 1, y2, c⟩ w7 ht (hok _ _ hy2) rfl rfl (S2.trans (S3.trans (S4.trans (S5.trans (S6.trans S7))))) Hb
theorem openingOf_spec {last : List UInt8} {org sum : Nat} (H : Holds w L) (h1 : org < last.length) (h2 : last.length ≤ 900000) (h3 : sum < 4294967296)
   (k : ∀ q o w', o.last = last → o.s = 0 → Same w w' → Holds w' (OpR q o :: L) → K (pt q) w') : Cl Tryz.prog F.unpress_openingOf #[.agg (B20.gotV last org sum).toArray] w K := by
 refine Tie.unpress_openingOf ?_; unfold Vcf.unpress_openingOf; have hsz := szb last; refine r_new H fun gb w1 S1 H1 => ?_; replace H1 : Holds w1 (blk gb B20.tGt (B20.gotV last org sum) :: L) := H1; refine r_fo0 (r_ld 0 H1 rfl rfl (r_fo0 (r_ld 0 H1 rfl rfl ?_))); refine U18.New_spec H1 (fun h => by omega) (fun h => by omega) (fun _ _ h => by omega) fun og ib w2 ho hlt _ S2 H2 => ?_
 obtain rfl : og = org := by omega
 refine r_ex20 (r_ex21 (r_dr H2 fun w3 S3 H3 => ?_)); refine r_ldA 1 H3 (B20.gotV last og sum) rfl rfl rfl ?_; refine NewUn_spec H3 fun pb w4 S4 H4 => ?_; refine r_rk (r_ldA 2 H4 (B20.gotV last og sum) rfl rfl rfl rfl) ?_; refine R3b.New_spec H4 fun sb w5 S5 H5 => ?_; refine r_rk (r_ldA 3 H5 (B20.gotV last og sum) rfl rfl rfl rfl) ?_; refine r_bd (v := .agg #[S_ last, nv og, uv sum, pt ib, pt pb, pt sb]) (by kernel_rfl) ?_; refine r_new H5 fun q w6 S6 H6 => ?_; refine k q ⟨last, og, sum, 0, (0, 0), 4294967295⟩ w6 rfl rfl (S1.trans (S2.trans (S3.trans (S4.trans (S5.trans S6))))) (OpR_close (ib := ib) (pb := pb) (sb := sb) ⟨h1, h2, h3, Nat.zero_le _, Nat.zero_le _⟩ ?_); have h_ := Holds.ord 5 [0, 3, 2, 1] H6 rfl; rw [show (OpL q ⟨last, og, sum, 0, (0, 0), 4294967295⟩ ib pb sb) = [blk q tOp [S_ last, nv og, uv sum, pt ib, pt pb, pt sb], U18.InvR ib ⟨last.toArray⟩ og 0 (0 - 2 * last.length), blk pb tUn (Fpc (0, 0)), R3b.SumR sb 4294967295] from rfl, Nat.zero_sub]; exact h_
end K24
namespace K24
open Go.M01 Go.Mb Go.Mk Go.M02 Go.M03 Go.Q24 P20
variable {w : World} {L : List HProp} {K : Value → World → Prop} {b : Nat}
structure Xz where
 win : Nat
 en : Bool
 B : List UInt8
 d : Nat
 at_ : Nat
 u : US
 op : Option Opn
 sh : Bool
 out : List UInt8
 dn : Bool
 wr : Int
 st : Nat
structure XzOk (x : Xz) (g f : Nat) : Prop where
 wi : x.win ≤ 1048576
 bl : x.B.length ≤ f
 hd : x.B.length - x.d ≤ x.win
 ou : x.out.length ≤ 4500
 od : x.dn = true → x.op = none
 os : ∀ o, x.op = some o → o.s < 3 * o.last.length
 st : x.st ≤ g
theorem XzOk.mono {x : Xz} {g g' f f' : Nat} (h : XzOk x g f) (hg : g ≤ g') (hf : f ≤ f') : XzOk x g' f' :=
 ⟨h.wi, Nat.le_trans h.bl hf, h.hd, h.ou, h.od, h.os, Nat.le_trans h.st hg⟩
def opV (q : Nat) : Option Opn → Value
 | none => .pointer none
 | some _ => pt q
def cellsX (x : Xz) (rb ub : Nat) (qv ov : Value) : List Value := [nv x.win, nv 4096, .bool x.en, pt rb, pt ub, qv, .bool x.sh, ov, .bool x.dn, iv x.wr, nv x.st]
def opH (q : Nat) : Option Opn → List HProp
 | none => []
 | some o => [OpR q o]
def XzT (x : Xz) (rb ub q : Nat) : List HProp := match x.dn with
 | true => []
 | false => [Rb.RdR rb x.B x.d x.at_, U22.UsR ub x.u] ++ opH q x.op
def XzL (b : Nat) (x : Xz) (rb ub q : Nat) (ov : Value) : List HProp := [blk b tX (cellsX x rb ub (opV q x.op) ov), OB tB ov x.out] ++ XzT x rb ub q
def XzR (b : Nat) (x : Xz) : HProp := fun h => ∃ rb ub q ov, Sat (XzL b x rb ub q ov) h
theorem XzR_open {x : Xz} (H : Holds w (XzR b x :: L)) : ∃ rb ub q ov, Holds w (XzL b x rb ub q ov ++ L) := by
 obtain ⟨rb, H⟩ := Holds.ex H; obtain ⟨ub, H⟩ := Holds.ex H; obtain ⟨q, H⟩ := Holds.ex H; obtain ⟨ov, H⟩ := Holds.ex H; exact ⟨rb, ub, q, ov, Holds.unpack H⟩
theorem XzR_close {x : Xz} {rb ub q : Nat} {ov : Value} (H : Holds w (XzL b x rb ub q ov ++ L)) : Holds w (XzR b x :: L) :=
 Holds.imp (Holds.pack H) fun g hg => ⟨rb, ub, q, ov, hg⟩
def SameT (x x' : Xz) : Prop := x'.dn = x.dn ∧ x'.B = x.B ∧ x'.d = x.d ∧ x'.at_ = x.at_ ∧ x'.u = x.u ∧ x'.op = x.op
theorem Xz_cells {x : Xz} (H : Holds w (XzR b x :: L)) : ∃ rb ub qv ov L', Holds w (blk b tX (cellsX x rb ub qv ov) :: OB tB ov x.out :: L') ∧
   (∀ (x' : Xz) w' ov', SameT x x' → Holds w' (blk b tX (cellsX x' rb ub qv ov') :: OB tB ov' x'.out :: L') → Holds w' (XzR b x' :: L)) ∧ (x.op = none → qv = .pointer none) ∧ (x.op ≠ none → ∃ q, qv = pt q) := by
 obtain ⟨rb, ub, q, ov, H⟩ := XzR_open H; refine ⟨rb, ub, _, ov, XzT x rb ub q ++ L, H, fun x' w' ov' hs H' => ?_, fun e => by rw [e]; rfl, fun e => ?_⟩
 · obtain ⟨h1, h2, h3, h4, h5, h6⟩ := hs
   have e : XzT x' rb ub q = XzT x rb ub q := by
     unfold XzT; rw [h1, h2, h3, h4, h5, h6]
   refine XzR_close (rb := rb) (ub := ub) (q := q) (ov := ov') ?_; unfold XzL; rw [e, h6]; exact H'
 · cases ho : x.op with
   | none => exact absurd ho e
   | some o => exact ⟨q, rfl⟩
theorem Xz_openN {x : Xz} (hd : x.dn = false) (ho : x.op = none) (H : Holds w (XzR b x :: L)) : ∃ rb ub ov, Holds w (blk b tX (cellsX x rb ub (.pointer none) ov) :: OB tB ov x.out :: Rb.RdR rb x.B x.d x.at_ :: U22.UsR ub x.u :: L) := by
 obtain ⟨rb, ub, q, ov, H⟩ := XzR_open H; unfold XzL XzT at H; rw [hd, ho] at H; exact ⟨rb, ub, ov, H⟩
theorem Xz_openS {x : Xz} {o : Opn} (hd : x.dn = false) (ho : x.op = some o) (H : Holds w (XzR b x :: L)) : ∃ rb ub q ov, Holds w (blk b tX (cellsX x rb ub (pt q) ov) :: OB tB ov x.out :: Rb.RdR rb x.B x.d x.at_ :: U22.UsR ub x.u :: OpR q o :: L) := by
 obtain ⟨rb, ub, q, ov, H⟩ := XzR_open H; unfold XzL XzT at H; rw [hd, ho] at H; exact ⟨rb, ub, q, ov, H⟩
theorem Xz_closeN {x : Xz} {rb ub : Nat} {ov : Value} (hd : x.dn = false) (ho : x.op = none) (H : Holds w (blk b tX (cellsX x rb ub (.pointer none) ov) :: OB tB ov x.out :: Rb.RdR rb x.B x.d x.at_ :: U22.UsR ub x.u :: L)) : Holds w (XzR b x :: L) := by
 refine XzR_close (rb := rb) (ub := ub) (q := 0) (ov := ov) ?_; unfold XzL XzT; rw [hd, ho]; exact H
theorem Xz_closeS {x : Xz} {o : Opn} {rb ub q : Nat} {ov : Value} (hd : x.dn = false) (ho : x.op = some o) (H : Holds w (blk b tX (cellsX x rb ub (pt q) ov) :: OB tB ov x.out :: Rb.RdR rb x.B x.d x.at_ :: U22.UsR ub x.u :: OpR q o :: L)) : Holds w (XzR b x :: L) := by
 refine XzR_close (rb := rb) (ub := ub) (q := q) (ov := ov) ?_; unfold XzL XzT; rw [hd, ho]; exact H
theorem Xz_closeD {x : Xz} {rb ub : Nat} {ov : Value} (hd : x.dn = true) (ho : x.op = none) (H : Holds w (blk b tX (cellsX x rb ub (.pointer none) ov) :: OB tB ov x.out :: L)) : Holds w (XzR b x :: L) := by
 refine XzR_close (rb := rb) (ub := ub) (q := 0) (ov := ov) ?_; unfold XzL XzT; rw [hd, ho]; exact H
theorem Done_spec {x : Xz} (H : Holds w (XzR b x :: L)) (k : K (.bool x.dn) w) : Cl Tryz.prog F.unpress_Expander_Done #[pt b] w K := by
 refine Tie.unpress_Expander_Done ?_; unfold Vcf.unpress_Expander_Done; obtain ⟨rb, ub, qv, ov, L', H1, _⟩ := Xz_cells H; exact r_bnST (r_vt (r_nc (r_fo0 (r_ld 0 H1 rfl rfl k))))
theorem Err_spec {x : Xz} (H : Holds w (XzR b x :: L)) (k : K (iv x.wr) w) : Cl Tryz.prog F.unpress_Expander_Err #[pt b] w K := by
 refine Tie.unpress_Expander_Err ?_; unfold Vcf.unpress_Expander_Err; obtain ⟨rb, ub, qv, ov, L', H1, _⟩ := Xz_cells H; exact r_bnSF (r_vf (r_nc (r_fo0 (r_ld 0 H1 rfl rfl k))))
theorem Waiting_spec {x : Xz} (H : Holds w (XzR b x :: L)) (k : K (nv x.out.length) w) : Cl Tryz.prog F.unpress_Expander_Waiting #[pt b] w K := by
 refine Tie.unpress_Expander_Waiting ?_; unfold Vcf.unpress_Expander_Waiting; obtain ⟨rb, ub, qv, ov, L', H1, _⟩ := Xz_cells H; exact r_bnSF (r_vf (r_nc (r_fo0 (r_ld 0 H1 rfl rfl (r_lnOB 1 H1 rfl k)))))
theorem Take_spec {x : Xz} (H : Holds w (XzR b x :: L)) (hl : x.out.length ≤ 1000000) (k : ∀ w', Same w w' → Holds w' (XzR b { x with out := [] } :: L) → K (S_ x.out) w') : Cl Tryz.prog F.unpress_Expander_Take #[pt b, nv x.out.length] w K := by
 refine Tie.unpress_Expander_Take ?_; unfold Vcf.unpress_Expander_Take; obtain ⟨rb, ub, qv, ov, L', H1, back, _⟩ := Xz_cells H; refine r_join1 (fun y w' => w = w' ∧ y = .bool (decide (x.out = []))) ?_ ?_
 rotate_left
 · refine r_bnSF (r_vf (r_lss (r_ke ⟨rfl, congrArg Value.bool ?_⟩))); rw [Bool.eq_iff_iff, decide_eq_true_iff, decide_eq_true_iff]
   constructor
   · intro h; exact List.eq_nil_of_length_eq_zero (by omega)
   · intro h; rw [h]; decide
 rintro _ _ _ ⟨rfl, rfl⟩; refine r_ifD (fun h => ?_) fun h => ?_
 · have := k w (.refl _) (by rw [← h]; exact H); rw [h] at this; exact this
 · refine r_nc (r_fo0 (r_ld 0 H1 rfl rfl (r_lnOB 1 H1 rfl (r_min ?_)))); rw [show min ((x.out.length : Nat) : Int) ((x.out.length : Nat) : Int) = ((x.out.length : Nat) : Int) by omega]; refine r_nc (r_fo0 (r_ld 0 H1 rfl rfl ?_)); refine r_cutO (xs := x.out) (e := tB) 1 H1 rfl (Nat.le_refl _) ?_; rw [List.take_length]; refine r_nc (r_fo0 (r_ld 0 H1 rfl rfl ?_)); refine r_offO (xs := x.out) (e := tB) 1 H1 rfl (Nat.le_refl _) fun v' H2 => ?_; rw [List.drop_length] at H2; refine r_nc (r_fo0 (r_st 0 H2 rfl (by simp [cellsX]) (H2.sgOB 1 rfl) fun w3 S3 H3 => ?_)); exact k w3 S3 (back { x with out := [] } w3 v' ⟨rfl, rfl, rfl, rfl, rfl, rfl⟩ H3)
theorem Feed_spec {x : Xz} {g f : Nat} {s : List UInt8} (H : Holds w (XzR b x :: L)) (hx : XzOk x g f) (hs : s.length ≤ 1000000) (hf : f ≤ 100000000)
   (k : ∀ n x' w', n ≤ s.length → XzOk x' g (f + n) → x'.dn = x.dn → x'.out = x.out → Same w w' → Holds w' (XzR b x' :: L) → K (nv n) w') : Cl Tryz.prog F.unpress_Expander_Feed #[pt b, S_ s] w K := by
 refine Tie.unpress_Expander_Feed ?_; unfold Vcf.unpress_Expander_Feed; obtain ⟨rb, ub, qv, ov, L', H1, _⟩ := Xz_cells H; refine r_join1 (fun y w' => w = w' ∧ y = .bool (x.en || x.dn)) ?_ ?_
 rotate_left
 · refine r_bnSF (r_vf (r_nc (r_fo0 (r_ld 0 H1 rfl rfl ?_))))
   cases x.en with
   | true => exact r_vt (r_ke ⟨rfl, rfl⟩)
   | false => exact r_vf (r_nc (r_fo0 (r_ld 0 H1 rfl rfl (r_ke ⟨rfl, rfl⟩))))
 rintro _ _ _ ⟨rfl, rfl⟩
 cases hc : (x.en || x.dn) with
 | true => exact r_vt (k 0 x w (Nat.zero_le _) hx rfl rfl (.refl _) H)
 | false =>
   obtain ⟨he, hd⟩ := Bool.or_eq_false_iff.1 hc; refine r_vf ?_; have hwi := hx.wi; have hhd := hx.hd; have hbl := hx.bl
   -- whatever stands behind its first two parts
   have go : ∀ (rb ub : Nat) (qv ov : Value) (L2 : List HProp), Holds w (blk b tX (cellsX x rb ub qv ov) :: OB tB ov x.out :: Rb.RdR rb x.B x.d x.at_ :: L2) →
       (∀ (x' : Xz) w', x'.dn = false → x'.op = x.op → x'.u = x.u → x'.d = x.d → x'.at_ = x.at_ → Holds w' (blk b tX (cellsX x' rb ub qv ov) :: OB tB ov x'.out :: Rb.RdR rb x'.B x'.d x'.at_ :: L2) → Holds w' (XzR b x' :: L)) →
       Dr w fun w2 => Lns (S_ s) fun x_2 => Nc (pt b) <| Fo 0 (pt b) fun x_4 => Ld x_4 w2 fun x_5 => Nc (pt b) <| Fo 3 (pt b) fun x_7 => Ld x_7 w2 fun x_8 =>
       Cl Tryz.prog F.bits_Reader_Held #[x_8] w2 fun x_10 w3 => Rk (fun w K => Ld x_4 w fun x_6 => K x_6) x_5 w3 <| Rk (fun w K => Lns (S_ s) fun x_3 => K x_3) x_2 w3 <|
       Bp .sub x_5 x_10 fun x_11 => Bmin Tryz.prog #[3, 3] 3 #[x_2, x_11] w3 fun x_12 => Dr w3 fun w4 => Nc (pt b) <| Fo 3 (pt b) fun x_14 => Ld x_14 w4 fun x_15 =>
       Sst (S_ s) none (some x_12) fun x_17 => Cl Tryz.prog F.bits_Reader_More #[x_15, x_17] w4 fun x_19 w5 => Bp .gtr x_12 (.int .i64 0) fun x_20 =>
       Vif x_20 (Nc (pt b) <| Fo 6 (pt b) fun x_21 => St x_21 (.bool false) w5 fun w6 => K x_12 w6) (K x_12 w5) := by
     intro rb ub qv ov L2 H1 back; refine r_dr H1 fun w2 S2 H2 => ?_; refine q_len (r_nc (r_fo0 (r_ld 0 H2 rfl rfl (r_nc (r_fo0 (r_ld 0 H2 rfl rfl ?_)))))); obtain ⟨hrd, H3⟩ := Rb.RdR_open (by have h_ := Holds.front H2 2 rfl; exact h_); refine V38.readerHeld_spec 0 H3 rfl ?_; rw [szb, List.length_drop]; refine r_rk (r_ld 0 H2 rfl rfl rfl) (r_rk (q_len rfl) ?_); refine r_sub (by omega) (by omega) (r_min ?_); rw [show min (s.length : Int) ((x.win : Int) - ((x.B.length - x.d : Nat) : Int)) = ((min s.length (x.win - (x.B.length - x.d)) : Nat) : Int) by omega]; generalize hn : min s.length (x.win - (x.B.length - x.d)) = n; refine r_dr H2 fun w3 S3 H4 => ?_; refine r_nc (r_fo0 (r_ld 0 H4 rfl rfl (q_T (by omega) ?_))); refine Rb.More_spec (by have h_ := Holds.front H4 2 rfl; exact h_) (by rw [List.length_take]; omega) fun w4 S4 H5 => ?_
     have H6 : Holds w4 (blk b tX (cellsX x rb ub qv ov) :: OB tB ov x.out :: Rb.RdR rb (x.B ++ s.take n) x.d x.at_ :: L2) := by have h_ := Holds.ord 3 [1, 2, 0] H5 rfl; exact h_
     have hx2 : ∀ sh, XzOk { x with B := x.B ++ s.take n, sh := sh } g (f + n) := fun sh => ⟨hx.wi, by show (x.B ++ s.take n).length ≤ f + n; rw [List.length_append, List.length_take]; omega, by show (x.B ++ s.take n).length - x.d ≤ x.win; rw [List.length_append, List.length_take]; omega, hx.ou, hx.od, hx.os, hx.st⟩; refine r_gtr (r_ifD (fun h => ?_) fun h => ?_)
     · refine r_nc (r_fo0 (r_st 0 H6 rfl (by simp [cellsX]) rfl fun w5 S5 H7 => ?_)); exact k n { x with B := x.B ++ s.take n, sh := false } w5 (by omega) (hx2 _) rfl rfl (S2.trans (S3.trans (S4.trans S5))) (back { x with B := x.B ++ s.take n, sh := false } w5 hd rfl rfl rfl rfl H7)
     · exact k n { x with B := x.B ++ s.take n, sh := x.sh } w4 (by omega) (hx2 _) rfl rfl (S2.trans (S3.trans S4)) (back { x with B := x.B ++ s.take n, sh := x.sh } w4 hd rfl rfl rfl rfl H6)
   cases ho : x.op with
   | none =>
     obtain ⟨rb, ub, ov, H2⟩ := Xz_openN hd ho H; refine go rb ub _ ov _ H2 fun x' w' h1 h2 h3 h4 h5 H' => Xz_closeN h1 (h2.trans ho) (by rw [h3]; exact H')
   | some o =>
     obtain ⟨rb, ub, q, ov, H2⟩ := Xz_openS hd ho H; refine go rb ub _ ov _ H2 fun x' w' h1 h2 h3 h4 h5 H' => Xz_closeS h1 (h2.trans ho) (by rw [h3]; exact H')
theorem End_spec {x : Xz} {g f : Nat} (H : Holds w (XzR b x :: L)) (hx : XzOk x g f) (k : ∀ v x' w', XzOk x' g f → x'.dn = x.dn → x'.out = x.out → Same w w' → Holds w' (XzR b x' :: L) → K v w') : Cl Tryz.prog F.unpress_Expander_End #[pt b] w K := by
 refine Tie.unpress_Expander_End ?_; unfold Vcf.unpress_Expander_End; obtain ⟨rb, ub, qv, ov, L', H1, back, _⟩ := Xz_cells H; refine r_join1 (fun y w' => w = w' ∧ y = .bool x.en) ?_ ?_
 rotate_left
 · exact r_bnSF (r_vf (r_nc (r_fo0 (r_ld 0 H1 rfl rfl (r_ke ⟨rfl, rfl⟩)))))
 rintro _ _ _ ⟨rfl, rfl⟩
 cases he : x.en with
 | true => exact r_vt (k _ x w hx rfl rfl (.refl _) H)
 | false =>
   refine r_vf (r_nc (r_fo0 (r_st 0 H1 rfl (by simp [cellsX]) rfl fun w2 S2 H2 => ?_))); refine r_nc (r_fo0 (r_st 0 H2 rfl (by simp [cellsX]) rfl fun w3 S3 H3 => ?_)); exact k _ { x with en := true, sh := false } w3 ⟨hx.wi, hx.bl, hx.hd, hx.ou, hx.od, hx.os, hx.st⟩ rfl rfl (S2.trans S3) (back { x with en := true, sh := false } w3 ov ⟨rfl, rfl, rfl, rfl, rfl, rfl⟩ H3)
def stpX (x : Xz) : Bool := x.dn || (if x.op = none then x.sh else decide (4096 ≤ x.out.length))
theorem Stopped_spec {x : Xz} (H : Holds w (XzR b x :: L)) (k : ∀ w', Same w w' → Holds w' (XzR b x :: L) → K (.bool (stpX x)) w') : Cl Tryz.prog F.unpress_Expander_Stopped #[pt b] w K := by
 refine Tie.unpress_Expander_Stopped ?_; unfold Vcf.unpress_Expander_Stopped; obtain ⟨rb, ub, qv, ov, L', H1, back, hq0, hq1⟩ := Xz_cells H; unfold stpX at k; refine r_join1 (fun y w' => w = w' ∧ y = .bool x.dn) ?_ ?_
 rotate_left
 · exact r_bnSF (r_vf (r_nc (r_fo0 (r_ld 0 H1 rfl rfl (r_ke ⟨rfl, rfl⟩)))))
 rintro _ _ _ ⟨rfl, rfl⟩
 cases hd : x.dn with
 | true =>
   rw [hd] at k; exact r_vt (k w (.refl _) H)
 | false =>
   rw [hd, Bool.false_or] at k; refine r_vf (r_nc (r_fo0 (r_ld 0 H1 rfl rfl ?_)))
   by_cases ho : x.op = none
   · obtain rfl := hq0 ho; rw [if_pos ho] at k; refine r_bnNF (r_vf (r_nc (r_fo0 (r_ld 0 H1 rfl rfl ?_)))); exact k w (.refl _) H
   · obtain ⟨q, rfl⟩ := hq1 ho; rw [if_neg ho] at k; refine r_bnST (r_vt (r_dr H1 fun w2 S2 H2 => ?_)); refine r_nc (r_fo0 (r_ld 0 H2 rfl rfl (r_lnOB 1 H2 rfl (r_nc (r_fo0 (r_ld 0 H2 rfl rfl (r_geq ?_))))))); rw [show decide (((x.out.length : Nat) : Int) ≥ ((4096 : Nat) : Int)) = decide (4096 ≤ x.out.length) from decide_eq_decide.2 ⟨fun h => by omega, fun h => by omega⟩]; exact k w2 S2 (back x w2 ov ⟨rfl, rfl, rfl, rfl, rfl, rfl⟩ H2)
theorem fail_spec {x : Xz} {rb ub : Nat} {qv ov : Value} {e : Int} (H : Holds w (blk b tX (cellsX x rb ub qv ov) :: OB tB ov x.out :: L)) (k : ∀ w', Same w w' → Holds w' (XzR b { x with dn := true, wr := e, op := none } :: L) → K (.tuple #[]) w') : Cl Tryz.prog F.unpress_Expander_fail #[pt b, iv e] w K := by
 refine Tie.unpress_Expander_fail ?_; unfold Vcf.unpress_Expander_fail; refine r_nc (r_fo0 (r_st 0 H rfl (by simp [cellsX]) rfl fun w2 S2 H2 => ?_)); refine r_nc (r_fo0 (r_st 0 H2 rfl (by simp [cellsX]) rfl fun w3 S3 H3 => ?_)); refine r_nc (r_fo0 (r_st 0 H3 rfl (by simp [cellsX]) rfl fun w4 S4 H4 => ?_)); exact k w4 (S2.trans (S3.trans S4)) (Xz_closeD (x := { x with dn := true, wr := e, op := none }) (rb := rb) (ub := ub) (ov := ov) rfl rfl H4)
theorem XzOk.fail {x : Xz} {g f : Nat} {e : Int} (h : XzOk x g f) : XzOk { x with dn := true, wr := e, op := none } (g + 1) f :=
 ⟨h.wi, h.bl, h.hd, h.ou, fun _ => rfl, (fun o ho => by cases ho), Nat.le_succ_of_le h.st⟩
theorem open_spec {x : Xz} {o : Opn} {g f : Nat} (H : Holds w (XzR b x :: L)) (hx : XzOk x g f) (hd : x.dn = false) (ho : x.op = some o) (hl : x.out.length < 4096)
   (k : ∀ x' w', XzOk x' (g + 1) f → x'.out.length ≤ x.out.length + 251 → x'.st = x.st → Same w w' → Holds w' (XzR b x' :: L) → K (.tuple #[]) w') : Cl Tryz.prog F.unpress_Expander_open #[pt b] w K := by
 refine Tie.unpress_Expander_open ?_; unfold Vcf.unpress_Expander_open; obtain ⟨rb, ub, q, ov, H1⟩ := Xz_openS hd ho H; refine r_nc (r_fo0 (r_ld 0 H1 rfl rfl ?_)); obtain ⟨ib, pb, sb, hok, H2⟩ := OpR_open (by have h_ := Holds.front H1 4 rfl; exact h_); refine opnStep_spec H2 hok (hx.os o ho) fun t e o' w3 ht ho' hla hs' S3 H3 => ?_; have hln := ho'.ln; have hsz := szb o'.last
 have H4 : Holds w3 (OB tB ov x.out :: blk b tX (cellsX x rb ub (pt q) ov) :: Rb.RdR rb x.B x.d x.at_ :: U22.UsR ub x.u :: (OpL q o' ib pb sb ++ L)) := by
   have h_ := Holds.ord 8 [5, 4, 6, 7, 0, 1, 2, 3] H3 rfl; exact h_
 refine r_ex20 (r_ex21 ?_); refine r_nc (r_fo0 (r_ld 1 H4 rfl rfl ?_)); refine r_apStrO (xs := x.out) (ys := t) (e := tB) (by kernel_rfl) H4 0 rfl (by omega) fun v' w4 S4 H5 => ?_; refine r_nc (r_fo0 (r_st 1 H5 rfl (by simp [cellsX]) (H5.sgOB 0 rfl) fun w5 S5 H6 => ?_)); have hx2 : XzOk { x with out := x.out ++ t } g f := ⟨hx.wi, hx.bl, hx.hd, by show (x.out ++ t).length ≤ 4500; rw [List.length_append]; omega, hx.od, hx.os, hx.st⟩; have H7 : Holds w5 (blk b tX (cellsX { x with out := x.out ++ t } rb ub (pt q) v') :: OB tB v' (x.out ++ t) :: Rb.RdR rb x.B x.d x.at_ :: U22.UsR ub x.u :: (OpL q o' ib pb sb ++ L)) := H6.swap
 have hol : (x.out ++ t).length ≤ x.out.length + 251 := by rw [List.length_append]; omega
 refine r_neq ?_
 cases hc : (e != 0) with
 | true =>
   refine r_vt ?_
   have H8 : Holds w5 (blk b tX (cellsX { x with out := x.out ++ t } rb ub (pt q) v') :: OB tB v' (x.out ++ t) :: L) := by
     have h_ := Holds.dropAt (Holds.dropAt (Holds.dropAt (Holds.dropAt (Holds.dropAt (Holds.dropAt H7 2) 2) 2) 2) 2) 2; exact h_
   refine fail_spec (x := { x with out := x.out ++ t }) H8 fun w6 S6 H9 => ?_; exact k _ w6 hx2.fail hol rfl (S3.trans (S4.trans (S5.trans S6))) H9
 | false =>
   refine r_vf (r_nc (r_fo0 (r_ld 0 H7 rfl rfl (r_nc (r_fo0 (r_ld 4 H7 rfl rfl ?_))))))
   have H8 : Holds w5 (U18.InvR ib ⟨o'.last.toArray⟩ o'.org o'.s (o'.s - 2 * o'.last.length) :: blk b tX (cellsX { x with out := x.out ++ t } rb ub (pt q) v') :: OB tB v' (x.out ++ t) :: Rb.RdR rb x.B x.d x.at_ :: U22.UsR ub x.u :: blk q tOp [S_ o'.last, nv o'.org, uv o'.sum, pt ib, pt pb, pt sb] :: blk pb tUn (Fpc o'.row) :: R3b.SumR sb o'.cs :: L) := by
     have h_ := Holds.ord 8 [5, 0, 1, 2, 3, 4, 6, 7] H7 rfl; exact h_
   refine U18.Done_spec H8 (by rw [hsz]; omega) fun w6 S6 H9 => ?_; rw [hsz]
   have H10 : Holds w6 (blk b tX (cellsX { x with out := x.out ++ t } rb ub (pt q) v') :: OB tB v' (x.out ++ t) :: Rb.RdR rb x.B x.d x.at_ :: U22.UsR ub x.u :: (OpL q o' ib pb sb ++ L)) := by
     have h_ := Holds.ord 8 [1, 2, 3, 4, 5, 0, 6, 7] H9 rfl; exact h_
   have S := S3.trans (S4.trans (S5.trans S6))
   cases hc2 : ((o'.s : Int) == 3 * ((o'.last.length : Nat) : Int)) with
   | true =>
     refine r_vt (r_nc (r_fo0 (r_st 0 H10 rfl (by simp [cellsX]) rfl fun w7 S7 H11 => ?_)))
     have H12 : Holds w7 (blk b tX (cellsX { x with out := x.out ++ t } rb ub (.pointer none) v') :: OB tB v' (x.out ++ t) :: Rb.RdR rb x.B x.d x.at_ :: U22.UsR ub x.u :: L) := by
       have h_ := Holds.dropAt (Holds.dropAt (Holds.dropAt (Holds.dropAt H11 4) 4) 4) 4; exact h_
     refine k { x with out := x.out ++ t, op := none } w7 ⟨hx.wi, hx.bl, hx.hd, hx2.ou, fun _ => rfl, (fun o ho => by cases ho), Nat.le_succ_of_le hx.st⟩ hol rfl (S.trans S7) (Xz_closeN (x := { x with out := x.out ++ t, op := none }) hd rfl H12)
   | false =>
     have hne : o'.s ≠ 3 * o'.last.length := by
       intro h; rw [beq_eq_false_iff_ne] at hc2; exact hc2 (by omega)
     refine r_vf ?_
     have H11 : Holds w6 (blk b tX (cellsX { x with out := x.out ++ t } rb ub (pt q) v') :: OB tB v' (x.out ++ t) :: Rb.RdR rb x.B x.d x.at_ :: U22.UsR ub x.u :: OpR q o' :: L) := by
       have h1 : Holds w6 (OpL q o' ib pb sb ++ (blk b tX (cellsX { x with out := x.out ++ t } rb ub (pt q) v') :: OB tB v' (x.out ++ t) :: Rb.RdR rb x.B x.d x.at_ :: U22.UsR ub x.u :: L)) := by
         have h_ := Holds.ord 8 [4, 5, 6, 7, 0, 1, 2, 3] H10 rfl; exact h_
       have h2 := OpR_close ho' h1; have h_ := Holds.ord 5 [1, 2, 3, 4, 0] h2 rfl; exact h_
     have hst := ho'.st; refine k { x with out := x.out ++ t, op := some o' } w6 ⟨hx.wi, hx.bl, hx.hd, hx2.ou, (fun e => by rw [show ({ x with out := x.out ++ t, op := some o' } : Xz).dn = x.dn from rfl, hd] at e; cases e), (fun o2 h2 => by cases h2; omega), Nat.le_succ_of_le hx.st⟩ hol rfl S (Xz_closeS (x := { x with out := x.out ++ t, op := some o' }) hd rfl H11)
theorem read_spec {x : Xz} {g f : Nat} (H : Holds w (XzR b x :: L)) (hx : XzOk x g f) (hd : x.dn = false) (ho : x.op = none) (hf : f ≤ 100000000)
   (k : ∀ x' c w', XzOk x' (g + 1) f → x'.out = x.out → x'.st = x.st → (c = false → x'.sh = true ∧ x'.op = none) → Same w w' → Holds w' (XzR b x' :: L) → K (.bool c) w') : Cl Tryz.prog F.unpress_Expander_read #[pt b] w K := by
 refine Tie.unpress_Expander_read ?_; unfold Vcf.unpress_Expander_read; obtain ⟨rb, ub, ov, H1⟩ := Xz_openN hd ho H; refine r_join1 (fun y w' => ∃ c : Bool, y = .bool c ∧ Same w w' ∧ Holds w' (blk b tX (cellsX x rb ub (.pointer none) ov) :: OB tB ov x.out :: Rb.RdR rb x.B x.d x.at_ :: U22.UsR ub x.u :: L)) ?_ ?_
 rotate_left
 · refine r_nc (r_fo0 (r_ld 0 H1 rfl rfl ?_))
   cases x.en with
   | false => exact r_vf (r_ke ⟨false, rfl, .refl _, H1⟩)
   | true =>
     refine r_vt (r_nc (r_fo0 (r_ld 0 H1 rfl rfl ?_))); refine U22.MayEnd_spec (by have h_ := Holds.front H1 3 rfl; exact h_) ?_
     cases x.u.mayEnd with
     | false => exact r_vf (r_ke ⟨false, rfl, .refl _, H1⟩)
     | true =>
       refine r_vt (r_nc (r_fo0 (r_ld 0 H1 rfl rfl ?_))); refine Rb.Left_spec (by have h_ := Holds.front H1 2 rfl; exact h_) fun w2 S2 H2 => ?_; refine r_eql (r_ke ⟨_, rfl, S2, ?_⟩); have h_ := Holds.ord 4 [1, 2, 0, 3] H2 rfl; exact h_
 rintro _ _ w1 ⟨c, rfl, S1, H2⟩; clear H1
 cases c with
 | true =>
   refine r_vt ?_; refine fail_spec (by have h_ := Holds.dropAt (Holds.dropAt H2 2) 2; exact h_) fun w2 S2 H3 => ?_; exact k _ true w2 hx.fail rfl rfl (fun e => by cases e) (S1.trans S2) H3
 | false =>
   refine r_vf (r_dr H2 fun w2 S2 H3 => ?_); refine r_nc (r_fo0 (r_ld 0 H3 rfl rfl (r_nc (r_fo0 (r_ld 0 H3 rfl rfl ?_))))); have hu := (U22.UsR_open (by have h_ := Holds.front H3 3 rfl; exact h_)).1
   have H4 : Holds w2 (U22.UsR ub x.u :: Rb.RdR rb x.B x.d x.at_ :: blk b tX (cellsX x rb ub (.pointer none) ov) :: OB tB ov x.out :: L) := by
     have h_ := Holds.ord 4 [3, 2, 0, 1] H3 rfl; exact h_
   refine U22.Step_spec H4 fun wt e w3 S3 hA => ?_; refine r_ex20 (r_ex21 ?_); have S := S1.trans (S2.trans S3); clear H3 H4 S1 S2 S3 H2 H
   -- behind the step: some chunk of the reader, and the place
   have go : ∀ (R : HProp) (p : Nat), Holds w3 (R :: Rb.RdR rb x.B x.d p :: blk b tX (cellsX x rb ub (.pointer none) ov) :: OB tB ov x.out :: L) →
       (∀ w5, Same w w5 → XzOk { x with d := p / 8, at_ := p } g f → Holds w5 (blk b tX (cellsX x rb ub (.pointer none) ov) :: OB tB ov x.out :: Rb.RdR rb x.B (p / 8) p :: R :: L) →
         VJoin 1 (fun _ x_15 w6 => Vif x_15 (Nc (pt b) <| Fo 6 (pt b) fun x_16 => St x_16 (.bool true) w6 fun w7 => K (.bool false) w7) (
           Bp .eql (iv e) (.int .i64 3) fun x_17 => Vif x_17 (Cl Tryz.prog F.unpress_Expander_fail #[pt b, (.int .i64 24)] w6 fun x_18 w8 => K (.bool true) w8) (
           Bp .neq (iv e) (.int .i64 0) fun x_19 => Vif x_19 (Cl Tryz.prog F.unpress_Expander_fail #[pt b, iv e] w6 fun x_20 w9 => K (.bool true) w9) (
           Bp .eql (iv wt) (.int .i64 1) fun x_21 => Vif x_21 (Nc (pt b) <| Fo 4 (pt b) fun x_22 => Ld x_22 w6 fun x_23 => Cl Tryz.prog F.unstream_Reader_Got #[x_23] w6 fun x_24 w10 => Cl Tryz.prog F.unpress_openingOf #[x_24] w10 fun x_25 w11 =>
             Nc (pt b) <| Fo 5 (pt b) fun x_26 => St x_26 x_25 w11 fun w12 => K (.bool true) w12) (K (.bool true) w6)))))
           (fun J27 => Bp .eql (iv e) (.int .i64 3) fun x_28 => Vif x_28 (Nc (pt b) <| Fo 2 (pt b) fun x_29 => Ld x_29 w5 fun x_30 => Up .not x_30 fun x_31 => KE [pt b, iv wt, iv e] [pt b, iv wt, iv e] <| J27 x_31 w5) (KE [pt b, iv wt, iv e] [pt b, iv wt, iv e] <| J27 (.bool false) w5))) →
       (Nc (pt b) <| Fo 3 (pt b) fun x_12 => Ld x_12 w3 fun x_13 => Cl Tryz.prog F.bits_Reader_Drop #[x_13] w3 fun x_14 w5 =>
         VJoin 1 (fun _ x_15 w6 => Vif x_15 (Nc (pt b) <| Fo 6 (pt b) fun x_16 => St x_16 (.bool true) w6 fun w7 => K (.bool false) w7) (
           Bp .eql (iv e) (.int .i64 3) fun x_17 => Vif x_17 (Cl Tryz.prog F.unpress_Expander_fail #[pt b, (.int .i64 24)] w6 fun x_18 w8 => K (.bool true) w8) (
           Bp .neq (iv e) (.int .i64 0) fun x_19 => Vif x_19 (Cl Tryz.prog F.unpress_Expander_fail #[pt b, iv e] w6 fun x_20 w9 => K (.bool true) w9) (
           Bp .eql (iv wt) (.int .i64 1) fun x_21 => Vif x_21 (Nc (pt b) <| Fo 4 (pt b) fun x_22 => Ld x_22 w6 fun x_23 => Cl Tryz.prog F.unstream_Reader_Got #[x_23] w6 fun x_24 w10 => Cl Tryz.prog F.unpress_openingOf #[x_24] w10 fun x_25 w11 =>
             Nc (pt b) <| Fo 5 (pt b) fun x_26 => St x_26 x_25 w11 fun w12 => K (.bool true) w12) (K (.bool true) w6)))))
           (fun J27 => Bp .eql (iv e) (.int .i64 3) fun x_28 => Vif x_28 (Nc (pt b) <| Fo 2 (pt b) fun x_29 => Ld x_29 w5 fun x_30 => Up .not x_30 fun x_31 => KE [pt b, iv wt, iv e] [pt b, iv wt, iv e] <| J27 x_31 w5) (KE [pt b, iv wt, iv e] [pt b, iv wt, iv e] <| J27 (.bool false) w5))) := by
     intro R p H5 kk; refine r_nc (r_fo0 (r_ld 2 H5 rfl rfl ?_)); have hp := (Rb.RdR_open H5.swap).1; refine Rb.Drop_spec H5.swap fun w5 v S5 H6 => ?_; have hh := hx.hd; refine kk w5 (S.trans S5) ⟨hx.wi, hx.bl, by show x.B.length - p / 8 ≤ x.win; omega, hx.ou, hx.od, hx.os, hx.st⟩ ?_; have h_ := Holds.ord 4 [2, 3, 0, 1] H6 rfl; exact h_
   cases hy : ustep x.u (rest x.B x.at_) with
   | short =>
     rw [hy] at hA; obtain ⟨rfl, rfl, H5⟩ := hA; refine go _ _ H5 fun w5 S5 hx5 H6 => ?_; refine r_join1 (fun y w' => w5 = w' ∧ y = .bool (!x.en)) ?_ ?_
     rotate_left
     · refine r_eql (r_vtE rfl (r_nc (r_fo0 (r_ld 0 H6 rfl rfl (r_not (r_ke ⟨rfl, rfl⟩))))))
     rintro _ _ _ ⟨rfl, rfl⟩
     cases hen : x.en with
     | false =>
       refine r_vt (r_nc (r_fo0 (r_st 0 H6 rfl (by simp [cellsX]) rfl fun w6 S6 H7 => ?_))); refine k { x with d := x.at_ / 8, at_ := x.at_, sh := true } false w6 ⟨hx5.wi, hx5.bl, hx5.hd, hx5.ou, hx5.od, hx5.os, Nat.le_succ_of_le hx5.st⟩ rfl rfl (fun _ => ⟨rfl, ho⟩) (S5.trans S6) ?_; exact Xz_closeN (x := { x with d := x.at_ / 8, at_ := x.at_, sh := true }) hd ho H7
     | true =>
       refine r_vf (r_eql (r_vtE rfl ?_)); refine fail_spec (x := { x with d := x.at_ / 8, at_ := x.at_ }) (by have h_ := Holds.dropAt (Holds.dropAt H6 2) 2; exact h_) fun w6 S6 H7 => ?_; exact k _ true w6 hx5.fail rfl rfl (fun e => by cases e) (S5.trans S6) H7
   | bad c =>
     have hcb := ustep_bad hu hy; rw [hy] at hA; obtain ⟨rfl, rfl, p, H5⟩ := hA; refine go _ _ H5 fun w5 S5 hx5 H6 => ?_; refine r_join1 (fun y w' => w5 = w' ∧ y = .bool false) ?_ ?_
     rotate_left
     · exact r_eql (r_vfE (by omega) (r_ke ⟨rfl, rfl⟩))
     rintro _ _ _ ⟨rfl, rfl⟩; refine r_vf (r_eql (r_vfE (by omega) (r_neq (r_vtN (by omega) ?_)))); refine fail_spec (x := { x with d := p / 8, at_ := p }) (by have h_ := Holds.dropAt (Holds.dropAt H6 2) 2; exact h_) fun w6 S6 H7 => ?_; exact k _ true w6 hx5.fail rfl rfl (fun e => by cases e) (S5.trans S6) H7
   | ok y n =>
     obtain ⟨u', wt'⟩ := y; rw [hy] at hA; obtain ⟨rfl, rfl, H5⟩ := hA; refine go _ _ H5 fun w5 S5 hx5 H6 => ?_; have hu' := (ustep_ok hu hy).1; refine r_join1 (fun y w' => w5 = w' ∧ y = .bool false) ?_ ?_
     rotate_left
     · exact r_eql (r_vfE (by decide) (r_ke ⟨rfl, rfl⟩))
     rintro _ _ _ ⟨rfl, rfl⟩; refine r_vf (r_eql (r_vfE (by decide) (r_neq (r_vfN rfl (r_eql (r_ifE (fun h1 => ?_) fun h1 => ?_))))))
     · obtain rfl : wt' = 1 := by omega
       refine r_nc (r_fo0 (r_ld 0 H6 rfl rfl ?_)); refine U22.Got_spec (by have h_ := Holds.front H6 3 rfl; exact h_) fun w6 S6 H7 => ?_; refine openingOf_spec H7 (ustep_frm hu hy) hu'.last hu'.sum fun q o w7 hla hs0 S7 H8 => ?_; have hlt := ustep_frm hu hy; refine r_nc (r_fo0 (r_st 2 H8 rfl (by simp [cellsX]) rfl fun w8 S8 H9 => ?_)); refine k { x with d := (x.at_ + n) / 8, at_ := x.at_ + n, u := u', op := some o } true w8 ⟨hx5.wi, hx5.bl, hx5.hd, hx5.ou, (fun e => by rw [show ({ x with d := (x.at_ + n) / 8, at_ := x.at_ + n, u := u', op := some o } : Xz).dn = x.dn from rfl, hd] at e; cases e), (fun o2 h2 => by cases h2; rw [hs0, hla]; omega), Nat.le_succ_of_le hx5.st⟩ rfl rfl (fun e => by cases e) (S5.trans (S6.trans (S7.trans S8))) ?_; refine Xz_closeS (x := { x with d := (x.at_ + n) / 8, at_ := x.at_ + n, u := u', op := some o }) (rb := rb) (ub := ub) (q := q) (ov := ov) hd rfl ?_; have h_ := Holds.ord 5 [2, 3, 4, 1, 0] H9 rfl; exact h_
     · refine k { x with d := (x.at_ + n) / 8, at_ := x.at_ + n, u := u' } true w5 ⟨hx5.wi, hx5.bl, hx5.hd, hx5.ou, hx5.od, hx5.os, Nat.le_succ_of_le hx5.st⟩ rfl rfl (fun e => by cases e) S5 ?_; exact Xz_closeN (x := { x with d := (x.at_ + n) / 8, at_ := x.at_ + n, u := u' }) hd ho H6
theorem Step_spec {x : Xz} {g f q : Nat} (H : Holds w (XzR b x :: L)) (hx : XzOk x g f) (hf : f ≤ 100000000) (hq : q ≤ 1000000) (hg : g ≤ 1000000000000)
   (k : ∀ x' m w', m ≤ q → XzOk x' (g + m) f → x'.out.length ≤ x.out.length + 251 * m → (m = 0 → stpX x = false → 1 ≤ q → x'.op = none ∧ x'.sh = true) → Same w w' → Holds w' (XzR b x' :: L) → K (nv m) w') : Cl Tryz.prog F.unpress_Expander_Step #[pt b, nv q] w K := by
 refine Tie.unpress_Expander_Step ?_; unfold Vcf.unpress_Expander_Step; have hgl := hx.st; refine r_loop1n (fun j y w' => ∃ m x', j = 2 * (q - m) + (if stpX x' = true then 0 else 1) ∧ m ≤ q ∧ y = nv m ∧ XzOk x' (g + m) f ∧ x'.st = x.st ∧ x'.out.length ≤ x.out.length + 251 * m ∧ (m = 0 → x' = x ∨ x'.op = none ∧ x'.sh = true) ∧ Same w w' ∧ Holds w' (XzR b x' :: L)) (2 * q + (if stpX x = true then 0 else 1)) ⟨0, x, rfl, Nat.zero_le _, rfl, hx, rfl, by omega, fun _ => .inl rfl, .refl _, H⟩ ?_; clear H; rintro _ j _ w1 _ ⟨m, x1, rfl, hm, rfl, hx1, hst1, hou, h0, S1, H1⟩ hgo; refine r_join1 (fun y w' => ∃ c : Bool, y = .bool c ∧ (c = decide (m < q ∧ stpX x1 = false)) ∧ Same w w' ∧ Holds w' (XzR b x1 :: L)) ?_ ?_
 rotate_left
 · refine r_lss (r_ifD (fun h => ?_) fun h => ?_)
   · refine Stopped_spec H1 fun w2 S2 H2 => r_not (r_ke ⟨!stpX x1, rfl, ?_, S1.trans S2, H2⟩)
     cases stpX x1 with
     | true => rw [decide_eq_false (fun e => by cases e.2)]; rfl
     | false => rw [decide_eq_true ⟨by omega, rfl⟩]; rfl
   · exact r_ke ⟨false, rfl, by rw [decide_eq_false (fun e => h (by omega))], S1, H1⟩
 rintro _ _ w2 ⟨c, rfl, hc, S2, H2⟩
 cases c with
 | true =>
   obtain ⟨hlt, hst⟩ := of_decide_eq_true hc.symm; have hst' := hst; unfold stpX at hst'; obtain ⟨hd, hs2⟩ := Bool.or_eq_false_iff.1 hst'; refine r_vt ?_
   cases ho : x1.op with
   | some o =>
     obtain ⟨rb, ub, q', ov, H3⟩ := Xz_openS hd ho H2; refine r_nc (r_fo0 (r_ld 0 H3 rfl rfl (r_bnST (r_vt ?_)))); rw [if_neg (by rw [ho]; simp)] at hs2
     have hol : x1.out.length < 4096 := by
       have := of_decide_eq_false hs2; omega
     refine open_spec H2 hx1 hd ho hol fun x' w3 h1 h2 h3 S3 H4 => ?_; refine r_add1N (by omega) (r_ke (hgo (2 * (q - (m + 1)) + (if stpX x' = true then 0 else 1)) _ _ ?_ ⟨m + 1, x', rfl, hlt, rfl, h1, h3.trans hst1, (by rw [Nat.mul_succ, ← Nat.add_assoc]; exact Nat.le_trans h2 (Nat.add_le_add_right hou 251)), (fun e => absurd e (Nat.succ_ne_zero m)), S2.trans S3, H4⟩)); rw [if_neg (show ¬ stpX x1 = true by rw [hst]; decide)]
     split <;> omega
   | none =>
     obtain ⟨rb, ub, ov, H3⟩ := Xz_openN hd ho H2; refine r_nc (r_fo0 (r_ld 0 H3 rfl rfl (r_bnNF (r_vf ?_)))); refine read_spec H2 hx1 hd ho hf fun x' c w3 h1 h2 h3 h4 S3 H4 => ?_
     cases c with
     | true =>
       refine r_notT (r_vf ?_); refine r_add1N (by omega) (r_ke (hgo (2 * (q - (m + 1)) + (if stpX x' = true then 0 else 1)) _ _ ?_ ⟨m + 1, x', rfl, hlt, rfl, h1, h3.trans hst1, by rw [h2]; omega, (fun e => absurd e (Nat.succ_ne_zero m)), S2.trans S3, H4⟩)); rw [if_neg (show ¬ stpX x1 = true by rw [hst]; decide)]
       split <;> omega
     | false =>
       refine r_notF (r_vt ?_); obtain ⟨h5, h6⟩ := h4 rfl; have hx' : XzOk x' (g + m) f := ⟨h1.wi, h1.bl, h1.hd, h1.ou, h1.od, h1.os, by rw [h3]; exact hx1.st⟩
       have hsx : stpX x' = true := by
         unfold stpX; rw [if_pos h6, h5, Bool.or_true]
       refine r_ke (hgo (2 * (q - m) + (if stpX x' = true then 0 else 1)) _ _ ?_ ⟨m, x', rfl, hm, rfl, hx', h3.trans hst1, by rw [h2]; exact hou, fun _ => .inr ⟨h6, h5⟩, S2.trans S3, H4⟩); rw [if_neg (show ¬ stpX x1 = true by rw [hst]; decide), if_pos hsx]; omega
 | false =>
   have hnc := of_decide_eq_false hc.symm; refine r_vf (r_bnST (r_vt ?_)); obtain ⟨rb, ub, qv, ov, L', H3, back, _⟩ := Xz_cells H2; refine r_nc (r_fo0 (r_ld 0 H3 rfl rfl (r_addN (by omega) ?_))); refine r_nc (r_fo0 (r_st 0 H3 rfl (by simp [cellsX]) rfl fun w4 S4 H4 => ?_)); refine k { x1 with st := x1.st + m } m w4 hm ⟨hx1.wi, hx1.bl, hx1.hd, hx1.ou, hx1.od, hx1.os, ?_⟩ hou (fun e1 e2 e3 => ?_) (S2.trans S4) (back { x1 with st := x1.st + m } w4 ov ⟨rfl, rfl, rfl, rfl, rfl, rfl⟩ H4)
   · show x1.st + m ≤ g + m; omega
   · subst e1; rcases h0 rfl with rfl | h
     · exact absurd ⟨by omega, e2⟩ hnc
     · exact h
end K24
end Go.Proofs.YtpbbfonfakjecaaGreat
