/- More rules for nodes: unsigned numbers. No program in sight. -/
import Derived.Test.YtbhbdleffackaaaGreatDoorSt
import Derived.Deep.Upon
import Derived.Laws.CopyRow
import Derived.Laws.IdiomCopy
import Derived.Laws.IdiomStrings
set_option linter.unusedVariables false
set_option linter.unusedSimpArgs false
namespace Go.Vc
variable {P : Program} {w : World} {L : List HProp}
theorem r_orU32 {s t : Nat} {K : Value → Prop} (hs : s < 4294967296) (ht : t < 4294967296) (h : K (.int .u32 ((s ||| t : Nat) : Int))) : Bp .or (.int .u32 (s : Int)) (.int .u32 (t : Int)) K := by
  refine ⟨_, ?_, h⟩
  have hb : IntKind.u32.bits = 32 := rfl
  have hx : s ||| t < 2 ^ 32 := Nat.or_lt_two_pow (by simpa using hs) (by simpa using ht)
  simp only [bp, if_true]
  rw [hb, BitVec.toNat_or, BitVec.toNat_ofInt, BitVec.toNat_ofInt]
  have e1 : ((s : Int) % ((2 ^ 32 : Nat) : Int)).toNat = s := by omega
  have e2 : ((t : Int) % ((2 ^ 32 : Nat) : Int)).toNat = t := by omega
  rw [e1, e2, wrapU32 (by omega) (by omega)]
theorem r_andU8 {s t : Nat} {K : Value → Prop} (hs : s < 256) (ht : t < 256) (h : K (.int .u8 ((s &&& t : Nat) : Int))) : Bp .and (.int .u8 (s : Int)) (.int .u8 (t : Int)) K := by
  refine ⟨_, ?_, h⟩
  have hb : IntKind.u8.bits = 8 := rfl
  have hx : s &&& t ≤ s := Nat.and_le_left
  simp only [bp, if_true]
  rw [hb, BitVec.toNat_and, BitVec.toNat_ofInt, BitVec.toNat_ofInt]
  have e1 : ((s : Int) % ((2 ^ 8 : Nat) : Int)).toNat = s := by omega
  have e2 : ((t : Int) % ((2 ^ 8 : Nat) : Int)).toNat = t := by omega
  rw [e1, e2, wrapU8 (by omega) (by omega)]
theorem r_addU32 {s t : Nat} {K : Value → Prop} (h1 : s + t < 4294967296) (h : K (.int .u32 ((s + t : Nat) : Int))) : Bp .add (.int .u32 (s : Int)) (.int .u32 (t : Int)) K := by
  refine ⟨_, ?_, h⟩
  simp only [bp, if_true]
  rw [← Int.natCast_add, wrapU32 (by omega) (by omega)]
theorem r_subU32 {s t : Nat} {K : Value → Prop} (h0 : t ≤ s) (h1 : s < 4294967296) (h : K (.int .u32 ((s - t : Nat) : Int))) : Bp .sub (.int .u32 (s : Int)) (.int .u32 (t : Int)) K := by
  refine ⟨_, ?_, h⟩
  simp only [bp, if_true]
  rw [show (s : Int) - (t : Int) = ((s - t : Nat) : Int) by omega, wrapU32 (by omega) (by omega)]
theorem r_subU8 {s t : Nat} {K : Value → Prop} (h0 : t ≤ s) (h1 : s < 256) (h : K (.int .u8 ((s - t : Nat) : Int))) : Bp .sub (.int .u8 (s : Int)) (.int .u8 (t : Int)) K := by
  refine ⟨_, ?_, h⟩
  simp only [bp, if_true]
  rw [show (s : Int) - (t : Int) = ((s - t : Nat) : Int) by omega, wrapU8 (by omega) (by omega)]

/-! pieces in another order -/
theorem Sat_tail {P : HProp} {L L' : List HProp} {h : Hp} (hL : ∀ h, Sat L h → Sat L' h) (H : Sat (P :: L) h) : Sat (P :: L') h := by
  obtain ⟨g, hg, hs, hr⟩ := H
  exact ⟨g, hg, hs, hL _ hr⟩
def live : List (Option HProp) → List HProp
  | [] => []
  | none :: M => live M
  | some P :: M => P :: live M
def dead : List (Option HProp) → Nat → List (Option HProp)
  | [], _ => []
  | _ :: M, 0 => none :: M
  | x :: M, i + 1 => x :: dead M i
def sel : List Nat → List (Option HProp) → Option (List HProp)
  | [], _ => some []
  | i :: is, M => match M[i]? with
    | some (some P) => (match sel is (dead M i) with
      | some R => some (P :: R)
      | none => none)
    | _ => none
theorem live_pull : ∀ (M : List (Option HProp)) (i : Nat) {P : HProp} {L : List HProp} {h : Hp}, M[i]? = some (some P) → Sat (live M ++ L) h → Sat (P :: (live (dead M i) ++ L)) h
  | [], i, P, L, h, hi, H => by simp at hi
  | none :: M, 0, P, L, h, hi, H => by simp at hi
  | some Q :: M, 0, P, L, h, hi, H => by
    simp at hi
    subst hi
    exact H
  | none :: M, i + 1, P, L, h, hi, H => live_pull M i (by simpa using hi) H
  | some Q :: M, i + 1, P, L, h, hi, H => Sat.swap (Sat_tail (fun h' H' => live_pull M i (by simpa using hi) H') H)
theorem live_drop : ∀ (M : List (Option HProp)) {L : List HProp} {h : Hp}, Sat (live M ++ L) h → Sat L h
  | [], _, _, H => H
  | none :: M, _, _, H => live_drop M H
  | some Q :: M, L, h, H => live_drop M (by
    obtain ⟨g, _, _, hL⟩ := H
    exact hL.mono fun b o hb => by
      unfold Hp.minus at hb
      split at hb
      · cases hb
      · exact hb)
theorem sel_sat : ∀ (is : List Nat) {M : List (Option HProp)} {R L : List HProp} {h : Hp}, sel is M = some R → Sat (live M ++ L) h → Sat (R ++ L) h
  | [], M, R, L, h, hR, H => by
    cases hR
    exact live_drop M H
  | i :: is, M, R, L, h, hR, H => by
    unfold sel at hR
    split at hR
    · rename_i P hP
      split at hR
      · rename_i R' hR'
        cases hR
        exact Sat_tail (fun h' H' => sel_sat is hR' H') (live_pull M i hP H)
      · cases hR
    · cases hR
theorem live_some : ∀ (F : List HProp), live (F.map some) = F
  | [] => rfl
  | P :: F => by rw [List.map_cons, live, live_some F]
theorem Holds.ord (n : Nat) (is : List Nat) (H : Holds w L) {R : List HProp} (hR : sel is ((L.take n).map some) = some R) : Holds w (R ++ L.drop n) := by
  refine sel_sat is hR ?_
  rw [live_some, List.take_append_drop]
  exact H
theorem set_back {i j : Nat} {X Y Q : HProp} (hij : i ≠ j) (hj : L[j]? = some Q) : ((L.set j X).set i Y).set j Q = L.set i Y := by
  have e : L.set j Q = L := by
    have hl : j < L.length := (List.getElem?_eq_some_iff.1 hj).1
    have h2 : L[j] = Q := (List.getElem?_eq_some_iff.1 hj).2
    rw [← h2, List.set_getElem_self]
  have e1 : (L.set j X).set i Y = (L.set i Y).set j X := List.set_comm _ _ (Ne.symm hij)
  have e2 : (L.set i Y).set j Q = (L.set j Q).set i Y := List.set_comm _ _ hij
  rw [e1, List.set_set, e2, e]
/-- append(s, ys...): both of them rows of one's own. -/
theorem r_apS {α : Type} {t e : TypeId} {z : Value} [hr : Row P t e z] (H : Holds w L) (i j : Nat) (hij : i ≠ j) {f : α → Value} {v v2 : Value} {xs ys : List α} {ty : TypeId} {K : Value → World → Prop}
    (hi : L[i]? = some (SL f e v xs)) (hj : L[j]? = some (SL f e v2 ys)) (hs : ∀ y, sg (f y) = true) (hn : xs.length + ys.length ≤ 1099511627776)
    (h : ∀ v' w', Same w w' → Holds w' (L.set i (SL f e v' (xs ++ ys))) → K v' w') : Ap P #[t, t] ty #[v, v2] w K := by
  obtain ⟨inf, hinf, hsz, hby, hzz⟩ := hr.inf
  have nothing : ys = [] → (∃ oa c, v2 = .slice oa 0 c) → Ap P #[t, t] ty #[v, v2] w K := by
    rintro rfl ⟨oa2, c2, rfl⟩
    obtain ⟨oa, sp, rfl, _⟩ := H.open i hi
    have hsrc : Src P inf.size t (.slice oa2 0 c2) 0 [] w := by
      cases oa2 with
      | none => exact Src.ofNil w hr.und c2
      | some a => exact Src.ofSlice w hr.und a 0 c2 [] (by simp) (fun j u hu => by simp at hu) (fun _ h => by cases h)
    refine ⟨_, _, run_append_nothing w t t ty e inf hr.und hinf oa xs.length (xs.length + sp.length) (by omega) _ hsrc, h _ _ (.refl _) ?_⟩
    rw [List.append_nil, show L.set i (SL f e (.slice oa xs.length (xs.length + sp.length)) xs) = L from by
      have hl : i < L.length := (List.getElem?_eq_some_iff.1 hi).1
      have e1 : L[i] = _ := (List.getElem?_eq_some_iff.1 hi).2
      rw [← e1, List.set_getElem_self]]
    exact H
  obtain ⟨oa2, sp2, rfl, H1⟩ := H.open j hj
  cases oa2 with
  | none =>
    obtain ⟨g, ⟨h2, _⟩, _⟩ := H1.front j (set_get hj)
    exact nothing h2 ⟨_, _, by rw [h2]; rfl⟩
  | some a =>
    obtain ⟨g, ⟨h2, h3, _⟩, _⟩ := H1.front j (set_get hj)
    obtain ⟨b2, o, s⟩ := a
    simp only at h2 h3
    subst h2; subst h3
    by_cases hy : ys = []
    · exact nothing hy ⟨_, _, by rw [hy]; rfl⟩
    · have hy0 : 0 < ys.length := List.length_pos_iff.2 hy
      have H2 := H1.slb j (set_get hj)
      rw [List.set_set] at H2
      have hi2 : (L.set j (blk b2 e (ys.map f ++ sp2)))[i]? = some (SL f e v xs) := by rw [List.getElem?_set_ne (Ne.symm hij)]; exact hi
      obtain ⟨oa, sp, rfl, H3⟩ := H2.open i hi2
      refine r_ap (f := f) (ys := ys) H3 i j (xs := xs) (sp := sp) (set_get hi2) (by rw [List.getElem?_set_ne hij]; exact set_get hj) (by simp) rfl rfl rfl hs hn hy0 fun oa' sp' w4 S4 H4 => ?_
      rw [List.set_set] at H4
      have hi3 : (L.set j (blk b2 e (ys.map f ++ sp2)))[i]? = some (SL f e (.slice oa xs.length (xs.length + sp.length)) xs) := hi2
      have H5 := H4.close i (set_get hi3)
      rw [List.set_set] at H5
      have H6 := H5.at j (Q := SL f e (.slice (some ⟨b2, 0, none⟩) ys.length (ys.length + sp2.length)) ys) (by rw [List.getElem?_set_ne hij]; exact set_get hj) fun g hg => ⟨some ⟨b2, 0, none⟩, sp2, rfl, rfl, rfl, hg⟩
      rw [set_back hij hj] at H6
      have e1 : xs.length + ys.length = (xs ++ ys).length := by simp
      rw [e1]
      exact h _ _ S4 H6
theorem r_mf {fn : Fn} {f c : Array Value} {K : Value → Prop} (v : Value) (h : (Instr.makeFunc fn f c).run P w = .ok v w) (k : K v) : Mf P fn f c w K := ⟨v, h, k⟩
/-- append(s, x), where what s is was read ahead of the row of x. -/
theorem r_app1K {α : Type} {t e : TypeId} {z : Value} [hr : Row P t e z] (H : Holds w L) (i : Nat) {f : α → Value} {v : Value} {xs : List α} {ty : TypeId} {N : Node} {K : Value → World → Prop}
    (hi : L[i]? = some (SL f e v xs)) (x : α) (hs : ∀ y, sg (f y) = true) (hn : xs.length + 1 ≤ 1099511627776) (hN : ∀ w', Holds w' L → N w' fun u => u = v)
    (h : ∀ v' w', Same w w' → Holds w' (L.set i (SL f e v' (xs ++ [x]))) → K v' w') : Bs P t 1 #[(0, f x)] w fun y w2 => Rk N v w2 (Ap P #[t, t] ty #[v, y] w2 K) := by
  refine r_bs1 H (hs x) fun b3 w3 S3 H3 => r_rk (hN _ H3.drop) ?_
  obtain ⟨oa, sp, rfl, H4⟩ := H3.open (i + 1) (by rw [List.getElem?_cons_succ]; exact hi)
  rw [List.set_cons_succ] at H4
  refine r_ap (f := f) (ys := [x]) H4 (i + 1) 0 (xs := xs) (sp := sp) (by rw [List.getElem?_cons_succ]; exact set_get hi) rfl rfl rfl rfl rfl hs (by rw [List.length_singleton]; omega) (by simp) fun oa' sp' w4 S4 H4 => ?_
  rw [List.set_cons_succ, List.set_set] at H4
  have H5 := H4.drop.close i (set_get hi)
  rw [List.set_set] at H5
  have e : xs.length + [x].length = (xs ++ [x]).length := by simp
  rw [e]
  exact h _ _ (S3.trans S4) H5
theorem r_xorU8 {s t : Nat} {K : Value → Prop} (hs : s < 256) (ht : t < 256) (h : K (.int .u8 ((s ^^^ t : Nat) : Int))) : Bp .xor (.int .u8 (s : Int)) (.int .u8 (t : Int)) K := by
  refine ⟨_, ?_, h⟩
  have hb : IntKind.u8.bits = 8 := rfl
  have hx : s ^^^ t < 2 ^ 8 := Nat.xor_lt_two_pow (by simpa using hs) (by simpa using ht)
  simp only [bp, if_true]
  rw [hb, BitVec.toNat_xor, BitVec.toNat_ofInt, BitVec.toNat_ofInt]
  have e1 : ((s : Int) % ((2 ^ 8 : Nat) : Int)).toNat = s := by omega
  have e2 : ((t : Int) % ((2 ^ 8 : Nat) : Int)).toNat = t := by omega
  rw [e1, e2, wrapU8 (by omega) (by omega)]
theorem r_upxU32 {s : Nat} {K : Value → Prop} (hs : s < 4294967296) (h : K (.int .u32 ((4294967295 - s : Nat) : Int))) : Up .xor (.int .u32 (s : Int)) K := by
  refine ⟨_, ?_, h⟩
  simp only [up]
  have e1 : (if IntKind.u32.signed = true then (-1 : Int) else IntKind.u32.max) = 4294967295 := rfl
  have e2 : BitVec.ofInt IntKind.u32.bits 4294967295 = BitVec.allOnes 32 := rfl
  have hb : IntKind.u32.bits = 32 := rfl
  rw [e1, e2]
  show some (Value.int .u32 (IntKind.u32.wrap (BitVec.allOnes 32 ^^^ BitVec.ofInt 32 (s : Int)).toNat)) = _
  rw [BitVec.allOnes_xor, BitVec.toNat_not, BitVec.toNat_ofInt]
  have e3 : ((s : Int) % ((2 ^ 32 : Nat) : Int)).toNat = s := by omega
  rw [e3, wrapU32 (by omega) (by omega)]
theorem r_shlI {a n : Nat} {k' : IntKind} {K : Value → Prop} (hn : n ≤ 64) (h1 : a * 2 ^ n < 9223372036854775808) (h : K (.int .i64 ((a * 2 ^ n : Nat) : Int))) : Bp .shl (.int .i64 (a : Int)) (.int k' (n : Int)) K := by
  refine ⟨_, ?_, h⟩
  have hb : IntKind.i64.bits = 64 := rfl
  simp only [bp]
  rw [if_neg (by omega), Int.toNat_natCast, hb, Nat.min_eq_left hn]
  have e : (a : Int) * 2 ^ n = ((a * 2 ^ n : Nat) : Int) := by simp
  rw [e, wrap64 (by omega) (by omega)]
theorem r_sslLH {size : Nat} {a : Option Addr} {n c l h : Nat} {k k' : IntKind} {K : Value → Prop} (h1 : l ≤ h) (h2 : h ≤ c) (hK : K (.slice (if c = l then a else a.map (·.add (l * size))) (h - l) (c - l))) :
    Ssl size (.slice a n c) (some (.int k (l : Int))) (some (.int k' (h : Int))) K := ⟨a, n, c, l, h, rfl, ⟨k, rfl⟩, ⟨k', rfl⟩, h1, h2, hK⟩
theorem r_cp {ats : Array TypeId} {t : TypeId} {args : Array Value} {K : Value → World → Prop} {v : Value} {w' : World} (h : (Builtin.copy_ ats t args).run P w = .ok v w') (k : K v w') : Cp P ats t args w K := ⟨v, w', h, k⟩
/-- copy(s[1:i+1], s[:i]) -/
theorem r_cpIn {α : Type} {t e : TypeId} {z : Value} [hr : Row P t e z] (H : Holds w L) (q : Nat) {f : α → Value} {oa : Option Addr} {xs : List α} {sp : List Value} {i : Nat} {ty : TypeId} {K : Value → World → Prop}
    (hq : L[q]? = some (slb f e oa xs sp)) (hi : i < xs.length) (hs : ∀ y, sg (f y) = true) (h : ∀ v w', Same w w' → Holds w' (L.set q (slb f e oa (xs.take 1 ++ (xs.take i ++ xs.drop (i + 1))) sp)) → K v w') :
    Cp P #[t, t] ty #[.slice (if xs.length + sp.length = 1 then oa else oa.map (·.add (1 * 1))) (i + 1 - 1) (xs.length + sp.length - 1), .slice oa i (xs.length + sp.length)] w K := by
  obtain ⟨inf, hinf, hsz, hby, hzz⟩ := hr.inf
  have hinf1 : (P.info? e).map (·.size) = some 1 := by rw [hinf]; simp [hsz]
  rcases Nat.eq_zero_or_pos i with h0 | h0
  · subst h0
    refine r_cp (run_copy_none w t t ty e _ oa _ _ 0 _ hr.und hinf1 rfl) (h _ _ (.refl _) ?_)
    rw [List.take_zero, List.nil_append, Nat.zero_add, List.take_append_drop, show L.set q (slb f e oa xs sp) = L from by
      have hl : q < L.length := (List.getElem?_eq_some_iff.1 hq).1
      have e1 : L[q] = _ := (List.getElem?_eq_some_iff.1 hq).2
      rw [← e1, List.set_getElem_self]]
    exact H
  · cases oa with
    | none =>
      obtain ⟨g, ⟨h2, _⟩, _⟩ := H.front q hq
      subst h2
      simp at hi
    | some a =>
      obtain ⟨g, ⟨h2, h3, _⟩, _⟩ := H.front q hq
      obtain ⟨b, o, s⟩ := a
      simp only at h2 h3
      subst h2; subst h3
      have Hb := H.slb q hq
      have hgi : (L.set q (blk b e (xs.map f ++ sp)))[q]? = some (blk b e (xs.map f ++ sp)) := set_get hq
      have hobj := Hb.obj q hgi
      have hne : ¬ xs.length + sp.length = 1 := by omega
      rw [if_neg hne]
      have ea : (some (⟨b, 0, none⟩ : Addr)).map (·.add (1 * 1)) = some ⟨b, 1, none⟩ := rfl
      rw [ea]
      have hcl : ((xs.take i).map f).length = i := by simp; omega
      have hrun := run_copy_row (P := P) w t t ty e b 1 (i + 1 - 1) (xs.length + sp.length - 1) ⟨b, 0, none⟩ i (xs.length + sp.length) (xs.map f ++ sp).toArray e ((xs.take i).map f) hr.und hinf1 hobj
        (by rw [hcl, Nat.add_sub_cancel]; exact (Nat.min_self i).symm) (fun j v hv => by
          have e1 : (⟨b, 0, none⟩ : Addr).add j = ⟨b, j, none⟩ := by
            unfold Addr.add; split
            · rename_i h; rw [h]
            · simp
          rw [e1, Hb.cell q hgi j]
          have hj : j < i := by have := (List.getElem?_eq_some_iff.1 hv).1; rw [hcl] at this; exact this
          rw [List.getElem?_append_left (by simp; omega), ← hv, List.getElem?_map, List.getElem?_map, List.getElem?_take_of_lt hj]) (by rw [hcl]; simp; omega) (fun v hv => by
          obtain ⟨y, _, rfl⟩ := List.mem_map.1 hv
          exact sg_one (hs y))
      refine r_cp hrun (h _ _ ⟨rfl, rfl, rfl, by simp [World.setRow]⟩ ?_)
      have hcells : ((xs.map f ++ sp).toArray.toList.take 1 ++ (xs.take i).map f ++ (xs.map f ++ sp).toArray.toList.drop (1 + ((xs.take i).map f).length)) = (xs.take 1 ++ (xs.take i ++ xs.drop (i + 1))).map f ++ sp := by
        rw [hcl, List.toList_toArray, List.take_append_of_le_length (by simp; omega), List.drop_append_of_le_length (by simp; omega)]
        simp [Nat.add_comm]
      rw [hcells]
      have := Hb.upd (w' := w.setRow b ((xs.take 1 ++ (xs.take i ++ xs.drop (i + 1))).map f ++ sp).toArray) q hgi (o' := .cells ((xs.take 1 ++ (xs.take i ++ xs.drop (i + 1))).map f ++ sp).toArray e) (setRow_heap w b _ _ e _ hobj) fun c hc => setRow_other w b c _ hc
      have h4 := Holds.slb' (f := f) (e := e) (b := b) (xs := xs.take 1 ++ (xs.take i ++ xs.drop (i + 1))) (sp := sp) this q (by rw [List.set_set]; exact set_get hq)
      simpa [List.set_set] using h4
/-- A row's length, an element of it, and one put into it. -/
theorem r_lnS {α : Type} (i : Nat) (H : Holds w L) {f : α → Value} {e : TypeId} {v : Value} {xs : List α} {K : Value → Prop} (hi : L[i]? = some (SL f e v xs)) (h : K (nv xs.length)) : Lnl v K := by
  obtain ⟨oa, sp, rfl, _⟩ := H.open i hi
  exact r_lnl h
theorem r_getS {α : Type} (i : Nat) (H : Holds w L) {f : α → Value} {e : TypeId} {v : Value} {xs : List α} {k : IntKind} {j : Nat} {x : α} {K : Value → Prop} (hi : L[i]? = some (SL f e v xs)) (hx : xs[j]? = some x) (h : K (f x)) :
    Ias 1 v (.int k (j : Int)) fun p => Ld p w K := by
  obtain ⟨oa, sp, rfl, H1⟩ := H.open i hi
  have hj : j < xs.length := (List.getElem?_eq_some_iff.1 hx).1
  refine r_iasN i H1 (set_get hi) hj (Nat.le_refl _) fun b hb => ?_
  subst hb
  exact r_ldsl i H1 (set_get hi) hx h
theorem r_setS {α : Type} (i : Nat) (H : Holds w L) {f : α → Value} {e : TypeId} {v : Value} {xs : List α} {k : IntKind} {j : Nat} (x : α) {K : World → Prop} (hi : L[i]? = some (SL f e v xs)) (hj : j < xs.length) (hs : sg (f x) = true)
    (h : ∀ w', Same w w' → Holds w' (L.set i (SL f e v (xs.set j x))) → K w') : Ias 1 v (.int k (j : Int)) fun p => St p (f x) w K := by
  obtain ⟨oa, sp, rfl, H1⟩ := H.open i hi
  refine r_iasN i H1 (set_get hi) hj (Nat.le_refl _) fun b hb => ?_
  subst hb
  refine r_stsl i H1 x (set_get hi) hj rfl hs fun w2 S2 H2 => ?_
  rw [List.set_set] at H2
  have H3 := H2.close i (set_get hi)
  rw [List.set_set, List.length_set] at H3
  exact h _ S2 H3
theorem SL_sg {α : Type} {f : α → Value} {e : TypeId} {v : Value} {xs : List α} (H : Holds w L) (i : Nat) (hi : L[i]? = some (SL f e v xs)) : sg v = true := by
  obtain ⟨oa, sp, rfl, _⟩ := H.open i hi
  rfl
/-- Cells with a row among them. -/
theorem mid_get {α : Type} {f : α → Value} (pre : List Value) {post : List Value} {xs : List α} {j : Nat} {x : α} (h : xs[j]? = some x) : (pre ++ (xs.map f ++ post))[pre.length + j]? = some (f x) := by
  have hj : j < xs.length := (List.getElem?_eq_some_iff.1 h).1
  rw [List.getElem?_append_right (by omega), Nat.add_sub_cancel_left, List.getElem?_append_left (by simpa using hj), List.getElem?_map, h]
  rfl
theorem mid_set {α : Type} {f : α → Value} (pre : List Value) {post : List Value} {xs : List α} {j : Nat} (x : α) (h : j < xs.length) : (pre ++ (xs.map f ++ post)).set (pre.length + j) (f x) = pre ++ ((xs.set j x).map f ++ post) := by
  rw [List.set_append_right _ _ (by omega), Nat.add_sub_cancel_left, List.set_append_left _ _ (by simpa using h), List.map_set]
theorem mid_post {α : Type} {f : α → Value} (pre : List Value) {post : List Value} {xs : List α} {n j : Nat} (hn : xs.length = n) : (pre ++ (xs.map f ++ post))[pre.length + n + j]? = post[j]? := by
  rw [List.getElem?_append_right (by omega), List.getElem?_append_right (by simp; omega)]
  congr 1
  simp; omega
theorem mid_pset {α : Type} {f : α → Value} (pre : List Value) {post : List Value} {xs : List α} {n j : Nat} (v : Value) (hn : xs.length = n) : (pre ++ (xs.map f ++ post)).set (pre.length + n + j) v = pre ++ (xs.map f ++ post.set j v) := by
  rw [List.set_append_right _ _ (by omega), List.set_append_right _ _ (by simp; omega)]
  congr 3
  simp; omega
end Go.Vc
