/- A verified evaluator for closed calls, last part: its word on a call. No program in sight. -/
import Derived.Test.YtbhbdleffackaaaGreatDoorE9
set_option linter.unusedVariables false
set_option linter.unusedSimpArgs false
namespace Go.Ev
open Go Go.Vc
noncomputable section
variable {P : Program}
def s0G (G : List (Nat × List X)) : St := ⟨.e, 0, 1, .e, G⟩
def s0 : St := s0G []
def bsW (w : World) : Bs := ⟨fun c => c < w.heap.size, fun _ => False, fun c => c < w.heap.size, fun _ h => h⟩
def isTrue : Option (X × St) → Bool
  | some (.b true, _) => true
  | _ => false
/-- The variables hold this. -/
def GOk (G : List (Nat × List X)) (w : World) : Prop := ∀ g xs, lkG G g = some xs → ∃ e fz vs, vls (fun _ => none) xs = some vs ∧ w.heap[g]? = some (.cells vs.toArray e fz)
theorem startG {G : List (Nat × List X)} {w : World} (hG : GOk G w) : Wo P (bsW w) w (fun _ => none) (s0G G) w := by
  refine ⟨⟨fun b e cs h => ?_, fun b c x y r r' h => ?_, fun b o h => ?_, fun b c x y r r' h => ?_, fun g xs h => ?_⟩, ⟨rfl, Nat.lt_succ_self 0, fun _ _ => rfl, fun _ h => h.elim⟩, ⟨.refl w, fun c h => h, fun c _ => rfl⟩⟩
  · simp [St.blk, s0G, T.get_e, jn] at h
  · simp [St.blk, s0G, T.get_e, jn] at h
  · simp [St.mo, s0G, T.get_e, jn] at h
  · simp [St.mo, s0G, T.get_e, jn] at h
  · obtain ⟨e, fz, vs, h1, h2⟩ := hG g xs h
    exact ⟨(Array.getElem?_eq_some_iff.1 h2).1, e, fz, vs, h1, h2⟩
theorem start (w : World) : Wo P (bsW w) w (fun _ => none) s0 w := startG fun g xs h => by cases h
theorem fram_holds {w w' : World} {L : List HProp} (h : Fram (bsW w) w w') (H : Holds w L) : Holds w' L := by
  refine Sat.mono H fun c o hc => ?_
  show w'.heap[c]? = some o
  have hc' : w.heap[c]? = some o := hc
  have hlt : c < w.heap.size := (Array.getElem?_eq_some_iff.1 hc').1
  rw [h.old c hlt, hc']
/-- A call with no arguments that the evaluator brings to true, returns true; nothing that was there is turned. -/
theorem cl_true (hm : P.follows .mixedOrders = true) {f : FuncId} {k : Nat} {M : List Ent} (hM : OraOk P M) (h : isTrue (callX P M (ev P M k) f [] s0) = true) {w : World} {L : List HProp} {K : Value → World → Prop} (H : Holds w L)
    (post : ∀ w', Same w w' → Holds w' L → K (.bool true) w') : Cl P f #[] w K := by
  have hc : CallOk P (bsW w) w (callX P M (ev P M k)) := callX_ok hM (ev_ok hm hM k).1
  cases hx : callX P M (ev P M k) f [] s0 with
  | none => rw [hx] at h; cases h
  | some q =>
    obtain ⟨x, s'⟩ := q
    rw [hx] at h
    cases x with
    | b c =>
      cases c with
      | false => cases h
      | true =>
        refine (hc f [] s0 _ s' hx _ w [] (start w) rfl K fun σ' w' v _ hw hv => ?_).2
        simp only [vl, Option.some.injEq] at hv
        subst hv
        exact post w' hw.fram.same (fram_holds hw.fram H)
    | _ => cases h
/-- The same, where variables are read. A call with no arguments that the evaluator brings to true, returns true; nothing that was there is turned. -/
theorem cl_trueG (hm : P.follows .mixedOrders = true) {f : FuncId} {k : Nat} {M : List Ent} {G : List (Nat × List X)} (hM : OraOk P M) (h : isTrue (callX P M (ev P M k) f [] (s0G G)) = true) {w : World} {L : List HProp} {K : Value → World → Prop} (hG : GOk G w) (H : Holds w L)
    (post : ∀ w', Same w w' → Holds w' L → K (.bool true) w') : Cl P f #[] w K := by
  have hc : CallOk P (bsW w) w (callX P M (ev P M k)) := callX_ok hM (ev_ok hm hM k).1
  cases hx : callX P M (ev P M k) f [] (s0G G) with
  | none => rw [hx] at h; cases h
  | some q =>
    obtain ⟨x, s'⟩ := q
    rw [hx] at h
    cases x with
    | b c =>
      cases c with
      | false => cases h
      | true =>
        refine (hc f [] (s0G G) _ s' hx _ w [] (startG hG) rfl K fun σ' w' v _ hw hv => ?_).2
        simp only [vl, Option.some.injEq] at hv
        subst hv
        exact post w' hw.fram.same (fram_holds hw.fram H)
    | _ => cases h
def isVal (z : X) : Option (X × St) → Bool
  | some q => eqX q.1 z
  | none => false
/-- A call with arguments that have no address, which the evaluator brings to a value that has none. -/
theorem cl_val (hm : P.follows .mixedOrders = true) {f : FuncId} {k : Nat} {xs : List X} {z : X} {vs : List Value} {v : Value} (hxs : vls (fun _ => none) xs = some vs) (hz : vl (fun _ => none) z = some v) {M : List Ent} (hM : OraOk P M) (h : isVal z (callX P M (ev P M k) f xs s0) = true)
    {w : World} {L : List HProp} {K : Value → World → Prop} (H : Holds w L) (post : ∀ w', Same w w' → Holds w' L → K v w') : Cl P f vs.toArray w K := by
  have hc : CallOk P (bsW w) w (callX P M (ev P M k)) := callX_ok hM (ev_ok hm hM k).1
  cases hx : callX P M (ev P M k) f xs s0 with
  | none => rw [hx] at h; cases h
  | some q =>
    obtain ⟨x, s'⟩ := q
    rw [hx] at h
    obtain rfl := eqX_eq x z h
    refine (hc f xs s0 _ s' hx _ w vs (start w) hxs K fun σ' w' v' _ hw hv => ?_).2
    rw [vl_ext (fun n r hn => by cases hn) _ _ hz] at hv
    obtain rfl := Option.some.inj hv
    exact post w' hw.fram.same (fram_holds hw.fram H)
end
end Go.Ev
