/- Regions that draw their order within a round of a range over a function. -/
import Derived.Test.YtgmhelclofnpkaaGen
import Derived.RangeFuncWrites
import Derived.OwnWalkIn
import Derived.OrdersIn
import Derived.Shelf.SlIterI.Collect
import Derived.RangeFuncBound
import Derived.RangeFuncCalls
import Derived.RangeFuncLeaves
import Derived.TacticsInMore
import Derived.LoopIn
namespace Go.Proofs.Ytgmhelclofnpkaa
open Go.RowKit

def noDefB (l : List Oper) : Bool := l.all fun o => match o.op with | .defer _ => false | _ => true
theorem noDef_at {l : List Oper} (h : noDefB l = true) {i : Nat} {o : Oper} (e : l.toArray[i]? = some o) : ∀ c, o.op ≠ .defer c := by
  intro c hc
  have hm : o ∈ l := List.mem_of_getElem? (by simpa using e)
  have := List.all_eq_true.1 h o hm
  rw [hc] at this
  cases this
section
variable {P : Program} {Q : Exit → Act → World → Prop} {S : World → Prop} {l : List Oper} {r n : Nat}
theorem upon_in {o : Oper} {a : Act} {K K' : Act → World → Prop} (hK : ∀ a w, K a w → K' a w) {x : Result Next} (h : o.upon P a K Q x) : o.uponIn (Fence.wide.inRound r) n P a K' Q x := by
  cases x with
  | ok y w' =>
    cases y <;> simp only [Oper.upon, Oper.uponIn] at h ⊢
    case value => exact hK _ _ h
    case skip => exact hK _ _ h
    case defer => exact hK _ _ h
    case enter f args =>
      refine ⟨fun e => (by cases e), ?_⟩
      refine CallsIn.inRound r (callsIn_wide.2 (h.mono fun e w'' he => ?_))
      cases e with
      | returned u => exact hK _ _ he
      | panicked c => exact he
      | outgrown => exact he
    case row row args =>
      refine ⟨fun e => (by cases e), ?_⟩
      intro c cs _
      obtain ⟨v, w'', q, hs⟩ := h c cs
      exact ⟨v, w'', hK _ _ q, stepsIn_wide.2 hs⟩
  | halt y w' =>
    cases y <;> simp only [Oper.upon, Oper.uponIn] at h ⊢
    case panic => exact h
theorem any_in (hnd : noDefB l = true) (hlo : ¬ LetsOut Q) : ∀ (fuel : Nat) (listed : Array Bool) (a : Act) (w : World), wpAnyH P .any l.toArray Q S fuel listed a w → wpAnyIn (Fence.wide.inRound r) n P .any l.toArray Q fuel listed a w
  | 0, _, _, _, h => h
  | fuel + 1, listed, a, w, h => by
    refine ⟨h.1, fun i hi => ?_⟩
    have h2 := h.2 i hi
    unfold wpOp at h2
    unfold wpOpIn
    cases e : l.toArray[i]? with
    | none => rw [e] at h2; exact any_in hnd hlo fuel _ _ _ h2.2
    | some o =>
      rw [e] at h2
      simp only at h2 ⊢
      split
      · rename_i hw
        rw [if_pos hw] at h2
        rcases h2 with h2 | ⟨_, h2⟩
        · refine ⟨fun _ _ => trivial, ?_⟩
          rw [Oper.semAt_plain _ _ _ (noDef_at hnd e)]
          exact upon_in (fun a w k => any_in hnd hlo fuel _ a w k.2) h2
        · exact absurd h2 hlo
      · rename_i hw
        rw [if_neg hw] at h2
        exact ⟨fun _ _ => trivial, any_in hnd hlo fuel _ _ _ h2.2⟩
theorem region_in {id : Nat} {a : Act} {w : World} (S : World → Prop) (k : Nat) (hm : P.follows .mixedOrders = true) (hk : l.toArray.size = k) (hnd : noDefB l = true) (hlo : ¬ LetsOut Q) (h : RG P l Q S k (Array.replicate k false) a w.drew) : (Code.region id l.toArray true).wpIn (Fence.wide.inRound r) n P Q a w := by
  subst hk
  exact wpIn_region_any hm (any_in hnd hlo _ _ _ _ h)
end
end Go.Proofs.Ytgmhelclofnpkaa
