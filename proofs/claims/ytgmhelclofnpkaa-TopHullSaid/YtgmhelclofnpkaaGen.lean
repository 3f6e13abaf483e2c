/- A region that draws its order, walked by hand: what is taken first, then one operation, or one of two, and so on. -/
import Derived.Test.YtgmhelclofnpkaaOne
namespace Go.Proofs.Ytgmhelclofnpkaa
open Go.RowKit

section
variable {P : Program} {Q : Exit → Act → World → Prop} {S : World → Prop} {l : List Oper}
/-- The region from here on, whatever order comes. -/
def RG (P : Program) (l : List Oper) (Q : Exit → Act → World → Prop) (S : World → Prop) (fuel : Nat) (listed : Array Bool) (a : Act) (w : World) : Prop := wpAnyH P .any l.toArray Q S fuel listed a w
theorem rg_start {id : Nat} {a : Act} {w : World} (S : World → Prop) (n : Nat) (hm : P.follows .mixedOrders = true) (hn : l.toArray.size = n) (h : RG P l Q S n (Array.replicate n false) a w.drew) : (Code.region id l.toArray true).wp P Q a w := by
  subst hn
  exact wp_region_held (S := S) hm h
theorem rg_take {fuel fuel' : Nat} {listed : Array Bool} {a : Act} {w : World} (is : List Nat) (hs : Region.noSelect l.toArray = true) (hQ : ∀ c (a : Act) d v w, Q (.panic c) (a.put d v) w → Q (.panic c) a w) (hf : fuel' = fuel + is.length)
    (h2 : belowB l.length is = true) (h3 : takeB .any l.toArray is listed = true) (hS : S w) (h : wpTake P l.toArray S (fun a' => RG P l Q S fuel (listedB is listed) a' w) (pickL l is) a) : RG P l Q S fuel' listed a w := by
  subst hf
  exact wpAnyH_takes hs hQ is (pickL l is) fuel listed a w (pickL_map l is fun i hi => by simpa using List.all_eq_true.1 h2 i hi) h3 hS h (fun _ k => k)
theorem rg_one {fuel fuel' : Nat} {listed : Array Bool} {a : Act} {w : World} (c : Nat) (hf : fuel' = fuel + 1) (h2 : belowB l.length [c] = true) (h4 : Region.ready .any l.toArray listed = [c])
    (h : ∀ K' : Act → World → Prop, Shut (∀ a2 w2, S w2 → RG P l Q S fuel (listed.setIfInBounds c true) a2 w2 → K' a2 w2) → wpHead P l.toArray Q K' a w (pick1 l c)) : RG P l Q S fuel' listed a w := by
  subst hf
  obtain ⟨oc, hp, hc⟩ := pick1_lt l c (by simpa using List.all_eq_true.1 h2 c (by simp))
  refine wpAnyH_all h4 (by simp) ?_
  intro i hi
  obtain rfl : i = c := by simpa using hi
  rw [hp] at h
  exact wpOp_step (o := oc) (by simpa using hc) (fun K' hK => h K' fun a2 w2 hS hR => hK a2 w2 ⟨hS, hR⟩)
theorem rg_two {fuel fuel' : Nat} {listed : Array Bool} {a : Act} {w : World} (c d : Nat) (hf : fuel' = fuel + 1) (h2 : belowB l.length [c, d] = true) (h4 : Region.ready .any l.toArray listed = [c, d])
    (h : ∀ K' : Act → World → Prop, Shut (∀ a2 w2, S w2 → RG P l Q S fuel (listed.setIfInBounds c true) a2 w2 → K' a2 w2) → wpHead P l.toArray Q K' a w (pick1 l c))
    (k : ∀ K' : Act → World → Prop, Shut (∀ a2 w2, S w2 → RG P l Q S fuel (listed.setIfInBounds d true) a2 w2 → K' a2 w2) → wpHead P l.toArray Q K' a w (pick1 l d)) : RG P l Q S fuel' listed a w := by
  subst hf
  obtain ⟨oc, hp, hc⟩ := pick1_lt l c (by simpa using List.all_eq_true.1 h2 c (by simp))
  obtain ⟨od, hp', hd⟩ := pick1_lt l d (by simpa using List.all_eq_true.1 h2 d (by simp))
  refine wpAnyH_all h4 (by simp) ?_
  intro i hi
  rcases (show i = c ∨ i = d by simpa using hi) with rfl | rfl
  · rw [hp] at h
    exact wpOp_step (o := oc) (by simpa using hc) (fun K' hK => h K' fun a2 w2 hS hR => hK a2 w2 ⟨hS, hR⟩)
  · rw [hp'] at k
    exact wpOp_step (o := od) (by simpa using hd) (fun K' hK => k K' fun a2 w2 hS hR => hK a2 w2 ⟨hS, hR⟩)
theorem rg_done {fuel : Nat} {listed : Array Bool} {a : Act} {w : World} (h8 : Region.ready .any l.toArray listed = []) (h : Q .normal a w) : RG P l Q S fuel listed a w := wpAnyH_done h8 h fuel
end
end Go.Proofs.Ytgmhelclofnpkaa
