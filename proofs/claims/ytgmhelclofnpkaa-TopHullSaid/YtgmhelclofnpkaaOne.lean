/- A region that draws its order, reads, makes ONE call that makes memory, and works on with what the call gave: one walk. -/
import Derived.Test.YtgmhelclofnpkaaKit
import Derived.OrdersHeld
import Derived.Deep.RegionHeld
namespace Go.Proofs.Ytgmhelclofnpkaa
open Go.RowKit

section
variable {P : Program} {ops : Array Oper} {Q : Exit → Act → World → Prop} {md : Region.Mode} {S : World → Prop}

/-- Operations taken first, one after the other, each yielding one value in every world that meets S. -/
def wpTake (P : Program) (ops : Array Oper) (S : World → Prop) (K : Act → Prop) : List Oper → Act → Prop
  | [], a => K a
  | o :: rest, a => ∃ v, YieldsIf P ops S o v a ∧ wpTake P ops S K rest (a.put o.dst v)
theorem wpTake_cons {K : Act → Prop} {o : Oper} {rest : List Oper} {a : Act} {v : Value} (hy : YieldsIf P ops S o v a) (h : wpTake P ops S K rest (a.put o.dst v)) : wpTake P ops S K (o :: rest) a := ⟨v, hy, h⟩
theorem wpTake_nil {K : Act → Prop} {a : Act} (h : K a) : wpTake P ops S K [] a := h
def takeB (md : Region.Mode) (ops : Array Oper) : List Nat → Array Bool → Bool
  | [], _ => true
  | i :: r, listed => Region.free md ops listed i && (Region.ready md ops listed).contains i && takeB md ops r (listed.setIfInBounds i true)
def listedB : List Nat → Array Bool → Array Bool
  | [], listed => listed
  | i :: r, listed => listedB r (listed.setIfInBounds i true)
/-- A sharper condition serves. -/
theorem wpAnyH_sharper {S' : World → Prop} (h : ∀ w, S' w → S w) : ∀ (fuel : Nat) (listed : Array Bool) (a : Act) (w : World), wpAnyH P md ops Q S' fuel listed a w → wpAnyH P md ops Q S fuel listed a w
  | 0, _, _, _, k => k
  | fuel + 1, _, _, _, k => ⟨k.1, fun i hi => wpOp_mono (fun a' w' k' => ⟨h _ k'.1, wpAnyH_sharper h fuel _ a' w' k'.2⟩) (k.2 i hi)⟩
theorem wpAnyH_takes (hs : Region.noSelect ops = true) (hQ : ∀ c (a : Act) d v w, Q (.panic c) (a.put d v) w → Q (.panic c) a w) {K : Act → Prop} : ∀ (is : List Nat) (os : List Oper) (fuel : Nat) (listed : Array Bool) (a : Act) (w : World),
    is.map (ops[·]?) = os.map some → takeB md ops is listed = true → S w → wpTake P ops S K os a → (∀ a', K a' → wpAnyH P md ops Q S fuel (listedB is listed) a' w) → wpAnyH P md ops Q S (fuel + is.length) listed a w
  | [], [], fuel, listed, a, w, _, _, _, h, k => k a h
  | [], _ :: _, _, _, _, _, he, _, _, _, _ => by cases he
  | _ :: _, [], _, _, _, _, he, _, _, _, _ => by cases he
  | i :: is, o :: os, fuel, listed, a, w, he, hb, hS, h, k => by
    simp only [List.map_cons, List.cons.injEq] at he
    simp only [takeB, Bool.and_eq_true] at hb
    obtain ⟨v, hy, h⟩ := h
    exact wpAnyH_take he.1 hs hb.1.1 hb.1.2 (fun c a w => hQ c a _ _ w) hy hS (wpAnyH_takes hs hQ is os fuel _ _ w he.2 hb.2 hS h k)
def pick1 : List Oper → Nat → List Oper
  | [], _ => []
  | o :: _, 0 => [o]
  | _ :: r, n + 1 => pick1 r n
def pickL (l : List Oper) : List Nat → List Oper
  | [] => []
  | i :: r => pick1 l i ++ pickL l r
theorem pick1_lt : ∀ (l : List Oper) (i : Nat), i < l.length → ∃ o, pick1 l i = [o] ∧ l[i]? = some o
  | [], i, h => by cases h
  | o :: r, 0, _ => ⟨o, rfl, rfl⟩
  | _ :: r, n + 1, h => by
    obtain ⟨o, h1, h2⟩ := pick1_lt r n (by simpa using h)
    exact ⟨o, h1, by simpa using h2⟩
theorem pickL_map (l : List Oper) : ∀ is : List Nat, (∀ i ∈ is, i < l.length) → is.map (l.toArray[·]?) = (pickL l is).map some
  | [], _ => rfl
  | i :: is, h => by
    obtain ⟨o, h1, h2⟩ := pick1_lt l i (h i (List.mem_cons_self ..))
    have ih := pickL_map l is (fun j hj => h j (List.mem_cons_of_mem _ hj))
    rw [List.map_cons, pickL, h1, List.map_append, ih]
    simp [h2]
def wpHead (P : Program) (ops : Array Oper) (Q : Exit → Act → World → Prop) (K : Act → World → Prop) (a : Act) (w : World) : List Oper → Prop
  | [o] => if Region.wanted o (yielded ops a.tmps) = true then Oper.wp P o a w K Q else K (a.put o.dst undef) w
  | _ => False
def belowB (n : Nat) (is : List Nat) : Bool := is.all (· < n)
/-- The law: is: what is taken first · c: the call · js: what comes behind it. -/
theorem wp_region_one {id : Nat} {a : Act} {w : World} {l : List Oper} (is : List Nat) (c : Nat) (js : List Nat) (hm : P.follows .mixedOrders = true)
    (hs : Region.noSelect l.toArray = true) (h2 : belowB l.length (c :: (is ++ js)) = true) (h3 : takeB .any l.toArray is (Array.replicate l.toArray.size false) = true) (h4 : Region.ready .any l.toArray (listedB is (Array.replicate l.toArray.size false)) = [c])
    (h7 : takeB .any l.toArray js ((listedB is (Array.replicate l.toArray.size false)).setIfInBounds c true) = true) (h8 : Region.ready .any l.toArray (listedB js ((listedB is (Array.replicate l.toArray.size false)).setIfInBounds c true)) = [])
    (h9 : l.toArray.size = js.length + 1 + is.length) (hQ : ∀ c (a : Act) d v w, Q (.panic c) (a.put d v) w → Q (.panic c) a w)
    (h : wpTake P l.toArray (fun w' => ∃ x : Aft w, w' = x.w) (fun a' => ∀ K' : Act → World → Prop,
      Shut (∀ a2 w2, Below w.heap.size w w2 → wpTake P l.toArray (fun w' => w' = w2) (fun a3 => Q .normal a3 w2) (pickL l js) a2 → K' a2 w2) →
      wpHead P l.toArray Q K' a' w.drew (pick1 l c)) (pickL l is) a) :
    (Code.region id l.toArray true).wp P Q a w := by
  refine wp_region_held (S := fun w' => ∃ x : Aft w, w' = x.w) hm ?_
  have hS : ∃ x : Aft w, w.drew = x.w := ⟨⟨w.drew, (Below.refl _ _).drew⟩, rfl⟩
  have hb : ∀ i ∈ c :: (is ++ js), i < l.length := fun i hi => by simpa using List.all_eq_true.1 h2 i hi
  obtain ⟨oc, hp, hc⟩ := pick1_lt l c (hb c (List.mem_cons_self ..))
  have e := wpAnyH_takes (md := .any) hs hQ is (pickL l is) (js.length + 1) (Array.replicate l.toArray.size false) a w.drew (pickL_map l is fun i hi => hb i (by simp [hi])) h3 hS h (fun a' k => ?_)
  · rw [← h9] at e
    exact e
  · refine wpAnyH_all h4 (by simp) ?_
    intro i hi
    obtain rfl : i = c := by simpa using hi
    rw [hp] at k
    refine wpOp_step (o := oc) (by simpa using hc) (fun K' hK => k K' ?_)
    intro a2 w2 hb2 h'
    refine hK a2 w2 ⟨⟨⟨w2, hb2⟩, rfl⟩, ?_⟩
    refine wpAnyH_sharper (S' := fun w' => w' = w2) (fun w' e => ⟨⟨w2, hb2⟩, e⟩) _ _ _ _ ?_
    have e := wpAnyH_takes (md := .any) (S := fun w' => w' = w2) hs hQ js (pickL l js) 0 ((listedB is (Array.replicate l.toArray.size false)).setIfInBounds i true) a2 w2 (pickL_map l js fun j hj => hb j (by simp [hj])) h7 rfl h' (fun a3 k3 => wpAnyH_done h8 k3 0)
    rwa [Nat.zero_add] at e

end
end Go.Proofs.Ytgmhelclofnpkaa
