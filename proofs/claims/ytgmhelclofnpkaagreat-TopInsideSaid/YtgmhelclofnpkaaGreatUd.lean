/- Walks: all truths of a sheet, as an iterator. -/
import Derived.Test.YtgmhelclofnpkaaGreatUc
namespace Go.Proofs.YtgmhelclofnpkaaGreat
open Go.RowKit Go.Shelf

attribute [local go_sem] Oper.semAt_some
theorem own_kpc {n₁ n₂ B0 b : Nat} {vs : List Value} {W W' : World} (h : Own W b vs) (k : KpC n₁ n₂ B0 W W') (hb : n₂ ≤ b) : Own W' b vs := h.ofBlock (k.2.2 b hb h.lt)
/-- A round's contract serves inside another round. -/
theorem roundIn_any {m m' l2 l : Nat} {P : Program} {f : FuncId} {tmps : Array Value} {assign body : Code} {w : World} {R : Ending → World → Prop} (h : RoundIn Fence.wide m P l f tmps assign body w R) : RoundIn (Fence.wide.inRound l2) m' P l f tmps assign body w R :=
  ⟨trivial, fun c cs _ => h.2 c cs (room_wide _)⟩
/-- The factors are a truth. -/
def trB (wq : Int) (cs : List Ct) (p : P2) : Bool := decide ((Sh.wrongs cs p : Int) ≤ wq)
abbrev Tr (aL aH lL lH wq : Int) (cs : List Ct) := {p : P2 // Sh.In aL aH lL lH p ∧ trB wq cs p = true}
def trO {aL aH lL lH : Int} (wq : Int) (cs : List Ct) (x : Fac aL aH lL lH) : Option (Tr aL aH lL lH wq cs) := if h : trB wq cs x.1 = true then some ⟨x.1, x.2, h⟩ else none
def trF {aL aH lL lH : Int} (wq : Int) (cs : List Ct) (pre : List (Fac aL aH lL lH)) : List (Tr aL aH lL lH wq cs) := pre.filterMap (trO wq cs)
theorem trF_vals {aL aH lL lH wq : Int} {cs : List Ct} : ∀ ys : List (Fac aL aH lL lH), (trF wq cs ys).map (·.1) = (ys.map (·.1)).filter fun p => trB wq cs p
  | [] => rfl
  | y :: ys => by
    have ih := trF_vals (wq := wq) (cs := cs) ys
    unfold trF at ih ⊢
    rw [List.filterMap_cons, List.map_cons, List.filter_cons]
    unfold trO at ih ⊢
    by_cases h : trB wq cs y.1 = true
    · rw [dif_pos h, if_pos h, List.map_cons, ih]
    · rw [dif_neg h, if_neg h, ih]
theorem trF_map {aL aH lL lH wq : Int} {cs : List Ct} {ys : List (Fac aL aH lL lH)} (h : ys.map (·.1) = Sh.allP aL aH lL lH) : (trF wq cs ys).map (·.1) = Sh.trs aL aH lL lH wq cs := by
  rw [trF_vals, h]; rfl
theorem trF_no {aL aH lL lH wq : Int} {cs : List Ct} {pre : List (Fac aL aH lL lH)} {x : Fac aL aH lL lH} (h : trB wq cs x.1 = false) : trF wq cs (pre ++ [x]) = trF wq cs pre := by
  simp [trF, trO, h]
theorem trF_yes {aL aH lL lH wq : Int} {cs : List Ct} {pre : List (Fac aL aH lL lH)} {x : Fac aL aH lL lH} (h : trB wq cs x.1 = true) : trF wq cs (pre ++ [x]) = trF wq cs pre ++ [⟨x.1, x.2, h⟩] := by
  simp [trF, trO, h]
theorem pairs_mem {aL lL : Int} {m : Nat} {i j : Nat} (hj : j < m) : ∀ n, i < n → (aL + (i : Int), lL + (j : Int)) ∈ Sh.pairs aL lL m n
  | 0, h => by omega
  | n + 1, h => by
    rw [Sh.pairs, List.mem_append]
    by_cases e : i = n
    · subst e
      exact Or.inr (List.mem_map.2 ⟨j, List.mem_range.2 hj, rfl⟩)
    · exact Or.inl (pairs_mem hj n (by omega))
theorem allP_mem {aL aH lL lH : Int} {p : P2} (h : Sh.In aL aH lL lH p) : p ∈ Sh.allP aL aH lL lH := by
  obtain ⟨⟨h1, h2⟩, h3, h4⟩ := h
  have := pairs_mem (aL := aL) (lL := lL) (m := (lH - lL + 1).toNat) (i := (p.1 - aL).toNat) (j := (p.2 - lL).toNat) (by omega) (aH - aL + 1).toNat (by omega)
  rw [show aL + (((p.1 - aL).toNat : Nat) : Int) = p.1 by omega, show lL + (((p.2 - lL).toNat : Nat) : Int) = p.2 by omega] at this
  exact this
theorem trs_mem {aL aH lL lH wq : Int} {cs : List Ct} (x : Tr aL aH lL lH wq cs) : x.1 ∈ Sh.trs aL aH lL lH wq cs := List.mem_filter.2 ⟨allP_mem x.2.1, x.2.2⟩
def facT (p : P2) : Array Value := #[.agg #[.int .i64 p.1, .int .i64 p.2]]
end Go.Proofs.YtgmhelclofnpkaaGreat
