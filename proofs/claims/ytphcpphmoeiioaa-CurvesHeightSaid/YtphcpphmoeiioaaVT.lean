/- Walks: the states at a place, if nothing before it matters. -/
import Derived.Test.YtphcpphmoeiioaaVQa
import Derived.Test.YtphcpphmoeiioaaVRa
import Derived.Test.YtphcpphmoeiioaaVD
import Derived.Deep.LoopGhost
namespace Go.Proofs.Ytphcpphmoeiioaa
open Go.RowKit Go.Maps

/-- States of the heights below y. -/
def BegR (rl rh : Int) (ks : List Kn) (f : Int → Option Int) (p y : Int) (x w s : Int) : Prop := rl ≤ x ∧ x < y ∧ alB rl rh f p x = true ∧ w = wrs ks p x ∧ s = 0
theorem fro_none {R : Int → Int → Int → Prop} (h : ∀ x w s, ¬ R x w s) : Fro (fun _ _ => none) R := fun x w s => h x w s
theorem isSp_zero : IsSp (fun s => s = 0) 0 0 := ⟨rfl, rfl, fun s h => by omega⟩
theorem begR_put {rl rh : Int} {ks : List Kn} {f : Int → Option Int} {p y : Int} {F : Int → Int → Option (Int × Int)} (h : Fro F (BegR rl rh ks f p y)) (h0 : rl ≤ y) (ha : alB rl rh f p y = true) : Fro (putF F y (wrs ks p y) 0 0) (BegR rl rh ks f p (y + 1)) :=
  (fro_put (x := y) (w := wrs ks p y) h isSp_zero).congr fun x w s => by
    unfold BegR
    constructor
    · rintro (⟨h1, h2, h3, h4, h5⟩ | ⟨rfl, rfl, h5⟩)
      · exact ⟨h1, by omega, h3, h4, h5⟩
      · exact ⟨h0, by omega, ha, rfl, h5⟩
    · rintro ⟨h1, h2, h3, h4, h5⟩
      by_cases e : x = y
      · subst e; exact Or.inr ⟨rfl, h4, h5⟩
      · exact Or.inl ⟨h1, by omega, h3, h4, h5⟩
theorem begR_skip {rl rh : Int} {ks : List Kn} {f : Int → Option Int} {p y : Int} {F : Int → Int → Option (Int × Int)} (h : Fro F (BegR rl rh ks f p y)) (ha : alB rl rh f p y = false) : Fro F (BegR rl rh ks f p (y + 1)) :=
  h.congr fun x w s => by
    unfold BegR
    constructor
    · rintro ⟨h1, h2, h3, h4, h5⟩; exact ⟨h1, by omega, h3, h4, h5⟩
    · rintro ⟨h1, h2, h3, h4, h5⟩
      by_cases e : x = y
      · subst e; rw [ha] at h3; cases h3
      · exact ⟨h1, by omega, h3, h4, h5⟩
theorem FixM.below {w w' : World} {fv : Value} {f : Int → Option Int} {B : Nat} (h : FixM w fv f) (k : Below B w w') (hB : w.heap.size ≤ B) : FixM w' fv f := by
  rcases h with h | ⟨b, n, e, hm⟩
  · exact Or.inl h
  · exact Or.inr ⟨b, n, e, hm.below k (Nat.lt_of_lt_of_le hm.lt hB)⟩
theorem allows87 (L sl rl rh wr : Int) (s fv : Value) (f : Int → Option Int) (p x : Int) (w : World) (hf : FixM w fv f) (hp : (Lit.int .i64 p).wf = true) :
    Calls Try.prog 87 #[.agg #[.int .i64 L, .int .i64 sl, .int .i64 rl, .int .i64 rh, s, .int .i64 wr, fv], .int .i64 p, .int .i64 x] w fun e w' => e = .returned (.bool (alB rl rh f p x)) ∧ Below w.heap.size w w' := by
  rcases hf with ⟨rfl, rfl⟩ | ⟨b, n, rfl, hm⟩
  · have : alB rl rh (fun _ => none) p x = btw x rl rh := by simp [alB]
    rw [this]
    exact allows87_nil L sl rl rh wr s p x w hp
  · exact allows87_map L sl rl rh wr s b n f p x w hm hp
end Go.Proofs.Ytphcpphmoeiioaa
