/- Maps from states (height, wrong) to sums (low, high), told as functions. -/
import Derived.Test.YtphcpphmoeiioaaKit
import Derived.Test.YtphcpphmoeiioaaVP
import Derived.Test.YtphcpphmoeiioaaProg
import Derived.Maps.RangeWalk
import Derived.Maps.OwnSet
import Derived.DeepKeys4
namespace Go.Proofs.Ytphcpphmoeiioaa
open Go.RowKit Go.Maps Go.ChangeShapes Go.WideShapes Go.ChangeAt Go.WideMaps Go.WideElems

theorem laidOutC : laidOutB Try.prog = true := by kernel_rfl
theorem row106 : (106 : TypeId) < Try.prog.types.size := of_decide_eq_true (by kernel_rfl)
theorem lawS : KeyLaw Try.prog 106 := deep_law_laid laidOutC (m := 2) (by omega) row106 (by kernel_rfl) (by kernel_rfl)
theorem keyedS : Keyed Try.prog 106 := Keyed.of_law lawS
theorem isStruct106 : ∃ fs, Try.prog.underlying 106 = some (.struct fs) := ⟨_, Try.underlying106⟩
theorem cells106 : Try.prog.cellsOf 106 = 2 := by kernel_rfl
theorem zeroS (w : World) : (zeroValue 83).run Try.prog w = .ok (.agg #[.int .i64 0, .int .i64 0]) w := by kernel_rfl
theorem formedS (x v : Int) : (Value.agg #[.int .i64 x, .int .i64 v]).formed Try.prog 106 = true := by
  obtain ⟨fs, hu⟩ := isStruct106
  simp [Value.formed, hu, cells106]
theorem litsS {x v : Int} (hx : (Lit.int .i64 x).wf = true) (hv : (Lit.int .i64 v).wf = true) : ∃ ls, Try.prog.keyLits (Try.prog.types.size + 1) 106 [.int .i64 x, .int .i64 v] = some ls := by
  obtain ⟨m, hm⟩ : ∃ m, Try.prog.types.size = m + 1 := ⟨131, by kernel_rfl⟩
  have h3 : ∀ z : Int, (Lit.int .i64 z).wf = true → Try.prog.keyLits (m + 1) 3 [.int .i64 z] = some [.int .i64 z] := fun z hz => by
    have hu := Try.underlying3
    unfold Program.keyLits
    rw [hu]
    simp [hz]
  have hc3 : Try.prog.cellsOf 3 = 1 := by kernel_rfl
  refine ⟨[.int .i64 x, .int .i64 v], ?_⟩
  rw [hm]
  have hu := Try.underlying106
  unfold Program.keyLits
  rw [hu]
  simp [cells106, hc3, h3 x hx, h3 v hv]
/-- A state's key. -/
noncomputable def kS (x v : Int) : Lit := (keyOf Try.prog 106 (.agg #[.int .i64 x, .int .i64 v])).getD (.bool false)
theorem keyS {x v : Int} (hx : (Lit.int .i64 x).wf = true) (hv : (Lit.int .i64 v).wf = true) : keyOf Try.prog 106 (.agg #[.int .i64 x, .int .i64 v]) = some (kS x v) := by
  have : (keyOf Try.prog 106 (.agg #[.int .i64 x, .int .i64 v])).isSome = true := by
    obtain ⟨fs, hu⟩ := isStruct106
    obtain ⟨ls, hl⟩ := litsS hx hv
    unfold keyOf
    rw [hu]
    have hk : Try.prog.keyType 106 = true := by kernel_rfl
    simp only [hk, formedS, Bool.and_self, if_true]
    show (Option.map _ (Try.prog.keyLits (Try.prog.types.size + 1) 106 [.int .i64 x, .int .i64 v])).isSome = true
    rw [hl]; rfl
  unfold kS
  cases h : keyOf Try.prog 106 (.agg #[.int .i64 x, .int .i64 v]) with
  | none => rw [h] at this; cases this
  | some l => rfl
set_option maxRecDepth 100000 in
theorem lits3 {m : Nat} {z : Value} {ls : List Lit} (h : Try.prog.keyLits (m + 1) 3 [z] = some ls) : ∃ x, (Lit.int .i64 x).wf = true ∧ z = .int .i64 x := by
  have hu := Try.underlying3
  unfold Program.keyLits at h
  simp only [hu] at h
  cases z <;> simp at h
  obtain ⟨⟨rfl, hw⟩, _⟩ := h
  exact ⟨_, hw, rfl⟩
set_option maxRecDepth 100000 in
theorem invS {key : Value} {kl : Lit} (h : keyOf Try.prog 106 key = some kl) : ∃ x v, (Lit.int .i64 x).wf = true ∧ (Lit.int .i64 v).wf = true ∧ key = .agg #[.int .i64 x, .int .i64 v] := by
  have hu := Try.underlying106
  have hs : (keyOf Try.prog 106 key).isSome = true := by rw [h]; rfl
  clear h
  unfold keyOf at hs
  simp only [hu] at hs
  split at hs
  case isFalse => cases hs
  case isTrue hk =>
    rw [Bool.and_eq_true] at hk
    have hf := hk.2
    rw [Option.isSome_map] at hs
    obtain ⟨ls, hl⟩ := Option.isSome_iff_exists.1 hs
    have hc : ∃ c0 c1, key = .agg #[c0, c1] := by
      cases key <;> simp [Value.formed, hu, cells106] at hf
      rename_i cs
      obtain ⟨l⟩ := cs
      match l, hf with
      | [c0, c1], _ => exact ⟨c0, c1, rfl⟩
    obtain ⟨c0, c1, rfl⟩ := hc
    obtain ⟨m, hm⟩ : ∃ m, Try.prog.types.size = m + 1 := ⟨131, by kernel_rfl⟩
    have hc3 : Try.prog.cellsOf 3 = 1 := by kernel_rfl
    have hl' : Try.prog.keyLits (m + 1 + 1) 106 [c0, c1] = some ls := by rw [← hm]; exact hl
    clear hl hs hk hf
    unfold Program.keyLits at hl'
    simp [hu, cells106, hc3] at hl'
    cases e0 : Try.prog.keyLits (m + 1) 3 [c0] with
    | none => rw [e0] at hl'; cases hl'
    | some l0 =>
      cases e1 : Try.prog.keyLits (m + 1) 3 [c1] with
      | none => rw [e0, e1] at hl'; cases hl'
      | some l1 =>
        obtain ⟨x, hx, rfl⟩ := lits3 e0
        obtain ⟨v, hv, rfl⟩ := lits3 e1
        exact ⟨x, v, hx, hv, rfl⟩
theorem kS_inj {x v y u : Int} (hx : (Lit.int .i64 x).wf = true) (hv : (Lit.int .i64 v).wf = true) (hy : (Lit.int .i64 y).wf = true) (hu : (Lit.int .i64 u).wf = true) (h : kS x v = kS y u) : x = y ∧ v = u := by
  have a := keyS hx hv
  have b := keyS hy hu
  rw [← h] at b
  have := keyedS.inj a b
  simp at this
  exact this
attribute [irreducible] kS
/-- A sum as the reading of an element. -/
noncomputable def sumR (v : Value) : Option (DataW Unit × List MemPlace) :=
  match v with
  | .agg cs => (match cs.toList with
    | [.int .i64 a, .int .i64 b] => some (.agg [.lit (.int .i64 a), .lit (.int .i64 b)], [])
    | _ => none)
  | _ => none
theorem sumR_mk (a b : Int) : sumR (.agg #[.int .i64 a, .int .i64 b]) = some (.agg [.lit (.int .i64 a), .lit (.int .i64 b)], []) := rfl
theorem sumR_inv {v : Value} {y : DataW Unit × List MemPlace} (h : sumR v = some y) : ∃ a b, v = .agg #[.int .i64 a, .int .i64 b] ∧ y = (.agg [.lit (.int .i64 a), .lit (.int .i64 b)], []) := by
  unfold sumR at h
  cases v <;> try (simp at h; done)
  rename_i cs
  obtain ⟨l⟩ := cs
  simp only at h
  split at h
  · cases h
    exact ⟨_, _, rfl, rfl⟩
  · cases h
/-- What a reading holds, as a function. -/
def HoldsF (D : DataW Unit) (F : Int → Int → Option (Int × Int)) : Prop :=
  ∀ x v, (Lit.int .i64 x).wf = true → (Lit.int .i64 v).wf = true → match F x v with
    | none => Maps.has D (kS x v) = false
    | some p => Maps.has D (kS x v) = true ∧ ∀ z, D.atKey (kS x v) z = .agg [.lit (.int .i64 p.1), .lit (.int .i64 p.2)]
/-- Block b is a front's map; n: a bound on how many. -/
def MapF (w : World) (b n : Nat) (F : Int → Int → Option (Int × Int)) : Prop := ∃ D, w.ownsMap Try.prog 106 sumR b n D ∧ HoldsF D F
def updF (F : Int → Int → Option (Int × Int)) (x v lo hi : Int) : Int → Int → Option (Int × Int) := fun y u => if y = x ∧ u = v then some (lo, hi) else F y u
theorem holdsF_put {D : DataW Unit} {F : Int → Int → Option (Int × Int)} (h : HoldsF D F) (hD : IsMap D) {x v lo hi : Int} (hx : (Lit.int .i64 x).wf = true) (hv : (Lit.int .i64 v).wf = true) :
    HoldsF (D.put (kS x v) (.agg [.lit (.int .i64 lo), .lit (.int .i64 hi)])) (updF F x v lo hi) := by
  have hk : WideAt.IsKeyLit (kS x v) := keyedS.key (keyS hx hv)
  intro y u hy hu
  unfold updF
  by_cases e : y = x ∧ u = v
  · rw [if_pos e]
    obtain ⟨rfl, rfl⟩ := e
    exact ⟨has_put_same hD hk _, fun z => atKey_put_same hD hk _ z⟩
  · rw [if_neg e]
    have hne : kS y u ≠ kS x v := fun e' => e (kS_inj hy hu hx hv e')
    have := h y u hy hu
    cases hf : F y u with
    | none => rw [hf] at this; simpa [has_put_other hne] using this
    | some p => rw [hf] at this; exact ⟨by rw [has_put_other hne]; exact this.1, fun z => by rw [atKey_put_other hne]; exact this.2 z⟩
theorem MapF.made (w : World) : MapF (w.alloc (.map #[] 0)) w.heap.size 0 (fun _ _ => none) :=
  ⟨.map [], World.ownsMap_made w _ _ _, fun _ _ _ _ => rfl⟩
theorem MapF.lt {w : World} {b n : Nat} {F : Int → Int → Option (Int × Int)} (h : MapF w b n F) : b < w.heap.size := by obtain ⟨D, h1, h2⟩ := h; exact h1.lt
theorem MapF.kept {w w' : World} {row : Option Nat} {b n : Nat} {F : Int → Int → Option (Int × Int)} (h : MapF w b n F) (hg : w.grownBy w' row) (hne : some b ≠ row) : MapF w' b n F := by
  obtain ⟨D, h1, h2⟩ := h; exact ⟨D, h1.kept hg hne, h2⟩
theorem MapF.below {w w' : World} {b n B : Nat} {F : Int → Int → Option (Int × Int)} (h : MapF w b n F) (k : Below B w w') (hb : b < B) : MapF w' b n F := by
  obtain ⟨D, ⟨es, clock, e1, e2⟩, h2⟩ := h
  exact ⟨D, ⟨es, clock, (k.block b hb).trans e1, e2⟩, h2⟩
theorem MapF.mono {w : World} {b n m : Nat} {F : Int → Int → Option (Int × Int)} (h : MapF w b n F) (hm : n ≤ m) : MapF w b m F := by
  obtain ⟨D, h1, h2⟩ := h; exact ⟨D, h1.mono hm, h2⟩
end Go.Proofs.Ytphcpphmoeiioaa
