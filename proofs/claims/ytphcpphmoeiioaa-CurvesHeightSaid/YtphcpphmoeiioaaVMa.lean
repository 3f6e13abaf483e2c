/- Fronts as maps told as functions; operations on them. -/
import Derived.Test.YtphcpphmoeiioaaKit
import Derived.Test.YtphcpphmoeiioaaVP
import Derived.Test.YtphcpphmoeiioaaProg
import Derived.Maps.RangeWalk
import Derived.Maps.OwnSet
import Derived.DeepKeys4
namespace Go.Proofs.Ytphcpphmoeiioaa
open Go.RowKit Go.Maps Go.ChangeShapes Go.WideShapes Go.ChangeAt Go.WideMaps Go.WideElems

theorem laidOutC : laidOutB Try.prog = true := by kernel_rfl
theorem row106 : (106 : TypeId) < Try.prog.types.size := of_decide_eq_true (by kernel_rfl)
theorem lawS : KeyLaw Try.prog 106 := deep_law_laid laidOutC (m := 2) (by omega) row106 (by kernel_rfl) (by kernel_rfl)
theorem keyedS : Keyed Try.prog 106 := Keyed.of_law lawS
theorem isStruct106 : ∃ fs, Try.prog.underlying 106 = some (.struct fs) := ⟨_, Try.underlying106⟩
theorem cells106 : Try.prog.cellsOf 106 = 2 := by kernel_rfl
theorem zeroS (w : World) : (zeroValue 83).run Try.prog w = .ok (.agg #[.int .i64 0, .int .i64 0]) w := by kernel_rfl
theorem formedS (x v : Int) : (Value.agg #[.int .i64 x, .int .i64 v]).formed Try.prog 106 = true := by
  obtain ⟨fs, hu⟩ := isStruct106
  simp [Value.formed, hu, cells106]
theorem litsS {x v : Int} (hx : (Lit.int .i64 x).wf = true) (hv : (Lit.int .i64 v).wf = true) : ∃ ls, Try.prog.keyLits (Try.prog.types.size + 1) 106 [.int .i64 x, .int .i64 v] = some ls := by
  obtain ⟨m, hm⟩ : ∃ m, Try.prog.types.size = m + 1 := ⟨131, by kernel_rfl⟩
  have h3 : ∀ z : Int, (Lit.int .i64 z).wf = true → Try.prog.keyLits (m + 1) 3 [.int .i64 z] = some [.int .i64 z] := fun z hz => by
    have hu := Try.underlying3
    unfold Program.keyLits
    rw [hu]
    simp [hz]
  have hc3 : Try.prog.cellsOf 3 = 1 := by kernel_rfl
  refine ⟨[.int .i64 x, .int .i64 v], ?_⟩
  rw [hm]
  have hu := Try.underlying106
  unfold Program.keyLits
  rw [hu]
  simp [cells106, hc3, h3 x hx, h3 v hv]
/-- A state's key. -/
noncomputable def kS (x v : Int) : Lit := (keyOf Try.prog 106 (.agg #[.int .i64 x, .int .i64 v])).getD (.bool false)
theorem keyS {x v : Int} (hx : (Lit.int .i64 x).wf = true) (hv : (Lit.int .i64 v).wf = true) : keyOf Try.prog 106 (.agg #[.int .i64 x, .int .i64 v]) = some (kS x v) := by
  have : (keyOf Try.prog 106 (.agg #[.int .i64 x, .int .i64 v])).isSome = true := by
    obtain ⟨fs, hu⟩ := isStruct106
    obtain ⟨ls, hl⟩ := litsS hx hv
    unfold keyOf
    rw [hu]
    have hk : Try.prog.keyType 106 = true := by kernel_rfl
    simp only [hk, formedS, Bool.and_self, if_true]
    show (Option.map _ (Try.prog.keyLits (Try.prog.types.size + 1) 106 [.int .i64 x, .int .i64 v])).isSome = true
    rw [hl]; rfl
  unfold kS
  cases h : keyOf Try.prog 106 (.agg #[.int .i64 x, .int .i64 v]) with
  | none => rw [h] at this; cases this
  | some l => rfl
set_option maxRecDepth 100000 in
theorem lits3 {m : Nat} {z : Value} {ls : List Lit} (h : Try.prog.keyLits (m + 1) 3 [z] = some ls) : ∃ x, (Lit.int .i64 x).wf = true ∧ z = .int .i64 x := by
  have hu := Try.underlying3
  unfold Program.keyLits at h
  simp only [hu] at h
  cases z <;> simp at h
  obtain ⟨⟨rfl, hw⟩, _⟩ := h
  exact ⟨_, hw, rfl⟩
set_option maxRecDepth 100000 in
theorem invS {key : Value} {kl : Lit} (h : keyOf Try.prog 106 key = some kl) : ∃ x v, (Lit.int .i64 x).wf = true ∧ (Lit.int .i64 v).wf = true ∧ key = .agg #[.int .i64 x, .int .i64 v] := by
  have hu := Try.underlying106
  have hs : (keyOf Try.prog 106 key).isSome = true := by rw [h]; rfl
  clear h
  unfold keyOf at hs
  simp only [hu] at hs
  split at hs
  case isFalse => cases hs
  case isTrue hk =>
    rw [Bool.and_eq_true] at hk
    have hf := hk.2
    rw [Option.isSome_map] at hs
    obtain ⟨ls, hl⟩ := Option.isSome_iff_exists.1 hs
    have hc : ∃ c0 c1, key = .agg #[c0, c1] := by
      cases key <;> simp [Value.formed, hu, cells106] at hf
      rename_i cs
      obtain ⟨l⟩ := cs
      match l, hf with
      | [c0, c1], _ => exact ⟨c0, c1, rfl⟩
    obtain ⟨c0, c1, rfl⟩ := hc
    obtain ⟨m, hm⟩ : ∃ m, Try.prog.types.size = m + 1 := ⟨131, by kernel_rfl⟩
    have hc3 : Try.prog.cellsOf 3 = 1 := by kernel_rfl
    have hl' : Try.prog.keyLits (m + 1 + 1) 106 [c0, c1] = some ls := by rw [← hm]; exact hl
    clear hl hs hk hf
    unfold Program.keyLits at hl'
    simp [hu, cells106, hc3] at hl'
    cases e0 : Try.prog.keyLits (m + 1) 3 [c0] with
    | none => rw [e0] at hl'; cases hl'
    | some l0 =>
      cases e1 : Try.prog.keyLits (m + 1) 3 [c1] with
      | none => rw [e0, e1] at hl'; cases hl'
      | some l1 =>
        obtain ⟨x, hx, rfl⟩ := lits3 e0
        obtain ⟨v, hv, rfl⟩ := lits3 e1
        exact ⟨x, v, hx, hv, rfl⟩
theorem kS_inj {x v y u : Int} (hx : (Lit.int .i64 x).wf = true) (hv : (Lit.int .i64 v).wf = true) (hy : (Lit.int .i64 y).wf = true) (hu : (Lit.int .i64 u).wf = true) (h : kS x v = kS y u) : x = y ∧ v = u := by
  have a := keyS hx hv
  have b := keyS hy hu
  rw [← h] at b
  have := keyedS.inj a b
  simp at this
  exact this
attribute [irreducible] kS
/-- A sum as the reading of an element. -/
noncomputable def sumR (v : Value) : Option (DataW Unit × List MemPlace) :=
  match v with
  | .agg cs => (match cs.toList with
    | [.int .i64 a, .int .i64 b] => some (.agg [.lit (.int .i64 a), .lit (.int .i64 b)], [])
    | _ => none)
  | _ => none
theorem sumR_mk (a b : Int) : sumR (.agg #[.int .i64 a, .int .i64 b]) = some (.agg [.lit (.int .i64 a), .lit (.int .i64 b)], []) := rfl
theorem sumR_inv {v : Value} {y : DataW Unit × List MemPlace} (h : sumR v = some y) : ∃ a b, v = .agg #[.int .i64 a, .int .i64 b] ∧ y = (.agg [.lit (.int .i64 a), .lit (.int .i64 b)], []) := by
  unfold sumR at h
  cases v <;> try (simp at h; done)
  rename_i cs
  obtain ⟨l⟩ := cs
  simp only at h
  split at h
  · cases h
    exact ⟨_, _, rfl, rfl⟩
  · cases h
/-- What a reading holds, as a function. -/
def HoldsF (D : DataW Unit) (F : Int → Int → Option (Int × Int)) : Prop :=
  ∀ x v, (Lit.int .i64 x).wf = true → (Lit.int .i64 v).wf = true → match F x v with
    | none => Maps.has D (kS x v) = false
    | some p => Maps.has D (kS x v) = true ∧ ∀ z, D.atKey (kS x v) z = .agg [.lit (.int .i64 p.1), .lit (.int .i64 p.2)]
/-- Block b is a front's map; n: a bound on how many. -/
def MapF (w : World) (b n : Nat) (F : Int → Int → Option (Int × Int)) : Prop := ∃ D, w.ownsMap Try.prog 106 sumR b n D ∧ HoldsF D F
def updF (F : Int → Int → Option (Int × Int)) (x v lo hi : Int) : Int → Int → Option (Int × Int) := fun y u => if y = x ∧ u = v then some (lo, hi) else F y u
theorem holdsF_put {D : DataW Unit} {F : Int → Int → Option (Int × Int)} (h : HoldsF D F) (hD : IsMap D) {x v lo hi : Int} (hx : (Lit.int .i64 x).wf = true) (hv : (Lit.int .i64 v).wf = true) :
    HoldsF (D.put (kS x v) (.agg [.lit (.int .i64 lo), .lit (.int .i64 hi)])) (updF F x v lo hi) := by
  have hk : WideAt.IsKeyLit (kS x v) := keyedS.key (keyS hx hv)
  intro y u hy hu
  unfold updF
  by_cases e : y = x ∧ u = v
  · rw [if_pos e]
    obtain ⟨rfl, rfl⟩ := e
    exact ⟨has_put_same hD hk _, fun z => atKey_put_same hD hk _ z⟩
  · rw [if_neg e]
    have hne : kS y u ≠ kS x v := fun e' => e (kS_inj hy hu hx hv e')
    have := h y u hy hu
    cases hf : F y u with
    | none => rw [hf] at this; simpa [has_put_other hne] using this
    | some p => rw [hf] at this; exact ⟨by rw [has_put_other hne]; exact this.1, fun z => by rw [atKey_put_other hne]; exact this.2 z⟩
theorem MapF.made (w : World) : MapF (w.alloc (.map #[] 0)) w.heap.size 0 (fun _ _ => none) :=
  ⟨.map [], World.ownsMap_made w _ _ _, fun _ _ _ _ => rfl⟩
theorem MapF.lt {w : World} {b n : Nat} {F : Int → Int → Option (Int × Int)} (h : MapF w b n F) : b < w.heap.size := by obtain ⟨D, h1, h2⟩ := h; exact h1.lt
theorem MapF.kept {w w' : World} {row : Option Nat} {b n : Nat} {F : Int → Int → Option (Int × Int)} (h : MapF w b n F) (hg : w.grownBy w' row) (hne : some b ≠ row) : MapF w' b n F := by
  obtain ⟨D, h1, h2⟩ := h; exact ⟨D, h1.kept hg hne, h2⟩
theorem MapF.below {w w' : World} {b n B : Nat} {F : Int → Int → Option (Int × Int)} (h : MapF w b n F) (k : Below B w w') (hb : b < B) : MapF w' b n F := by
  obtain ⟨D, ⟨es, clock, e1, e2⟩, h2⟩ := h
  exact ⟨D, ⟨es, clock, (k.block b hb).trans e1, e2⟩, h2⟩
theorem MapF.mono {w : World} {b n m : Nat} {F : Int → Int → Option (Int × Int)} (h : MapF w b n F) (hm : n ≤ m) : MapF w b m F := by
  obtain ⟨D, h1, h2⟩ := h; exact ⟨D, h1.mono hm, h2⟩
end Go.Proofs.Ytphcpphmoeiioaa
namespace Go.Proofs.Ytphcpphmoeiioaa
open Go.RowKit Go.Maps

def RngF (w : World) (b r n : Nat) (F : Int → Int → Option (Int × Int)) (left : Int → Int → Bool) (cnt : Nat) : Prop :=
  ∃ D leftL, w.ranges Try.prog 106 sumR b r n D leftL cnt ∧ HoldsF D F ∧ ∀ x v, (Lit.int .i64 x).wf = true → (Lit.int .i64 v).wf = true → leftL (kS x v) = left x v
theorem RngF.lt {w : World} {b r n cnt : Nat} {F : Int → Int → Option (Int × Int)} {left : Int → Int → Bool} (h : RngF w b r n F left cnt) : r < w.heap.size := by obtain ⟨D, l, h1, _⟩ := h; exact h1.lt
theorem RngF.map {w : World} {b r n cnt : Nat} {F : Int → Int → Option (Int × Int)} {left : Int → Int → Bool} (h : RngF w b r n F left cnt) : MapF w b n F := by obtain ⟨D, l, h1, h2, _⟩ := h; exact ⟨D, h1.owns, h2⟩
theorem RngF.kept {w w' : World} {row : Option Nat} {b r n cnt : Nat} {F : Int → Int → Option (Int × Int)} {left : Int → Int → Bool} (h : RngF w b r n F left cnt) (hg : w.grownBy w' row) (hb : some b ≠ row) (hr : some r ≠ row) : RngF w' b r n F left cnt := by
  obtain ⟨D, l, h1, h2⟩ := h; exact ⟨D, l, h1.kept hg hb hr, h2⟩
theorem RngF.below {w w' : World} {b r n cnt B : Nat} {F : Int → Int → Option (Int × Int)} {left : Int → Int → Bool} (h : RngF w b r n F left cnt) (k : Below B w w') (hb : b < B) (hr : r < B) : RngF w' b r n F left cnt := by
  obtain ⟨D, l, ⟨es, clock, since, seen, c0, e1, e2, e3, e4, e5, e6⟩, h2⟩ := h
  exact ⟨D, l, ⟨es, clock, since, seen, c0, (k.block b hb).trans e1, e2, e3, e4, (k.block r hr).trans e5, e6⟩, h2⟩

section
variable (w : World) {ops : Array Oper} {rest : List Oper} {o : Oper} {a : Act} {Q : Exit → Act → World → Prop}
/-- 'f[x] = s'. -/
theorem wp_putF (hg : o.guard = none) (m x v : Operand) (t : TypeId) (hop : o.op = Op.mapUpdate t m x v) (ht : Try.prog.underlying t = some (.map 106 83)) (b n : Nat) (F : Int → Int → Option (Int × Int))
    (hm : a.eval m = .map (some b)) (hown : MapF w b n F) (hn : n < 100000000000000) (y u lo hi : Int) (hx : a.eval x = .agg #[.int .i64 y, .int .i64 u]) (hv : a.eval v = .agg #[.int .i64 lo, .int .i64 hi]) (hy : (Lit.int .i64 y).wf = true) (hu : (Lit.int .i64 u).wf = true)
    (hK : ∀ w', MapF w' b (n + 1) (updF F y u lo hi) → w.grownBy w' (some b) → wpList Try.prog ops Q rest (a.put o.dst undef) w') :
    wpList Try.prog ops Q (o :: rest) a w := by
  obtain ⟨D, h1, h2⟩ := hown
  refine wpList_mapUpdate_own w hg m x v t hop 106 83 keyedS ht sumR b n D hm h1 (by unfold maxLen; omega) _ _ (kS y u) hx hv (keyS hy hu) _ [] (sumR_mk lo hi) ?_
  intro w' h3 h4
  exact hK w' ⟨_, h3, holdsF_put h2 h1.isMap hy hu⟩ h4
/-- 's, is := f[x]'. -/
theorem wp_lookF (hg : o.guard = none) (m x : Operand) (t : TypeId) (hop : o.op = Op.lookup t m x true) (ht : Try.prog.underlying t = some (.map 106 83)) (b n : Nat) (F : Int → Int → Option (Int × Int))
    (hm : a.eval m = .map (some b)) (hown : MapF w b n F) (y u : Int) (hx : a.eval x = .agg #[.int .i64 y, .int .i64 u]) (hy : (Lit.int .i64 y).wf = true) (hu : (Lit.int .i64 u).wf = true)
    (hK : wpList Try.prog ops Q rest (a.put o.dst (.tuple #[.agg #[.int .i64 ((F y u).getD (0, 0)).1, .int .i64 ((F y u).getD (0, 0)).2], .bool (F y u).isSome])) w) :
    wpList Try.prog ops Q (o :: rest) a w := by
  obtain ⟨D, h1, h2⟩ := hown
  refine wpList_lookup_own_ok w hg m x t hop 106 83 keyedS ht sumR (zeroS w) _ _ (sumR_mk 0 0) b n D hm h1 _ (kS y u) hx (keyS hy hu) ?_
  intro v ps hv
  obtain ⟨c, d, rfl, e⟩ := sumR_inv hv
  have e1 := congrArg Prod.fst e
  have := h2 y u hy hu
  cases hf : F y u with
  | none =>
    rw [hf] at this hK
    simp only at this
    rw [atKey_of_not_has this] at e1
    simp at e1
    obtain ⟨rfl, rfl⟩ := e1
    rw [this]
    exact hK
  | some p =>
    rw [hf] at this hK
    simp only at this
    rw [this.2] at e1
    simp at e1
    obtain ⟨rfl, rfl⟩ := e1
    rw [this.1]
    exact hK
/-- 'range f'. -/
theorem wp_rangeF (hg : o.guard = none) (m : Operand) (t : TypeId) (hop : o.op = Op.range t m) (ht : Try.prog.underlying t = some (.map 106 83)) (b n : Nat) (F : Int → Int → Option (Int × Int))
    (hm : a.eval m = .map (some b)) (hown : MapF w b n F)
    (hK : ∀ w' cnt, RngF w' b w.heap.size n F (fun x v => (F x v).isSome) cnt → Below w.heap.size w w' → w'.heap.size = w.heap.size + 1 → cnt ≤ n → wpList Try.prog ops Q rest (a.put o.dst (.pointer (some ⟨w.heap.size, 0, none⟩))) w') :
    wpList Try.prog ops Q (o :: rest) a w := by
  obtain ⟨D, h1, h2⟩ := hown
  refine wpList_range_own w hg m t hop 106 83 keyedS ht sumR b n D hm h1 ?_
  intro w' h3 h4 h5
  refine hK w' _ ⟨D, _, h3, h2, fun x v hx hv => ?_⟩ ((Below.refl _ _).grown h4 (Nat.le_refl _) (fun _ e => by cases e)) h5 h1.size_le
  show Maps.has D (kS x v) = (F x v).isSome
  have := h2 x v hx hv
  cases hf : F x v with
  | none => rw [hf] at this; exact this
  | some u => rw [hf] at this; exact this.1
set_option maxRecDepth 100000 in
/-- The step of such a range. -/
theorem wp_nextF (hg : o.guard = none) (it : Operand) (hop : o.op = Op.next it false) (b r n : Nat) (F : Int → Int → Option (Int × Int)) (left : Int → Int → Bool) (cnt : Nat) (hit : a.eval it = .pointer (some ⟨r, 0, none⟩)) (h : RngF w b r n F left cnt)
    (hDone : cnt = 0 → (∀ x v, (Lit.int .i64 x).wf = true → (Lit.int .i64 v).wf = true → left x v = false) → wpList Try.prog ops Q rest (a.put o.dst (.tuple #[.bool false])) w)
    (hMore : ∀ (x v lo hi : Int) (w' : World) (cnt' : Nat), (Lit.int .i64 x).wf = true → (Lit.int .i64 v).wf = true → left x v = true → F x v = some (lo, hi) → RngF w' b r n F (fun z u => left z u && !decide (z = x ∧ u = v)) cnt' → cnt' < cnt →
      w.grownBy w' (some r) → w'.heap.size = w.heap.size → (Instr.entry (.pointer (some ⟨r, 0, none⟩))).run Try.prog w' = .ok (.tuple #[.agg #[.int .i64 x, .int .i64 v], .agg #[.int .i64 lo, .int .i64 hi]]) w' → wpList Try.prog ops Q rest (a.put o.dst (.tuple #[.bool true, .agg #[.int .i64 x, .int .i64 v], .agg #[.int .i64 lo, .int .i64 hi]])) w') :
    wpList Try.prog ops Q (o :: rest) a w := by
  obtain ⟨D, l, h1, h2, h3⟩ := h
  refine wpList_next_ranges (α := Int × Int) (β := Int × Int) w hg it hop 106 keyedS sumR (fun p => .agg #[.int .i64 p.1, .int .i64 p.2]) (fun p => .agg #[.int .i64 p.1, .int .i64 p.2])
    (fun key kl hk => by obtain ⟨x, v, _, _, e⟩ := invS hk; exact ⟨(x, v), e⟩) (fun v y hv => by obtain ⟨c, d, e, _⟩ := sumR_inv hv; exact ⟨(c, d), e⟩) b r n D l cnt hit h1 (fun e hl => hDone e fun x v hx hv => by rw [← h3 x v hx hv]; exact hl _) ?_
  rintro ⟨x, v⟩ ⟨lo, hi⟩ kl y w' cnt' hkey hlk hv hat hrg hlt hgr hsz hen
  obtain ⟨x', v', hx, hvw, e⟩ := invS hkey
  simp at e
  obtain ⟨rfl, rfl⟩ := e
  have hkl : kl = kS x v := by have := (keyS hx hvw).symm.trans hkey; cases this; rfl
  subst hkl
  refine hMore x v lo hi w' cnt' hx hvw (by rw [← h3 x v hx hvw]; exact hlk) ?_ ⟨D, _, hrg, h2, fun z u hz hu => ?_⟩ hlt hgr hsz hen
  · have := h2 x v hx hvw
    obtain ⟨c, d, e1, e2⟩ := sumR_inv hv
    simp at e1
    obtain ⟨rfl, rfl⟩ := e1
    cases hf : F x v with
    | none =>
      rw [hf] at this
      simp only at this
      have e3 := (atKey_of_not_has this .nil).symm.trans (hat .nil)
      rw [e2] at e3
      cases e3
    | some p =>
      rw [hf] at this
      simp only at this
      have e3 := (this.2 .nil).symm.trans (hat .nil)
      rw [e2] at e3
      simp at e3
      rw [← e3.1, ← e3.2]
  · show (l (kS z u) && !(kS z u).sameKey (kS x v)) = _
    rw [h3 z u hz hu]
    congr 2
    by_cases e : z = x ∧ u = v
    · obtain ⟨rfl, rfl⟩ := e
      rw [decide_eq_true ⟨rfl, rfl⟩]
      exact WideAt.sameKey_self (keyedS.key (keyS hx hvw))
    · rw [decide_eq_false e]; exact sameKey_ne (fun e' => e (kS_inj hz hu hx hvw e'))
end
end Go.Proofs.Ytphcpphmoeiioaa
namespace Go.Proofs.Ytphcpphmoeiioaa
open Go.RowKit

theorem ret_sum {a b c d : Int} (h : a = c) (k : b = d) : Ending.returned (.agg #[.int .i64 a, .int .i64 b]) = .returned (.agg #[.int .i64 c, .int .i64 d]) := by rw [h, k]
set_option maxHeartbeats 1000000 in
theorem more90 (lo hi n : Int) (w : World) (h1 : -1000000 ≤ lo ∧ lo ≤ 1000000) (h2 : -1000000 ≤ hi ∧ hi ≤ 1000000) (h3 : -1000000 ≤ n ∧ n ≤ 1000000) :
    Calls Try.prog 90 #[.agg #[.int .i64 lo, .int .i64 hi], .int .i64 n] w fun e w' => e = .returned (.agg #[.int .i64 (lo + n), .int .i64 (hi + n)]) ∧ Below w.heap.size w w' := by
  go_enter Try.func90, Try.ntmps90
  go_wp2
  go_returns
  exact ⟨rfl, by (repeat' (first | (with_reducible exact Below.refl _ _) | (with_reducible assumption) | (with_reducible refine Below.drew ?_) | (with_reducible refine below_drewN ?_ _) | (with_reducible refine Below.setCell ?_ ?_ _) | (with_reducible refine Below.alloc ?_ ?_ _) | (refine Below.trans ?_ (Below.mono (by with_reducible assumption) ?_)) | omega | (exact Below.size (by with_reducible assumption)) | (simp; done) | (simp; omega)))⟩
set_option maxHeartbeats 1000000 in
theorem with81 (lo hi lo' hi' : Int) (w : World) :
    Calls Try.prog 81 #[.agg #[.int .i64 lo, .int .i64 hi], .agg #[.int .i64 lo', .int .i64 hi']] w fun e w' => e = .returned (.agg #[.int .i64 (min lo lo'), .int .i64 (max hi hi')]) ∧ Below w.heap.size w w' := by
  go_enter Try.func81, Try.ntmps81
  go_wp2
  all_goals go_returns
  all_goals exact ⟨ret_sum (by omega) (by omega), by (repeat' (first | (with_reducible exact Below.refl _ _) | (with_reducible assumption) | (with_reducible refine Below.drew ?_) | (with_reducible refine below_drewN ?_ _) | (with_reducible refine Below.setCell ?_ ?_ _) | (with_reducible refine Below.alloc ?_ ?_ _) | (refine Below.trans ?_ (Below.mono (by with_reducible assumption) ?_)) | omega | (exact Below.size (by with_reducible assumption)) | (simp; done) | (simp; omega)))⟩
end Go.Proofs.Ytphcpphmoeiioaa
