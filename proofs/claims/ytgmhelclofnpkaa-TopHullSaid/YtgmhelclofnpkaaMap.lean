/- Maps from numbers to numbers, told as functions. -/
import Derived.Test.YtgmhelclofnpkaaKit
import Derived.Test.YtgmhelclofnpkaaProg
import Derived.Maps.RangeWalk
import Derived.Maps.OwnSet
namespace Go.Proofs.Ytgmhelclofnpkaa
open Go.RowKit Go.Maps

theorem key3 : Keyed Try.prog 3 := int_keyed Try.underlying3
theorem zero3 (w : World) : (zeroValue 3).run Try.prog w = .ok (.int .i64 0) w := by kernel_rfl
/-- What a reading holds, as a function. -/
def Holds (D : DataW Unit) (f : Int → Option Int) : Prop :=
  ∀ x, match f x with
    | none => Maps.has D (.int .i64 x) = false
    | some v => Maps.has D (.int .i64 x) = true ∧ ∀ z, D.atKey (.int .i64 x) z = .lit (.int .i64 v)
/-- Block b is a map with these numbers; n: a bound on how many. -/
def MapI (w : World) (b n : Nat) (f : Int → Option Int) : Prop := ∃ D, w.ownsMap Try.prog 3 (plainElem (H := Unit) Try.prog 3) b n D ∧ Holds D f
def RngI (w : World) (b r n : Nat) (f : Int → Option Int) (left : Int → Bool) (cnt : Nat) : Prop :=
  ∃ D leftL, w.ranges Try.prog 3 (plainElem (H := Unit) Try.prog 3) b r n D leftL cnt ∧ Holds D f ∧ ∀ x, leftL (.int .i64 x) = left x
def upd (f : Int → Option Int) (x v : Int) : Int → Option Int := fun y => if y = x then some v else f y
theorem holds_put {D : DataW Unit} {f : Int → Option Int} (h : Holds D f) (hD : IsMap D) {x v : Int} (hx : (Lit.int .i64 x).wf = true) : Holds (D.put (.int .i64 x) (.lit (.int .i64 v))) (upd f x v) := by
  intro y
  unfold upd
  by_cases e : y = x
  · subst e
    rw [if_pos rfl]
    exact ⟨has_put_same hD (by first | trivial | exact hx) _, fun z => atKey_put_same hD (by first | trivial | exact hx) _ z⟩
  · rw [if_neg e]
    have hne : (Lit.int .i64 y) ≠ (Lit.int .i64 x) := fun e' => e (by cases e'; rfl)
    have := h y
    cases hf : f y with
    | none => rw [hf] at this; simpa [has_put_other hne] using this
    | some u => rw [hf] at this; exact ⟨by rw [has_put_other hne]; exact this.1, fun z => by rw [atKey_put_other hne]; exact this.2 z⟩
theorem MapI.made (w : World) : MapI (w.alloc (.map #[] 0)) w.heap.size 0 (fun _ => none) :=
  ⟨.map [], World.ownsMap_made w _ _ _, fun _ => rfl⟩
theorem MapI.kept {w w' : World} {row : Option Nat} {b n : Nat} {f : Int → Option Int} (h : MapI w b n f) (hg : w.grownBy w' row) (hne : some b ≠ row) : MapI w' b n f := by
  obtain ⟨D, h1, h2⟩ := h; exact ⟨D, h1.kept hg hne, h2⟩
theorem MapI.lt {w : World} {b n : Nat} {f : Int → Option Int} (h : MapI w b n f) : b < w.heap.size := by obtain ⟨D, h1, h2⟩ := h; exact h1.lt
theorem MapI.below {w w' : World} {b n B : Nat} {f : Int → Option Int} (h : MapI w b n f) (k : Below B w w') (hb : b < B) : MapI w' b n f := by
  obtain ⟨D, ⟨es, clock, e1, e2⟩, h2⟩ := h
  exact ⟨D, ⟨es, clock, (k.block b hb).trans e1, e2⟩, h2⟩
theorem MapI.setCell {w : World} {b n : Nat} {f : Int → Option Int} (h : MapI w b n f) {a : Addr} (ha : b ≠ a.block) (u : Value) : MapI (w.setCell a u) b n f := by
  obtain ⟨D, h1, h2⟩ := h; exact ⟨D, h1.setCell ha u, h2⟩
theorem MapI.mono {w : World} {b n m : Nat} {f : Int → Option Int} (h : MapI w b n f) (hm : n ≤ m) : MapI w b m f := by
  obtain ⟨D, h1, h2⟩ := h; exact ⟨D, h1.mono hm, h2⟩
theorem MapI.cast {w : World} {b n : Nat} {f g : Int → Option Int} (h : MapI w b n f) (e : ∀ x, f x = g x) : MapI w b n g := by
  rwa [show f = g from funext e] at h
theorem MapI.drewN {w : World} {b n : Nat} {f : Int → Option Int} (h : MapI w b n f) (k : Nat) : MapI (w.drewN k) b n f := h
theorem RngI.lt {w : World} {b r n cnt : Nat} {f : Int → Option Int} {left : Int → Bool} (h : RngI w b r n f left cnt) : r < w.heap.size := by obtain ⟨D, l, h1, _⟩ := h; exact h1.lt
theorem RngI.map {w : World} {b r n cnt : Nat} {f : Int → Option Int} {left : Int → Bool} (h : RngI w b r n f left cnt) : MapI w b n f := by obtain ⟨D, l, h1, h2, _⟩ := h; exact ⟨D, h1.owns, h2⟩
theorem RngI.kept {w w' : World} {row : Option Nat} {b r n cnt : Nat} {f : Int → Option Int} {left : Int → Bool} (h : RngI w b r n f left cnt) (hg : w.grownBy w' row) (hb : some b ≠ row) (hr : some r ≠ row) : RngI w' b r n f left cnt := by
  obtain ⟨D, l, h1, h2⟩ := h; exact ⟨D, l, h1.kept hg hb hr, h2⟩
theorem RngI.below {w w' : World} {b r n cnt B : Nat} {f : Int → Option Int} {left : Int → Bool} (h : RngI w b r n f left cnt) (k : Below B w w') (hb : b < B) (hr : r < B) : RngI w' b r n f left cnt := by
  obtain ⟨D, l, ⟨es, clock, since, seen, c0, e1, e2, e3, e4, e5, e6⟩, h2⟩ := h
  exact ⟨D, l, ⟨es, clock, since, seen, c0, (k.block b hb).trans e1, e2, e3, e4, (k.block r hr).trans e5, e6⟩, h2⟩

section
variable (w : World) {ops : Array Oper} {rest : List Oper} {o : Oper} {a : Act} {Q : Exit → Act → World → Prop}
/-- 'm[k] = v'. -/
theorem wp_putI (hg : o.guard = none) (m x v : Operand) (t : TypeId) (hop : o.op = Op.mapUpdate t m x v) (ht : Try.prog.underlying t = some (.map 3 3)) (b n : Nat) (f : Int → Option Int)
    (hm : a.eval m = .map (some b)) (hown : MapI w b n f) (hn : n < 100000000000000) (k u : Int) (hx : a.eval x = .int .i64 k) (hv : a.eval v = .int .i64 u) (hk : (Lit.int .i64 k).wf = true) (hu : (Lit.int .i64 u).wf = true)
    (hK : ∀ w', MapI w' b (n + 1) (upd f k u) → w.grownBy w' (some b) → wpList Try.prog ops Q rest (a.put o.dst undef) w') :
    wpList Try.prog ops Q (o :: rest) a w := by
  obtain ⟨D, h1, h2⟩ := hown
  refine wpList_mapUpdate_own w hg m x v t hop 3 3 key3 ht (plainElem (H := Unit) Try.prog 3) b n D hm h1 (by unfold maxLen; omega) _ _ (.int .i64 k) hx hv (keyOf_int_mk Try.underlying3 hk) _ [] (plainElem_int Try.underlying3 hu) ?_
  intro w' h3 h4
  exact hK w' ⟨_, h3, holds_put h2 h1.isMap hk⟩ h4
/-- 'm[k]'. -/
theorem wp_getI (hg : o.guard = none) (m x : Operand) (t : TypeId) (hop : o.op = Op.lookup t m x false) (ht : Try.prog.underlying t = some (.map 3 3)) (b n : Nat) (f : Int → Option Int)
    (hm : a.eval m = .map (some b)) (hown : MapI w b n f) (k : Int) (hx : a.eval x = .int .i64 k) (hk : (Lit.int .i64 k).wf = true)
    (hK : wpList Try.prog ops Q rest (a.put o.dst (.int .i64 ((f k).getD 0))) w) :
    wpList Try.prog ops Q (o :: rest) a w := by
  obtain ⟨D, h1, h2⟩ := hown
  refine wpList_lookup_own_int w hg m x t hop 3 3 .i64 key3 ht Try.underlying3 (zero3 w) b n D hm h1 _ (.int .i64 k) hx (keyOf_int_mk Try.underlying3 hk) ?_
  intro c hat _
  have e : c = (f k).getD 0 := by
    have := h2 k
    cases hf : f k with
    | none =>
      rw [hf] at this
      rw [atKey_of_not_has this] at hat
      simp at hat; simp [hat]
    | some u =>
      rw [hf] at this
      rw [this.2] at hat
      simp at hat; simp [hat]
  subst e
  exact hK
/-- 'range m'. -/
theorem wp_rangeI (hg : o.guard = none) (m : Operand) (t : TypeId) (hop : o.op = Op.range t m) (ht : Try.prog.underlying t = some (.map 3 3)) (b n : Nat) (f : Int → Option Int)
    (hm : a.eval m = .map (some b)) (hown : MapI w b n f)
    (hK : ∀ w' cnt, RngI w' b w.heap.size n f (fun x => (f x).isSome) cnt → Below w.heap.size w w' → w'.heap.size = w.heap.size + 1 → cnt ≤ n → wpList Try.prog ops Q rest (a.put o.dst (.pointer (some ⟨w.heap.size, 0, none⟩))) w') :
    wpList Try.prog ops Q (o :: rest) a w := by
  obtain ⟨D, h1, h2⟩ := hown
  refine wpList_range_own w hg m t hop 3 3 key3 ht (plainElem (H := Unit) Try.prog 3) b n D hm h1 ?_
  intro w' h3 h4 h5
  refine hK w' _ ⟨D, _, h3, h2, fun x => ?_⟩ ((Below.refl _ _).grown h4 (Nat.le_refl _) (fun _ e => by cases e)) h5 h1.size_le
  show Maps.has D (.int .i64 x) = (f x).isSome
  have := h2 x
  cases hf : f x with
  | none => rw [hf] at this; exact this
  | some u => rw [hf] at this; exact this.1
/-- The step of such a range. -/
theorem wp_nextI (hg : o.guard = none) (it : Operand) (hop : o.op = Op.next it false) (b r n : Nat) (f : Int → Option Int) (left : Int → Bool) (cnt : Nat) (hit : a.eval it = .pointer (some ⟨r, 0, none⟩)) (h : RngI w b r n f left cnt)
    (hDone : cnt = 0 → (∀ x, left x = false) → wpList Try.prog ops Q rest (a.put o.dst (.tuple #[.bool false])) w)
    (hMore : ∀ (x c : Int) (w' : World) (cnt' : Nat), (Lit.int .i64 x).wf = true → (Lit.int .i64 c).wf = true → left x = true → f x = some c → RngI w' b r n f (fun z => left z && !decide (z = x)) cnt' → cnt' < cnt →
      w.grownBy w' (some r) → w'.heap.size = w.heap.size → (Instr.entry (.pointer (some ⟨r, 0, none⟩))).run Try.prog w' = .ok (.tuple #[.int .i64 x, .int .i64 c]) w' → wpList Try.prog ops Q rest (a.put o.dst (.tuple #[.bool true, .int .i64 x, .int .i64 c])) w') :
    wpList Try.prog ops Q (o :: rest) a w := by
  obtain ⟨D, l, h1, h2, h3⟩ := h
  refine wpList_next_ranges_ii w hg it hop 3 3 .i64 .i64 key3 Try.underlying3 Try.underlying3 b r n D l cnt hit h1 (fun e hl => hDone e fun x => by rw [← h3]; exact hl _) ?_
  intro x c w' cnt' hx hc hl hat hrg hlt hgr hsz hen
  refine hMore x c w' cnt' hx hc (by rw [← h3]; exact hl) ?_ ⟨D, _, hrg, h2, fun z => ?_⟩ hlt hgr hsz hen
  · have := h2 x
    cases hf : f x with
    | none =>
      rw [hf] at this
      have e1 := (atKey_of_not_has this .nil).symm.trans (hat .nil)
      cases e1
    | some u =>
      rw [hf] at this
      have e1 := (this.2 .nil).symm.trans (hat .nil)
      simp at e1; rw [e1]
  · show (l (.int .i64 z) && !(Lit.int .i64 z).sameKey (.int .i64 x)) = _
    rw [h3]
    congr 2
    by_cases e : z = x
    · subst e; rw [decide_eq_true rfl]; exact WideAt.sameKey_self (by first | trivial | exact hx)
    · rw [decide_eq_false e]; exact sameKey_ne (fun e' => e (by cases e'; rfl))
end
theorem rng_ne_row {w : World} {b r n cnt base e sz m : Nat} {f : Int → Option Int} {left : Int → Bool} {v : Value} {xs : List Value} (h : RngI w b r n f left cnt) (k : w.ownsRow base e sz v m xs) : v.ownBlock ≠ some b ∧ v.ownBlock ≠ some r := by
  obtain ⟨D, l, ⟨es, clock, since, seen, c0, e1, _, _, _, e5, _⟩, _⟩ := h
  rcases k.2 with ⟨rfl, _⟩ | ⟨g, cap, cur, rfl, _, hh, _⟩
  · simp [Value.ownBlock]
  · simp only [Value.ownBlock]
    refine ⟨fun e => ?_, fun e => ?_⟩
    · cases e; rw [e1] at hh; cases hh
    · cases e; rw [e5] at hh; cases hh
theorem rng_kept_row {w w' : World} {b r n cnt base e sz m : Nat} {f : Int → Option Int} {left : Int → Bool} {v : Value} {xs : List Value} (h : RngI w b r n f left cnt) (k : w.ownsRow base e sz v m xs) (hg : w.grownBy w' v.ownBlock) : RngI w' b r n f left cnt :=
  h.kept hg (Ne.symm (rng_ne_row h k).1) (Ne.symm (rng_ne_row h k).2)
theorem row_kept_rng {w w' : World} {b r n cnt base e sz m : Nat} {f : Int → Option Int} {left : Int → Bool} {v : Value} {xs : List Value} (h : RngI w b r n f left cnt) (k : w.ownsRow base e sz v m xs) (hg : w.grownBy w' (some r)) : w'.ownsRow base e sz v m xs :=
  k.kept hg (Or.inr (rng_ne_row h k).2)
theorem holds_det {w : World} {b n m : Nat} {f g : Int → Option Int} (h : MapI w b n f) (k : MapI w b m g) : ∀ x, f x = g x := by
  obtain ⟨D, ⟨es, clock, h1, _, _, hD⟩, h2⟩ := h
  obtain ⟨D', ⟨es', clock', h1', _, _, hD'⟩, h2'⟩ := k
  rw [h1] at h1'
  cases h1'
  rw [← hD'] at hD
  subst hD
  intro x
  have a := h2 x
  have a' := h2' x
  cases hf : f x with
  | none =>
    rw [hf] at a
    cases hg : g x with
    | none => rfl
    | some v => rw [hg] at a'; rw [a] at a'; cases a'.1
  | some u =>
    rw [hf] at a
    cases hg : g x with
    | none => rw [hg] at a'; rw [a'] at a; cases a.1
    | some v =>
      rw [hg] at a'
      have := (a.2 .nil).symm.trans (a'.2 .nil)
      simp at this; rw [this]

end Go.Proofs.Ytgmhelclofnpkaa
