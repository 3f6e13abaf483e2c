/- Operations on fronts: put, look, range, next. -/
import Derived.Test.YtphcpphmoeiioaaVM
namespace Go.Proofs.Ytphcpphmoeiioaa
open Go.RowKit Go.Maps

def RngF (w : World) (b r n : Nat) (F : Int → Int → Option (Int × Int)) (left : Int → Int → Bool) (cnt : Nat) : Prop :=
  ∃ D leftL, w.ranges Try.prog 106 sumR b r n D leftL cnt ∧ HoldsF D F ∧ ∀ x v, (Lit.int .i64 x).wf = true → (Lit.int .i64 v).wf = true → leftL (kS x v) = left x v
theorem RngF.lt {w : World} {b r n cnt : Nat} {F : Int → Int → Option (Int × Int)} {left : Int → Int → Bool} (h : RngF w b r n F left cnt) : r < w.heap.size := by obtain ⟨D, l, h1, _⟩ := h; exact h1.lt
theorem RngF.map {w : World} {b r n cnt : Nat} {F : Int → Int → Option (Int × Int)} {left : Int → Int → Bool} (h : RngF w b r n F left cnt) : MapF w b n F := by obtain ⟨D, l, h1, h2, _⟩ := h; exact ⟨D, h1.owns, h2⟩
theorem RngF.kept {w w' : World} {row : Option Nat} {b r n cnt : Nat} {F : Int → Int → Option (Int × Int)} {left : Int → Int → Bool} (h : RngF w b r n F left cnt) (hg : w.grownBy w' row) (hb : some b ≠ row) (hr : some r ≠ row) : RngF w' b r n F left cnt := by
  obtain ⟨D, l, h1, h2⟩ := h; exact ⟨D, l, h1.kept hg hb hr, h2⟩
theorem RngF.below {w w' : World} {b r n cnt B : Nat} {F : Int → Int → Option (Int × Int)} {left : Int → Int → Bool} (h : RngF w b r n F left cnt) (k : Below B w w') (hb : b < B) (hr : r < B) : RngF w' b r n F left cnt := by
  obtain ⟨D, l, ⟨es, clock, since, seen, c0, e1, e2, e3, e4, e5, e6⟩, h2⟩ := h
  exact ⟨D, l, ⟨es, clock, since, seen, c0, (k.block b hb).trans e1, e2, e3, e4, (k.block r hr).trans e5, e6⟩, h2⟩

section
variable (w : World) {ops : Array Oper} {rest : List Oper} {o : Oper} {a : Act} {Q : Exit → Act → World → Prop}
/-- 'f[x] = s'. -/
theorem wp_putF (hg : o.guard = none) (m x v : Operand) (t : TypeId) (hop : o.op = Op.mapUpdate t m x v) (ht : Try.prog.underlying t = some (.map 106 83)) (b n : Nat) (F : Int → Int → Option (Int × Int))
    (hm : a.eval m = .map (some b)) (hown : MapF w b n F) (hn : n < 100000000000000) (y u lo hi : Int) (hx : a.eval x = .agg #[.int .i64 y, .int .i64 u]) (hv : a.eval v = .agg #[.int .i64 lo, .int .i64 hi]) (hy : (Lit.int .i64 y).wf = true) (hu : (Lit.int .i64 u).wf = true)
    (hK : ∀ w', MapF w' b (n + 1) (updF F y u lo hi) → w.grownBy w' (some b) → wpList Try.prog ops Q rest (a.put o.dst undef) w') :
    wpList Try.prog ops Q (o :: rest) a w := by
  obtain ⟨D, h1, h2⟩ := hown
  refine wpList_mapUpdate_own w hg m x v t hop 106 83 keyedS ht sumR b n D hm h1 (by unfold maxLen; omega) _ _ (kS y u) hx hv (keyS hy hu) _ [] (sumR_mk lo hi) ?_
  intro w' h3 h4
  exact hK w' ⟨_, h3, holdsF_put h2 h1.isMap hy hu⟩ h4
/-- 's, is := f[x]'. -/
theorem wp_lookF (hg : o.guard = none) (m x : Operand) (t : TypeId) (hop : o.op = Op.lookup t m x true) (ht : Try.prog.underlying t = some (.map 106 83)) (b n : Nat) (F : Int → Int → Option (Int × Int))
    (hm : a.eval m = .map (some b)) (hown : MapF w b n F) (y u : Int) (hx : a.eval x = .agg #[.int .i64 y, .int .i64 u]) (hy : (Lit.int .i64 y).wf = true) (hu : (Lit.int .i64 u).wf = true)
    (hK : wpList Try.prog ops Q rest (a.put o.dst (.tuple #[.agg #[.int .i64 ((F y u).getD (0, 0)).1, .int .i64 ((F y u).getD (0, 0)).2], .bool (F y u).isSome])) w) :
    wpList Try.prog ops Q (o :: rest) a w := by
  obtain ⟨D, h1, h2⟩ := hown
  refine wpList_lookup_own_ok w hg m x t hop 106 83 keyedS ht sumR (zeroS w) _ _ (sumR_mk 0 0) b n D hm h1 _ (kS y u) hx (keyS hy hu) ?_
  intro v ps hv
  obtain ⟨c, d, rfl, e⟩ := sumR_inv hv
  have e1 := congrArg Prod.fst e
  have := h2 y u hy hu
  cases hf : F y u with
  | none =>
    rw [hf] at this hK
    simp only at this
    rw [atKey_of_not_has this] at e1
    simp at e1
    obtain ⟨rfl, rfl⟩ := e1
    rw [this]
    exact hK
  | some p =>
    rw [hf] at this hK
    simp only at this
    rw [this.2] at e1
    simp at e1
    obtain ⟨rfl, rfl⟩ := e1
    rw [this.1]
    exact hK
/-- 'range f'. -/
theorem wp_rangeF (hg : o.guard = none) (m : Operand) (t : TypeId) (hop : o.op = Op.range t m) (ht : Try.prog.underlying t = some (.map 106 83)) (b n : Nat) (F : Int → Int → Option (Int × Int))
    (hm : a.eval m = .map (some b)) (hown : MapF w b n F)
    (hK : ∀ w' cnt, RngF w' b w.heap.size n F (fun x v => (F x v).isSome) cnt → Below w.heap.size w w' → w'.heap.size = w.heap.size + 1 → cnt ≤ n → wpList Try.prog ops Q rest (a.put o.dst (.pointer (some ⟨w.heap.size, 0, none⟩))) w') :
    wpList Try.prog ops Q (o :: rest) a w := by
  obtain ⟨D, h1, h2⟩ := hown
  refine wpList_range_own w hg m t hop 106 83 keyedS ht sumR b n D hm h1 ?_
  intro w' h3 h4 h5
  refine hK w' _ ⟨D, _, h3, h2, fun x v hx hv => ?_⟩ ((Below.refl _ _).grown h4 (Nat.le_refl _) (fun _ e => by cases e)) h5 h1.size_le
  show Maps.has D (kS x v) = (F x v).isSome
  have := h2 x v hx hv
  cases hf : F x v with
  | none => rw [hf] at this; exact this
  | some u => rw [hf] at this; exact this.1
set_option maxRecDepth 100000 in
/-- The step of such a range. -/
theorem wp_nextF (hg : o.guard = none) (it : Operand) (hop : o.op = Op.next it false) (b r n : Nat) (F : Int → Int → Option (Int × Int)) (left : Int → Int → Bool) (cnt : Nat) (hit : a.eval it = .pointer (some ⟨r, 0, none⟩)) (h : RngF w b r n F left cnt)
    (hDone : cnt = 0 → (∀ x v, (Lit.int .i64 x).wf = true → (Lit.int .i64 v).wf = true → left x v = false) → wpList Try.prog ops Q rest (a.put o.dst (.tuple #[.bool false])) w)
    (hMore : ∀ (x v lo hi : Int) (w' : World) (cnt' : Nat), (Lit.int .i64 x).wf = true → (Lit.int .i64 v).wf = true → left x v = true → F x v = some (lo, hi) → RngF w' b r n F (fun z u => left z u && !decide (z = x ∧ u = v)) cnt' → cnt' < cnt →
      w.grownBy w' (some r) → w'.heap.size = w.heap.size → (Instr.entry (.pointer (some ⟨r, 0, none⟩))).run Try.prog w' = .ok (.tuple #[.agg #[.int .i64 x, .int .i64 v], .agg #[.int .i64 lo, .int .i64 hi]]) w' → wpList Try.prog ops Q rest (a.put o.dst (.tuple #[.bool true, .agg #[.int .i64 x, .int .i64 v], .agg #[.int .i64 lo, .int .i64 hi]])) w') :
    wpList Try.prog ops Q (o :: rest) a w := by
  obtain ⟨D, l, h1, h2, h3⟩ := h
  refine wpList_next_ranges (α := Int × Int) (β := Int × Int) w hg it hop 106 keyedS sumR (fun p => .agg #[.int .i64 p.1, .int .i64 p.2]) (fun p => .agg #[.int .i64 p.1, .int .i64 p.2])
    (fun key kl hk => by obtain ⟨x, v, _, _, e⟩ := invS hk; exact ⟨(x, v), e⟩) (fun v y hv => by obtain ⟨c, d, e, _⟩ := sumR_inv hv; exact ⟨(c, d), e⟩) b r n D l cnt hit h1 (fun e hl => hDone e fun x v hx hv => by rw [← h3 x v hx hv]; exact hl _) ?_
  rintro ⟨x, v⟩ ⟨lo, hi⟩ kl y w' cnt' hkey hlk hv hat hrg hlt hgr hsz hen
  obtain ⟨x', v', hx, hvw, e⟩ := invS hkey
  simp at e
  obtain ⟨rfl, rfl⟩ := e
  have hkl : kl = kS x v := by have := (keyS hx hvw).symm.trans hkey; cases this; rfl
  subst hkl
  refine hMore x v lo hi w' cnt' hx hvw (by rw [← h3 x v hx hvw]; exact hlk) ?_ ⟨D, _, hrg, h2, fun z u hz hu => ?_⟩ hlt hgr hsz hen
  · have := h2 x v hx hvw
    obtain ⟨c, d, e1, e2⟩ := sumR_inv hv
    simp at e1
    obtain ⟨rfl, rfl⟩ := e1
    cases hf : F x v with
    | none =>
      rw [hf] at this
      simp only at this
      have e3 := (atKey_of_not_has this .nil).symm.trans (hat .nil)
      rw [e2] at e3
      cases e3
    | some p =>
      rw [hf] at this
      simp only at this
      have e3 := (this.2 .nil).symm.trans (hat .nil)
      rw [e2] at e3
      simp at e3
      rw [← e3.1, ← e3.2]
  · show (l (kS z u) && !(kS z u).sameKey (kS x v)) = _
    rw [h3 z u hz hu]
    congr 2
    by_cases e : z = x ∧ u = v
    · obtain ⟨rfl, rfl⟩ := e
      rw [decide_eq_true ⟨rfl, rfl⟩]
      exact WideAt.sameKey_self (keyedS.key (keyS hx hvw))
    · rw [decide_eq_false e]; exact sameKey_ne (fun e' => e (kS_inj hz hu hx hvw e'))
end
end Go.Proofs.Ytphcpphmoeiioaa
