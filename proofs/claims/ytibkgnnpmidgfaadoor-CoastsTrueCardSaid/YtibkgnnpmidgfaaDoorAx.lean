/- Laws: slices made and filled in regions that draw their order; rows and blocks of ones own. -/
import Derived.Test.YtibkgnnpmidgfaaDoorGen
import Derived.ArgAppend
import Derived.Test.YtibkgnnpmidgfaaDoorCj
import Derived.OneCell
namespace Go.Proofs.YtibkgnnpmidgfaaDoor
open Go.RowKit

theorem flatten_inv {sz : Nat} (h0 : 0 < sz) : ∀ (rows : List (List Value)), (∀ r ∈ rows, r.length = sz) → ∀ (k : Nat) (v : Value), rows.flatten[k]? = some v → ∃ r, rows[k / sz]? = some r ∧ r[k % sz]? = some v
  | [], _, k, v, h => by simp at h
  | a :: rows, hl, k, v, h => by
    have ha := hl a (List.mem_cons_self ..)
    rw [List.flatten_cons] at h
    by_cases hk : k < sz
    · rw [List.getElem?_append_left (by omega)] at h
      exact ⟨a, by rw [Nat.div_eq_of_lt hk]; rfl, by rw [Nat.mod_eq_of_lt hk]; exact h⟩
    · rw [List.getElem?_append_right (by omega), ha] at h
      obtain ⟨r, h1, h2⟩ := flatten_inv h0 rows (fun x hx => hl x (List.mem_cons_of_mem _ hx)) (k - sz) v h
      refine ⟨r, ?_, ?_⟩
      · rw [Nat.div_eq_sub_div h0 (by omega), List.getElem?_cons_succ]; exact h1
      · rw [Nat.mod_eq_sub_mod (by omega)]; exact h2
theorem Rd.news {sz : Nat} {w : World} {A : Option Addr} {rows : List (List Value)} (h : Rd sz w A rows) (h0 : 0 < sz) (hl : ∀ r ∈ rows, r.length = sz) (hn : 0 < rows.length) :
    ∃ ad, A = some ad ∧ ∀ j u, rows.flatten[j]? = some u → w.cell? (ad.add j) = some u := by
  obtain ⟨b, off, rfl, hb, hc⟩ := h.at_ 0 hn
  refine ⟨_, rfl, fun j u hj => ?_⟩
  obtain ⟨r, h1, h2⟩ := flatten_inv h0 rows hl j u hj
  have := hc _ _ h1 _ _ h2
  rw [Addr.add_lit, ← this, Nat.add_assoc]
  congr 3
  rw [Nat.mul_comm, Nat.div_add_mod]
theorem flatten_len {sz : Nat} : ∀ {rows : List (List Value)}, (∀ r ∈ rows, r.length = sz) → rows.flatten.length = rows.length * sz
  | [], _ => by simp
  | a :: rows, h => by
    rw [List.flatten_cons, List.length_append, flatten_len fun r hr => h r (List.mem_cons_of_mem _ hr), h a (List.mem_cons_self ..), List.length_cons, Nat.add_mul]; omega
theorem ownsRow_base {w : World} {base base' e size n : Nat} {v : Value} {xs : List Value} (h : w.ownsRow base e size v n xs) (hb : base' ≤ base) : w.ownsRow base' e size v n xs := by
  obtain ⟨h1, h2⟩ := h
  refine ⟨h1, ?_⟩
  rcases h2 with h2 | ⟨g, cap, cur, hv, hg, r⟩
  · exact Or.inl h2
  · exact Or.inr ⟨g, cap, cur, hv, by omega, r⟩
theorem Gro.base {w : World} {base base' e sz : Nat} {v : Value} {rows : List (List Value)} (h : Gro w base e sz v rows) (hb : base' ≤ base) : Gro w base' e sz v rows := ⟨h.1, ownsRow_base h.2 hb⟩

section
variable {P : Program} {ops : Array Oper} {Q : Exit → Act → World → Prop} {K : Act → World → Prop}
/-- An empty slice is made. -/
theorem step_empty {o : Oper} {a : Act} {w : World} (hgd : o.guard = none) (t e : TypeId) (size base : Nat) (ho : o.op = Op.buildSlice t 0 #[]) (ht : P.underlying t = some (.slice e)) (i : TypeInfo) (hi : P.info? e = some i) (hb : base ≤ w.heap.size)
    (h : ∀ g w', Gro w' base e size (.slice (some ⟨g, 0, none⟩) 0 0) [] → Below w.heap.size w w' → K (a.put o.dst (.slice (some ⟨g, 0, none⟩) 0 0)) w') : wpHead P ops Q K a w [o] := by
  have hw : Region.wanted o (yielded ops a.tmps) = true := by simp [Region.wanted, hgd]
  simp only [wpHead]
  rw [if_pos hw]
  have hr : (Instr.buildSlice t 0 #[]).run P w = .ok (.slice (some ⟨w.heap.size, 0, none⟩) 0 0) (w.alloc (.cells #[] e)) := by
    simp [Instr.buildSlice, run_underlying ht, sizeOf, typeInfo, hi, Instr.fill, newRow]
    have e0 : Array.map (fun _ => (default : Value)) (Array.range 0) = #[] := by simp [Array.eq_empty_iff_size_eq_zero]
    rw [e0]
  have h' := h w.heap.size _ ⟨fun r hr => (by cases hr), World.ownsRow_made (e := e) (size := size) w #[] 0 hb (by unfold maxLen; omega) (by simp)⟩ ((Below.refl _ _).alloc (Nat.le_refl _) _)
  unfold Oper.wp execOp
  simp only [ho]
  simp [hr, Result.andThen]
  exact h'

/-- A whole slice is appended to an empty one. -/
theorem step_fill {o : Oper} {a : Act} {w : World} (hgd : o.guard = none) (s x : Operand) (t : TypeId) (ho : o.op = Op.call { callee := Callee.builtin Builtin.append, args := #[s, x], argTypes := #[t, t] })
    (base : Nat) (e : TypeId) (i : TypeInfo) (z : Value) (size bytes : Nat) (ht : P.underlying t = some (.slice e)) (hi : P.info? e = some i) (hz : i.zero = some z) (hsize : i.size = size) (hby : i.bytes = bytes) (hzs : z.cells.size = size) (hsz : 0 < size)
    (g : Nat) (hs : a.eval s = .slice (some ⟨g, 0, none⟩) 0 0) (hown : Gro w base e size (.slice (some ⟨g, 0, none⟩) 0 0) []) (hb : base ≤ w.heap.size)
    (A : Option Addr) (n c : Nat) (rows : List (List Value)) (hx : a.eval x = .slice A n c) (hn : n = rows.length) (hR : Rd size w A rows) (hl : ∀ r ∈ rows, r.length = size) (hm : n ≤ maxLen) (h47 : n * bytes ≤ 140737488355328)
    (h : ∀ v' w', Gro w' base e size v' rows → Below w.heap.size w w' → K (a.put o.dst v') w') : wpHead P ops Q K a w [o] := by
  have hw : Region.wanted o (yielded ops a.tmps) = true := by simp [Region.wanted, hgd]
  simp only [wpHead]
  rw [if_pos hw]
  rcases Nat.eq_zero_or_pos n with h0 | h0
  · have hr : (Builtin.append_ #[t, t] o.type #[.slice (some ⟨g, 0, none⟩) 0 0, .slice A 0 c]).run P w = .ok (.slice (some ⟨g, 0, none⟩) 0 0) w := by
      cases A <;> simp [Builtin.append_, run_underlying ht, sizeOf, typeInfo, hi, Builtin.lenOf, Builtin.firstCells, storeCells, loadCells, loadCellsFrom]
    subst h0
    obtain rfl : rows = [] := List.eq_nil_of_length_eq_zero hn.symm
    unfold Oper.wp execOp
    simp only [ho, resolve, invoke, builtin, Sem.run_bind, Sem.run_pure, Result.andThen_ok, List.map_toArray, List.map_cons, List.map_nil, hs, hx, hr]
    exact h _ _ hown (Below.refl _ _)
  · obtain ⟨ad, rfl, hc⟩ := hR.news hsz hl (by omega)
    obtain ⟨v', w', hr, r1, r2⟩ := run_append_arg_grows (P := P) w t o.type e i z size bytes ht hi hz hsize hby hzs hsz ⟨g, 0, none⟩ 0 0 [] (by simp) (fun j u hj => by simp at hj) ad n c rows.flatten (by rw [flatten_len hl, hn]) hc (by omega) (by omega) (by rw [Nat.zero_add]; exact h47)
    unfold Oper.wp execOp
    simp only [ho, resolve, invoke, builtin, Sem.run_bind, Sem.run_pure, Result.andThen_ok, List.map_toArray, List.map_cons, List.map_nil, hs, hx, hr]
    refine h _ _ ⟨hl, ?_⟩ ((Below.refl _ _).grown r2 (Nat.le_refl _) (fun _ e => by cases e))
    rw [← hn]
    have := ownsRow_base r1 hb
    simpa using this
end
section
variable {P : Program} {Q : Exit → Act → World → Prop} {S : World → Prop} {l : List Oper}
/-- One of several. -/
theorem rg_many {fuel fuel' : Nat} {listed : Array Bool} {a : Act} {w : World} (cs : List Nat) (hf : fuel' = fuel + 1) (hne : cs ≠ []) (h2 : belowB l.length cs = true) (h4 : Region.ready .any l.toArray listed = cs)
    (h : ∀ c ∈ cs, ∀ K' : Act → World → Prop, Shut (∀ a2 w2, S w2 → RG P l Q S fuel (listed.setIfInBounds c true) a2 w2 → K' a2 w2) → wpHead P l.toArray Q K' a w (pick1 l c)) : RG P l Q S fuel' listed a w := by
  subst hf
  refine wpAnyH_all h4 hne ?_
  intro i hi
  obtain ⟨oc, hp, hc⟩ := pick1_lt l i (by simpa using List.all_eq_true.1 h2 i hi)
  have h' := h i hi
  rw [hp] at h'
  exact wpOp_step (o := oc) (by simpa using hc) (fun K' hK => h' K' fun a2 w2 hS hR => hK a2 w2 ⟨hS, hR⟩)
end
end Go.Proofs.YtibkgnnpmidgfaaDoor
namespace Go.Proofs.YtibkgnnpmidgfaaDoor
open Go.RowKit

theorem heap_setCell_cells {w : World} {b : Nat} {c : Array Value} {e : TypeId} {fr : Nat × Nat} (h : w.heap[b]? = some (.cells c e fr)) (j : Nat) (u : Value) : (w.setCell ⟨b, j, none⟩ u).heap[b]? = some (.cells (c.setIfInBounds j u) e fr) := by
  obtain ⟨hlt, hk⟩ := Array.getElem?_eq_some_iff.1 h
  show (w.heap.modify b _)[b]? = _
  rw [Array.getElem?_eq_getElem (by rw [Array.size_modify]; exact hlt), Array.getElem_modify_self, hk]
  rfl
theorem ownsRow_set {w : World} {base e size g n cap : Nat} {xs : List Value} (h : w.ownsRow base e size (.slice (some ⟨g, 0, none⟩) n cap) n xs) (j : Nat) (u : Value) (_ : j < n * size) : (w.setCell ⟨g, j, none⟩ u).ownsRow base e size (.slice (some ⟨g, 0, none⟩) n cap) n (xs.set j u) := by
  obtain ⟨h1, h2⟩ := h
  refine ⟨by rw [List.length_set]; exact h1, ?_⟩
  rcases h2 with ⟨h2, _⟩ | ⟨g', cap', cur, hv, hg, hh, a1, a2, a3, a4⟩
  · cases h2
  · cases hv
    refine Or.inr ⟨g, cap, cur.setIfInBounds j u, rfl, hg, heap_setCell_cells hh j u, a1, a2, by rw [Array.size_setIfInBounds]; exact a3, ?_⟩
    rw [Array.toList_setIfInBounds, List.take_set, a4]
theorem flatten_set {sz : Nat} : ∀ (rows : List (List Value)), (∀ r ∈ rows, r.length = sz) → ∀ (i c : Nat) (r : List Value) (u : Value), rows[i]? = some r → c < sz → rows.flatten.set (i * sz + c) u = (rows.set i (r.set c u)).flatten
  | [], _, i, c, r, u, h, _ => by simp at h
  | a :: rows, hl, 0, c, r, u, h, hc => by
    have ha := hl a (List.mem_cons_self ..)
    simp only [List.getElem?_cons_zero, Option.some.injEq] at h
    subst h
    rw [List.flatten_cons, Nat.zero_mul, Nat.zero_add, List.set_append_left _ _ (by omega)]; rfl
  | a :: rows, hl, i + 1, c, r, u, h, hc => by
    have ha := hl a (List.mem_cons_self ..)
    rw [List.getElem?_cons_succ] at h
    have ih := flatten_set rows (fun x hx => hl x (List.mem_cons_of_mem _ hx)) i c r u h hc
    rw [List.flatten_cons, List.set_append_right _ _ (by rw [ha, Nat.succ_mul]; omega), ha, show (i + 1) * sz + c - sz = i * sz + c by rw [Nat.succ_mul]; omega, ih]; rfl
/-- A cell of a row of one's own is written. -/
theorem Gro.set {w : World} {base e sz g n cap : Nat} {rows : List (List Value)} (h : Gro w base e sz (.slice (some ⟨g, 0, none⟩) n cap) rows) {i c : Nat} {r : List Value} (hi : rows[i]? = some r) (hc : c < sz) (u : Value) :
    Gro (w.setCell ⟨g, i * sz + c, none⟩ u) base e sz (.slice (some ⟨g, 0, none⟩) n cap) (rows.set i (r.set c u)) := by
  obtain ⟨hl, ho⟩ := h
  have hlt := (List.getElem?_eq_some_iff.1 hi).1
  have hn : n = rows.length := by
    rcases ho.2 with ⟨h2, _⟩ | ⟨g', cap', cur, hv, _⟩
    · cases h2
    · cases hv; rfl
  subst hn
  refine ⟨fun x hx => ?_, ?_⟩
  · rcases List.mem_or_eq_of_mem_set hx with hx | rfl
    · exact hl x hx
    · rw [List.length_set]; exact hl r (List.mem_of_getElem? hi)
  · rw [← flatten_set rows hl i c r u hi hc, List.length_set]
    refine ownsRow_set ho _ u ?_
    have : (i + 1) * sz ≤ rows.length * sz := Nat.mul_le_mul_right _ (by omega)
    rw [Nat.succ_mul] at this
    omega
/-- A cell of another row is written. -/
theorem Gro.setRow {w : World} {base e sz g : Nat} {v : Value} {rows : List (List Value)} (h : Gro w base e sz v rows) {j : Nat} (hne : v.ownBlock ≠ some g) (u : Value) : Gro (w.setCell ⟨g, j, none⟩ u) base e sz v rows := ⟨h.1, ownsRow_setCell_other h.2 hne u⟩
/-- Rows of two types lie apart. -/
theorem Gro.apart {w : World} {base e sz base' e' sz' g n cap : Nat} {v : Value} {rows rows' : List (List Value)} (h : Gro w base e sz v rows) (k : Gro w base' e' sz' (.slice (some ⟨g, 0, none⟩) n cap) rows') (hne : e ≠ e') : v.ownBlock ≠ some g := by
  rcases h.2.2 with ⟨rfl, _⟩ | ⟨g1, cap1, cur1, rfl, _, h1, _⟩
  · simp [Value.ownBlock]
  · rcases k.2.2 with ⟨h2, _⟩ | ⟨g2, cap2, cur2, hv, _, h2, _⟩
    · cases h2
    · cases hv
      simp only [Value.ownBlock]
      intro e
      cases e
      rw [h1] at h2
      cases h2
      exact hne rfl
theorem Gro.lt {w : World} {base e sz g n cap : Nat} {rows : List (List Value)} (k : Gro w base e sz (.slice (some ⟨g, 0, none⟩) n cap) rows) : base ≤ g ∧ g < w.heap.size := by
  rcases k.2.2 with ⟨h2, _⟩ | ⟨g2, cap2, cur2, hv, hb, h2, _⟩
  · cases h2
  · cases hv
    exact ⟨hb, (Array.getElem?_eq_some_iff.1 h2).1⟩
theorem Gro.free {w : World} {base e sz g n cap : Nat} {rows : List (List Value)} (k : Gro w base e sz (.slice (some ⟨g, 0, none⟩) n cap) rows) (j : Nat) : w.frozen? ⟨g, j, none⟩ = false := by
  rcases k.2.2 with ⟨h2, _⟩ | ⟨g2, cap2, cur2, hv, hb, h2, _⟩
  · cases h2
  · cases hv
    simp [World.frozen?, h2]
theorem Gro.cell {w : World} {base e sz g n cap : Nat} {rows : List (List Value)} (k : Gro w base e sz (.slice (some ⟨g, 0, none⟩) n cap) rows) {i c : Nat} {r : List Value} {u : Value} (hi : rows[i]? = some r) (hc : r[c]? = some u) : w.cell? ⟨g, i * sz + c, none⟩ = some u := by
  obtain ⟨A, cap', hv, hr⟩ := k.out
  cases hv
  obtain ⟨b, off, e, _, h⟩ := hr.elem hi
  cases e
  have := h c u hc
  rwa [Nat.zero_add] at this
/-- A row that is not empty lies at an address. -/
theorem Gro.some {w : World} {base e sz : Nat} {v : Value} {rows : List (List Value)} (k : Gro w base e sz v rows) (h : 0 < rows.length) : ∃ g cap, v = .slice (some ⟨g, 0, none⟩) rows.length cap := by
  rcases k.2.2 with ⟨_, h2⟩ | ⟨g2, cap2, cur2, hv, hb, h2, _⟩
  · omega
  · exact ⟨g2, cap2, hv⟩
/-- A coast of one's own reads as one. -/
theorem rdC_of {w : World} {b0 b1 b2 : Nat} {v0 v1 v2 : Value} {B D : List Pt} {R : List Rep} (G0 : Gro w b0 40 2 v0 (B.map prow)) (G1 : Gro w b1 33 2 v1 (D.map prow)) (G2 : Gro w b2 58 4 v2 (R.map rrow))
    (l0 : B.length ≤ 140737488355328) (l1 : D.length ≤ 140737488355328) (l2 : R.length ≤ 140737488355328) (wt : ∀ r ∈ R, -9223372036854775808 ≤ r.t ∧ r.t ≤ 9223372036854775807) :
    ∃ A0 A1 A2 c0 c1 c2, v0 = .slice A0 B.length c0 ∧ v1 = .slice A1 D.length c1 ∧ v2 = .slice A2 R.length c2 ∧ RdC w A0 A1 A2 B.length D.length R.length B D R := by
  obtain ⟨A0, c0, e0, r0⟩ := G0.out
  obtain ⟨A1, c1, e1, r1⟩ := G1.out
  obtain ⟨A2, c2, e2, r2⟩ := G2.out
  rw [List.length_map] at e0 e1 e2
  exact ⟨A0, A1, A2, c0, c1, c2, e0, e1, e2, ⟨rfl, rfl, rfl, l0, l1, l2, r0, r1, r2, wt⟩⟩
theorem rdC_gro {w : World} {b0 b1 b2 n0 n1 n2 c0 c1 c2 : Nat} {A0 A1 A2 : Option Addr} {B D : List Pt} {R : List Rep} (G0 : Gro w b0 40 2 (.slice A0 n0 c0) (B.map prow)) (G1 : Gro w b1 33 2 (.slice A1 n1 c1) (D.map prow)) (G2 : Gro w b2 58 4 (.slice A2 n2 c2) (R.map rrow))
    (l0 : B.length ≤ 140737488355328) (l1 : D.length ≤ 140737488355328) (l2 : R.length ≤ 140737488355328) (wt : ∀ r ∈ R, -9223372036854775808 ≤ r.t ∧ r.t ≤ 9223372036854775807) : RdC w A0 A1 A2 n0 n1 n2 B D R := by
  obtain ⟨X0, X1, X2, y0, y1, y2, e0, e1, e2, h⟩ := rdC_of G0 G1 G2 l0 l1 l2 wt
  cases e0; cases e1; cases e2
  exact h

end Go.Proofs.YtibkgnnpmidgfaaDoor
namespace Go.Proofs.YtibkgnnpmidgfaaDoor
open Go.RowKit

/-- Block b is one's own, of type t, and holds just these cells. -/
def OwnT (w : World) (b : Nat) (t : TypeId) (vs : List Value) : Prop := w.heap[b]? = some (.cells vs.toArray t (0, 0))
theorem OwnT.lt {w : World} {b : Nat} {t : TypeId} {vs : List Value} (h : OwnT w b t vs) : b < w.heap.size := (Array.getElem?_eq_some_iff.1 h).1
theorem OwnT.own {w : World} {b : Nat} {t : TypeId} {vs : List Value} (h : OwnT w b t vs) : Own w b vs :=
  ⟨h.lt, fun i => by simp [World.cell?, show w.heap[b]? = _ from h], fun i => by simp [World.frozen?, show w.heap[b]? = _ from h]⟩
theorem OwnT.below {w w' : World} {b B : Nat} {t : TypeId} {vs : List Value} (h : OwnT w b t vs) (k : Below B w w') (hb : b < B) : OwnT w' b t vs := (k.block b hb).trans h
theorem OwnT.new (w : World) (c : Array Value) (t : TypeId) : OwnT (w.alloc (.cells c t)) w.heap.size t c.toList := by
  unfold OwnT
  rw [Array.toArray_toList]
  exact (MapKept.heap_alloc w _).1
theorem OwnT.apart {w : World} {b base e sz : Nat} {t : TypeId} {vs : List Value} {v : Value} {rows : List (List Value)} (h : OwnT w b t vs) (k : Gro w base e sz v rows) (hne : e ≠ t) : v.ownBlock ≠ some b := by
  rcases k.2.2 with ⟨rfl, _⟩ | ⟨g1, cap1, cur1, rfl, _, h1, _⟩
  · simp [Value.ownBlock]
  · simp only [Value.ownBlock]
    intro e
    cases e
    rw [show w.heap[b]? = _ from h] at h1
    cases h1
    exact hne rfl
theorem OwnT.set {w : World} {b : Nat} {t : TypeId} {vs : List Value} (h : OwnT w b t vs) (j : Nat) (u : Value) : OwnT (w.setCell ⟨b, j, none⟩ u) b t (vs.set j u) := by
  have := heap_setCell_cells h j u
  unfold OwnT
  rw [this, List.setIfInBounds_toArray]
theorem OwnT.setOther {w : World} {b g : Nat} {t : TypeId} {vs : List Value} (h : OwnT w b t vs) (hne : b ≠ g) (j : Nat) (u : Value) : OwnT (w.setCell ⟨g, j, none⟩ u) b t vs := by
  unfold OwnT
  rw [Below.heap_setCell _ _ _ _ hne]; exact h
/-- A struct of four cells is stored. -/
abbrev put4 (w : World) (g : Nat) (x0 x1 x2 x3 : Value) : World := (((w.setCell ⟨g, 0, none⟩ x0).setCell ⟨g, 1, none⟩ x1).setCell ⟨g, 2, none⟩ x2).setCell ⟨g, 3, none⟩ x3
section
variable {w : World} {g : Nat} {x0 x1 x2 x3 : Value}
theorem put4_own {t : TypeId} {a0 a1 a2 a3 : Value} (h : OwnT w g t [a0, a1, a2, a3]) : OwnT (put4 w g x0 x1 x2 x3) g t [x0, x1, x2, x3] := (((h.set 0 x0).set 1 x1).set 2 x2).set 3 x3
theorem put4_ownT {b : Nat} {t : TypeId} {vs : List Value} (h : OwnT w b t vs) (hne : b ≠ g) : OwnT (put4 w g x0 x1 x2 x3) b t vs := (((h.setOther hne 0 x0).setOther hne 1 x1).setOther hne 2 x2).setOther hne 3 x3
theorem put4_other {b : Nat} {vs : List Value} (h : Own w b vs) (hne : g ≠ b) : Own (put4 w g x0 x1 x2 x3) b vs := (((h.setOther hne x0).setOther hne x1).setOther hne x2).setOther hne x3
theorem put4_gro {base e sz : Nat} {v : Value} {rows : List (List Value)} (h : Gro w base e sz v rows) (hne : v.ownBlock ≠ some g) : Gro (put4 w g x0 x1 x2 x3) base e sz v rows := (((h.setRow hne x0).setRow hne x1).setRow hne x2).setRow hne x3
theorem put4_below {B : Nat} {w0 : World} (h : Below B w0 w) (hg : B ≤ g) : Below B w0 (put4 w g x0 x1 x2 x3) := Below.setCell (Below.setCell (Below.setCell (Below.setCell h hg x0) hg x1) hg x2) hg x3
end
theorem Gro.keptBy {w w' : World} {base e sz : Nat} {v : Value} {rows : List (List Value)} {row : Option Nat} (h : Gro w base e sz v rows) (hg : w.grownBy w' row) (hne : v.ownBlock = none ∨ v.ownBlock ≠ row) : Gro w' base e sz v rows := ⟨h.1, h.2.kept hg hne⟩
theorem OwnT.keptBy {w w' : World} {b : Nat} {t : TypeId} {vs : List Value} {row : Option Nat} (h : OwnT w b t vs) (hg : w.grownBy w' row) (hne : some b ≠ row) : OwnT w' b t vs := (hg.block b h.lt hne).trans h
theorem Own.keptBy {w w' : World} {b : Nat} {vs : List Value} {row : Option Nat} (h : Own w b vs) (hg : w.grownBy w' row) (hne : some b ≠ row) : Own w' b vs :=
  ⟨Nat.lt_of_lt_of_le h.lt hg.size, fun i => (World.cell?_of_block (hg.block b h.lt hne)).trans (h.c i), fun i => (World.frozen?_of_block (hg.block b h.lt hne)).trans (h.f i)⟩
theorem Gro.apart2 {w : World} {base e sz base' e' sz' : Nat} {v v' : Value} {rows rows' : List (List Value)} (h : Gro w base e sz v rows) (k : Gro w base' e' sz' v' rows') (hne : e ≠ e') : v.ownBlock = none ∨ v.ownBlock ≠ v'.ownBlock := by
  rcases h.2.2 with ⟨rfl, _⟩ | ⟨g1, cap1, cur1, rfl, _, h1, _⟩
  · exact Or.inl rfl
  · right
    rcases k.2.2 with ⟨rfl, _⟩ | ⟨g2, cap2, cur2, rfl, _, h2, _⟩
    · simp [Value.ownBlock]
    · simp only [Value.ownBlock]
      intro e
      cases e
      rw [h1] at h2
      cases h2
      exact hne rfl
theorem Gro.above {w : World} {base e sz base' : Nat} {v v' : Value} {rows : List (List Value)} (h : Gro w base e sz v rows) (k : ∀ g, v'.ownBlock = Option.some g → base' ≤ g ∧ g < base) : v.ownBlock = none ∨ v.ownBlock ≠ v'.ownBlock := by
  cases hv : v.ownBlock with
  | none => exact Or.inl rfl
  | some g =>
    right
    intro e
    have h1 := (h.2.lt g hv).1
    have h2 := (k g e.symm).2
    omega
end Go.Proofs.YtibkgnnpmidgfaaDoor
