/- Laws: slices of slices; slices made and filled in regions that draw their order. -/
import Derived.Test.YtphcpphmoeiioaaCpA
import Derived.Test.YtphcpphmoeiioaaGen
namespace Go.Proofs.Ytphcpphmoeiioaa
open Go.RowKit

section
variable {P : Program} {ops : Array Oper} {Q : Exit → Act → World → Prop} {K : Act → World → Prop}
/-- An empty slice is made. -/
theorem step_empty {o : Oper} {a : Act} {w : World} (hgd : o.guard = none) (t e : TypeId) (size base : Nat) (ho : o.op = Op.buildSlice t 0 #[]) (ht : P.underlying t = some (.slice e)) (i : TypeInfo) (hi : P.info? e = some i) (hb : base ≤ w.heap.size)
    (h : ∀ g w', Gro w' base e size (.slice (some ⟨g, 0, none⟩) 0 0) [] → Below w.heap.size w w' → K (a.put o.dst (.slice (some ⟨g, 0, none⟩) 0 0)) w') : wpHead P ops Q K a w [o] := by
  have hw : Region.wanted o (yielded ops a.tmps) = true := by simp [Region.wanted, hgd]
  simp only [wpHead]
  rw [if_pos hw]
  have hr : (Instr.buildSlice t 0 #[]).run P w = .ok (.slice (some ⟨w.heap.size, 0, none⟩) 0 0) (w.alloc (.cells #[] e)) := by
    simp [Instr.buildSlice, run_underlying ht, sizeOf, typeInfo, hi, Instr.fill, newRow]
    have e0 : Array.map (fun _ => (default : Value)) (Array.range 0) = #[] := by simp [Array.eq_empty_iff_size_eq_zero]
    rw [e0]
  have h' := h w.heap.size _ ⟨fun r hr => (by cases hr), World.ownsRow_made (e := e) (size := size) w #[] 0 hb (by unfold maxLen; omega) (by simp)⟩ ((Below.refl _ _).alloc (Nat.le_refl _) _)
  unfold Oper.wp execOp
  simp only [ho]
  simp [hr, Result.andThen]
  exact h'

/-- A whole slice is appended to an empty one. -/
theorem step_fill {o : Oper} {a : Act} {w : World} (hgd : o.guard = none) (s x : Operand) (t : TypeId) (ho : o.op = Op.call { callee := Callee.builtin Builtin.append, args := #[s, x], argTypes := #[t, t] })
    (base : Nat) (e : TypeId) (i : TypeInfo) (z : Value) (size bytes : Nat) (ht : P.underlying t = some (.slice e)) (hi : P.info? e = some i) (hz : i.zero = some z) (hsize : i.size = size) (hby : i.bytes = bytes) (hzs : z.cells.size = size) (hsz : 0 < size)
    (g : Nat) (hs : a.eval s = .slice (some ⟨g, 0, none⟩) 0 0) (hown : Gro w base e size (.slice (some ⟨g, 0, none⟩) 0 0) []) (hb : base ≤ w.heap.size)
    (A : Option Addr) (n c : Nat) (rows : List (List Value)) (hx : a.eval x = .slice A n c) (hn : n = rows.length) (hR : Rd size w A rows) (hl : ∀ r ∈ rows, r.length = size) (hm : n ≤ maxLen) (h47 : n * bytes ≤ 140737488355328)
    (h : ∀ v' w', Gro w' base e size v' rows → Below w.heap.size w w' → K (a.put o.dst v') w') : wpHead P ops Q K a w [o] := by
  have hw : Region.wanted o (yielded ops a.tmps) = true := by simp [Region.wanted, hgd]
  simp only [wpHead]
  rw [if_pos hw]
  rcases Nat.eq_zero_or_pos n with h0 | h0
  · have hr : (Builtin.append_ #[t, t] o.type #[.slice (some ⟨g, 0, none⟩) 0 0, .slice A 0 c]).run P w = .ok (.slice (some ⟨g, 0, none⟩) 0 0) w := by
      cases A <;> simp [Builtin.append_, run_underlying ht, sizeOf, typeInfo, hi, Builtin.lenOf, Builtin.firstCells, storeCells, loadCells, loadCellsFrom]
    subst h0
    obtain rfl : rows = [] := List.eq_nil_of_length_eq_zero hn.symm
    unfold Oper.wp execOp
    simp only [ho, resolve, invoke, builtin, Sem.run_bind, Sem.run_pure, Result.andThen_ok, List.map_toArray, List.map_cons, List.map_nil, hs, hx, hr]
    exact h _ _ hown (Below.refl _ _)
  · obtain ⟨ad, rfl, hc⟩ := hR.news hsz hl (by omega)
    obtain ⟨v', w', hr, r1, r2⟩ := run_append_arg_grows (P := P) w t o.type e i z size bytes ht hi hz hsize hby hzs hsz ⟨g, 0, none⟩ 0 0 [] (by simp) (fun j u hj => by simp at hj) ad n c rows.flatten (by rw [flatten_len hl, hn]) hc (by omega) (by omega) (by rw [Nat.zero_add]; exact h47)
    unfold Oper.wp execOp
    simp only [ho, resolve, invoke, builtin, Sem.run_bind, Sem.run_pure, Result.andThen_ok, List.map_toArray, List.map_cons, List.map_nil, hs, hx, hr]
    refine h _ _ ⟨hl, ?_⟩ ((Below.refl _ _).grown r2 (Nat.le_refl _) (fun _ e => by cases e))
    rw [← hn]
    have := ownsRow_base r1 hb
    simpa using this
end
section
variable {P : Program} {Q : Exit → Act → World → Prop} {S : World → Prop} {l : List Oper}
/-- One of several. -/
theorem rg_many {fuel fuel' : Nat} {listed : Array Bool} {a : Act} {w : World} (cs : List Nat) (hf : fuel' = fuel + 1) (hne : cs ≠ []) (h2 : belowB l.length cs = true) (h4 : Region.ready .any l.toArray listed = cs)
    (h : ∀ c ∈ cs, ∀ K' : Act → World → Prop, Shut (∀ a2 w2, S w2 → RG P l Q S fuel (listed.setIfInBounds c true) a2 w2 → K' a2 w2) → wpHead P l.toArray Q K' a w (pick1 l c)) : RG P l Q S fuel' listed a w := by
  subst hf
  refine wpAnyH_all h4 hne ?_
  intro i hi
  obtain ⟨oc, hp, hc⟩ := pick1_lt l i (by simpa using List.all_eq_true.1 h2 i hi)
  have h' := h i hi
  rw [hp] at h'
  exact wpOp_step (o := oc) (by simpa using hc) (fun K' hK => h' K' fun a2 w2 hS hR => hK a2 w2 ⟨hS, hR⟩)
end
/-- Block b is one's own, of type t, and holds just these cells. -/
def OwnT (w : World) (b : Nat) (t : TypeId) (vs : List Value) : Prop := w.heap[b]? = some (.cells vs.toArray t (0, 0))
theorem OwnT.lt {w : World} {b : Nat} {t : TypeId} {vs : List Value} (h : OwnT w b t vs) : b < w.heap.size := (Array.getElem?_eq_some_iff.1 h).1
theorem OwnT.own {w : World} {b : Nat} {t : TypeId} {vs : List Value} (h : OwnT w b t vs) : Own w b vs :=
  ⟨h.lt, fun i => by simp [World.cell?, show w.heap[b]? = _ from h], fun i => by simp [World.frozen?, show w.heap[b]? = _ from h]⟩
theorem OwnT.below {w w' : World} {b B : Nat} {t : TypeId} {vs : List Value} (h : OwnT w b t vs) (k : Below B w w') (hb : b < B) : OwnT w' b t vs := (k.block b hb).trans h
theorem OwnT.new (w : World) (c : Array Value) (t : TypeId) : OwnT (w.alloc (.cells c t)) w.heap.size t c.toList := by
  unfold OwnT
  rw [Array.toArray_toList]
  exact (MapKept.heap_alloc w _).1
theorem OwnT.apart {w : World} {b base e sz : Nat} {t : TypeId} {vs : List Value} {v : Value} {rows : List (List Value)} (h : OwnT w b t vs) (k : Gro w base e sz v rows) (hne : e ≠ t) : v.ownBlock ≠ some b := by
  rcases k.2.2 with ⟨rfl, _⟩ | ⟨g1, cap1, cur1, rfl, _, h1, _⟩
  · simp [Value.ownBlock]
  · simp only [Value.ownBlock]
    intro e
    cases e
    rw [show w.heap[b]? = _ from h] at h1
    cases h1
    exact hne rfl
theorem OwnT.set {w : World} {b : Nat} {t : TypeId} {vs : List Value} (h : OwnT w b t vs) (j : Nat) (u : Value) : OwnT (w.setCell ⟨b, j, none⟩ u) b t (vs.set j u) := by
  have := heap_setCell_cells h j u
  unfold OwnT
  rw [this, List.setIfInBounds_toArray]
theorem OwnT.setOther {w : World} {b g : Nat} {t : TypeId} {vs : List Value} (h : OwnT w b t vs) (hne : b ≠ g) (j : Nat) (u : Value) : OwnT (w.setCell ⟨g, j, none⟩ u) b t vs := by
  unfold OwnT
  rw [Below.heap_setCell _ _ _ _ hne]; exact h
theorem Gro.keptBy {w w' : World} {base e sz : Nat} {v : Value} {rows : List (List Value)} {row : Option Nat} (h : Gro w base e sz v rows) (hg : w.grownBy w' row) (hne : v.ownBlock = none ∨ v.ownBlock ≠ row) : Gro w' base e sz v rows := ⟨h.1, h.2.kept hg hne⟩
theorem OwnT.keptBy {w w' : World} {b : Nat} {t : TypeId} {vs : List Value} {row : Option Nat} (h : OwnT w b t vs) (hg : w.grownBy w' row) (hne : some b ≠ row) : OwnT w' b t vs := (hg.block b h.lt hne).trans h
theorem Own.keptBy {w w' : World} {b : Nat} {vs : List Value} {row : Option Nat} (h : Own w b vs) (hg : w.grownBy w' row) (hne : some b ≠ row) : Own w' b vs :=
  ⟨Nat.lt_of_lt_of_le h.lt hg.size, fun i => (World.cell?_of_block (hg.block b h.lt hne)).trans (h.c i), fun i => (World.frozen?_of_block (hg.block b h.lt hne)).trans (h.f i)⟩
theorem Gro.apart2 {w : World} {base e sz base' e' sz' : Nat} {v v' : Value} {rows rows' : List (List Value)} (h : Gro w base e sz v rows) (k : Gro w base' e' sz' v' rows') (hne : e ≠ e') : v.ownBlock = none ∨ v.ownBlock ≠ v'.ownBlock := by
  rcases h.2.2 with ⟨rfl, _⟩ | ⟨g1, cap1, cur1, rfl, _, h1, _⟩
  · exact Or.inl rfl
  · right
    rcases k.2.2 with ⟨rfl, _⟩ | ⟨g2, cap2, cur2, rfl, _, h2, _⟩
    · simp [Value.ownBlock]
    · simp only [Value.ownBlock]
      intro e
      cases e
      rw [h1] at h2
      cases h2
      exact hne rfl
theorem Gro.above {w : World} {base e sz base' : Nat} {v v' : Value} {rows : List (List Value)} (h : Gro w base e sz v rows) (k : ∀ g, v'.ownBlock = Option.some g → base' ≤ g ∧ g < base) : v.ownBlock = none ∨ v.ownBlock ≠ v'.ownBlock := by
  cases hv : v.ownBlock with
  | none => exact Or.inl rfl
  | some g =>
    right
    intro e
    have h1 := (h.2.lt g hv).1
    have h2 := (k g e.symm).2
    omega
section
variable {P : Program} {ops : Array Oper} {Q : Exit → Act → World → Prop} {K : Act → World → Prop}
theorem run_append_nothing {w : World} (t ty e base size n : Nat) (i : TypeInfo) (ht : P.underlying t = some (.slice e)) (hi : P.info? e = some i) (v : Value) (xs : List Value) (hown : w.ownsRow base e size v n xs) (A : Option Addr) (c : Nat) :
    (Builtin.append_ #[t, t] ty #[v, .slice A 0 c]).run P w = .ok v w := by
  rcases hown.2 with ⟨rfl, rfl⟩ | ⟨g, cap, cur, rfl, _, _, hnc, _⟩
  · cases A <;> simp [Builtin.append_, run_underlying ht, sizeOf, typeInfo, hi, Builtin.lenOf, Builtin.firstCells, loadCells, loadCellsFrom]
  · cases A <;> simp [Builtin.append_, run_underlying ht, sizeOf, typeInfo, hi, Builtin.lenOf, Builtin.firstCells, hnc, storeCells, loadCells, loadCellsFrom]
/-- A whole slice is appended to a row of one's own. -/
theorem wp_app {o : Oper} {a : Act} {w : World} (s x : Operand) (t : TypeId) (ho : o.op = Op.call { callee := Callee.builtin Builtin.append, args := #[s, x], argTypes := #[t, t] })
    (base : Nat) (e : TypeId) (i : TypeInfo) (z : Value) (size bytes : Nat) (ht : P.underlying t = some (.slice e)) (hi : P.info? e = some i) (hz : i.zero = some z) (hsize : i.size = size) (hby : i.bytes = bytes) (hzs : z.cells.size = size) (hsz : 0 < size)
    (v : Value) (rows0 : List (List Value)) (hs : a.eval s = v) (hown : Gro w base e size v rows0) (hb : base ≤ w.heap.size)
    (A : Option Addr) (n c : Nat) (rows : List (List Value)) (hx : a.eval x = .slice A n c) (hn : n = rows.length) (hR : Rd size w A rows) (hl : ∀ r ∈ rows, r.length = size) (h1 : ∀ r ∈ rows, ∀ u ∈ r, u.oneCell' = true)
    (hm : rows0.length + n ≤ maxLen) (h47 : (rows0.length + n) * bytes ≤ 140737488355328)
    (h : ∀ v' w', Gro w' base e size v' (rows0 ++ rows) → w.grownBy w' v.ownBlock → K (a.put o.dst v') w') : o.wp P a w K Q := by
  rcases Nat.eq_zero_or_pos n with h0 | h0
  · subst h0
    obtain rfl : rows = [] := List.eq_nil_of_length_eq_zero hn.symm
    have hr := run_append_nothing (P := P) t o.type e base size rows0.length i ht hi v _ hown.2 A c
    unfold Oper.wp execOp
    simp only [ho, resolve, invoke, builtin, Sem.run_bind, Sem.run_pure, Result.andThen_ok, List.map_toArray, List.map_cons, List.map_nil, hs, hx, hr]
    exact h _ _ (by simpa using hown) (⟨rfl, rfl, rfl, Nat.le_refl _, fun _ _ _ => rfl⟩)
  · obtain ⟨ad, rfl, hc⟩ := hR.news hsz hl (by omega)
    refine wp_append_own w s x t ho base e i z size bytes ht hi hz hsize hby hzs hsz v rows0.length rows0.flatten hs hown.2 ad n c rows.flatten hx (by rw [flatten_len hl, hn]) hc (fun u hu => ?_) hm h47 hb fun v' w' h2 h3 _ => h v' w' ⟨fun r hr => ?_, ?_⟩ h3
    · obtain ⟨r, hr, hu⟩ := List.mem_flatten.1 hu
      exact h1 r hr u hu
    · rcases List.mem_append.1 hr with h | h
      · exact hown.1 r h
      · exact hl r h
    · rw [List.length_append, List.flatten_append, ← hn]; exact h2
theorem step_app {o : Oper} {a : Act} {w : World} (hgd : o.guard = none) (s x : Operand) (t : TypeId) (ho : o.op = Op.call { callee := Callee.builtin Builtin.append, args := #[s, x], argTypes := #[t, t] })
    (base : Nat) (e : TypeId) (i : TypeInfo) (z : Value) (size bytes : Nat) (ht : P.underlying t = some (.slice e)) (hi : P.info? e = some i) (hz : i.zero = some z) (hsize : i.size = size) (hby : i.bytes = bytes) (hzs : z.cells.size = size) (hsz : 0 < size)
    (v : Value) (rows0 : List (List Value)) (hs : a.eval s = v) (hown : Gro w base e size v rows0) (hb : base ≤ w.heap.size)
    (A : Option Addr) (n c : Nat) (rows : List (List Value)) (hx : a.eval x = .slice A n c) (hn : n = rows.length) (hR : Rd size w A rows) (hl : ∀ r ∈ rows, r.length = size) (h1 : ∀ r ∈ rows, ∀ u ∈ r, u.oneCell' = true)
    (hm : rows0.length + n ≤ maxLen) (h47 : (rows0.length + n) * bytes ≤ 140737488355328)
    (h : ∀ v' w', Gro w' base e size v' (rows0 ++ rows) → w.grownBy w' v.ownBlock → K (a.put o.dst v') w') : wpHead P ops Q K a w [o] := by
  have hw : Region.wanted o (yielded ops a.tmps) = true := by simp [Region.wanted, hgd]
  simp only [wpHead]
  rw [if_pos hw]
  exact wp_app s x t ho base e i z size bytes ht hi hz hsize hby hzs hsz v rows0 hs hown hb A n c rows hx hn hR hl h1 hm h47 h
end
/-- Where what is appended to lies apart from what was there. -/
theorem Gro.room {w0 w w' : World} {B e sz : Nat} {v : Value} {rows : List (List Value)} (h : Gro w B e sz v rows) (hb : Below B w0 w) (hg : w.grownBy w' v.ownBlock) (hB : B ≤ w.heap.size) : Below B w0 w' :=
  hb.grown hg hB (fun i hi => (h.2.lt i hi).1)

/-- A slice among slices: address, length, capacity. -/
abbrev Sl := Option Addr × Nat × Nat
def slv (x : Sl) : Value := .slice x.1 x.2.1 x.2.2
def slrow (x : Sl) : List Value := [slv x]
/-- What lies at this address is of this type. -/
def TyB (w : World) (A : Option Addr) (e : TypeId) : Prop := ∀ a, A = some a → ∃ cur fr, w.heap[a.block]? = some (.cells cur e fr)
theorem TyB.below {w w' : World} {A : Option Addr} {e : TypeId} {B : Nat} (h : TyB w A e) (k : Below B w w') (hB : w.heap.size ≤ B) : TyB w' A e := fun a ha => by
  obtain ⟨cur, fr, h1⟩ := h a ha
  exact ⟨cur, fr, (k.block _ (Nat.lt_of_lt_of_le (Array.getElem?_eq_some_iff.1 h1).1 hB)).trans h1⟩
theorem Gro.ty {w : World} {base e sz n c : Nat} {A : Option Addr} {rows : List (List Value)} (h : Gro w base e sz (.slice A n c) rows) : TyB w A e := fun a ha => by
  subst ha
  rcases h.2.2 with ⟨h2, _⟩ | ⟨g2, cap2, cur2, hv, _, h2, _⟩
  · cases h2
  · cases hv; exact ⟨_, _, h2⟩
theorem TyB.apart {w : World} {a : Addr} {e base e' sz : Nat} {v : Value} {rows : List (List Value)} (h : TyB w (some a) e) (k : Gro w base e' sz v rows) (hne : e ≠ e') : some a.block ≠ v.ownBlock := by
  obtain ⟨cur, fr, h1⟩ := h a rfl
  rcases k.2.2 with ⟨rfl, _⟩ | ⟨g2, cap2, cur2, rfl, _, h2, _⟩
  · simp [Value.ownBlock]
  · simp only [Value.ownBlock]
    intro e
    cases e
    rw [h1] at h2
    cases h2
    exact hne rfl
theorem TyB.keptBy {w w' : World} {A : Option Addr} {e base e' sz : Nat} {v : Value} {rows : List (List Value)} (h : TyB w A e) (hg : w.grownBy w' v.ownBlock) (k : Gro w base e' sz v rows) (hne : e ≠ e') : TyB w' A e := fun a ha => by
  subst ha
  have h0 := h.apart k hne
  obtain ⟨cur, fr, h1⟩ := h a rfl
  exact ⟨cur, fr, (hg.block _ (Array.getElem?_eq_some_iff.1 h1).1 h0).trans h1⟩
theorem RdI.keptBy {w w' : World} {A : Option Addr} {e base e' sz : Nat} {v : Value} {rows : List (List Value)} {l : List Int} (hr : RdI w A l) (h : TyB w A e) (hg : w.grownBy w' v.ownBlock) (k : Gro w base e' sz v rows) (hne : e ≠ e') : RdI w' A l := by
  refine ⟨fun i hi => ?_⟩
  obtain ⟨b, off, rfl, hb, hc⟩ := Rd.at_ hr i hi
  have h0 := h.apart k hne
  exact ⟨b, off, rfl, Nat.lt_of_lt_of_le hb hg.size, fun j r hj c u hu => (World.cell?_of_block (hg.block b hb h0)).trans (hc j r hj c u hu)⟩
/-- These slices read as these rows of numbers. -/
structure InLs (w : World) (xs : List Sl) (ls : List (List Int)) : Prop where
  len : xs.length = ls.length
  at_ : ∀ (i : Nat) (x : Sl) (l : List Int), xs[i]? = some x → ls[i]? = some l → x.2.1 = l.length ∧ RdI w x.1 l ∧ TyB w x.1 3
theorem InLs.nil (w : World) : InLs w [] [] := ⟨rfl, fun i x l h => by simp at h⟩
theorem InLs.below {w w' : World} {xs : List Sl} {ls : List (List Int)} {B : Nat} (h : InLs w xs ls) (k : Below B w w') (hB : w.heap.size ≤ B) : InLs w' xs ls :=
  ⟨h.len, fun i x l hx hl => ⟨(h.at_ i x l hx hl).1, (h.at_ i x l hx hl).2.1.below k hB, (h.at_ i x l hx hl).2.2.below k hB⟩⟩
theorem InLs.keptBy {w w' : World} {xs : List Sl} {ls : List (List Int)} {base e sz : Nat} {v : Value} {rows : List (List Value)} (h : InLs w xs ls) (hg : w.grownBy w' v.ownBlock) (k : Gro w base e sz v rows) (hne : 3 ≠ e) : InLs w' xs ls :=
  ⟨h.len, fun i x l hx hl => ⟨(h.at_ i x l hx hl).1, (h.at_ i x l hx hl).2.1.keptBy (h.at_ i x l hx hl).2.2 hg k hne, (h.at_ i x l hx hl).2.2.keptBy hg k hne⟩⟩
theorem InLs.append {w : World} {xs ys : List Sl} {ls ms : List (List Int)} (h : InLs w xs ls) (k : InLs w ys ms) : InLs w (xs ++ ys) (ls ++ ms) := by
  refine ⟨by rw [List.length_append, List.length_append, h.len, k.len], fun i x l hx hl => ?_⟩
  by_cases hi : i < xs.length
  · rw [List.getElem?_append_left hi] at hx
    rw [List.getElem?_append_left (by have := h.len; omega)] at hl
    exact h.at_ i x l hx hl
  · rw [List.getElem?_append_right (by omega)] at hx
    rw [List.getElem?_append_right (by have := h.len; omega), ← h.len] at hl
    exact k.at_ _ x l hx hl
theorem InLs.one {w : World} {A : Option Addr} {n c : Nat} {l : List Int} (hn : n = l.length) (h : RdI w A l) (ht : TyB w A 3) : InLs w [(A, n, c)] [l] := by
  refine ⟨rfl, fun i x m hx hm => ?_⟩
  cases i with
  | zero => simp at hx hm; subst hx; subst hm; exact ⟨hn, h, ht⟩
  | succ i => simp at hx
theorem slrow_len {xs : List Sl} : ∀ r ∈ xs.map slrow, r.length = 1 := fun r hr => by obtain ⟨x, _, rfl⟩ := List.mem_map.1 hr; rfl
theorem slrow_one {xs : List Sl} : ∀ r ∈ xs.map slrow, ∀ u ∈ r, u.oneCell' = true := fun r hr u hu => by
  obtain ⟨x, _, rfl⟩ := List.mem_map.1 hr
  simp [slrow] at hu
  subst hu
  rfl
theorem irow_len {xs : List Int} : ∀ r ∈ xs.map irow, r.length = 1 := fun r hr => by obtain ⟨x, _, rfl⟩ := List.mem_map.1 hr; rfl
theorem irow_one {xs : List Int} : ∀ r ∈ xs.map irow, ∀ u ∈ r, u.oneCell' = true := fun r hr u hu => by
  obtain ⟨x, _, rfl⟩ := List.mem_map.1 hr
  simp [irow] at hu
  subst hu
  rfl
/-- A slice of slices reads as these lists. -/
def RdLL (w : World) (A : Option Addr) (ls : List (List Int)) : Prop := ∃ xs : List Sl, Rd 1 w A (xs.map slrow) ∧ InLs w xs ls
theorem RdLL.below {w w' : World} {A : Option Addr} {ls : List (List Int)} {B : Nat} (h : RdLL w A ls) (k : Below B w w') (hB : w.heap.size ≤ B) : RdLL w' A ls := by
  obtain ⟨xs, h1, h2⟩ := h
  exact ⟨xs, h1.below k hB, h2.below k hB⟩
/-- One of its slices. -/
theorem RdLL.elem {w : World} {A : Option Addr} {ls : List (List Int)} (h : RdLL w A ls) {i : Nat} {l : List Int} (hi : ls[i]? = some l) :
    ∃ b off A' c, A = some ⟨b, off, none⟩ ∧ b < w.heap.size ∧ w.cell? ⟨b, off + i, none⟩ = some (.slice A' l.length c) ∧ RdI w A' l := by
  obtain ⟨xs, h1, h2⟩ := h
  have hlt := (List.getElem?_eq_some_iff.1 hi).1
  obtain ⟨x, hx⟩ : ∃ x, xs[i]? = some x := ⟨xs[i]'(by rw [h2.len]; exact hlt), by simp⟩
  obtain ⟨b, off, e, hb, hc⟩ := h1.elem (i := i) (r := slrow x) (by rw [List.getElem?_map, hx]; rfl)
  obtain ⟨hn, hr, _⟩ := h2.at_ i x l hx hi
  refine ⟨b, off, x.1, x.2.2, e, hb, ?_, hr⟩
  have := hc 0 (slv x) rfl
  rw [Nat.mul_one, Nat.add_zero] at this
  rw [this, ← hn]; rfl
theorem Gro.rdLL {w : World} {base : Nat} {v : Value} {xs : List Sl} {ls : List (List Int)} (h : Gro w base 44 1 v (xs.map slrow)) (k : InLs w xs ls) : ∃ A c, v = .slice A ls.length c ∧ RdLL w A ls := by
  obtain ⟨A, c, e, hr⟩ := h.out
  rw [List.length_map, k.len] at e
  exact ⟨A, c, e, xs, hr, k⟩
theorem OwnT.rdI {w : World} {b : Nat} {t : TypeId} {x : Int} (h : OwnT w b t [.int .i64 x]) : RdI w (some ⟨b, 0, none⟩) [x] := by
  refine Rd.mk' h.lt fun j r hj c u hu => ?_
  cases j with
  | zero =>
    simp [irow] at hj
    subst hj
    cases c with
    | zero => simp at hu; subst hu; exact h.own.c 0
    | succ c => simp at hu
  | succ j => simp at hj
theorem OwnT.rdSl {w : World} {b : Nat} {t : TypeId} {x : Sl} (h : OwnT w b t [slv x]) : Rd 1 w (some ⟨b, 0, none⟩) ([x].map slrow) := by
  refine Rd.mk' h.lt fun j r hj c u hu => ?_
  cases j with
  | zero =>
    simp [slrow] at hj
    subst hj
    cases c with
    | zero => simp at hu; subst hu; exact h.own.c 0
    | succ c => simp at hu
  | succ j => simp at hj
theorem RdLL.elemT {w : World} {A : Option Addr} {ls : List (List Int)} (h : RdLL w A ls) {i : Nat} {l : List Int} (hi : ls[i]? = some l) :
    ∃ b off A' c, A = some ⟨b, off, none⟩ ∧ b < w.heap.size ∧ w.cell? ⟨b, off + i, none⟩ = some (.slice A' l.length c) ∧ RdI w A' l ∧ TyB w A' 3 := by
  obtain ⟨xs, h1, h2⟩ := h
  have hlt := (List.getElem?_eq_some_iff.1 hi).1
  obtain ⟨x, hx⟩ : ∃ x, xs[i]? = some x := ⟨xs[i]'(by rw [h2.len]; exact hlt), by simp⟩
  obtain ⟨b, off, e, hb, hc⟩ := h1.elem (i := i) (r := slrow x) (by rw [List.getElem?_map, hx]; rfl)
  obtain ⟨hn, hr, ht⟩ := h2.at_ i x l hx hi
  refine ⟨b, off, x.1, x.2.2, e, hb, ?_, hr, ht⟩
  have := hc 0 (slv x) rfl
  rw [Nat.mul_one, Nat.add_zero] at this
  rw [this, ← hn]; rfl
theorem filter_one {α : Type} (p : α → Bool) (a : α) : [a].filter p = if p a = true then [a] else [] := by
  cases h : p a <;> simp [h]
theorem take_filter {α : Type} {p : α → Bool} {ls : List α} {k : Nat} {l : α} (h : ls[k]? = some l) : (ls.take (k + 1)).filter p = (ls.take k).filter p ++ (if p l = true then [l] else []) := by
  rw [take_snoc h, List.filter_append, filter_one]
end Go.Proofs.Ytphcpphmoeiioaa
