/- TopHull: the library laid, corners.Hull walked. -/
import Derived.Test.YtgmhelclofnpkaaZA
import Derived.Test.YtgmhelclofnpkaaKa
import Derived.Test.YtgmhelclofnpkaaHulA
import Derived.Test.YtgmhelclofnpkaaProg
import Derived.Shelf.SlSortCmp.SmallK
import Derived.Shelf.SlicesG.Cmp
import Derived.Shelf.Small.Bits
import Derived.Shelf.SlicesQ.Reverse
namespace Go.Proofs.Ytgmhelclofnpkaa
open Go.RowKit

section
variable {P : Program} {Q : Exit → Act → World → Prop} {S : World → Prop} {l : List Oper}
/-- One of several. -/
theorem rg_many {fuel fuel' : Nat} {listed : Array Bool} {a : Act} {w : World} (cs : List Nat) (hf : fuel' = fuel + 1) (hne : cs ≠ []) (h2 : belowB l.length cs = true) (h4 : Region.ready .any l.toArray listed = cs)
    (h : ∀ c ∈ cs, ∀ K' : Act → World → Prop, Shut (∀ a2 w2, S w2 → RG P l Q S fuel (listed.setIfInBounds c true) a2 w2 → K' a2 w2) → wpHead P l.toArray Q K' a w (pick1 l c)) : RG P l Q S fuel' listed a w := by
  subst hf
  refine wpAnyH_all h4 hne ?_
  intro i hi
  obtain ⟨oc, hp, hc⟩ := pick1_lt l i (by simpa using List.all_eq_true.1 h2 i hi)
  have h' := h i hi
  rw [hp] at h'
  exact wpOp_step (o := oc) (by simpa using hc) (fun K' hK => h' K' fun a2 w2 hS hR => hK a2 w2 ⟨hS, hR⟩)
end
theorem heap_setCell_cells {w : World} {b : Nat} {c : Array Value} {e : TypeId} {fr : Nat × Nat} (h : w.heap[b]? = Option.some (.cells c e fr)) (j : Nat) (u : Value) : (w.setCell ⟨b, j, none⟩ u).heap[b]? = Option.some (.cells (c.setIfInBounds j u) e fr) := by
  obtain ⟨hlt, hk⟩ := Array.getElem?_eq_some_iff.1 h
  show (w.heap.modify b _)[b]? = _
  rw [Array.getElem?_eq_getElem (by rw [Array.size_modify]; exact hlt), Array.getElem_modify_self, hk]
  rfl
theorem ownsRow_set {w : World} {base e size g n cap : Nat} {xs : List Value} (h : w.ownsRow base e size (.slice (Option.some ⟨g, 0, none⟩) n cap) n xs) (j : Nat) (u : Value) (_ : j < n * size) : (w.setCell ⟨g, j, none⟩ u).ownsRow base e size (.slice (Option.some ⟨g, 0, none⟩) n cap) n (xs.set j u) := by
  obtain ⟨h1, h2⟩ := h
  refine ⟨by rw [List.length_set]; exact h1, ?_⟩
  rcases h2 with ⟨h2, _⟩ | ⟨g', cap', cur, hv, hg, hh, a1, a2, a3, a4⟩
  · cases h2
  · cases hv
    refine Or.inr ⟨g, cap, cur.setIfInBounds j u, rfl, hg, heap_setCell_cells hh j u, a1, a2, by rw [Array.size_setIfInBounds]; exact a3, ?_⟩
    rw [Array.toList_setIfInBounds, List.take_set, a4]
theorem flatten_set {sz : Nat} : ∀ (rows : List (List Value)), (∀ r ∈ rows, r.length = sz) → ∀ (i c : Nat) (r : List Value) (u : Value), rows[i]? = Option.some r → c < sz → rows.flatten.set (i * sz + c) u = (rows.set i (r.set c u)).flatten
  | [], _, i, c, r, u, h, _ => by simp at h
  | a :: rows, hl, 0, c, r, u, h, hc => by
    have ha := hl a (List.mem_cons_self ..)
    simp only [List.getElem?_cons_zero, Option.some.injEq] at h
    subst h
    rw [List.flatten_cons, Nat.zero_mul, Nat.zero_add, List.set_append_left _ _ (by omega)]; rfl
  | a :: rows, hl, i + 1, c, r, u, h, hc => by
    have ha := hl a (List.mem_cons_self ..)
    rw [List.getElem?_cons_succ] at h
    have ih := flatten_set rows (fun x hx => hl x (List.mem_cons_of_mem _ hx)) i c r u h hc
    rw [List.flatten_cons, List.set_append_right _ _ (by rw [ha, Nat.succ_mul]; omega), ha, show (i + 1) * sz + c - sz = i * sz + c by rw [Nat.succ_mul]; omega, ih]; rfl
/-- A cell of a row of one's own is written. -/
theorem Gro.set {w : World} {base e sz g n cap : Nat} {rows : List (List Value)} (h : Gro w base e sz (.slice (Option.some ⟨g, 0, none⟩) n cap) rows) {i c : Nat} {r : List Value} (hi : rows[i]? = Option.some r) (hc : c < sz) (u : Value) :
    Gro (w.setCell ⟨g, i * sz + c, none⟩ u) base e sz (.slice (Option.some ⟨g, 0, none⟩) n cap) (rows.set i (r.set c u)) := by
  obtain ⟨hl, ho⟩ := h
  have hlt := (List.getElem?_eq_some_iff.1 hi).1
  have hn : n = rows.length := by
    rcases ho.2 with ⟨h2, _⟩ | ⟨g', cap', cur, hv, _⟩
    · cases h2
    · cases hv; rfl
  subst hn
  refine ⟨fun x hx => ?_, ?_⟩
  · rcases List.mem_or_eq_of_mem_set hx with hx | rfl
    · exact hl x hx
    · rw [List.length_set]; exact hl r (List.mem_of_getElem? hi)
  · rw [← flatten_set rows hl i c r u hi hc, List.length_set]
    refine ownsRow_set ho _ u ?_
    have : (i + 1) * sz ≤ rows.length * sz := Nat.mul_le_mul_right _ (by omega)
    rw [Nat.succ_mul] at this
    omega
/-- A cell of another row is written. -/
theorem Gro.setRow {w : World} {base e sz g : Nat} {v : Value} {rows : List (List Value)} (h : Gro w base e sz v rows) {j : Nat} (hne : v.ownBlock ≠ Option.some g) (u : Value) : Gro (w.setCell ⟨g, j, none⟩ u) base e sz v rows := ⟨h.1, ownsRow_setCell_other h.2 hne u⟩
/-- Rows of two types lie apart. -/
theorem Gro.apart {w : World} {base e sz base' e' sz' g n cap : Nat} {v : Value} {rows rows' : List (List Value)} (h : Gro w base e sz v rows) (k : Gro w base' e' sz' (.slice (Option.some ⟨g, 0, none⟩) n cap) rows') (hne : e ≠ e') : v.ownBlock ≠ Option.some g := by
  rcases h.2.2 with ⟨rfl, _⟩ | ⟨g1, cap1, cur1, rfl, _, h1, _⟩
  · simp [Value.ownBlock]
  · rcases k.2.2 with ⟨h2, _⟩ | ⟨g2, cap2, cur2, hv, _, h2, _⟩
    · cases h2
    · cases hv
      simp only [Value.ownBlock]
      intro e
      cases e
      rw [h1] at h2
      cases h2
      exact hne rfl
theorem Gro.free {w : World} {base e sz g n cap : Nat} {rows : List (List Value)} (k : Gro w base e sz (.slice (Option.some ⟨g, 0, none⟩) n cap) rows) (j : Nat) : w.frozen? ⟨g, j, none⟩ = false := by
  rcases k.2.2 with ⟨h2, _⟩ | ⟨g2, cap2, cur2, hv, hb, h2, _⟩
  · cases h2
  · cases hv
    simp [World.frozen?, h2]
/-- Block b is one's own, of type t, and holds just these cells. -/
def OwnT (w : World) (b : Nat) (t : TypeId) (vs : List Value) : Prop := w.heap[b]? = Option.some (.cells vs.toArray t (0, 0))
theorem OwnT.lt {w : World} {b : Nat} {t : TypeId} {vs : List Value} (h : OwnT w b t vs) : b < w.heap.size := (Array.getElem?_eq_some_iff.1 h).1
theorem OwnT.own {w : World} {b : Nat} {t : TypeId} {vs : List Value} (h : OwnT w b t vs) : Own w b vs :=
  ⟨h.lt, fun i => by simp [World.cell?, show w.heap[b]? = _ from h], fun i => by simp [World.frozen?, show w.heap[b]? = _ from h]⟩
theorem OwnT.below {w w' : World} {b B : Nat} {t : TypeId} {vs : List Value} (h : OwnT w b t vs) (k : Below B w w') (hb : b < B) : OwnT w' b t vs := (k.block b hb).trans h
theorem OwnT.new (w : World) (c : Array Value) (t : TypeId) : OwnT (w.alloc (.cells c t)) w.heap.size t c.toList := by
  unfold OwnT
  rw [Array.toArray_toList]
  exact (MapKept.heap_alloc w _).1
theorem OwnT.apart {w : World} {b base e sz : Nat} {t : TypeId} {vs : List Value} {v : Value} {rows : List (List Value)} (h : OwnT w b t vs) (k : Gro w base e sz v rows) (hne : e ≠ t) : v.ownBlock ≠ Option.some b := by
  rcases k.2.2 with ⟨rfl, _⟩ | ⟨g1, cap1, cur1, rfl, _, h1, _⟩
  · simp [Value.ownBlock]
  · simp only [Value.ownBlock]
    intro e
    cases e
    rw [show w.heap[b]? = _ from h] at h1
    cases h1
    exact hne rfl
theorem OwnT.set {w : World} {b : Nat} {t : TypeId} {vs : List Value} (h : OwnT w b t vs) (j : Nat) (u : Value) : OwnT (w.setCell ⟨b, j, none⟩ u) b t (vs.set j u) := by
  have := heap_setCell_cells h j u
  unfold OwnT
  rw [this, List.setIfInBounds_toArray]
theorem OwnT.setOther {w : World} {b g : Nat} {t : TypeId} {vs : List Value} (h : OwnT w b t vs) (hne : b ≠ g) (j : Nat) (u : Value) : OwnT (w.setCell ⟨g, j, none⟩ u) b t vs := by
  unfold OwnT
  rw [Below.heap_setCell _ _ _ _ hne]; exact h
theorem grown_set1 (w : World) (a : Addr) (u : Value) : w.grownBy (w.setCell a u) (Option.some a.block) :=
  have h : Below 0 w (w.setCell a u) := (Below.refl 0 w).setCell (Nat.zero_le _) u
  ⟨h.os, h.tape, h.output, h.size, fun k _ hk => Below.heap_setCell _ _ _ _ (fun e => hk (by rw [e]))⟩
/-- What lies below one's own rows is written. -/
theorem Gro.setCell {w : World} {base e sz : Nat} {v : Value} {rows : List (List Value)} (h : Gro w base e sz v rows) {a : Addr} (ha : a.block < base) (u : Value) : Gro (w.setCell a u) base e sz v rows :=
  ⟨h.1, h.2.kept (grown_set1 w a u) (by
    cases hv : v.ownBlock with
    | none => exact Or.inl rfl
    | some g => exact Or.inr (fun e => by
        have h1 := (h.2.lt g hv).1
        have h2 : g = a.block := by simpa using e
        omega))⟩
end Go.Proofs.Ytgmhelclofnpkaa
namespace Go.Proofs.Ytgmhelclofnpkaa
open Go.RowKit Go.Sort Go.Shelf

def sortFAR : Ren := ⟨fun n => if n = 6 then 54 else if n = 15 then 96 else if n = 14 then 95 else if n = 28 then 128 else if n = 29 then 129 else if n = 20 then 120 else if n = 21 then 121 else if n = 22 then 122 else if n = 23 then 123 else if n = 24 then 124 else if n = 25 then 125 else if n = 26 then 126 else if n = 27 then 127 else if n = 46 then 146 else if n = 47 then 147 else if n = 48 then 148 else if n = 49 then 149 else if n = 50 then 150 else if n = 57 then 164 else n, fun n => if n = 22 then 22 else if n = 24 then 53 else if n = 25 then 100 else if n = 3 then 3 else if n = 39 then 121 else if n = 0 then 0 else if n = 53 then 187 else if n = 55 then 189 else if n = 4 then 4 else if n = 46 then 180 else if n = 45 then 179 else if n = 50 then 184 else if n = 5 then 5 else if n = 9 then 9 else if n = 66 then 198 else if n = 70 then 202 else if n = 76 then 212 else if n = 77 then 140 else n, fun n => n⟩
set_option maxRecDepth 100000 in
theorem sortFAL : SlLaysF0.n6 Try.prog sortFAR where
  mixed := by kernel_rfl
  f6 := ⟨Try.f54.name, by kernel_rfl, by kernel_rfl⟩
  f14 := ⟨Try.f95.name, by kernel_rfl, by kernel_rfl⟩
  f15 := by kernel_rfl
  f20 := ⟨Try.f120.name, by kernel_rfl, by kernel_rfl⟩
  f21 := ⟨Try.f121.name, by kernel_rfl, by kernel_rfl⟩
  f22 := ⟨Try.f122.name, by kernel_rfl, by kernel_rfl⟩
  f23 := ⟨Try.f123.name, by kernel_rfl, by kernel_rfl⟩
  f24 := ⟨Try.f124.name, by kernel_rfl, by kernel_rfl⟩
  f25 := ⟨Try.f125.name, by kernel_rfl, by kernel_rfl⟩
  f26 := ⟨Try.f126.name, by kernel_rfl, by kernel_rfl⟩
  f27 := ⟨Try.f127.name, by kernel_rfl, by kernel_rfl⟩
  f28 := by kernel_rfl
  f29 := by kernel_rfl
  f46 := ⟨Try.f146.name, by kernel_rfl, by kernel_rfl⟩
  f47 := by kernel_rfl
  f48 := by kernel_rfl
  f49 := ⟨Try.f149.name, by kernel_rfl, by kernel_rfl⟩
  f50 := ⟨Try.f150.name, by kernel_rfl, by kernel_rfl⟩
  f57 := ⟨Try.f164.name, by kernel_rfl, by kernel_rfl⟩
  t0 := by kernel_rfl
  a0 := fun _ => by kernel_rfl
  z0 := fun _ => by kernel_rfl
  v0 := fun _ => by kernel_rfl
  t3 := by kernel_rfl
  a3 := fun _ => by kernel_rfl
  z3 := fun _ => by kernel_rfl
  v3 := fun _ => by kernel_rfl
  t4 := by kernel_rfl
  a4 := fun _ => by kernel_rfl
  z4 := fun _ => by kernel_rfl
  v4 := fun _ => by kernel_rfl
  t5 := by kernel_rfl
  a5 := fun _ => by kernel_rfl
  z5 := fun _ => by kernel_rfl
  v5 := fun _ => by kernel_rfl
  t9 := by kernel_rfl
  a9 := fun _ => by kernel_rfl
  z9 := fun _ => by kernel_rfl
  v9 := fun _ => by kernel_rfl
  t22 := by kernel_rfl
  a22 := fun _ => by kernel_rfl
  z22 := fun _ => by kernel_rfl
  v22 := fun _ => by kernel_rfl
  t25 := by kernel_rfl
  a25 := fun _ => by kernel_rfl
  z25 := fun _ => by kernel_rfl
  v25 := fun _ => by kernel_rfl
  t39 := by kernel_rfl
  a39 := fun _ => by kernel_rfl
  z39 := fun _ => by kernel_rfl
  v39 := fun _ => by kernel_rfl
  t45 := by kernel_rfl
  a45 := fun _ => by kernel_rfl
  z45 := fun _ => by kernel_rfl
  v45 := fun _ => by kernel_rfl
  t46 := by kernel_rfl
  a46 := fun _ => by kernel_rfl
  z46 := fun _ => by kernel_rfl
  v46 := fun _ => by kernel_rfl
  t50 := by kernel_rfl
  a50 := fun _ => by kernel_rfl
  z50 := fun _ => by kernel_rfl
  v50 := fun _ => by kernel_rfl
  t53 := by kernel_rfl
  a53 := fun _ => by kernel_rfl
  z53 := fun _ => by kernel_rfl
  v53 := fun _ => by kernel_rfl
  t55 := by kernel_rfl
  a55 := fun _ => by kernel_rfl
  z55 := fun _ => by kernel_rfl
  v55 := fun _ => by kernel_rfl
  t66 := by kernel_rfl
  a66 := fun _ => by kernel_rfl
  z66 := fun _ => by kernel_rfl
  v66 := fun _ => by kernel_rfl
  t70 := by kernel_rfl
  a70 := fun _ => by kernel_rfl
  z70 := fun _ => by kernel_rfl
  v70 := fun _ => by kernel_rfl
  t76 := by kernel_rfl
  a76 := fun _ => by kernel_rfl
  z76 := fun _ => by kernel_rfl
  v76 := fun _ => by kernel_rfl
  t77 := by kernel_rfl
  a77 := fun _ => by kernel_rfl
  z77 := fun _ => by kernel_rfl
  v77 := fun _ => by kernel_rfl
def cmpIAR : Ren := ⟨fun n => if n = 5 then 52 else if n = 7 then 94 else n, fun n => if n = 22 then 3 else if n = 3 then 3 else if n = 4 then 4 else n, fun n => n⟩
set_option maxRecDepth 100000 in
theorem cmpIAL : SlLaysC2.n5 Try.prog cmpIAR where
  mixed := by kernel_rfl
  f5 := ⟨Try.f52.name, by kernel_rfl, by kernel_rfl⟩
  f7 := ⟨Try.f94.name, by kernel_rfl, by kernel_rfl⟩
  t3 := by kernel_rfl
  a3 := fun _ => by kernel_rfl
  z3 := fun _ => by kernel_rfl
  v3 := fun _ => by kernel_rfl
  t4 := by kernel_rfl
  a4 := fun _ => by kernel_rfl
  z4 := fun _ => by kernel_rfl
  v4 := fun _ => by kernel_rfl
  t22 := by kernel_rfl
  a22 := fun _ => by kernel_rfl
  z22 := fun _ => by kernel_rfl
  v22 := fun _ => by kernel_rfl
def bitsLAR : Ren := ⟨fun n => if n = 125 then 96 else if n = 128 then 128 else if n = 129 then 129 else n, fun n => if n = 46 then 121 else if n = 3 then 3 else if n = 51 then 187 else if n = 53 then 189 else if n = 4 then 4 else if n = 5 then 5 else if n = 9 then 9 else n, fun n => n⟩
set_option maxRecDepth 100000 in
theorem bitsLAL : Lays.n125 Try.prog bitsLAR where
  mixed := by kernel_rfl
  f125 := by kernel_rfl
  f128 := by kernel_rfl
  f129 := by kernel_rfl
  t3 := by kernel_rfl
  a3 := fun _ => by kernel_rfl
  z3 := fun _ => by kernel_rfl
  v3 := fun _ => by kernel_rfl
  t4 := by kernel_rfl
  a4 := fun _ => by kernel_rfl
  z4 := fun _ => by kernel_rfl
  v4 := fun _ => by kernel_rfl
  t5 := by kernel_rfl
  a5 := fun _ => by kernel_rfl
  z5 := fun _ => by kernel_rfl
  v5 := fun _ => by kernel_rfl
  t9 := by kernel_rfl
  a9 := fun _ => by kernel_rfl
  z9 := fun _ => by kernel_rfl
  v9 := fun _ => by kernel_rfl
  t46 := by kernel_rfl
  a46 := fun _ => by kernel_rfl
  z46 := fun _ => by kernel_rfl
  v46 := fun _ => by kernel_rfl
  t51 := by kernel_rfl
  a51 := fun _ => by kernel_rfl
  z51 := fun _ => by kernel_rfl
  v51 := fun _ => by kernel_rfl
  t53 := by kernel_rfl
  a53 := fun _ => by kernel_rfl
  z53 := fun _ => by kernel_rfl
  v53 := fun _ => by kernel_rfl
def revPAR : Ren := ⟨fun n => if n = 35 then 57 else n, fun n => if n = 22 then 22 else if n = 23 then 53 else if n = 3 then 3 else if n = 4 then 4 else if n = 0 then 0 else n, fun n => n⟩
set_option maxRecDepth 100000 in
theorem revPAL : SlLaysE0.n35 Try.prog revPAR where
  mixed := by kernel_rfl
  f35 := ⟨Try.f57.name, by kernel_rfl, by kernel_rfl⟩
  t0 := by kernel_rfl
  a0 := fun _ => by kernel_rfl
  z0 := fun _ => by kernel_rfl
  v0 := fun _ => by kernel_rfl
  t3 := by kernel_rfl
  a3 := fun _ => by kernel_rfl
  z3 := fun _ => by kernel_rfl
  v3 := fun _ => by kernel_rfl
  t4 := by kernel_rfl
  a4 := fun _ => by kernel_rfl
  z4 := fun _ => by kernel_rfl
  v4 := fun _ => by kernel_rfl
  t22 := by kernel_rfl
  a22 := fun _ => by kernel_rfl
  z22 := fun _ => by kernel_rfl
  v22 := fun _ => by kernel_rfl
theorem cmpCmpW (x y : Int) (W : World) : Calls Try.prog 52 #[.int .i64 x, .int .i64 y] W fun e w' => e = .returned (.int .i64 (Lib.compareInt x y)) ∧ w' = W := AnyG.cmp_Compare_int cmpIAL x y W
theorem bitsLenW (n : Nat) (W : World) (h : n ≤ 12) : Calls Try.prog 96 #[.int .u64 n] W fun e w' => (∃ l : Int, e = .returned (.int .i64 l)) ∧ w' = W :=
  (Any.bits_Len bitsLAL n W (by omega) (by omega)).mono fun _ _ ⟨he, hw⟩ => ⟨⟨_, he⟩, hw⟩
end Go.Proofs.Ytgmhelclofnpkaa
namespace Go.Proofs.Ytgmhelclofnpkaa
open Go.RowKit

theorem Gro.lt {w : World} {base e sz g n cap : Nat} {rows : List (List Value)} (k : Gro w base e sz (.slice (Option.some ⟨g, 0, none⟩) n cap) rows) : base ≤ g ∧ g < w.heap.size := by
  rcases k.2.2 with ⟨h2, _⟩ | ⟨g2, cap2, cur2, hv, hb, h2, _⟩
  · cases h2
  · cases hv
    exact ⟨hb, (Array.getElem?_eq_some_iff.1 h2).1⟩
/-- The order of the hull: the lower ones first, in a row the left ones. -/
def cfL (x y : P2) : Int := if Lib.compareInt x.2 y.2 = 0 then Lib.compareInt x.1 y.1 else Lib.compareInt x.2 y.2
theorem ltL_iff {x y : P2} : Proofs.ltOf cfL x y = true ↔ (x.2 < y.2 ∨ (x.2 = y.2 ∧ x.1 < y.1)) := by
  unfold Proofs.ltOf cfL Lib.compareInt
  rw [decide_eq_true_eq]
  repeat' split
  all_goals omega
theorem swoL : Sort.SWO (Proofs.ltOf cfL) := by
  refine ⟨fun x => ?_, fun x y z h1 h2 => ?_, fun x y z h1 h2 => ?_⟩
  · rw [← Bool.not_eq_true, ltL_iff]; omega
  · rw [ltL_iff] at *; omega
  · rw [← Bool.not_eq_true, ltL_iff] at *; omega
theorem heap_put {w : World} {m g : Nat} {F : Array Value} {os : Array Obj} {cur : Array Value} {e : TypeId} {fr : Nat × Nat} (h : w.heap[g]? = some (.cells cur e fr)) : (Sort.grow (Sort.putRow id (Sort.ahead w m) g 0 F) os).heap[g]? = some (.cells (Sort.putCells id 0 F cur) e fr) := by
  obtain ⟨hlt, hk⟩ := Array.getElem?_eq_some_iff.1 h
  show ((w.heap.modify g _) ++ os)[g]? = _
  rw [Array.getElem?_append_left (by rw [Array.size_modify]; exact hlt), Array.getElem?_eq_getElem (by rw [Array.size_modify]; exact hlt), Array.getElem_modify_self, hk]
  rfl
theorem heap_put_other {w : World} {m g k : Nat} {F : Array Value} {os : Array Obj} (hk : k < w.heap.size) (hne : k ≠ g) : (Sort.grow (Sort.putRow id (Sort.ahead w m) g 0 F) os).heap[k]? = w.heap[k]? := by
  show ((w.heap.modify g _) ++ os)[k]? = _
  rw [Array.getElem?_append_left (by rw [Array.size_modify]; exact hk), Array.getElem?_modify, if_neg (Ne.symm hne)]
theorem putCells_take {F cur : Array Value} (h : F.size ≤ cur.size) : (Sort.putCells id 0 F cur).toList.take F.size = F.toList := by
  refine List.ext_getElem? fun k => ?_
  rw [List.getElem?_take]
  by_cases hk : k < F.size
  · rw [if_pos hk, Array.getElem?_toList, Array.getElem?_toList]
    unfold Sort.putCells
    rw [Array.getElem?_mapIdx, Array.getElem?_eq_getElem (by omega), Array.getElem?_eq_getElem hk]
    simp only [Option.map_some]
    rw [if_pos ⟨Nat.zero_le _, by omega⟩, Nat.sub_zero, getElem!_pos F k hk]; rfl
  · rw [if_neg hk, Array.getElem?_toList, Array.getElem?_eq_none (by omega)]
theorem flat_pts (d : Array P2) : (Sort.flatK ptrow 2 d).toList = (d.toList.map ptrow).flatten := by
  have hl : ((d.toList.map ptrow).flatten).length = d.size * 2 := by
    rw [flatten_len ptrow_len, List.length_map, Array.length_toList]
  refine List.ext_getElem? fun t => ?_
  by_cases ht : t < d.size * 2
  · have h2 : t / 2 < d.size := by omega
    rw [Array.getElem?_toList, Array.getElem?_eq_getElem (by rw [Sort.size_flatK]; exact ht), ← getElem!_pos, Sort.get_flatK _ _ _ _ ht, getElem!_pos d (t / 2) h2]
    have e1 := getElem?_flatten_row (sz := 2) (d.toList.map ptrow) ptrow_len (t / 2) (t % 2) (ptrow d[t / 2]) ((ptrow d[t / 2])[t % 2]!) (by rw [List.getElem?_map, Array.getElem?_toList, Array.getElem?_eq_getElem h2]; rfl) (by
      have : t % 2 < (ptrow d[t / 2]).length := Nat.mod_lt _ (by decide)
      rw [List.getElem?_eq_getElem this, ← getElem!_pos])
    rw [show t / 2 * 2 + t % 2 = t by omega] at e1
    rw [e1]
  · rw [List.getElem?_eq_none (by rw [Array.length_toList, Sort.size_flatK]; omega), List.getElem?_eq_none (by omega)]
theorem holds_gro {w : World} {base g n cap : Nat} {ps : List P2} (h : Gro w base 53 2 (.slice (some ⟨g, 0, none⟩) n cap) (ps.map ptrow)) : Sort.HoldsK ptrow 2 w g 0 ps.toArray := by
  obtain ⟨h0, h1, h2⟩ := h
  rcases h2 with ⟨e1, _⟩ | ⟨g', cap', cur, e1, hb, hh, hn, hm, hs, ht⟩
  · cases e1
  · cases e1
    intro j hj
    rw [Sort.size_flatK] at hj
    simp only [List.size_toArray] at hj
    have hj' : j < ((ps.map ptrow).flatten).length := by rw [h1, List.length_map]; exact hj
    have e2 : cur[j]? = ((ps.map ptrow).flatten)[j]? := by
      rw [← ht, List.getElem?_take, if_pos (by rw [List.length_map]; exact hj), Array.getElem?_toList]
    refine ⟨?_, by simp [World.frozen?, hh]⟩
    have e3 := flat_pts ps.toArray
    simp only [] at e3
    have e4 : (Sort.flatK ptrow 2 ps.toArray)[j]! = ((ps.map ptrow).flatten)[j] := by
      rw [getElem!_pos _ j (by rw [Sort.size_flatK]; simpa using hj), ← Array.getElem_toList]
      congr 1
    rw [Nat.zero_add]
    show w.cell? _ = some (Sort.flatK ptrow 2 ps.toArray)[j]!
    rw [e4]
    simp only [World.cell?, hh]
    rw [e2, List.getElem?_eq_getElem hj']
    rfl
/-- Behind the library's work on a row. -/
theorem gro_put {w : World} {base g n cap m : Nat} {ps : List P2} {d : Array P2} {os : Array Obj} (h : Gro w base 53 2 (.slice (some ⟨g, 0, none⟩) n cap) (ps.map ptrow)) (hd : d.size = ps.length) :
    Gro (Sort.grow (Sort.putRowK ptrow 2 (Sort.ahead w m) g 0 d) os) base 53 2 (.slice (some ⟨g, 0, none⟩) n cap) (d.toList.map ptrow) ∧ Below base w (Sort.grow (Sort.putRowK ptrow 2 (Sort.ahead w m) g 0 d) os) ∧ ∀ k, k < w.heap.size → k ≠ g → (Sort.grow (Sort.putRowK ptrow 2 (Sort.ahead w m) g 0 d) os).heap[k]? = w.heap[k]? := by
  obtain ⟨h0, h1, h2⟩ := h
  rcases h2 with ⟨e1, _⟩ | ⟨g', cap', cur, e1, hb, hh, hn, hm, hs, ht⟩
  · cases e1
  · cases e1
    have hlt := (Array.getElem?_eq_some_iff.1 hh).1
    rw [List.length_map] at *
    have oth : ∀ k, k < w.heap.size → k ≠ g → (Sort.grow (Sort.putRowK ptrow 2 (Sort.ahead w m) g 0 d) os).heap[k]? = w.heap[k]? := fun k h1 h2 => heap_put_other h1 h2
    have hsz : w.heap.size ≤ (Sort.grow (Sort.putRowK ptrow 2 (Sort.ahead w m) g 0 d) os).heap.size := by
      rw [Sort.size_grow]
      show w.heap.size ≤ (w.heap.modify g _).size + _
      rw [Array.size_modify]; omega
    have hD : (d.toList.map ptrow).length = ps.length := by rw [List.length_map, Array.length_toList, hd]
    refine ⟨⟨ptrow_len, by rw [flatten_len ptrow_len], Or.inr ⟨g, cap, Sort.putCells id 0 (Sort.flatK ptrow 2 d) cur, by rw [hD], hb, heap_put hh, by rw [hD]; exact hn, hm, by unfold Sort.putCells; rw [Array.size_mapIdx]; exact hs, ?_⟩⟩, ⟨rfl, rfl, rfl, hsz, fun k hk => ?_⟩, oth⟩
    · rw [List.length_map, Array.length_toList, ← flat_pts]
      have := putCells_take (F := Sort.flatK ptrow 2 d) (cur := cur) (by rw [Sort.size_flatK, hs, hd]; exact Nat.mul_le_mul_right _ hn)
      rw [Sort.size_flatK] at this
      exact this
    · by_cases hk2 : k < w.heap.size
      · exact oth k hk2 (by omega)
      · omega
end Go.Proofs.Ytgmhelclofnpkaa
namespace Go.Proofs.Ytgmhelclofnpkaa
open Go.RowKit

set_option maxHeartbeats 1000000 in
theorem cmpOrW (b cap : Nat) (x y : Int) (W : World) (h0 : W.cell? ⟨b, 0, none⟩ = some (.int .i64 x)) (h1 : W.cell? ⟨b, 1, none⟩ = some (.int .i64 y)) :
    Calls Try.prog 51 #[.slice (some ⟨b, 0, none⟩) 2 cap] W fun e w' => e = .returned (.int .i64 (if x = 0 then y else x)) ∧ w' = W := by
  go_enter Try.func51, Try.ntmps51
  go_wp2
  go_loopg [8] 2 (fun K i wr => wr = W ∧ ((K = 2 ∧ i = .int .i64 0) ∨ (K = 1 ∧ i = .int .i64 1 ∧ x = 0) ∨ (K = 0 ∧ i = .int .i64 2 ∧ x = 0 ∧ y = 0)))
  case atStart => exact ⟨rfl, Or.inl ⟨rfl, rfl⟩⟩
  case round =>
    obtain ⟨rfl, ⟨rfl, rfl⟩ | ⟨rfl, rfl, rfl⟩ | ⟨rfl, rfl, rfl, rfl⟩⟩ := hrel
    · by_cases hx : x = 0
      · subst hx
        go_wp2
        go_roundg 1
        case measure => omega
        case rel => simp
      · have hne : (x != 0) = true := by simpa using hx
        go_wp2
        go_ret
        exact ⟨by first | rfl | simp [hx], rfl⟩
    · by_cases hy : y = 0
      · subst hy
        go_wp2
        go_roundg 0
        case measure => omega
        case rel => simp
      · have hne : (y != 0) = true := by simpa using hy
        go_wp2
        go_ret
        exact ⟨rfl, rfl⟩
    · go_wp2
      go_ret
      exact ⟨rfl, rfl⟩
/-- What the order reads. -/
structure LoS (W : World) (x y : P2) (w : World) : Prop where
  a : ∃ q os, w = Sort.grow (W.drewN q) os
  o : Own w W.heap.size [.int .i64 x.1, .int .i64 x.2]
  p : Own w (W.heap.size + 1) [.int .i64 y.1, .int .i64 y.2]
set_option maxRecDepth 100000 in
set_option maxHeartbeats 4000000 in
theorem lowerW (x y : P2) (W : World) : Calls Try.prog 50 #[.agg #[.int .i64 x.1, .int .i64 x.2], .agg #[.int .i64 y.1, .int .i64 y.2]] W fun e w' => e = .returned (.int .i64 (cfL x y)) ∧ ∃ q os', w' = Sort.grow (W.drewN q) os' := by
  obtain ⟨c1, hc1⟩ : ∃ c, Lib.compareInt x.2 y.2 = c := ⟨_, rfl⟩
  obtain ⟨c2, hc2⟩ : ∃ c, Lib.compareInt x.1 y.1 = c := ⟨_, rfl⟩
  have H1 := Lib.hid (fun W => cmpCmpW x.2 y.2 W)
  have H2 := Lib.hid (fun W => cmpCmpW x.1 y.1 W)
  rw [hc1] at H1
  rw [hc2] at H2
  unfold cfL
  rw [hc1, hc2]
  obtain ⟨r, hr⟩ : ∃ r, (if c1 = 0 then c2 else c1) = r := ⟨_, rfl⟩
  have HO := Lib.hid (fun b W h0 h1 => cmpOrW b 2 c1 c2 W h0 h1)
  rw [hr] at HO ⊢
  clear hc1 hc2 hr
  go_enter Try.func50, Try.ntmps50
  go_wp2
  refine rg_start (LoS W x y) 13 (by kernel_rfl) rfl ?_
  have S1 : LoS W x y (World.drew ((W.alloc (.cells #[.int .i64 x.1, .int .i64 x.2] 53)).alloc (.cells #[.int .i64 y.1, .int .i64 y.2] 53))) :=
    ⟨⟨1, #[.cells #[.int .i64 x.1, .int .i64 x.2] 53, .cells #[.int .i64 y.1, .int .i64 y.2] 53], by rw [Sort.alloc_eq_grow, Sort.alloc_eq_grow, Sort.grow_grow]; rfl⟩, ((Own.new' _ _ rfl rfl).alloc _).drew, (Own.new' _ _ (by simp) rfl).drew⟩
  generalize World.drew _ = R0 at S1 ⊢
  refine rg_take (fuel := 5) [0, 1, 2, 3, 5, 6, 7, 8] (by kernel_rfl) (by intro _ _ d _ _ h; first | (cases d <;> exact h) | (simp [Exit.then, Exit.inBlock, ownPostG] at h)) rfl (by kernel_rfl) (by kernel_rfl) S1 ?_; simp only [pickL, pick1, List.cons_append, List.nil_append]
  iterate 8 (refine wpTake_cons (v := ?_) (Or.inl ⟨by rfl, ?_⟩) ?_; rotate_left; (intro w' hSw; have yo := hSw.o.c; have yp := hSw.p.c; clear hSw; go_simp; (try with_reducible rfl)); (try simp only [Act.put, List.setIfInBounds_toArray, List.set_cons_zero, List.set_cons_succ]))
  refine wpTake_nil ?_
  refine rg_one (fuel := 4) 4 rfl (by kernel_rfl) (by kernel_rfl) ?_; simp only [pick1, wpHead]
  intro K' hK; rw [if_pos (by rfl)]; go_simp
  refine (H1.out _).mono ?_
  rintro e w2 ⟨rfl, hw⟩
  rw [hw]
  clear hw
  refine hK.out _ _ S1 ?_
  clear hK K'; (try simp only [Act.put, List.setIfInBounds_toArray, List.set_cons_zero, List.set_cons_succ])
  refine rg_one (fuel := 3) 9 rfl (by kernel_rfl) (by kernel_rfl) ?_; simp only [pick1, wpHead]
  intro K' hK; rw [if_pos (by rfl)]; go_simp
  refine (H2.out _).mono ?_
  rintro e w2 ⟨rfl, hw⟩
  rw [hw]
  clear hw
  refine hK.out _ _ S1 ?_
  clear hK K'; (try simp only [Act.put, List.setIfInBounds_toArray, List.set_cons_zero, List.set_cons_succ])
  have S2 : LoS W x y (R0.alloc (.cells #[.int .i64 c1, .int .i64 c2] 3)) := ⟨by
    obtain ⟨q, os, e⟩ := S1.a
    exact ⟨q, os ++ #[.cells #[.int .i64 c1, .int .i64 c2] 3], by rw [e, Sort.alloc_eq_grow, Sort.grow_grow]⟩, S1.o.alloc _, S1.p.alloc _⟩
  refine rg_one (fuel := 2) 10 rfl (by kernel_rfl) (by kernel_rfl) ?_; simp only [pick1, wpHead]
  intro K' hK; rw [if_pos (by rfl)]; go_simp
  refine hK.out _ _ S2 ?_
  clear hK K'; (try simp only [Act.put, List.setIfInBounds_toArray, List.set_cons_zero, List.set_cons_succ])
  have hq := (Own.new' (w := R0) #[.int .i64 c1, .int .i64 c2] 3 rfl rfl).c
  have h0 := hq 0
  have h1 := hq 1
  generalize R0.alloc _ = R1 at S2 h0 h1 ⊢
  refine rg_one (fuel := 1) 11 rfl (by kernel_rfl) (by kernel_rfl) ?_; simp only [pick1, wpHead]
  intro K' hK; rw [if_pos (by rfl)]; go_simp
  refine (HO.out R0.heap.size _ h0 h1).mono ?_
  rintro e w2 ⟨rfl, hw⟩
  rw [hw]
  clear hw
  refine hK.out _ _ S2 ?_
  clear hK K'; (try simp only [Act.put, List.setIfInBounds_toArray, List.set_cons_zero, List.set_cons_succ])
  refine rg_one (fuel := 0) 12 rfl (by kernel_rfl) (by kernel_rfl) ?_; simp only [pick1, wpHead]
  intro K' hK; rw [if_pos (by rfl)]; go_simp
  refine hK.out _ _ S2 ?_
  clear hK K'; (try simp only [Act.put, List.setIfInBounds_toArray, List.set_cons_zero, List.set_cons_succ])
  refine rg_done (by kernel_rfl) ?_
  have hA := Lib.hid S2.a
  go_wp2
  go_ret
  exact ⟨rfl, hA.out⟩
end Go.Proofs.Ytgmhelclofnpkaa
namespace Go.Proofs.Ytgmhelclofnpkaa
open Go.RowKit

theorem ptrow_one' (x : P2) : ∀ v ∈ ptrow x, v.oneCell' = true := fun v hv => by
  simp [ptrow] at hv
  rcases hv with rfl | rfl <;> rfl
theorem sortFW (base g cap : Nat) (ps : List P2) (w : World) (h : Gro w base 53 2 (.slice (Option.some ⟨g, 0, none⟩) ps.length cap) (ps.map ptrow)) (h12 : ps.length ≤ 12) :
    Calls Try.prog 54 #[.slice (Option.some ⟨g, 0, none⟩) ps.length cap, .func (.func 50) #[] #[]] w fun e w' => e = .returned (.tuple #[]) ∧
      ∃ L : List P2, L.Perm ps ∧ L.Pairwise (fun x y => Proofs.ltOf cfL y x = false) ∧ Gro w' base 53 2 (.slice (Option.some ⟨g, 0, none⟩) ps.length cap) (L.map ptrow) ∧ Below base w w' ∧ ∀ k, k < w.heap.size → k ≠ g → w'.heap[k]? = w.heap[k]? := by
  have hblk := h.lt.2
  have k := AnyQ.slices_SortFunc_small_sorted sortFAL 2 (fun _ => by kernel_rfl) (fun _ => by kernel_rfl) ptrow (fun _ => rfl) ptrow_one' cfL 50 #[] swoL g 0 cap ps.toArray w (enters_of Try.func50 (by kernel_rfl) rfl) (fun m os dk _ x y => lowerW x y _) (holds_gro h) hblk h12 bitsLenW
  refine k.mono ?_
  rintro e w' ⟨rfl, d', n, os, hp, hs, rfl⟩
  have hd : d'.size = ps.length := hp.1
  obtain ⟨g1, g2, g3⟩ := gro_put (m := n) (os := os) h hd
  refine ⟨rfl, d'.toList, ?_, ?_, g1, g2, g3⟩
  · have := hp.2.2
    rw [← hp.1, Array.extract_size] at this
    rw [hp.1, Array.extract_size] at this
    exact this
  · rw [List.pairwise_iff_getElem]
    intro i j hi hj hij
    have := hs i j (Nat.zero_le _) hij (by rw [← hp.1]; simpa using hj)
    rw [getElem!_pos d' j (by simpa using hj), getElem!_pos d' i (by simpa using hi)] at this
    exact this
theorem revW (base g cap : Nat) (ps : List P2) (w : World) (h : Gro w base 53 2 (.slice (Option.some ⟨g, 0, none⟩) ps.length cap) (ps.map ptrow)) (h12 : ps.length ≤ 12) :
    Calls Try.prog 57 #[.slice (Option.some ⟨g, 0, none⟩) ps.length cap] w fun e w' => e = .returned (.tuple #[]) ∧
      Gro w' base 53 2 (.slice (Option.some ⟨g, 0, none⟩) ps.length cap) (ps.reverse.map ptrow) ∧ Below base w w' ∧ ∀ k, k < w.heap.size → k ≠ g → w'.heap[k]? = w.heap[k]? := by
  have k := AnyQ.slices_Reverse revPAL 2 (fun _ => by kernel_rfl) (fun _ => by kernel_rfl) ptrow (fun _ => rfl) ptrow_one' g 0 cap ps.toArray w (holds_gro h) (by simp; omega)
  refine k.mono ?_
  rintro e w' ⟨rfl, n, rfl⟩
  obtain ⟨g1, g2, g3⟩ := gro_put (m := n) (os := #[]) (d := ps.toArray.reverse) h (by simp)
  rw [Sort.grow_empty] at g1 g2 g3
  exact ⟨rfl, by simpa using g1, g2, g3⟩
set_option maxRecDepth 100000 in
set_option maxHeartbeats 4000000 in
theorem cloneGW (b off n cap : Nat) (ps : List P2) (w : World) (hA : Rd 2 w (Option.some ⟨b, off, none⟩) (ps.map ptrow)) (hn : Hid (n = ps.length)) (hk : 0 < n ∧ n ≤ 40) :
    Calls Try.prog 53 #[.slice (Option.some ⟨b, off, none⟩) n cap] w fun e w' => ∃ g cap', e = .returned (.slice (Option.some ⟨g, 0, none⟩) n cap') ∧ Gro w' w.heap.size 53 2 (.slice (Option.some ⟨g, 0, none⟩) n cap') (ps.map ptrow) ∧ Below w.heap.size w w' := by
  have HA := Lib.hid hA
  obtain ⟨i0, hi0, hi1, hi2, hi3⟩ := info_parts infPt
  have hql := fun w => sl_nil b off n cap w
  clear hA
  go_enter Try.func53, Try.ntmps53
  go_wp2_with (at_builtin; go_must (refine wpList_fill rfl _ _ 22 rfl w.heap.size 53 i0 (.agg #[.int .i64 0, .int .i64 0]) 2 16 Try.underlying22 hi0 hi1 hi2 hi3 rfl (by decide) w.heap.size rfl (gro_madeP _ rfl (Nat.le_refl _)) (by simp) (Option.some ⟨b, off, none⟩) n cap (ps.map ptrow) rfl (by rw [List.length_map]; exact hn.out) (HA.out.below (B := w.heap.size) (by (repeat' (first | (with_reducible exact Below.refl _ _) | (with_reducible assumption) | (with_reducible refine Below.drew ?_) | (with_reducible refine below_drewN ?_ _) | (with_reducible refine Below.setCell ?_ ?_ _) | (with_reducible refine Below.alloc ?_ ?_ _) | (refine Below.trans ?_ (Below.mono (by with_reducible assumption) ?_)) | omega | (exact Below.size (by with_reducible assumption)) | (simp; done) | (simp; omega)))) (Nat.le_refl _)) ptrow_len ptrow_one (by unfold maxLen; omega) (by omega) ?_; intro v' w6 hg6 hb6; obtain ⟨g, cap', hv⟩ : ∃ g cap', v' = .slice (Option.some ⟨g, 0, none⟩) n cap' := (by
    obtain ⟨g, cap', e1⟩ := hg6.some (by rw [List.length_map, ← hn.out]; exact hk.1)
    exact ⟨g, cap', by rw [e1, List.length_map, ← hn.out]⟩); subst hv; have hB6 : Below w.heap.size w w6 := (by (repeat' (first | (with_reducible exact Below.refl _ _) | (with_reducible assumption) | (with_reducible refine Below.drew ?_) | (with_reducible refine below_drewN ?_ _) | (with_reducible refine Below.setCell ?_ ?_ _) | (with_reducible refine Below.alloc ?_ ?_ _) | (refine Below.trans ?_ (Below.mono (by with_reducible assumption) ?_)) | omega | (exact Below.size (by with_reducible assumption)) | (simp; done) | (simp; omega)))); have hRR := Lib.hid hg6; clear hg6 hb6))
  go_ret
  exact ⟨g, cap', rfl, hRR.out, hB6⟩
end Go.Proofs.Ytgmhelclofnpkaa
namespace Go.Proofs.Ytgmhelclofnpkaa
open Go.RowKit

theorem Rd.same {sz : Nat} {w w' : World} {c off : Nat} {rows : List (List Value)} (h : Rd sz w (Option.some ⟨c, off, none⟩) rows) (e : w'.heap[c]? = w.heap[c]?) : Rd sz w' (Option.some ⟨c, off, none⟩) rows := by
  refine ⟨fun i hi => ?_⟩
  obtain ⟨b, off', he, hb, hc⟩ := h.at_ i hi
  cases he
  have hb' : c < w'.heap.size := by
    rw [Array.getElem?_eq_getElem hb] at e
    exact (Array.getElem?_eq_some_iff.1 e).1
  refine ⟨c, off, rfl, hb', fun j r hj k v hv => ?_⟩
  have := hc j r hj k v hv
  simp only [World.cell?] at this ⊢
  rw [e]; exact this
/-- The last row is let go. -/
theorem gro_pop {w : World} {base g n cap : Nat} {ps : List P2} {x : P2} (h : Gro w base 53 2 (.slice (Option.some ⟨g, 0, none⟩) n cap) ((ps ++ [x]).map ptrow)) : Gro w base 53 2 (.slice (Option.some ⟨g, 0, none⟩) ps.length cap) (ps.map ptrow) := by
  obtain ⟨h0, h1, h2⟩ := h
  rcases h2 with ⟨e1, _⟩ | ⟨g', cap', cur, e1, hb, hh, hn, hm, hs, ht⟩
  · cases e1
  · cases e1
    have e2 : ((ps ++ [x]).map ptrow).flatten = (ps.map ptrow).flatten ++ ptrow x := by simp
    have e3 : ((ps.map ptrow).flatten).length = ps.length * 2 := by rw [flatten_len ptrow_len, List.length_map]
    rw [List.length_map, List.length_append, List.length_singleton] at hn ht
    refine ⟨ptrow_len, by rw [e3, List.length_map], Or.inr ⟨g, cap, cur, by rw [List.length_map], hb, hh, by rw [List.length_map]; omega, hm, hs, ?_⟩⟩
    rw [List.length_map]
    have : cur.toList.take (ps.length * 2) = (cur.toList.take ((ps.length + 1) * 2)).take (ps.length * 2) := by
      rw [List.take_take, Nat.min_eq_left (by omega)]
    rw [this, ht, e2, ← e3, List.take_left]
theorem pop_short {p : P2} : ∀ {s : List P2}, s.length ≤ 1 → Hu.pop p s = s
  | [], _ => rfl
  | [_], _ => rfl
  | _ :: _ :: _, h => by simp at h
theorem pop_end {p a b : P2} {r : List P2} (h : ¬ Pl.turn a b p ≤ 0) : Hu.pop p (b :: a :: r) = b :: a :: r := by
  show (if Pl.turn a b p ≤ 0 then _ else _) = _
  rw [if_neg h]
theorem pop_on {p a b : P2} {r : List P2} (h : Pl.turn a b p ≤ 0) : Hu.pop p (b :: a :: r) = Hu.pop p (a :: r) := by
  show (if Pl.turn a b p ≤ 0 then _ else _) = _
  rw [if_pos h]
theorem cells_two (w : World) (u v : Value) (t : TypeId) : ∀ (j : Nat) (x : Value), [u, v][j]? = Option.some x → (w.alloc (.cells #[u, v] t)).cell? ((⟨w.heap.size, 0, none⟩ : Addr).add j) = Option.some x := fun j x hj => by
  rw [Addr.add_lit, Nat.zero_add]
  exact ((Own.new' (w := w) #[u, v] t rfl rfl).c j).trans hj
set_option maxRecDepth 100000 in
set_option maxHeartbeats 8000000 in
theorem halfW (B c fr nl capl base : Nat) (pre stk pts : List P2) (v : Value) (w : World) (hL : Rd 2 w (Option.some ⟨c, 0, none⟩) (pts.map ptrow)) (hnl : Hid (nl = pts.length)) (hfr : Hid (fr = pre.length))
    (hv : Own w B [v]) (hg : Gro w base 53 2 v ((pre ++ stk.reverse).map ptrow)) (hBb : B < base) (hbw : base ≤ w.heap.size) (hcB : c ≠ B) (hcv : Hid (v.ownBlock ≠ Option.some c)) (hcl : c < w.heap.size)
    (hP : Hid (∀ x, x ∈ pre ∨ x ∈ stk ∨ x ∈ pts → Pl.isP x = true)) (hlen : Hid (pre.length + stk.length + pts.length ≤ 40)) :
    Calls Try.prog 55 #[.int .i64 fr, .slice (Option.some ⟨c, 0, none⟩) nl capl, .pointer (Option.some ⟨B, 0, none⟩)] w fun e w' => e = .returned (.tuple #[]) ∧ ∃ v', Own w' B [v'] ∧ Gro w' base 53 2 v' ((pre ++ (pts.foldl Hu.push stk).reverse).map ptrow) ∧ Below B w w' := by
  have HL := Lib.hid hL
  have hn40 : nl ≤ 40 ∧ fr ≤ 40 := by have := hlen.out; have := hnl.out; have := hfr.out; omega
  obtain ⟨i0, hi0, hi1, hi2, hi3⟩ := info_parts infPt
  clear hL
  go_enter Try.func55, Try.ntmps55
  go_wp2
  go_loopg [9] nl (fun K i wr => ∃ (k : Nat) (s : List P2) (v : Value), K + k = nl ∧ i = .int .i64 k ∧ Hid (s = (pts.take k).foldl Hu.push stk) ∧ Own wr B [v] ∧ Gro wr base 53 2 v ((pre ++ s.reverse).map ptrow) ∧ Hid (v.ownBlock ≠ Option.some c) ∧ Hid (wr.heap[c]? = w.heap[c]?) ∧ Hid (s.length ≤ stk.length + k ∧ ∀ x ∈ s, Pl.isP x = true) ∧ base ≤ wr.heap.size ∧ Below B w wr)
  case atStart => exact ⟨0, stk, v, rfl, rfl, rfl, hv, hg, hcv, rfl, ⟨by omega, fun x hx => hP.out x (Or.inr (Or.inl hx))⟩, hbw, Below.refl _ _⟩
  case round =>
    clear hv hg hcv
    obtain ⟨k, s, v, hk, rfl, hs, hv, hg, hcv, hcw, hsl, hbr, hB⟩ := hrel
    obtain ⟨wo, hwo⟩ : ∃ wo, wo = wr := ⟨_, rfl⟩
    by_cases hlt : k < nl
    · obtain ⟨⟨x, y⟩, hp⟩ : ∃ p, Hid (pts[k]? = Option.some p) := ⟨pts[k]'(by have := hnl.out; omega), by simp [Hid]⟩
      obtain ⟨_, _, e0, hcl', hx0, hx1⟩ := rd_p2 (Rd.same HL.out hcw.out) hp.out
      cases e0
      dsimp only at hx0 hx1
      rw [Nat.zero_add] at hx0 hx1
      have hPp : Hid (Pl.isP (x, y) = true) := hP.out _ (Or.inr (Or.inr (List.mem_of_getElem? hp.out)))
      have op := Own.new' (w := wr) #[.int .i64 x, .int .i64 y] 53 rfl rfl
      have q1 := hv.alloc (.cells #[.int .i64 x, .int .i64 y] 53)
      have q2 := hg.alloc (.cells #[.int .i64 x, .int .i64 y] 53)
      have q3 : Hid ((wr.alloc (.cells #[.int .i64 x, .int .i64 y] 53)).heap[c]? = w.heap[c]?) := (Below.heap_alloc _ _ _ hcl').trans hcw.out
      have hBw : B ≤ wr.heap.size := by omega
      have q4 := hB.alloc hBw (.cells #[.int .i64 x, .int .i64 y] 53)
      go_wp2
      rw [← hwo] at op q1 q2 q3 q4 hcl' hBw hbr ⊢
      clear hx0 hx1 hwo hv hg hcw hB
      go_loopg [] s.length (fun K wi => ∃ (s' : List P2) (v' : Value), K = s'.length ∧ Hid (Hu.pop (x, y) s' = Hu.pop (x, y) s) ∧ Own wi B [v'] ∧ Gro wi base 53 2 v' ((pre ++ s'.reverse).map ptrow) ∧ Hid (v'.ownBlock ≠ Option.some c) ∧ Hid (wi.heap[c]? = w.heap[c]?) ∧ Hid (s'.length ≤ s.length ∧ ∀ x ∈ s', Pl.isP x = true) ∧ Own wi wo.heap.size [.int .i64 x, .int .i64 y] ∧ wo.heap.size ≤ wi.heap.size ∧ Below B w wi)
      case atStart => exact ⟨s, v, rfl, rfl, q1, q2, hcv, q3, ⟨Nat.le_refl _, hsl.out.2⟩, op, by simp, q4⟩
      case round =>
        clear op q1 q2 q3 q4 hcv
        obtain ⟨s', v', rfl, hpop, hv, hg, hcv, hcw, hsl', ho, hwz, hB⟩ := hrel
        -- round
        by_cases h2 : s'.length ≤ 1
        · obtain ⟨A', cap', rfl, _⟩ := hg.out
          obtain ⟨N, hN⟩ : ∃ N, ((pre ++ s'.reverse).map ptrow).length = N := ⟨_, rfl⟩
          have hrl : Hid (((pre ++ s'.reverse).map ptrow).length ≤ 60) := by show _ ≤ _; have := hlen.out; have := hsl'.out.1; have := hsl.out.1; have := hnl.out; simp; omega
          have hNf : N = fr + s'.length := by rw [← hN]; have := hfr.out; simp; omega
          have hN60 : N ≤ 60 := by rw [← hN]; exact hrl.out
          rw [hN] at hv hg hcv
          have hx0 := Aft.cell hv
          have hend := pop_short (p := (x, y)) h2
          have hEnd := Lib.hid hend
          have hSl := Lib.hid hNf
          have hcond : N < fr + 2 := by omega
          clear hend hN hNf h2
          go_wp2
          have hcd : decide ((fr : Int) + 2 ≤ (N : Int)) = false := decide_eq_false (by omega)
          refine wp_region_aft (by kernel_rfl) (by kernel_rfl) ?_; (repeat (first | go_big_quiet_step ((go_at_call 56; fail)) | simp only [hcd])); refine wpQuiet_nil ?_; rintro w5 ⟨⟨_, hb5⟩, rfl⟩
          clear hcd
          clear hx0
          have hv5 := hv.below hb5 hv.lt
          have hg5 := hg.below hb5 (Nat.le_refl _)
          have ho5 := ho.below hb5 ho.lt
          have hcw5 : Hid (w5.heap[c]? = w.heap[c]?) := (hb5.block c (by omega)).trans hcw.out
          have hB5 := hB.trans (hb5.mono (by omega))
          have hz5 := hb5.size
          clear hv hg ho hb5 hB
          have HV5 := Lib.hid hv5
          obtain ⟨l0, c0, f0⟩ := hv5
          obtain ⟨l1, c1, f1⟩ := ho5
          go_wp2_with (at_builtin; go_must (refine wpList_append_own_at _ rfl _ _ 22 rfl base 53 i0 (.agg #[.int .i64 0, .int .i64 0]) 2 16 Try.underlying22 hi0 hi1 hi2 hi3 rfl (by decide) _ _ _ rfl (hg5.2.alloc _) ⟨w5.heap.size, 0, none⟩ 1 1 [.int .i64 x, .int .i64 y] rfl rfl (cells_two _ _ _ _) (by intro u hu; simp at hu; rcases hu with rfl | rfl <;> rfl) (by unfold maxLen; have := hrl.out; omega) (by have := hrl.out; omega) (by simp; omega) ?_; intro v2 w8 hown' hgrow hnil hblk; have hbA : Below base w5 w8 := ((Below.refl _ w5).alloc (by omega) _).grown hgrow (by simp; omega) (fun i hi => (hg5.2.lt i hi).1); have hg8 : Gro w8 base 53 2 v2 ((pre ++ s'.reverse).map ptrow ++ [ptrow (x, y)]) := Gro.grown hg5 rfl hown'; have hc8 : Hid (w8.heap[c]? = w.heap[c]?) := (hgrow.block c (by simp; omega) (fun e => hcv.out e.symm)).trans ((Below.heap_alloc _ _ _ (by omega)).trans hcw5.out); have hcv8 : Hid (v2.ownBlock ≠ Option.some c) := (fun e => by rcases hblk with h | h; (· exact hcv.out (h.symm.trans e)); (· rw [h] at e; injection e with e; simp at e; omega)); have hv8 := HV5.out.below hbA hBb; have hB8 := hB5.trans (hbA.mono (by omega)); have hz8 := hbA.size; obtain ⟨A2, cap2, hv2, _⟩ := hg8.out; subst hv2; have hcv9 : ∀ n, Hid ((Value.slice A2 n cap2).ownBlock ≠ Option.some c) := (fun n => by have h := hcv8.out; cases A2 <;> exact h); clear hcv8 hown' hgrow hnil hblk hbA hg5 c0 f0 c1 f1 l0 l1; obtain ⟨l8, c8, f8⟩ := hv8))
          go_roundg (nl - (k + 1))
          case measure => omega
          case rel =>
            refine ⟨k + 1, (x, y) :: s', _, by omega, by go_num, ?_, (Own.mk l8 c8 f8).set 0 (by simp) _, ?_, hcv9 _, ?_, ?_, by simp; omega, hB8.setCell (Nat.le_refl _) _⟩
            · show _ = _
              rw [take_snoc hp.out, List.foldl_append, ← hs.out]
              show (x, y) :: s' = (x, y) :: Hu.pop (x, y) s
              rw [← hpop.out, hEnd.out]
            · have e1 : (pre ++ ((x, y) :: s').reverse).map ptrow = (pre ++ s'.reverse).map ptrow ++ [ptrow (x, y)] := by simp
              rw [e1]
              have h8 := hg8.setCell (a := ⟨B, 0, none⟩) hBb (.slice A2 ((pre ++ s'.reverse).map ptrow ++ [ptrow (x, y)]).length cap2)
              simp at h8 ⊢
              exact h8
            · exact (Below.heap_setCell _ _ _ _ hcB).trans hc8.out
            · refine ⟨by have := hsl'.out.1; have := hsl.out.1; simp at *; omega, fun z hz => ?_⟩
              rcases List.mem_cons.1 hz with rfl | hz
              · exact hPp.out
              · exact hsl'.out.2 z hz
        · obtain ⟨⟨bx, by'⟩, ⟨ax, ay⟩, r, rfl⟩ : ∃ b a r, s' = b :: a :: r := by
            match s', h2 with
            | [], h => exact absurd (Nat.zero_le _) h
            | [_], h => exact absurd (Nat.le_refl _) h
            | b :: a :: r, _ => exact ⟨b, a, r, rfl⟩
          obtain ⟨q, hq⟩ : ∃ q, pre ++ r.reverse = q := ⟨_, rfl⟩
          have hps : pre ++ ((bx, by') :: (ax, ay) :: r).reverse = q ++ [(ax, ay)] ++ [(bx, by')] := by rw [← hq]; simp
          obtain ⟨M, hM⟩ : ∃ M, q.length = M := ⟨_, rfl⟩
          have hMf : M = fr + r.length := by rw [← hM, ← hq]; have := hfr.out; simp; omega
          have hM60 : M ≤ 50 := by have := hlen.out; have := hsl'.out.1; have := hsl.out.1; have := hnl.out; have := hfr.out; simp at *; omega
          have hfM : fr ≤ M := by omega
          have hRl : r.length ≤ 50 := by omega
          have hPa : Pl.isP (ax, ay) = true := hsl'.out.2 _ (by simp)
          have hPb : Pl.isP (bx, by') = true := hsl'.out.2 _ (by simp)
          rw [hps] at hg
          obtain ⟨g, cap', rfl⟩ := hg.some (by simp)
          have hlr : ((q ++ [(ax, ay)] ++ [(bx, by')]).map ptrow).length = M + 2 := by simp [hM]
          have hrl : Hid (((q ++ [(ax, ay)] ++ [(bx, by')]).map ptrow).length ≤ 60) := by show _ ≤ _; rw [hlr]; omega
          obtain ⟨_, _, e1, hR⟩ := hg.out
          have e1' := congrArg Value.ownBlock e1
          obtain ⟨b1, o1, e2, hgl, ca0, ca1⟩ := rd_p2 hR (i := M) (p := (ax, ay)) (by rw [List.getElem?_append_left (by simp; omega), List.getElem?_append_right (by omega), hM, Nat.sub_self]; rfl)
          obtain ⟨b2, o2, e3, _, cb0, cb1⟩ := rd_p2 hR (i := M + 1) (p := (bx, by')) (by rw [List.getElem?_append_right (by simp; omega)]; simp [hM])
          subst e2
          cases e3
          cases e1
          rw [hlr] at hv hg hcv
          have hcap : M + 2 ≤ cap' := by
            rcases hg.2.2 with ⟨h3, _⟩ | ⟨g3, cap3, cur3, h3, _, _, h4, _⟩
            · cases h3
            · injection h3 with h5 h6 h7; rw [hlr] at h4; omega
          rw [Nat.zero_add] at ca0 ca1 cb0 cb1
          dsimp only at ca0 ca1 cb0 cb1
          have hx0 := Aft.cell hv
          have hx1 := Aft.cell ho
          have hx2 := fun z : Aft wr => (Aft.old z hgl (M * 2)).trans ca0
          have hx3 := fun z : Aft wr => (Aft.old z hgl (M * 2 + 1)).trans ca1
          have hx4 := fun z : Aft wr => (Aft.old z hgl ((M + 1) * 2)).trans cb0
          have hx5 := fun z : Aft wr => (Aft.old z hgl ((M + 1) * 2 + 1)).trans cb1
          have HT := Lib.hid (fun W => turnW ax ay bx by' x y W hPa hPb hPp.out)
          obtain ⟨T, hT⟩ : ∃ T, Pl.turn (ax, ay) (bx, by') (x, y) = T := ⟨_, rfl⟩
          rw [hT] at HT
          have hTe := Lib.hid hT
          have hPS := Lib.hid hps
          have hQ := Lib.hid hq
          have hQM := Lib.hid hM
          clear hT hps hq hM hPa hPb hR ca0 ca1 cb0 cb1 hMf h2 hlr e1'
          have hcap1 : M + 1 ≤ cap' := by omega
          by_cases hT0 : T ≤ 0
          · go_wp2
            refine wp_region_aft (by kernel_rfl) (by kernel_rfl) ?_; (repeat (go_big_quiet_step ((go_at_call 56; with_reducible exact aft_of (HT.out _))))); refine wpQuiet_nil ?_; rintro w5 ⟨⟨_, hb5⟩, rfl⟩
            clear hx0 hx1 hx2 hx3 hx4 hx5
            have hv5 := hv.below hb5 hv.lt
            have hg5 := hg.below hb5 (Nat.le_refl _)
            have ho5 := ho.below hb5 ho.lt
            have hcw5 : Hid (w5.heap[c]? = w.heap[c]?) := (hb5.block c (by omega)).trans hcw.out
            have hB5 := hB.trans (hb5.mono (by omega))
            have hz5 := hb5.size
            clear hv hg ho hb5 hB
            have HO5 := Lib.hid ho5
            clear ho5
            have HV5 := Lib.hid hv5
            obtain ⟨l0, c0, f0⟩ := hv5
            go_wp2
            go_roundg (r.length + 1)
            case measure => simp
            case rel =>
              refine ⟨(ax, ay) :: r, .slice (Option.some ⟨g, 0, none⟩) (M + 1) cap', by simp, ?_, HV5.out.set 0 (by simp) _, ?_, ?_, (Below.heap_setCell _ _ _ _ hcB).trans hcw5.out, ?_, HO5.out.setOther (by show B ≠ _; omega) _, by simp; omega, hB5.setCell (Nat.le_refl _) _⟩
              · show _ = _
                rw [← hpop.out, pop_on (by rw [hTe.out]; exact hT0)]
              · have e1 : (pre ++ ((ax, ay) :: r).reverse) = q ++ [(ax, ay)] := by rw [← hQ.out]; simp
                rw [e1]
                have := (gro_pop hg5).setCell (a := ⟨B, 0, none⟩) hBb (.slice (Option.some ⟨g, 0, none⟩) (M + 1) cap')
                rw [List.length_append, List.length_singleton, hQM.out] at this
                exact this
              · exact hcv.out
              · exact ⟨by have := hsl'.out.1; simp at *; omega, fun z hz => hsl'.out.2 z (List.mem_cons_of_mem _ hz)⟩
          · go_wp2
            refine wp_region_aft (by kernel_rfl) (by kernel_rfl) ?_; (repeat (go_big_quiet_step ((go_at_call 56; with_reducible exact aft_of (HT.out _))))); refine wpQuiet_nil ?_; rintro w5 ⟨⟨_, hb5⟩, rfl⟩
            clear hx0 hx1 hx2 hx3 hx4 hx5
            rw [← hPS.out] at hg hrl
            have hv5 := hv.below hb5 hv.lt
            have hg5 := hg.below hb5 (Nat.le_refl _)
            have ho5 := ho.below hb5 ho.lt
            have hcw5 : Hid (w5.heap[c]? = w.heap[c]?) := (hb5.block c (by omega)).trans hcw.out
            have hB5 := hB.trans (hb5.mono (by omega))
            have hz5 := hb5.size
            clear hv hg ho hb5 hB
            have HV5 := Lib.hid hv5
            obtain ⟨l0, c0, f0⟩ := hv5
            obtain ⟨l1, c1, f1⟩ := ho5
            go_wp2_with (at_builtin; go_must (refine wpList_append_own_at _ rfl _ _ 22 rfl base 53 i0 (.agg #[.int .i64 0, .int .i64 0]) 2 16 Try.underlying22 hi0 hi1 hi2 hi3 rfl (by decide) _ _ _ rfl (hg5.2.alloc _) ⟨w5.heap.size, 0, none⟩ 1 1 [.int .i64 x, .int .i64 y] rfl rfl (cells_two _ _ _ _) (by intro u hu; simp at hu; rcases hu with rfl | rfl <;> rfl) (by unfold maxLen; have := hrl.out; omega) (by have := hrl.out; omega) (by simp; omega) ?_; intro v2 w8 hown' hgrow hnil hblk; have hbA : Below base w5 w8 := ((Below.refl _ w5).alloc (by omega) _).grown hgrow (by simp; omega) (fun i hi => (hg5.2.lt i hi).1); have hg8 : Gro w8 base 53 2 v2 ((pre ++ ((bx, by') :: (ax, ay) :: r).reverse).map ptrow ++ [ptrow (x, y)]) := Gro.grown hg5 rfl hown'; have hc8 : Hid (w8.heap[c]? = w.heap[c]?) := (hgrow.block c (by simp; omega) (fun e => hcv.out e.symm)).trans ((Below.heap_alloc _ _ _ (by omega)).trans hcw5.out); have hcv8 : Hid (v2.ownBlock ≠ Option.some c) := (fun e => by rcases hblk with h | h; (· exact hcv.out (h.symm.trans e)); (· rw [h] at e; injection e with e; simp at e; omega)); have hv8 := HV5.out.below hbA hBb; have hB8 := hB5.trans (hbA.mono (by omega)); have hz8 := hbA.size; obtain ⟨A2, cap2, hv2, _⟩ := hg8.out; subst hv2; have hcv9 : ∀ n, Hid ((Value.slice A2 n cap2).ownBlock ≠ Option.some c) := (fun n => by have h := hcv8.out; cases A2 <;> exact h); clear hcv8 hown' hgrow hnil hblk hbA hg5 c0 f0 c1 f1 l0 l1; obtain ⟨l8, c8, f8⟩ := hv8))
            go_roundg (nl - (k + 1))
            case measure => omega
            case rel =>
              refine ⟨k + 1, (x, y) :: ((bx, by') :: (ax, ay) :: r), _, by omega, by go_num, ?_, (Own.mk l8 c8 f8).set 0 (by simp) _, ?_, hcv9 _, ?_, ?_, by simp; omega, hB8.setCell (Nat.le_refl _) _⟩
              · show _ = _
                rw [take_snoc hp.out, List.foldl_append, ← hs.out]
                show (x, y) :: ((bx, by') :: (ax, ay) :: r) = (x, y) :: Hu.pop (x, y) s
                rw [← hpop.out, pop_end (by rw [hTe.out]; omega)]
              · have e1 : (pre ++ ((x, y) :: ((bx, by') :: (ax, ay) :: r)).reverse).map ptrow = (pre ++ ((bx, by') :: (ax, ay) :: r).reverse).map ptrow ++ [ptrow (x, y)] := by simp
                rw [e1]
                have h8 := hg8.setCell (a := ⟨B, 0, none⟩) hBb (.slice A2 ((pre ++ ((bx, by') :: (ax, ay) :: r).reverse).map ptrow ++ [ptrow (x, y)]).length cap2)
                simp at h8 ⊢
                exact h8
              · exact (Below.heap_setCell _ _ _ _ hcB).trans hc8.out
              · refine ⟨by have := hsl'.out.1; have := hsl.out.1; simp at *; omega, fun z hz => ?_⟩
                rcases List.mem_cons.1 hz with rfl | hz
                · exact hPp.out
                · exact hsl'.out.2 z hz
        -- endround
    · have hke : k = nl := by omega
      have hs' : s = pts.foldl Hu.push stk := by rw [hs.out, List.take_of_length_le (by have := hnl.out; omega)]
      have hG := Lib.hid hg
      go_wp2
      go_end0
      exact ⟨rfl, v, hv, by rw [← hs']; exact hG.out, hB⟩
end Go.Proofs.Ytgmhelclofnpkaa
namespace Go.Proofs.Ytgmhelclofnpkaa
open Go.RowKit

set_option maxHeartbeats 400000 in
theorem cHull1 (x y : Int) (w : World) :
    Calls Try.prog 48 #[.agg #[.int .i64 x, .int .i64 y]] w fun e w' => e = .returned (.bool (!Pl.isP (x, y))) ∧ Below w.heap.size w w' := by
  go_enter Try.func48, Try.ntmps48
  go_wp2_with fail
  refine (isPoint _ _ _).mono ?_
  rintro e w1 ⟨rfl, hb1⟩
  go_wp2
  go_ret
  exact ⟨rfl, by (repeat' (first | (with_reducible exact Below.refl _ _) | (with_reducible assumption) | (with_reducible refine Below.drew ?_) | (with_reducible refine below_drewN ?_ _) | (with_reducible refine Below.setCell ?_ ?_ _) | (with_reducible refine Below.alloc ?_ ?_ _) | (refine Below.trans ?_ (Below.mono (by with_reducible assumption) ?_)) | omega | (exact Below.size (by with_reducible assumption)) | (simp; done) | (simp; omega)))⟩
set_option maxHeartbeats 1000000 in
theorem ifPtH (A : Option Addr) (ps : List P2) (n cap : Nat) (w : World) (hA : Rd 2 w A (ps.map ptrow)) (hn : Hid (n = ps.length)) (hlen : n ≤ 9223372036854775807) :
    Calls Try.prog 93 #[.slice A n cap, .func (.func 48) #[] #[]] w fun e w' => ∃ q : Int, Hid (decide (0 ≤ q) = ps.any (fun p => !Pl.isP p)) ∧ e = .returned (.int .i64 q) ∧ Below w.heap.size w w' := by
  have HA := Lib.hid hA
  clear hA
  go_enter Try.func93, Try.ntmps93
  go_wp2
  go_loopw [8] (fun i wr => ∃ k : Nat, k ≤ n ∧ i = .int .i64 k ∧ Hid ((ps.take k).any (fun p => !Pl.isP p) = false) ∧ Below w.heap.size w wr) (fun i _ => n - (intOf i).toNat)
  case atStart => exact ⟨0, Nat.zero_le _, rfl, by simp [Hid], Below.refl _ _⟩
  case round =>
    obtain ⟨k, hk, rfl, hno, hbw⟩ := hrel
    by_cases hlt : k < n
    · obtain ⟨g, hg⟩ : ∃ g, Hid (ps[k]? = some g) := ⟨ps[k]'(by have := hn.out; omega), by simp [Hid]⟩
      obtain ⟨b, off, rfl, hb, hc0, hc1⟩ := rd_p2 (HA.out.below hbw (Nat.le_refl _)) hg.out
      go_wp2_with fail
      refine (cHull1 g.1 g.2 _).mono ?_
      cases hs : Pl.isP (g.1, g.2)
      · rintro e w1 ⟨rfl, hb1⟩
        have hs' := Lib.hid hs
        clear hs
        go_wp2
        go_ret
        refine ⟨(k : Int), ?_, rfl, by (repeat' (first | (with_reducible exact Below.refl _ _) | (with_reducible assumption) | (with_reducible refine Below.drew ?_) | (with_reducible refine below_drewN ?_ _) | (with_reducible refine Below.setCell ?_ ?_ _) | (with_reducible refine Below.alloc ?_ ?_ _) | (refine Below.trans ?_ (Below.mono (by with_reducible assumption) ?_)) | omega | (exact Below.size (by with_reducible assumption)) | (simp; done) | (simp; omega)))⟩
        show decide ((0 : Int) ≤ k) = ps.any _
        rw [decide_eq_true (by omega)]
        refine (List.any_eq_true.2 ⟨g, List.mem_of_getElem? hg.out, ?_⟩).symm
        show (!Pl.isP (g.1, g.2)) = true
        rw [hs'.out]; rfl
      · rintro e w1 ⟨rfl, hb1⟩
        have hs' := Lib.hid hs
        clear hs
        go_wp2
        go_roundw
        case rel =>
          refine ⟨k + 1, by omega, by go_num, ?_, by (repeat' (first | (with_reducible exact Below.refl _ _) | (with_reducible assumption) | (with_reducible refine Below.drew ?_) | (with_reducible refine below_drewN ?_ _) | (with_reducible refine Below.setCell ?_ ?_ _) | (with_reducible refine Below.alloc ?_ ?_ _) | (refine Below.trans ?_ (Below.mono (by with_reducible assumption) ?_)) | omega | (exact Below.size (by with_reducible assumption)) | (simp; done) | (simp; omega)))⟩
          show (ps.take (k + 1)).any _ = false
          rw [take_snoc hg.out, List.any_append, hno.out]
          simp only [List.any_cons, List.any_nil, Bool.or_false, Bool.false_or]
          show (!Pl.isP (g.1, g.2)) = false
          rw [hs'.out]; rfl
        case measure => simp only [intOf]; omega
    · go_wp2
      go_ret
      refine ⟨-1, ?_, rfl, hbw⟩
      show decide ((0 : Int) ≤ -1) = ps.any _
      have h := hno.out
      rw [List.take_of_length_le (by have := hn.out; omega)] at h
      rw [h]; rfl
set_option maxHeartbeats 1000000 in
theorem cfPtH (A : Option Addr) (ps : List P2) (n cap : Nat) (w : World) (hA : Rd 2 w A (ps.map ptrow)) (hn : Hid (n = ps.length)) (hlen : n ≤ 9223372036854775807) :
    Calls Try.prog 47 #[.slice A n cap, .func (.func 48) #[] #[]] w fun e w' => e = .returned (.bool (ps.any (fun p => !Pl.isP p))) ∧ Below w.heap.size w w' := by
  have HA := Lib.hid hA
  clear hA
  go_enter Try.func47, Try.ntmps47
  go_wp2_with fail
  refine (ifPtH A ps n cap w HA.out hn hlen).mono ?_
  rintro e w1 ⟨q, hq, rfl, hb1⟩
  go_wp2
  go_ret
  exact ⟨ret_bool hq.out, hb1⟩
end Go.Proofs.Ytgmhelclofnpkaa
namespace Go.Proofs.Ytgmhelclofnpkaa
open Go.RowKit

theorem gro_rd {w : World} {base e sz g n cap : Nat} {rows : List (List Value)} (h : Gro w base e sz (.slice (Option.some ⟨g, 0, none⟩) n cap) rows) : Rd sz w (Option.some ⟨g, 0, none⟩) rows := by
  obtain ⟨A, c, e, R⟩ := h.out
  injection e with e1 e2 e3
  rw [e1]; exact R
theorem gro_n {w : World} {base e sz g n cap : Nat} {rows : List (List Value)} (h : Gro w base e sz (.slice (Option.some ⟨g, 0, none⟩) n cap) rows) : n = rows.length ∧ n ≤ cap := by
  rcases h.2.2 with ⟨h3, _⟩ | ⟨g3, cap3, cur3, h3, _, _, h4, _⟩
  · cases h3
  · injection h3 with h5 h6 h7
    exact ⟨h6, by omega⟩
theorem gro_some {w : World} {base e sz : Nat} {v : Value} {rows : List (List Value)} (h : Gro w base e sz v rows) (h0 : 0 < rows.length) : ∃ g cap, v = .slice (Option.some ⟨g, 0, none⟩) rows.length cap ∧ g < w.heap.size := by
  rcases h.2.2 with ⟨_, h3⟩ | ⟨g3, cap3, cur3, h3, _, h5, _⟩
  · omega
  · exact ⟨g3, cap3, h3, (Array.getElem?_eq_some_iff.1 h5).1⟩
theorem gro_keep {w w' : World} {B base e sz g n cap : Nat} {rows : List (List Value)} (h : Gro w base e sz (.slice (Option.some ⟨g, 0, none⟩) n cap) rows) (k : Below B w w') (hg : g < B) : Gro w' base e sz (.slice (Option.some ⟨g, 0, none⟩) n cap) rows := by
  obtain ⟨h0, h1, h2⟩ := h
  refine ⟨h0, h1, ?_⟩
  rcases h2 with ⟨h3, _⟩ | ⟨g3, cap3, cur3, h3, h4, h5, h6⟩
  · cases h3
  · cases h3
    exact Or.inr ⟨g, cap, cur3, rfl, h4, (k.block g hg).trans h5, h6⟩
theorem pop_len (p : P2) : ∀ s : List P2, (Hu.pop p s).length ≤ s.length
  | [] => Nat.le_refl _
  | [_] => Nat.le_refl _
  | b :: a :: r => by
    by_cases h : Pl.turn a b p ≤ 0
    · rw [pop_on h]
      have := pop_len p (a :: r)
      simp at *; omega
    · rw [pop_end h]; exact Nat.le_refl _
theorem half_len : ∀ (l s : List P2), (l.foldl Hu.push s).length ≤ s.length + l.length
  | [], s => Nat.le_refl _
  | p :: l, s => by
    have h1 := half_len l (Hu.push s p)
    have h2 := pop_len p s
    have h3 : (Hu.push s p).length = (Hu.pop p s).length + 1 := rfl
    rw [List.foldl_cons, List.length_cons]
    omega
theorem pop_mem (p : P2) : ∀ (s : List P2) (x : P2), x ∈ Hu.pop p s → x ∈ s
  | [], _, h => h
  | [_], _, h => h
  | b :: a :: r, x, h => by
    by_cases k : Pl.turn a b p ≤ 0
    · rw [pop_on k] at h
      exact List.mem_cons_of_mem _ (pop_mem p (a :: r) x h)
    · rw [pop_end k] at h; exact h
theorem half_mem : ∀ (l s : List P2) (x : P2), x ∈ l.foldl Hu.push s → x ∈ s ∨ x ∈ l
  | [], _, _, h => Or.inl h
  | p :: l, s, x, h => by
    rcases half_mem l (Hu.push s p) x h with h | h
    · rcases List.mem_cons.1 h with rfl | h
      · exact Or.inr (List.mem_cons_self ..)
      · exact Or.inl (pop_mem p s x h)
    · exact Or.inr (List.mem_cons_of_mem _ h)
theorem sorted_u {ps L : List P2} (hok : Pl.ok ps = true) (hp : L.Perm ps) (hs : L.Pairwise (fun x y => Proofs.ltOf cfL y x = false)) : L.Pairwise (fun x y => Hu.u x < Hu.u y) ∧ ∀ x, x ∈ L ↔ x ∈ ps := by
  obtain ⟨_, h2, h3, _⟩ := Pl.ok_parts hok
  have hm : ∀ x, x ∈ L ↔ x ∈ ps := fun x => hp.mem_iff
  have nd : ps.Nodup := by
    rw [List.Nodup, List.pairwise_iff_getElem]
    intro i j hi hj hij e
    have := Pl.no_dup h3 hi hj (by unfold Pl.at'; rw [List.getD_eq_getElem?_getD, List.getD_eq_getElem?_getD, List.getElem?_eq_getElem hi, List.getElem?_eq_getElem hj, e])
    omega
  have nL : L.Nodup := hp.nodup_iff.2 nd
  refine ⟨?_, hm⟩
  rw [List.Nodup, List.pairwise_iff_getElem] at nL
  rw [List.pairwise_iff_getElem] at hs ⊢
  intro i j hi hj hij
  have a1 := hs i j hi hj hij
  have a2 := nL i j hi hj hij
  have b1 := Pl.isP_iff.1 (List.all_eq_true.1 h2 _ ((hm _).1 (List.getElem_mem hi)))
  have b2 := Pl.isP_iff.1 (List.all_eq_true.1 h2 _ ((hm _).1 (List.getElem_mem hj)))
  generalize L[i] = x at *
  generalize L[j] = y at *
  rw [← Bool.not_eq_true, ltL_iff] at a1
  have a3 : ¬ (x.1 = y.1 ∧ x.2 = y.2) := fun h => a2 (Prod.ext h.1 h.2)
  unfold Hu.u Hu.fv
  omega
set_option maxRecDepth 100000 in
set_option maxHeartbeats 8000000 in
theorem hullW (A : Option Addr) (n cap : Nat) (ps : List P2) (w : World) (hA : Rd 2 w A (ps.map ptrow)) (hn : Hid (n = ps.length)) (hok : Hid (Pl.ok ps = true)) :
    Calls Try.prog 16 #[.slice A n cap] w fun e w' => ∃ (g cap' : Nat) (H : List P2) (e0 : Nat), e = .returned (.tuple #[.slice (Option.some ⟨g, 0, none⟩) H.length cap', .int .i64 0]) ∧ Hid (Hu.HullOf ps H e0) ∧ Rd 2 w' (Option.some ⟨g, 0, none⟩) (H.map ptrow) ∧ Below w.heap.size w w' := by
  have h3 : 3 ≤ n ∧ n ≤ 10 := by have := (Pl.ok_parts hok.out).1; have := hn.out; omega
  obtain ⟨b, off, rfl, _⟩ := hA.at_ 0 (by rw [List.length_map, ← hn.out]; omega)
  have HA := Lib.hid hA
  have HP : Hid (ps.any (fun p => !Pl.isP p) = false) := by
    show _ = _
    rw [List.any_eq_false]
    intro x hx
    rw [List.all_eq_true.1 (Pl.ok_parts hok.out).2.1 x hx]; simp
  obtain ⟨N, rfl⟩ : ∃ N, n = N + 1 := ⟨n - 1, by omega⟩
  clear hA
  go_enter Try.func16, Try.ntmps16
  go_wp2_with fail
  have HC := Lib.hid (cfPtH _ ps (N + 1) cap _ HA.out hn (by omega))
  rw [HP.out] at HC
  refine HC.out.mono ?_
  rintro e w1 ⟨rfl, hb1⟩
  go_wp2_with fail
  refine (cloneGW b off (N + 1) cap ps _ (HA.out.below hb1 (Nat.le_refl _)) hn (by omega)).mono ?_
  rintro e w2 ⟨g, cg, rfl, hG, hb2⟩
  have hB2 := hb1.trans (hb2.mono hb1.size)
  have hz2 := hB2.size
  have hz21 := hb2.size
  go_wp2_with fail
  have hS := sortFW w1.heap.size g cg ps w2 (by rw [← hn.out]; exact hG) (by rw [← hn.out]; omega)
  rw [← hn.out] at hS
  refine hS.mono ?_
  rintro e w3 ⟨rfl, L, hp, hs, hG3, hb3, _⟩
  clear hS hG
  have hB3 := hB2.trans (hb3.mono hb1.size)
  obtain ⟨hpw, hm⟩ := sorted_u hok.out hp hs
  have hLn : L.length = N + 1 := by rw [hp.length_eq, ← hn.out]
  have hHull := Lib.hid (Hu.hull_of hok.out hm hpw (by omega))
  obtain ⟨A', m, hAm⟩ : ∃ A m, L = A ++ [m] := ⟨L.dropLast, L.getLast (by intro h; rw [h] at hLn; simp at hLn), (List.dropLast_concat_getLast _).symm⟩
  subst hAm
  have hAn : A'.length = N := by simp at hLn; exact hLn
  obtain ⟨q, A2, rfl⟩ : ∃ q A2, A' = q :: A2 := by
    cases A' with
    | nil => simp at hAn; omega
    | cons q A2 => exact ⟨q, A2, rfl⟩
  have hPall : ∀ x, x ∈ q :: A2 ++ [m] → Pl.isP x = true := fun x hx => List.all_eq_true.1 (Pl.ok_parts hok.out).2.1 x ((hm x).1 hx)
  have HPA := Lib.hid hPall
  obtain ⟨R1, hR1⟩ : ∃ R1, (q :: A2 ++ [m]).foldl Hu.push [] = m :: R1 := ⟨Hu.pop m ((q :: A2).foldl Hu.push []), by rw [List.foldl_append]; rfl⟩
  obtain ⟨R2, hR2⟩ : ∃ R2, (q :: A2).reverse.foldl Hu.push [m] = q :: R2 := ⟨Hu.pop q (A2.reverse.foldl Hu.push [m]), by rw [List.reverse_cons, List.foldl_append]; rfl⟩
  have hHL : Hu.hullL (q :: A2 ++ [m]) = R1.reverse ++ R2.reverse := by
    have e1 : Hu.lower (q :: A2 ++ [m]) = m :: R1 := hR1
    have e2 : Hu.upper (q :: A2 ++ [m]) = q :: R2 := by
      unfold Hu.upper
      rw [List.dropLast_concat, show (q :: A2 ++ [m]).getLastD (0, 0) = m by rw [List.getLastD_eq_getLast?, List.getLast?_concat]; rfl, hR2]
    unfold Hu.hullL
    rw [e1, e2]; rfl
  have hR1n : R1.length ≤ N := by
    have := half_len (q :: A2 ++ [m]) []
    rw [hR1] at this
    simp at this hAn; omega
  rw [hHL] at hHull
  have HR1 := Lib.hid hR1
  have HR2 := Lib.hid hR2
  have HAN := Lib.hid hAn
  have hgl := hG3.lt
  have hcg := (gro_n hG3).2
  have hG3' := hG3.alloc (.cells #[.slice none 0 0] 22)
  have hb4 := hB3.alloc hB3.size (.cells #[.slice none 0 0] 22)
  have o4 := Own.new' (w := w3) (b := w3.heap.size) #[.slice none 0 0] 22 rfl rfl
  have hz3 := hB3.size
  clear hp hs hpw hm hHL hR1 hR2 hPall hAn hLn hb1 hb2 hb3 hB2 hB3
  go_wp2_with fail
  refine (halfW w3.heap.size g 0 (N + 1) cg (w3.heap.size + 1) [] [] (q :: A2 ++ [m]) (.slice none 0 0) _ (gro_rd hG3') (by show N + 1 = _; have := HAN.out; simp at *; omega) rfl o4 (Gro.nil _ _ _ _) (by omega) (by simp) (by omega) (by simp [Hid, Value.ownBlock]) (by simp; omega) (fun x hx => HPA.out x (by simpa using hx)) (by show _ ≤ 40; have := HAN.out; simp at *; omega)).mono ?_
  rintro e w5 ⟨rfl, v1, hv1, hg1, hb5⟩
  rw [HR1.out, List.nil_append] at hg1
  have hG5 := gro_keep hG3' hb5 hgl.2
  have hB5 := hb4.trans (hb5.mono hz3)
  have hz5 := hb5.size
  rw [World.size_alloc] at hz5
  obtain ⟨g1, c1, rfl, hg1l⟩ := gro_some hg1 (by simp)
  have hl1 : ((m :: R1).reverse.map ptrow).length = R1.length + 1 := by simp
  rw [hl1] at hg1 hv1
  clear o4 hG3' hb4 hb5
  have HV1 := Lib.hid hv1
  have HG1 := Lib.hid hg1
  have HG5 := Lib.hid hG5
  obtain ⟨l0, c0, f0⟩ := hv1
  clear hg1 hG5 hG3
  have hNc : N ≤ cg := by omega
  go_wp2_with fail
  have hGA := gro_pop HG5.out
  rw [HAN.out] at hGA
  refine (cloneGW g 0 N cg (q :: A2) _ (gro_rd hGA) (Lib.hid HAN.out.symm) (by omega)).mono ?_
  rintro e w6 ⟨g2, cg2, rfl, hG6, hb6⟩
  have hz6 := hb6.size
  have v6 := HV1.out.below hb6 HV1.out.lt
  have G16 := gro_keep HG1.out hb6 hg1l
  have hB6 := hB5.trans (hb6.mono (by omega))
  have hg2 := hG6.lt
  clear hGA HG5 HG1 HV1 hB5 hb6 l0 c0 f0
  have HV6 := Lib.hid v6
  obtain ⟨l0, c0, f0⟩ := v6
  go_wp2_with fail
  have hRv := revW w5.heap.size g2 cg2 (q :: A2) w6 (by rw [HAN.out]; exact hG6) (by rw [HAN.out]; omega)
  rw [HAN.out] at hRv
  refine hRv.mono ?_
  rintro e w7 ⟨rfl, hG7, hb7, _⟩
  have hz7 := hb7.size
  have v7 := HV6.out.below hb7 (by omega)
  have G17 := gro_keep G16 hb7 hg1l
  have hB7 := hB6.trans (hb7.mono (by omega))
  clear hRv hG6 G16 HV6 hB6 hb7 l0 c0 f0
  have HV7 := Lib.hid v7
  have hG7' := Lib.hid hG7
  have HG17 := Lib.hid G17
  obtain ⟨l0, c0, f0⟩ := v7
  clear hG7 G17
  go_wp2_with fail
  refine (halfW w3.heap.size g2 R1.length N cg2 (w3.heap.size + 1) R1.reverse [m] (q :: A2).reverse (.slice (Option.some ⟨g1, 0, none⟩) (R1.length + 1) c1) _ (gro_rd hG7'.out) (by show N = _; have := HAN.out; simp at *; omega) (by show _ = _; simp) HV7.out (by have := HG17.out; simpa using this) (by omega) (by omega) (by omega) (by simp [Hid, Value.ownBlock]; omega) (by omega) (fun x hx => ?_) (by show _ ≤ 40; have := HAN.out; simp at *; omega)).mono ?_
  · refine HPA.out x ?_
    rcases hx with hx | hx | hx
    · have h1 : x ∈ (q :: A2 ++ [m]).foldl Hu.push [] := by rw [HR1.out]; exact List.mem_cons_of_mem _ (by simpa using hx)
      rcases half_mem _ _ _ h1 with h | h
      · cases h
      · exact h
    · rw [List.mem_singleton.1 hx]; simp
    · exact List.mem_append_left _ (List.mem_reverse.1 hx)
  rintro e w8 ⟨rfl, v2, hv2, hg8, hb8⟩
  rw [HR2.out, show R1.reverse ++ (q :: R2).reverse = (R1.reverse ++ R2.reverse) ++ [q] by simp] at hg8
  have hB8 := hB7.trans (hb8.mono (by omega))
  obtain ⟨g3, c3, rfl, hg3l⟩ := gro_some hg8 (by simp; omega)
  have hM3 := Hu.n3 hHull.out hok.out
  have hMp := Hu.len_ps hHull.out hok.out
  obtain ⟨HH, hHH⟩ : ∃ HH, R1.reverse ++ R2.reverse = HH := ⟨_, rfl⟩
  rw [hHH] at hHull hg8 hv2 hM3 hMp
  obtain ⟨M, hM⟩ : ∃ M, HH.length = M := ⟨_, rfl⟩
  have hl2 : ((HH ++ [q]).map ptrow).length = M + 1 := by simp [hM]
  rw [hl2] at hg8 hv2
  rw [hM] at hM3 hMp
  have hM10 : M ≤ 10 := by have := hn.out; omega
  have hMc : M ≤ c3 := by have := (gro_n hg8).2; omega
  have hG8 := Lib.hid hg8
  have hV8 := Lib.hid hv2
  have HM := Lib.hid hM
  clear hg8 hb8 hB7 hHH hl2 hM hMp HV7 HG17 hG7' l0 c0 f0
  obtain ⟨l0, c0, f0⟩ := hv2
  have hmx : max (0 : Int) (M : Int) = (M : Int) := by omega
  go_wp2
  go_ret2
  have hGf := (gro_pop hG8.out).setCell (a := ⟨w3.heap.size, 0, none⟩) (by show w3.heap.size < _; omega) (.slice (Option.some ⟨g3, 0, none⟩) M c3)
  exact ⟨g3, c3, HH, _, by rw [HM.out]; rfl, hHull, gro_rd hGf, hB8.setCell hz3 _⟩
end Go.Proofs.Ytgmhelclofnpkaa
