/- Walks: rows laid anew; Copy, plus, minus. -/
import Derived.Test.YtphcpphmoeiioaaKit
import Derived.Test.YtphcpphmoeiioaaWA
import Derived.ArgAppend
import Derived.OneCell
import Derived.Maps.AppendAt
import Derived.Test.YtphcpphmoeiioaaWR
namespace Go.Proofs.Ytphcpphmoeiioaa
open Go.RowKit

theorem flatten_inv {sz : Nat} (h0 : 0 < sz) : ∀ (rows : List (List Value)), (∀ r ∈ rows, r.length = sz) → ∀ (k : Nat) (v : Value), rows.flatten[k]? = some v → ∃ r, rows[k / sz]? = some r ∧ r[k % sz]? = some v
  | [], _, k, v, h => by simp at h
  | a :: rows, hl, k, v, h => by
    have ha := hl a (List.mem_cons_self ..)
    rw [List.flatten_cons] at h
    by_cases hk : k < sz
    · rw [List.getElem?_append_left (by omega)] at h
      exact ⟨a, by rw [Nat.div_eq_of_lt hk]; rfl, by rw [Nat.mod_eq_of_lt hk]; exact h⟩
    · rw [List.getElem?_append_right (by omega), ha] at h
      obtain ⟨r, h1, h2⟩ := flatten_inv h0 rows (fun x hx => hl x (List.mem_cons_of_mem _ hx)) (k - sz) v h
      refine ⟨r, ?_, ?_⟩
      · rw [Nat.div_eq_sub_div h0 (by omega), List.getElem?_cons_succ]; exact h1
      · rw [Nat.mod_eq_sub_mod (by omega)]; exact h2
theorem Rd.news {sz : Nat} {w : World} {A : Option Addr} {rows : List (List Value)} (h : Rd sz w A rows) (h0 : 0 < sz) (hl : ∀ r ∈ rows, r.length = sz) (hn : 0 < rows.length) :
    ∃ ad, A = some ad ∧ ∀ j u, rows.flatten[j]? = some u → w.cell? (ad.add j) = some u := by
  obtain ⟨b, off, rfl, hb, hc⟩ := h.at_ 0 hn
  refine ⟨_, rfl, fun j u hj => ?_⟩
  obtain ⟨r, h1, h2⟩ := flatten_inv h0 rows hl j u hj
  have := hc _ _ h1 _ _ h2
  rw [Addr.add_lit, ← this, Nat.add_assoc]
  congr 3
  rw [Nat.mul_comm, Nat.div_add_mod]
theorem flatten_len {sz : Nat} : ∀ {rows : List (List Value)}, (∀ r ∈ rows, r.length = sz) → rows.flatten.length = rows.length * sz
  | [], _ => by simp
  | a :: rows, h => by
    rw [List.flatten_cons, List.length_append, flatten_len fun r hr => h r (List.mem_cons_of_mem _ hr), h a (List.mem_cons_self ..), List.length_cons, Nat.add_mul]; omega
theorem ownsRow_base {w : World} {base base' e size n : Nat} {v : Value} {xs : List Value} (h : w.ownsRow base e size v n xs) (hb : base' ≤ base) : w.ownsRow base' e size v n xs := by
  obtain ⟨h1, h2⟩ := h
  refine ⟨h1, ?_⟩
  rcases h2 with h2 | ⟨g, cap, cur, hv, hg, r⟩
  · exact Or.inl h2
  · exact Or.inr ⟨g, cap, cur, hv, by omega, r⟩
theorem Gro.base {w : World} {base base' e sz : Nat} {v : Value} {rows : List (List Value)} (h : Gro w base e sz v rows) (hb : base' ≤ base) : Gro w base' e sz v rows := ⟨h.1, ownsRow_base h.2 hb⟩

theorem heap_setCell_cells {w : World} {b : Nat} {c : Array Value} {e : TypeId} {fr : Nat × Nat} (h : w.heap[b]? = some (.cells c e fr)) (j : Nat) (u : Value) : (w.setCell ⟨b, j, none⟩ u).heap[b]? = some (.cells (c.setIfInBounds j u) e fr) := by
  obtain ⟨hlt, hk⟩ := Array.getElem?_eq_some_iff.1 h
  show (w.heap.modify b _)[b]? = _
  rw [Array.getElem?_eq_getElem (by rw [Array.size_modify]; exact hlt), Array.getElem_modify_self, hk]
  rfl
theorem ownsRow_set {w : World} {base e size g n cap : Nat} {xs : List Value} (h : w.ownsRow base e size (.slice (some ⟨g, 0, none⟩) n cap) n xs) (j : Nat) (u : Value) (_ : j < n * size) : (w.setCell ⟨g, j, none⟩ u).ownsRow base e size (.slice (some ⟨g, 0, none⟩) n cap) n (xs.set j u) := by
  obtain ⟨h1, h2⟩ := h
  refine ⟨by rw [List.length_set]; exact h1, ?_⟩
  rcases h2 with ⟨h2, _⟩ | ⟨g', cap', cur, hv, hg, hh, a1, a2, a3, a4⟩
  · cases h2
  · cases hv
    refine Or.inr ⟨g, cap, cur.setIfInBounds j u, rfl, hg, heap_setCell_cells hh j u, a1, a2, by rw [Array.size_setIfInBounds]; exact a3, ?_⟩
    rw [Array.toList_setIfInBounds, List.take_set, a4]
theorem flatten_set {sz : Nat} : ∀ (rows : List (List Value)), (∀ r ∈ rows, r.length = sz) → ∀ (i c : Nat) (r : List Value) (u : Value), rows[i]? = some r → c < sz → rows.flatten.set (i * sz + c) u = (rows.set i (r.set c u)).flatten
  | [], _, i, c, r, u, h, _ => by simp at h
  | a :: rows, hl, 0, c, r, u, h, hc => by
    have ha := hl a (List.mem_cons_self ..)
    simp only [List.getElem?_cons_zero, Option.some.injEq] at h
    subst h
    rw [List.flatten_cons, Nat.zero_mul, Nat.zero_add, List.set_append_left _ _ (by omega)]; rfl
  | a :: rows, hl, i + 1, c, r, u, h, hc => by
    have ha := hl a (List.mem_cons_self ..)
    rw [List.getElem?_cons_succ] at h
    have ih := flatten_set rows (fun x hx => hl x (List.mem_cons_of_mem _ hx)) i c r u h hc
    rw [List.flatten_cons, List.set_append_right _ _ (by rw [ha, Nat.succ_mul]; omega), ha, show (i + 1) * sz + c - sz = i * sz + c by rw [Nat.succ_mul]; omega, ih]; rfl
/-- A cell of a row of one's own is written. -/
theorem Gro.set {w : World} {base e sz g n cap : Nat} {rows : List (List Value)} (h : Gro w base e sz (.slice (some ⟨g, 0, none⟩) n cap) rows) {i c : Nat} {r : List Value} (hi : rows[i]? = some r) (hc : c < sz) (u : Value) :
    Gro (w.setCell ⟨g, i * sz + c, none⟩ u) base e sz (.slice (some ⟨g, 0, none⟩) n cap) (rows.set i (r.set c u)) := by
  obtain ⟨hl, ho⟩ := h
  have hlt := (List.getElem?_eq_some_iff.1 hi).1
  have hn : n = rows.length := by
    rcases ho.2 with ⟨h2, _⟩ | ⟨g', cap', cur, hv, _⟩
    · cases h2
    · cases hv; rfl
  subst hn
  refine ⟨fun x hx => ?_, ?_⟩
  · rcases List.mem_or_eq_of_mem_set hx with hx | rfl
    · exact hl x hx
    · rw [List.length_set]; exact hl r (List.mem_of_getElem? hi)
  · rw [← flatten_set rows hl i c r u hi hc, List.length_set]
    refine ownsRow_set ho _ u ?_
    have : (i + 1) * sz ≤ rows.length * sz := Nat.mul_le_mul_right _ (by omega)
    rw [Nat.succ_mul] at this
    omega
/-- A cell of another row is written. -/
theorem Gro.setRow {w : World} {base e sz g : Nat} {v : Value} {rows : List (List Value)} (h : Gro w base e sz v rows) {j : Nat} (hne : v.ownBlock ≠ some g) (u : Value) : Gro (w.setCell ⟨g, j, none⟩ u) base e sz v rows := ⟨h.1, ownsRow_setCell_other h.2 hne u⟩
/-- Rows of two types lie apart. -/
theorem Gro.apart {w : World} {base e sz base' e' sz' g n cap : Nat} {v : Value} {rows rows' : List (List Value)} (h : Gro w base e sz v rows) (k : Gro w base' e' sz' (.slice (some ⟨g, 0, none⟩) n cap) rows') (hne : e ≠ e') : v.ownBlock ≠ some g := by
  rcases h.2.2 with ⟨rfl, _⟩ | ⟨g1, cap1, cur1, rfl, _, h1, _⟩
  · simp [Value.ownBlock]
  · rcases k.2.2 with ⟨h2, _⟩ | ⟨g2, cap2, cur2, hv, _, h2, _⟩
    · cases h2
    · cases hv
      simp only [Value.ownBlock]
      intro e
      cases e
      rw [h1] at h2
      cases h2
      exact hne rfl
theorem Gro.lt {w : World} {base e sz g n cap : Nat} {rows : List (List Value)} (k : Gro w base e sz (.slice (some ⟨g, 0, none⟩) n cap) rows) : base ≤ g ∧ g < w.heap.size := by
  rcases k.2.2 with ⟨h2, _⟩ | ⟨g2, cap2, cur2, hv, hb, h2, _⟩
  · cases h2
  · cases hv
    exact ⟨hb, (Array.getElem?_eq_some_iff.1 h2).1⟩
theorem Gro.free {w : World} {base e sz g n cap : Nat} {rows : List (List Value)} (k : Gro w base e sz (.slice (some ⟨g, 0, none⟩) n cap) rows) (j : Nat) : w.frozen? ⟨g, j, none⟩ = false := by
  rcases k.2.2 with ⟨h2, _⟩ | ⟨g2, cap2, cur2, hv, hb, h2, _⟩
  · cases h2
  · cases hv
    simp [World.frozen?, h2]
theorem Gro.cell {w : World} {base e sz g n cap : Nat} {rows : List (List Value)} (k : Gro w base e sz (.slice (some ⟨g, 0, none⟩) n cap) rows) {i c : Nat} {r : List Value} {u : Value} (hi : rows[i]? = some r) (hc : r[c]? = some u) : w.cell? ⟨g, i * sz + c, none⟩ = some u := by
  obtain ⟨A, cap', hv, hr⟩ := k.out
  cases hv
  obtain ⟨b, off, e, _, h⟩ := hr.elem hi
  cases e
  have := h c u hc
  rwa [Nat.zero_add] at this
/-- A row that is not empty lies at an address. -/
theorem Gro.some {w : World} {base e sz : Nat} {v : Value} {rows : List (List Value)} (k : Gro w base e sz v rows) (h : 0 < rows.length) : ∃ g cap, v = .slice (some ⟨g, 0, none⟩) rows.length cap := by
  rcases k.2.2 with ⟨_, h2⟩ | ⟨g2, cap2, cur2, hv, hb, h2, _⟩
  · omega
  · exact ⟨g2, cap2, hv⟩
theorem wpList_fill {P : Program} {ops : Array Oper} {rest : List Oper} {Q : Exit → Act → World → Prop} {o : Oper} {a : Act} {w : World} (hgd : o.guard = none) (s x : Operand) (t : TypeId) (ho : o.op = Op.call { callee := Callee.builtin Builtin.append, args := #[s, x], argTypes := #[t, t] })
    (base : Nat) (e : TypeId) (i : TypeInfo) (z : Value) (size bytes : Nat) (ht : P.underlying t = some (.slice e)) (hi : P.info? e = some i) (hz : i.zero = some z) (hsize : i.size = size) (hby : i.bytes = bytes) (hzs : z.cells.size = size) (hsz : 0 < size)
    (g : Nat) (hs : a.eval s = .slice (some ⟨g, 0, none⟩) 0 0) (hown : Gro w base e size (.slice (some ⟨g, 0, none⟩) 0 0) []) (hb : base ≤ w.heap.size)
    (A : Option Addr) (n c : Nat) (rows : List (List Value)) (hx : a.eval x = .slice A n c) (hn : n = rows.length) (hR : Rd size w A rows) (hl : ∀ r ∈ rows, r.length = size) (hone : ∀ u ∈ rows.flatten, u.oneCell' = true) (hm : n ≤ maxLen) (h47 : n * bytes ≤ 140737488355328)
    (h : ∀ v' w', Gro w' base e size v' rows → Below w.heap.size w w' → wpList P ops Q rest (a.put o.dst v') w') : wpList P ops Q (o :: rest) a w := by
  refine wpList_plain hgd fun K hK => ?_
  rcases Nat.eq_zero_or_pos n with h0 | h0
  · have hr : (Builtin.append_ #[t, t] o.type #[.slice (some ⟨g, 0, none⟩) 0 0, .slice A 0 c]).run P w = .ok (.slice (some ⟨g, 0, none⟩) 0 0) w := by
      cases A <;> simp [Builtin.append_, run_underlying ht, sizeOf, typeInfo, hi, Builtin.lenOf, Builtin.firstCells, storeCells, loadCells, loadCellsFrom]
    subst h0
    obtain rfl : rows = [] := List.eq_nil_of_length_eq_zero hn.symm
    unfold Oper.wp execOp
    simp only [ho, resolve, invoke, builtin, Sem.run_bind, Sem.run_pure, Result.andThen_ok, List.map_toArray, List.map_cons, List.map_nil, hs, hx, hr]
    exact hK _ _ (h _ _ hown (Below.refl _ _))
  · obtain ⟨ad, rfl, hc⟩ := hR.news hsz hl (by omega)
    obtain ⟨v', w', hr, r1, r2⟩ := run_append_arg_grows (P := P) w t o.type e i z size bytes ht hi hz hsize hby hzs hsz ⟨g, 0, none⟩ 0 0 [] (by simp) (fun j u hj => by simp at hj) ad n c rows.flatten (by rw [flatten_len hl, hn]) hc (by omega) (by omega) (by rw [Nat.zero_add]; exact h47)
    unfold Oper.wp execOp
    simp only [ho, resolve, invoke, builtin, Sem.run_bind, Sem.run_pure, Result.andThen_ok, List.map_toArray, List.map_cons, List.map_nil, hs, hx, hr]
    refine hK _ _ (h _ _ ⟨hl, ?_⟩ ((Below.refl _ _).grown r2 (Nat.le_refl _) (fun _ e => by cases e)))
    rw [← hn]
    have := ownsRow_base r1 hb
    simpa using this
end Go.Proofs.Ytphcpphmoeiioaa
namespace Go.Proofs.Ytphcpphmoeiioaa
open Go.RowKit Go.Maps

theorem inf51 : (Try.prog.info? 51).map (fun i => (i.zero, i.size, i.bytes)) = some (some (.agg #[.int .i64 0, .int .i64 0, .int .i64 0]), 3, 24) := by kernel_rfl
theorem krow_len {ks : List Kn} : ∀ r ∈ ks.map krow, r.length = 3 := fun r hr => by obtain ⟨k, _, rfl⟩ := List.mem_map.1 hr; rfl
theorem results_cell1 {P : Program} {fn : Func} {tmps : Array Value} {w : World} {a B t : Nat} {vs : List Value} (hr : fn.results = #[.cell a t]) (ha : tmps.getD a undef = .pointer (some ⟨B, 0, none⟩)) (ho : Own w B vs)
    (hagg : (isAgg t).run P w = .ok true w) (hsz : (sizeOf t).run P w = .ok vs.length w) : (results fn tmps).run P w = .ok (.agg vs.toArray) w := by
  have hl := loadCells_own (P := P) ho vs.length 0 #[] (by omega)
  have ha' : tmps[a]?.getD undef = .pointer (some ⟨B, 0, none⟩) := by simpa using ha
  simp [results, hr, go_sem, loadVar, hagg, hsz, loadCells, hl, ha', asAddr]
set_option maxHeartbeats 1000000 in
theorem minus33 (lo hi : Int) (w : World) (h1 : -100000 ≤ lo ∧ lo ≤ 100000) (h2 : -100000 ≤ hi ∧ hi ≤ 100000) :
    Calls Try.prog 33 #[.agg #[.int .i64 lo, .int .i64 hi]] w fun e w' => e = .returned (.agg #[.int .i64 (-hi), .int .i64 (-lo)]) ∧ Below w.heap.size w w' := by
  go_enter Try.func33, Try.ntmps33
  go_wp2
  (try simp only [Exit.inBlock, Exit.then])
  refine bodyPost_gen fun W hW => ?_
  have o1 : Own W (w.heap.size + 1) [.int .i64 (-hi), .int .i64 (-lo)] := by rw [hW]; first | exact Own.new' _ _ (by simp) rfl | exact (((Own.new' (w := w.alloc _) _ _ (by simp) rfl).set 0 (by simp) _).set 1 (by simp) _)
  have hB : Below w.heap.size w W := by rw [hW]; (repeat' (first | (with_reducible exact Below.refl _ _) | (with_reducible assumption) | (with_reducible refine Below.drew ?_) | (with_reducible refine below_drewN ?_ _) | (with_reducible refine Below.setCell ?_ ?_ _) | (with_reducible refine Below.alloc ?_ ?_ _) | (refine Below.trans ?_ (Below.mono (by with_reducible assumption) ?_)) | omega | (exact Below.size (by with_reducible assumption)) | (simp; done) | (simp; omega)))
  refine bodyPost_ret (results_cell1 (B := w.heap.size + 1) (vs := [.int .i64 (-hi), .int .i64 (-lo)]) rfl rfl o1 (by kernel_rfl) (by kernel_rfl)) rfl ?_
  exact ⟨rfl, hB⟩
set_option maxHeartbeats 1000000 in
theorem plus36 (lo hi n : Int) (w : World) (h1 : -100000 ≤ lo ∧ lo ≤ 100000) (h2 : -100000 ≤ hi ∧ hi ≤ 100000) (h3 : -100000 ≤ n ∧ n ≤ 100000) :
    Calls Try.prog 36 #[.agg #[.int .i64 lo, .int .i64 hi], .int .i64 n] w fun e w' => e = .returned (.agg #[.int .i64 (lo + n), .int .i64 (hi + n)]) ∧ Below w.heap.size w w' := by
  go_enter Try.func36, Try.ntmps36
  go_wp2
  (try simp only [Exit.inBlock, Exit.then])
  refine bodyPost_gen fun W hW => ?_
  have o1 : Own W (w.heap.size + 1) [.int .i64 (lo + n), .int .i64 (hi + n)] := by rw [hW]; first | exact Own.new' _ _ (by simp) rfl | exact (((Own.new' (w := w.alloc _) _ _ (by simp) rfl).set 0 (by simp) _).set 1 (by simp) _)
  have hB : Below w.heap.size w W := by rw [hW]; (repeat' (first | (with_reducible exact Below.refl _ _) | (with_reducible assumption) | (with_reducible refine Below.drew ?_) | (with_reducible refine below_drewN ?_ _) | (with_reducible refine Below.setCell ?_ ?_ _) | (with_reducible refine Below.alloc ?_ ?_ _) | (refine Below.trans ?_ (Below.mono (by with_reducible assumption) ?_)) | omega | (exact Below.size (by with_reducible assumption)) | (simp; done) | (simp; omega)))
  refine bodyPost_ret (results_cell1 (B := w.heap.size + 1) (vs := [.int .i64 (lo + n), .int .i64 (hi + n)]) rfl rfl o1 (by kernel_rfl) (by kernel_rfl)) rfl ?_
  exact ⟨rfl, hB⟩
theorem krow_one {ks : List Kn} : ∀ u ∈ (ks.map krow).flatten, u.oneCell' = true := fun u hu => by
  obtain ⟨r, hr, hu⟩ := List.mem_flatten.1 hu
  obtain ⟨k, _, rfl⟩ := List.mem_map.1 hr
  simp [krow] at hu
  rcases hu with rfl | rfl | rfl <;> rfl
theorem gro_made {g base : Nat} (w : World) (hg : g = w.heap.size) (hb : base ≤ w.heap.size) : Gro (w.alloc (.cells #[] 51)) base 51 3 (.slice (some ⟨g, 0, none⟩) 0 0) [] := by
  subst hg
  exact ⟨fun r hr => (by cases hr), World.ownsRow_made (e := 51) (size := 3) w #[] 0 hb (by unfold maxLen; omega) (by simp)⟩
theorem gro_ne {w : World} {base e sz b : Nat} {v : Value} {rows : List (List Value)} (h : Gro w base e sz v rows) (hb : b < base) : v.ownBlock ≠ some b := by
  rcases h.2.2 with ⟨rfl, _⟩ | ⟨g1, cap1, cur1, rfl, h1, _⟩
  · simp [Value.ownBlock]
  · simp only [Value.ownBlock]
    intro e
    cases e
    omega
set_option maxRecDepth 100000 in
set_option maxHeartbeats 4000000 in
theorem copy14 (L sl rl rh wg : Int) (A : Option Addr) (n cap : Nat) (ks : List Kn) (w : World) (hA : Rd 3 w A (ks.map krow)) (hn : Hid (n = ks.length)) (hk : n ≤ 40) :
    Calls Try.prog 14 #[.agg #[.int .i64 L, .int .i64 sl, .int .i64 rl, .int .i64 rh, .slice A n cap, .int .i64 wg]] w fun e w' => ∃ (A' : Option Addr) (cap' : Nat), e = .returned (.agg #[.int .i64 L, .int .i64 sl, .int .i64 rl, .int .i64 rh, .slice A' n cap', .int .i64 wg]) ∧ Gro w' w.heap.size 51 3 (.slice A' n cap') (ks.map krow) ∧ Below w.heap.size w w' := by
  have HA := Lib.hid hA
  obtain ⟨i0, hi0, hi1, hi2, hi3⟩ := info_parts inf51
  clear hA
  go_enter Try.func14, Try.ntmps14
  go_wp2_with (at_builtin; go_must (refine wpList_fill rfl _ _ 24 rfl (w.heap.size + 1 + 1 + 1) 51 i0 (.agg #[.int .i64 0, .int .i64 0, .int .i64 0]) 3 24 Try.underlying24 hi0 hi1 hi2 hi3 rfl (by decide) (w.heap.size + 1 + 1 + 1) rfl (gro_made _ (by simp) (by simp)) (by simp; try omega) A n cap (ks.map krow) rfl (by rw [List.length_map]; exact hn.out) (HA.out.below (B := w.heap.size) (by (repeat' (first | (with_reducible exact Below.refl _ _) | (with_reducible assumption) | (with_reducible refine Below.drew ?_) | (with_reducible refine below_drewN ?_ _) | (with_reducible refine Below.setCell ?_ ?_ _) | (with_reducible refine Below.alloc ?_ ?_ _) | (refine Below.trans ?_ (Below.mono (by with_reducible assumption) ?_)) | omega | (exact Below.size (by with_reducible assumption)) | (simp; done) | (simp; omega)))) (Nat.le_refl _)) krow_len krow_one (by unfold maxLen; omega) (by omega) ?_; intro v' w6 hg6 hb6; obtain ⟨A', cap', rfl⟩ : ∃ A' cap', v' = .slice A' n cap' := (by obtain ⟨A', cap', e1, _⟩ := hg6.out; exact ⟨A', cap', by rw [e1, hn.out]; simp⟩); have p1 : Own w6 (w.heap.size + 1) [.int .i64 0, .int .i64 0, .int .i64 0, .int .i64 0, .slice none 0 0, .int .i64 0] := Own.below (((Own.new' _ _ (by simp) rfl).alloc _).alloc _) hb6 (by simp; try omega); have p2 : Own w6 (w.heap.size + 1 + 1) [.int .i64 L, .int .i64 sl, .int .i64 rl, .int .i64 rh, .slice A n cap, .int .i64 wg] := Own.below ((Own.new' _ _ (by simp) rfl).alloc _) hb6 (by simp); have hB6 : Below w.heap.size w w6 := (by (repeat' (first | (with_reducible exact Below.refl _ _) | (with_reducible assumption) | (with_reducible refine Below.drew ?_) | (with_reducible refine below_drewN ?_ _) | (with_reducible refine Below.setCell ?_ ?_ _) | (with_reducible refine Below.alloc ?_ ?_ _) | (refine Below.trans ?_ (Below.mono (by with_reducible assumption) ?_)) | omega | (exact Below.size (by with_reducible assumption)) | (simp; done) | (simp; omega)))); have q1 := Lib.hid p1; have q2 := Lib.hid p2; obtain ⟨l1, c1, f1⟩ := p1; obtain ⟨l2, c2, f2⟩ := p2; have hgA := Lib.hid hg6; clear hg6 hb6))
  (try simp only [Exit.inBlock, Exit.then])
  refine bodyPost_gen fun W hW => ?_
  have o1 : Own W (w.heap.size + 1) [.int .i64 L, .int .i64 sl, .int .i64 rl, .int .i64 rh, .slice A' n cap', .int .i64 wg] := by
    rw [hW]
    exact own_set6 (q1.out.setOther (by simp) _) rfl _ _ _ _ _ _
  have hgW : Gro W w.heap.size 51 3 (.slice A' n cap') (ks.map krow) := by
    rw [hW]
    exact (((((((hgA.out.setRow (gro_ne hgA.out (by omega)) _).setRow (gro_ne hgA.out (by omega)) _).setRow (gro_ne hgA.out (by omega)) _).setRow (gro_ne hgA.out (by omega)) _).setRow (gro_ne hgA.out (by omega)) _).setRow (gro_ne hgA.out (by omega)) _).setRow (gro_ne hgA.out (by omega)) _).base (by omega)
  have hB : Below w.heap.size w W := by rw [hW]; (repeat' (first | (with_reducible exact Below.refl _ _) | (with_reducible assumption) | (with_reducible refine Below.drew ?_) | (with_reducible refine below_drewN ?_ _) | (with_reducible refine Below.setCell ?_ ?_ _) | (with_reducible refine Below.alloc ?_ ?_ _) | (refine Below.trans ?_ (Below.mono (by with_reducible assumption) ?_)) | omega | (exact Below.size (by with_reducible assumption)) | (simp; done) | (simp; omega)))
  refine bodyPost_ret (results_cell1 (B := w.heap.size + 1) (vs := [.int .i64 L, .int .i64 sl, .int .i64 rl, .int .i64 rh, .slice A' n cap', .int .i64 wg]) rfl rfl o1 (by kernel_rfl) (by kernel_rfl)) rfl ?_
  exact ⟨A', cap', rfl, hgW, hB⟩
end Go.Proofs.Ytphcpphmoeiioaa
