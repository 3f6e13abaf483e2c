/- Discord: laws of appends and maps, plain disputes, leaf walks. -/
import Derived.Test.YtgmhelclofnpkaaGen
import Derived.Test.YtgmhelclofnpkaaKa
import Derived.ArgAppend
import Derived.OneCell
import Derived.OwnWalk
import Derived.Maps.AppendAt
import Derived.Test.YtgmhelclofnpkaaKit
import Derived.Test.YtgmhelclofnpkaaProg
import Derived.Maps.RangeWalk
import Derived.Maps.OwnSet
import Derived.DeepKeys4
import Derived.Test.YtgmhelclofnpkaaQk
import Derived.Test.YtgmhelclofnpkaaUm
import Derived.Laws.Bits64b
import Derived.Deep.LoopGhost
import Derived.Deep.DeepCutAuto
import Derived.Outline
namespace Go.Proofs.Ytgmhelclofnpkaa
open Go.RowKit

theorem flatten_inv {sz : Nat} (h0 : 0 < sz) : ∀ (rows : List (List Value)), (∀ r ∈ rows, r.length = sz) → ∀ (k : Nat) (v : Value), rows.flatten[k]? = some v → ∃ r, rows[k / sz]? = some r ∧ r[k % sz]? = some v
  | [], _, k, v, h => by simp at h
  | a :: rows, hl, k, v, h => by
    have ha := hl a (List.mem_cons_self ..)
    rw [List.flatten_cons] at h
    by_cases hk : k < sz
    · rw [List.getElem?_append_left (by omega)] at h
      exact ⟨a, by rw [Nat.div_eq_of_lt hk]; rfl, by rw [Nat.mod_eq_of_lt hk]; exact h⟩
    · rw [List.getElem?_append_right (by omega), ha] at h
      obtain ⟨r, h1, h2⟩ := flatten_inv h0 rows (fun x hx => hl x (List.mem_cons_of_mem _ hx)) (k - sz) v h
      refine ⟨r, ?_, ?_⟩
      · rw [Nat.div_eq_sub_div h0 (by omega), List.getElem?_cons_succ]; exact h1
      · rw [Nat.mod_eq_sub_mod (by omega)]; exact h2
theorem Rd.news {sz : Nat} {w : World} {A : Option Addr} {rows : List (List Value)} (h : Rd sz w A rows) (h0 : 0 < sz) (hl : ∀ r ∈ rows, r.length = sz) (hn : 0 < rows.length) :
    ∃ ad, A = some ad ∧ ∀ j u, rows.flatten[j]? = some u → w.cell? (ad.add j) = some u := by
  obtain ⟨b, off, rfl, hb, hc⟩ := h.at_ 0 hn
  refine ⟨_, rfl, fun j u hj => ?_⟩
  obtain ⟨r, h1, h2⟩ := flatten_inv h0 rows hl j u hj
  have := hc _ _ h1 _ _ h2
  rw [Addr.add_lit, ← this, Nat.add_assoc]
  congr 3
  rw [Nat.mul_comm, Nat.div_add_mod]
theorem flatten_len {sz : Nat} : ∀ {rows : List (List Value)}, (∀ r ∈ rows, r.length = sz) → rows.flatten.length = rows.length * sz
  | [], _ => by simp
  | a :: rows, h => by
    rw [List.flatten_cons, List.length_append, flatten_len fun r hr => h r (List.mem_cons_of_mem _ hr), h a (List.mem_cons_self ..), List.length_cons, Nat.add_mul]; omega
theorem ownsRow_base {w : World} {base base' e size n : Nat} {v : Value} {xs : List Value} (h : w.ownsRow base e size v n xs) (hb : base' ≤ base) : w.ownsRow base' e size v n xs := by
  obtain ⟨h1, h2⟩ := h
  refine ⟨h1, ?_⟩
  rcases h2 with h2 | ⟨g, cap, cur, hv, hg, r⟩
  · exact Or.inl h2
  · exact Or.inr ⟨g, cap, cur, hv, by omega, r⟩
theorem Gro.base {w : World} {base base' e sz : Nat} {v : Value} {rows : List (List Value)} (h : Gro w base e sz v rows) (hb : base' ≤ base) : Gro w base' e sz v rows := ⟨h.1, ownsRow_base h.2 hb⟩

section
variable {P : Program} {ops : Array Oper} {Q : Exit → Act → World → Prop} {K : Act → World → Prop}
/-- An empty slice is made. -/
theorem step_empty {o : Oper} {a : Act} {w : World} (hgd : o.guard = none) (t e : TypeId) (size base : Nat) (ho : o.op = Op.buildSlice t 0 #[]) (ht : P.underlying t = some (.slice e)) (i : TypeInfo) (hi : P.info? e = some i) (hb : base ≤ w.heap.size)
    (h : ∀ g w', Gro w' base e size (.slice (some ⟨g, 0, none⟩) 0 0) [] → Below w.heap.size w w' → K (a.put o.dst (.slice (some ⟨g, 0, none⟩) 0 0)) w') : wpHead P ops Q K a w [o] := by
  have hw : Region.wanted o (yielded ops a.tmps) = true := by simp [Region.wanted, hgd]
  simp only [wpHead]
  rw [if_pos hw]
  have hr : (Instr.buildSlice t 0 #[]).run P w = .ok (.slice (some ⟨w.heap.size, 0, none⟩) 0 0) (w.alloc (.cells #[] e)) := by
    simp [Instr.buildSlice, run_underlying ht, sizeOf, typeInfo, hi, Instr.fill, newRow]
    have e0 : Array.map (fun _ => (default : Value)) (Array.range 0) = #[] := by simp [Array.eq_empty_iff_size_eq_zero]
    rw [e0]
  have h' := h w.heap.size _ ⟨fun r hr => (by cases hr), World.ownsRow_made (e := e) (size := size) w #[] 0 hb (by unfold maxLen; omega) (by simp)⟩ ((Below.refl _ _).alloc (Nat.le_refl _) _)
  unfold Oper.wp execOp
  simp only [ho]
  simp [hr, Result.andThen]
  exact h'

/-- A whole slice is appended to an empty one. -/
theorem step_fill {o : Oper} {a : Act} {w : World} (hgd : o.guard = none) (s x : Operand) (t : TypeId) (ho : o.op = Op.call { callee := Callee.builtin Builtin.append, args := #[s, x], argTypes := #[t, t] })
    (base : Nat) (e : TypeId) (i : TypeInfo) (z : Value) (size bytes : Nat) (ht : P.underlying t = some (.slice e)) (hi : P.info? e = some i) (hz : i.zero = some z) (hsize : i.size = size) (hby : i.bytes = bytes) (hzs : z.cells.size = size) (hsz : 0 < size)
    (g : Nat) (hs : a.eval s = .slice (some ⟨g, 0, none⟩) 0 0) (hown : Gro w base e size (.slice (some ⟨g, 0, none⟩) 0 0) []) (hb : base ≤ w.heap.size)
    (A : Option Addr) (n c : Nat) (rows : List (List Value)) (hx : a.eval x = .slice A n c) (hn : n = rows.length) (hR : Rd size w A rows) (hl : ∀ r ∈ rows, r.length = size) (hm : n ≤ maxLen) (h47 : n * bytes ≤ 140737488355328)
    (h : ∀ v' w', Gro w' base e size v' rows → Below w.heap.size w w' → K (a.put o.dst v') w') : wpHead P ops Q K a w [o] := by
  have hw : Region.wanted o (yielded ops a.tmps) = true := by simp [Region.wanted, hgd]
  simp only [wpHead]
  rw [if_pos hw]
  rcases Nat.eq_zero_or_pos n with h0 | h0
  · have hr : (Builtin.append_ #[t, t] o.type #[.slice (some ⟨g, 0, none⟩) 0 0, .slice A 0 c]).run P w = .ok (.slice (some ⟨g, 0, none⟩) 0 0) w := by
      cases A <;> simp [Builtin.append_, run_underlying ht, sizeOf, typeInfo, hi, Builtin.lenOf, Builtin.firstCells, storeCells, loadCells, loadCellsFrom]
    subst h0
    obtain rfl : rows = [] := List.eq_nil_of_length_eq_zero hn.symm
    unfold Oper.wp execOp
    simp only [ho, resolve, invoke, builtin, Sem.run_bind, Sem.run_pure, Result.andThen_ok, List.map_toArray, List.map_cons, List.map_nil, hs, hx, hr]
    exact h _ _ hown (Below.refl _ _)
  · obtain ⟨ad, rfl, hc⟩ := hR.news hsz hl (by omega)
    obtain ⟨v', w', hr, r1, r2⟩ := run_append_arg_grows (P := P) w t o.type e i z size bytes ht hi hz hsize hby hzs hsz ⟨g, 0, none⟩ 0 0 [] (by simp) (fun j u hj => by simp at hj) ad n c rows.flatten (by rw [flatten_len hl, hn]) hc (by omega) (by omega) (by rw [Nat.zero_add]; exact h47)
    unfold Oper.wp execOp
    simp only [ho, resolve, invoke, builtin, Sem.run_bind, Sem.run_pure, Result.andThen_ok, List.map_toArray, List.map_cons, List.map_nil, hs, hx, hr]
    refine h _ _ ⟨hl, ?_⟩ ((Below.refl _ _).grown r2 (Nat.le_refl _) (fun _ e => by cases e))
    rw [← hn]
    have := ownsRow_base r1 hb
    simpa using this
end
theorem Gro.some {w : World} {base e sz : Nat} {v : Value} {rows : List (List Value)} (k : Gro w base e sz v rows) (h : 0 < rows.length) : ∃ g cap, v = .slice (some ⟨g, 0, none⟩) rows.length cap := by
  rcases k.2.2 with ⟨_, h2⟩ | ⟨g2, cap2, cur2, hv, hb, h2, _⟩
  · omega
  · exact ⟨g2, cap2, hv⟩
theorem wpList_fill {P : Program} {ops : Array Oper} {rest : List Oper} {Q : Exit → Act → World → Prop} {o : Oper} {a : Act} {w : World} (hgd : o.guard = none) (s x : Operand) (t : TypeId) (ho : o.op = Op.call { callee := Callee.builtin Builtin.append, args := #[s, x], argTypes := #[t, t] })
    (base : Nat) (e : TypeId) (i : TypeInfo) (z : Value) (size bytes : Nat) (ht : P.underlying t = some (.slice e)) (hi : P.info? e = some i) (hz : i.zero = some z) (hsize : i.size = size) (hby : i.bytes = bytes) (hzs : z.cells.size = size) (hsz : 0 < size)
    (g : Nat) (hs : a.eval s = .slice (some ⟨g, 0, none⟩) 0 0) (hown : Gro w base e size (.slice (some ⟨g, 0, none⟩) 0 0) []) (hb : base ≤ w.heap.size)
    (A : Option Addr) (n c : Nat) (rows : List (List Value)) (hx : a.eval x = .slice A n c) (hn : n = rows.length) (hR : Rd size w A rows) (hl : ∀ r ∈ rows, r.length = size) (hone : ∀ u ∈ rows.flatten, u.oneCell' = true) (hm : n ≤ maxLen) (h47 : n * bytes ≤ 140737488355328)
    (h : ∀ v' w', Gro w' base e size v' rows → Below w.heap.size w w' → wpList P ops Q rest (a.put o.dst v') w') : wpList P ops Q (o :: rest) a w := by
  refine wpList_plain hgd fun K hK => ?_
  rcases Nat.eq_zero_or_pos n with h0 | h0
  · have hr : (Builtin.append_ #[t, t] o.type #[.slice (some ⟨g, 0, none⟩) 0 0, .slice A 0 c]).run P w = .ok (.slice (some ⟨g, 0, none⟩) 0 0) w := by
      cases A <;> simp [Builtin.append_, run_underlying ht, sizeOf, typeInfo, hi, Builtin.lenOf, Builtin.firstCells, storeCells, loadCells, loadCellsFrom]
    subst h0
    obtain rfl : rows = [] := List.eq_nil_of_length_eq_zero hn.symm
    unfold Oper.wp execOp
    simp only [ho, resolve, invoke, builtin, Sem.run_bind, Sem.run_pure, Result.andThen_ok, List.map_toArray, List.map_cons, List.map_nil, hs, hx, hr]
    exact hK _ _ (h _ _ hown (Below.refl _ _))
  · obtain ⟨ad, rfl, hc⟩ := hR.news hsz hl (by omega)
    obtain ⟨v', w', hr, r1, r2⟩ := run_append_arg_grows (P := P) w t o.type e i z size bytes ht hi hz hsize hby hzs hsz ⟨g, 0, none⟩ 0 0 [] (by simp) (fun j u hj => by simp at hj) ad n c rows.flatten (by rw [flatten_len hl, hn]) hc (by omega) (by omega) (by rw [Nat.zero_add]; exact h47)
    unfold Oper.wp execOp
    simp only [ho, resolve, invoke, builtin, Sem.run_bind, Sem.run_pure, Result.andThen_ok, List.map_toArray, List.map_cons, List.map_nil, hs, hx, hr]
    refine hK _ _ (h _ _ ⟨hl, ?_⟩ ((Below.refl _ _).grown r2 (Nat.le_refl _) (fun _ e => by cases e)))
    rw [← hn]
    have := ownsRow_base r1 hb
    simpa using this
/-- A value is appended. -/
theorem step_push {P : Program} {ops : Array Oper} {Q : Exit → Act → World → Prop} {K : Act → World → Prop} {o : Oper} {a : Act} {w : World} (hgd : o.guard = none) {s x : Operand} {t : TypeId} (ho : o.op = Op.call { callee := Callee.builtin Builtin.append, args := #[s, x], argTypes := #[t, t] })
    {u y : Value} (hs : a.eval s = u) (hx : a.eval x = y) {v' : Value} {w' : World} (hr : (Builtin.append_ #[t, t] o.type #[u, y]).run P w = .ok v' w') (h : K (a.put o.dst v') w') : wpHead P ops Q K a w [o] := by
  have hw : Region.wanted o (yielded ops a.tmps) = true := by simp [Region.wanted, hgd]
  simp only [wpHead]
  rw [if_pos hw]
  unfold Oper.wp execOp
  simp only [ho, resolve, invoke, builtin, Sem.run_bind, Sem.run_pure, Result.andThen_ok, List.map_toArray, List.map_cons, List.map_nil, hs, hx, hr]
  exact h
theorem infPt : (Try.prog.info? 53).map (fun i => (i.zero, i.size, i.bytes)) = some (some (.agg #[.int .i64 0, .int .i64 0]), 2, 16) := by kernel_rfl
theorem ptrow_len {ps : List P2} : ∀ r ∈ ps.map ptrow, r.length = 2 := fun r hr => by obtain ⟨k, _, rfl⟩ := List.mem_map.1 hr; rfl
theorem ptrow_one {ps : List P2} : ∀ u ∈ (ps.map ptrow).flatten, u.oneCell' = true := fun u hu => by
  obtain ⟨r, hr, hu⟩ := List.mem_flatten.1 hu
  obtain ⟨k, _, rfl⟩ := List.mem_map.1 hr
  simp [ptrow] at hu
  rcases hu with rfl | rfl <;> rfl
/-- One more corner, appended to a slice without room. -/
theorem run_corner (W : World) (A : Option Addr) (n : Nat) (ps : List P2) (ty : TypeId) (hA : Rd 2 W A (ps.map ptrow)) (hn : n = ps.length) (hn8 : n ≤ 100) (h0 : A = none → n = 0) (g : Nat) (p : P2) (ho : Own W g [.int .i64 p.1, .int .i64 p.2]) :
    ∃ (g' cap : Nat) (W' : World), n + 1 ≤ cap ∧ (Builtin.append_ #[22, 22] ty #[.slice A n n, .slice (some ⟨g, 0, none⟩) 1 1]).run Try.prog W = .ok (.slice (some ⟨g', 0, none⟩) (n + 1) cap) W' ∧ W.heap.size ≤ g' ∧ Rd 2 W' (some ⟨g', 0, none⟩) ((ps ++ [p]).map ptrow) ∧ Below W.heap.size W W' := by
  obtain ⟨i, hi, hi1, hi2, hi3⟩ := info_parts infPt
  have hnews : ∀ j u, [Value.int .i64 p.1, .int .i64 p.2][j]? = some u → W.cell? ((⟨g, 0, none⟩ : Addr).add j) = some u := fun j u hu => by
    have : (⟨g, 0, none⟩ : Addr).add j = ⟨g, j, none⟩ := by unfold Addr.add; split <;> simp_all
    rw [this, ho.c, hu]
  have fin : ∀ v' W', W'.ownsRow W.heap.size 53 2 v' (n + 1) ((ps.map ptrow).flatten ++ [.int .i64 p.1, .int .i64 p.2]) → W.grownBy W' none → ∃ g' cap, v' = .slice (some ⟨g', 0, none⟩) (n + 1) cap ∧ n + 1 ≤ cap ∧ W.heap.size ≤ g' ∧ Rd 2 W' (some ⟨g', 0, none⟩) ((ps ++ [p]).map ptrow) ∧ Below W.heap.size W W' := by
    intro v' W' h1 h2
    have G : Gro W' W.heap.size 53 2 v' ((ps ++ [p]).map ptrow) := by
      refine ⟨ptrow_len, ?_⟩
      rw [List.map_append, List.flatten_append, List.length_append, List.length_map, ← hn]
      simpa [ptrow] using h1
    obtain ⟨g', cap, e⟩ := G.some (by simp)
    obtain ⟨A', cap', e2, R⟩ := G.out
    rw [e] at e2
    cases e2
    have hl : ((ps ++ [p]).map ptrow).length = n + 1 := by simp [hn]
    have hb2 : n + 1 ≤ cap ∧ W.heap.size ≤ g' := by
      rcases G.2.2 with ⟨h3, _⟩ | ⟨g2, cap2, cur2, hv, hb, _, hc, _⟩
      · rw [e] at h3; cases h3
      · rw [e] at hv; cases hv; exact ⟨by omega, hb⟩
    exact ⟨g', cap, by rw [e, hl], hb2.1, hb2.2, R, (Below.refl _ _).grown h2 (Nat.le_refl _) (fun _ e => by cases e)⟩
  cases A with
  | none =>
    have hz := h0 rfl
    subst hz
    obtain rfl : ps = [] := List.eq_nil_of_length_eq_zero hn.symm
    obtain ⟨v', W', r1, r2, r3, _⟩ := run_append_own_at (P := Try.prog) W W.heap.size 22 ty 53 i (.agg #[.int .i64 0, .int .i64 0]) 2 16 Try.underlying22 hi hi1 hi2 hi3 rfl (by decide) (.slice none 0 0) 0 [] (World.ownsRow_nil W _ _ _) ⟨g, 0, none⟩ 1 1 [.int .i64 p.1, .int .i64 p.2] rfl hnews (by intro u hu; simp at hu; rcases hu with rfl | rfl <;> rfl) (by unfold maxLen; omega) (by omega) (Nat.le_refl _)
    obtain ⟨g', cap, rfl, hc, k⟩ := fin v' W' (by simpa using r2) (by simpa [Value.ownBlock] using r3)
    exact ⟨g', cap, W', hc, r1, k⟩
  | some b =>
    have holds : ∀ j u, (ps.map ptrow).flatten[j]? = some u → W.cell? (b.add j) = some u := by
      rcases Nat.eq_zero_or_pos ps.length with e | e
      · obtain rfl : ps = [] := List.eq_nil_of_length_eq_zero e
        intro j u hj; simp at hj
      · obtain ⟨ad, e1, hc⟩ := hA.news (by decide) ptrow_len (by simpa using e)
        cases e1
        exact hc
    obtain ⟨v', W', r1, r2, r3⟩ := run_append_arg_grows (P := Try.prog) W 22 ty 53 i (.agg #[.int .i64 0, .int .i64 0]) 2 16 Try.underlying22 hi hi1 hi2 hi3 rfl (by decide) b n n (ps.map ptrow).flatten (by rw [flatten_len ptrow_len, List.length_map, hn]) holds ⟨g, 0, none⟩ 1 1 [.int .i64 p.1, .int .i64 p.2] rfl hnews (by omega) (by unfold maxLen; omega) (by omega)
    obtain ⟨g', cap, rfl, hc, k⟩ := fin v' W' r2 r3
    exact ⟨g', cap, W', hc, r1, k⟩
theorem gro_madeP {g base : Nat} (w : World) (hg : g = w.heap.size) (hb : base ≤ w.heap.size) : Gro (w.alloc (.cells #[] 53)) base 53 2 (.slice (some ⟨g, 0, none⟩) 0 0) [] := by
  subst hg
  exact ⟨fun r hr => (by cases hr), World.ownsRow_made (e := 53) (size := 2) w #[] 0 hb (by unfold maxLen; omega) (by simp)⟩
theorem sl_nil (b off n cap : Nat) (w : World) : (binOp .eql 22 (.slice (some ⟨b, off, none⟩) n cap) (.slice none 0 0)).run Try.prog w = .ok (.bool false) w := by kernel_rfl
theorem sl_nil' (w : World) : (binOp .eql 22 (.slice none 0 0) (.slice none 0 0)).run Try.prog w = .ok (.bool true) w := by kernel_rfl
set_option maxRecDepth 100000 in
set_option maxHeartbeats 4000000 in
theorem ClonePtW (b off n cap : Nat) (ps : List P2) (w : World) (hA : Rd 2 w (some ⟨b, off, none⟩) (ps.map ptrow)) (hn : Hid (n = ps.length)) (hk : 0 < n ∧ n ≤ 40) :
    Calls Try.prog 53 #[.slice (some ⟨b, off, none⟩) n cap] w fun e w' => ∃ g cap', e = .returned (.slice (some ⟨g, 0, none⟩) n cap') ∧ w.heap.size ≤ g ∧ Rd 2 w' (some ⟨g, 0, none⟩) (ps.map ptrow) ∧ Below w.heap.size w w' := by
  have HA := Lib.hid hA
  obtain ⟨i0, hi0, hi1, hi2, hi3⟩ := info_parts infPt
  have hql := fun w => sl_nil b off n cap w
  clear hA
  go_enter Try.func53, Try.ntmps53
  go_wp2_with (at_builtin; go_must (refine wpList_fill rfl _ _ 22 rfl w.heap.size 53 i0 (.agg #[.int .i64 0, .int .i64 0]) 2 16 Try.underlying22 hi0 hi1 hi2 hi3 rfl (by decide) w.heap.size rfl (gro_madeP _ rfl (Nat.le_refl _)) (by simp) (some ⟨b, off, none⟩) n cap (ps.map ptrow) rfl (by rw [List.length_map]; exact hn.out) (HA.out.below (B := w.heap.size) (by (repeat' (first | (with_reducible exact Below.refl _ _) | (with_reducible assumption) | (with_reducible refine Below.drew ?_) | (with_reducible refine below_drewN ?_ _) | (with_reducible refine Below.setCell ?_ ?_ _) | (with_reducible refine Below.alloc ?_ ?_ _) | (refine Below.trans ?_ (Below.mono (by with_reducible assumption) ?_)) | omega | (exact Below.size (by with_reducible assumption)) | (simp; done) | (simp; omega)))) (Nat.le_refl _)) ptrow_len ptrow_one (by unfold maxLen; omega) (by omega) ?_; intro v' w6 hg6 hb6; obtain ⟨g, cap', hv, hr6, hgl⟩ : ∃ g cap', v' = .slice (some ⟨g, 0, none⟩) n cap' ∧ Rd 2 w6 (some ⟨g, 0, none⟩) (ps.map ptrow) ∧ w.heap.size ≤ g := (by
    obtain ⟨g, cap', e1⟩ := hg6.some (by rw [List.length_map, ← hn.out]; exact hk.1)
    obtain ⟨A', c', e2, R⟩ := hg6.out
    rw [e1] at e2
    cases e2
    refine ⟨g, cap', by rw [e1, List.length_map, ← hn.out], R, ?_⟩
    rcases hg6.2.2 with ⟨h3, _⟩ | ⟨g2, cap2, cur2, hv, hb, _⟩
    · rw [e1] at h3; cases h3
    · rw [e1] at hv; cases hv; exact hb); subst hv; have hB6 : Below w.heap.size w w6 := (by (repeat' (first | (with_reducible exact Below.refl _ _) | (with_reducible assumption) | (with_reducible refine Below.drew ?_) | (with_reducible refine below_drewN ?_ _) | (with_reducible refine Below.setCell ?_ ?_ _) | (with_reducible refine Below.alloc ?_ ?_ _) | (refine Below.trans ?_ (Below.mono (by with_reducible assumption) ?_)) | omega | (exact Below.size (by with_reducible assumption)) | (simp; done) | (simp; omega)))); have hRR := Lib.hid hr6; clear hg6 hb6 hr6))
  go_ret
  exact ⟨g, cap', rfl, hgl, hRR.out, hB6⟩
end Go.Proofs.Ytgmhelclofnpkaa
namespace Go.Proofs.Ytgmhelclofnpkaa
open Go.RowKit Go.Maps Go.ChangeShapes Go.WideShapes Go.ChangeAt Go.WideMaps Go.WideElems

/-- How the keys of a type look. -/
structure KeyT (P : Program) (kt : TypeId) (K : Type) where
  val : K → Value
  wf : K → Prop
  keyed : Keyed P kt
  ok : ∀ x, wf x → (keyOf P kt (val x)).isSome = true
  inv : ∀ v l, keyOf P kt v = some l → ∃ x, wf x ∧ v = val x
  inj : ∀ x y, val x = val y → x = y
section
variable {P : Program} {kt et mt : TypeId} {K : Type} (T : KeyT P kt K)
noncomputable def KeyT.lit (x : K) : Lit := (keyOf P kt (T.val x)).getD (.bool false)
theorem KeyT.key {x : K} (h : T.wf x) : keyOf P kt (T.val x) = some (T.lit x) := by
  have := T.ok x h
  unfold KeyT.lit
  cases e : keyOf P kt (T.val x) with
  | none => rw [e] at this; cases this
  | some l => rfl
theorem KeyT.litInj {x y : K} (hx : T.wf x) (hy : T.wf y) (h : T.lit x = T.lit y) : x = y := by
  have a := T.key hx
  have b := T.key hy
  rw [← h] at b
  exact T.inj _ _ (T.keyed.inj a b)
attribute [irreducible] KeyT.lit
/-- An element as its own reading. -/
def heldR (v : Value) : Option (DataW Value × List MemPlace) := some (.held v, [])
def HoldsV (D : DataW Value) (F : K → Option Value) : Prop :=
  ∀ x, T.wf x → match F x with
    | none => Maps.has D (T.lit x) = false
    | some p => Maps.has D (T.lit x) = true ∧ ∀ z, D.atKey (T.lit x) z = .held p
/-- Block b is a map; n: a bound on how many. -/
def MapV (w : World) (b n : Nat) (F : K → Option Value) : Prop := ∃ D, w.ownsMap P kt heldR b n D ∧ HoldsV T D F
variable [DecidableEq K]
def updV (F : K → Option Value) (x : K) (v : Value) : K → Option Value := fun y => if y = x then some v else F y
theorem holdsV_put {D : DataW Value} {F : K → Option Value} (h : HoldsV T D F) (hD : IsMap D) {x : K} {v : Value} (hx : T.wf x) : HoldsV T (D.put (T.lit x) (.held v)) (updV F x v) := by
  have hk : WideAt.IsKeyLit (T.lit x) := T.keyed.key (T.key hx)
  intro y hy
  unfold updV
  by_cases e : y = x
  · rw [if_pos e]
    subst e
    exact ⟨has_put_same hD hk _, fun z => atKey_put_same hD hk _ z⟩
  · rw [if_neg e]
    have hne : T.lit y ≠ T.lit x := fun e' => e (T.litInj hy hx e')
    have := h y hy
    cases hf : F y with
    | none => rw [hf] at this; simpa [has_put_other hne] using this
    | some p => rw [hf] at this; exact ⟨by rw [has_put_other hne]; exact this.1, fun z => by rw [atKey_put_other hne]; exact this.2 z⟩
omit [DecidableEq K] in
theorem MapV.made (w : World) : MapV T (w.alloc (.map #[] 0)) w.heap.size 0 (fun _ => none) :=
  ⟨.map [], World.ownsMap_made w _ _ _, fun _ _ => rfl⟩
variable {T}
omit [DecidableEq K] in
theorem MapV.lt {w : World} {b n : Nat} {F : K → Option Value} (h : MapV T w b n F) : b < w.heap.size := by obtain ⟨D, h1, h2⟩ := h; exact h1.lt
omit [DecidableEq K] in
theorem MapV.kept {w w' : World} {row : Option Nat} {b n : Nat} {F : K → Option Value} (h : MapV T w b n F) (hg : w.grownBy w' row) (hne : some b ≠ row) : MapV T w' b n F := by
  obtain ⟨D, h1, h2⟩ := h; exact ⟨D, h1.kept hg hne, h2⟩
omit [DecidableEq K] in
theorem MapV.block {w w' : World} {b n : Nat} {F : K → Option Value} (h : MapV T w b n F) (k : w'.heap[b]? = w.heap[b]?) : MapV T w' b n F := by
  obtain ⟨D, ⟨es, clock, e1, e2⟩, h2⟩ := h
  exact ⟨D, ⟨es, clock, k.trans e1, e2⟩, h2⟩
omit [DecidableEq K] in
theorem MapV.below {w w' : World} {b n B : Nat} {F : K → Option Value} (h : MapV T w b n F) (k : Below B w w') (hb : b < B) : MapV T w' b n F := h.block (k.block b hb)
omit [DecidableEq K] in
theorem MapV.mono {w : World} {b n m : Nat} {F : K → Option Value} (h : MapV T w b n F) (hm : n ≤ m) : MapV T w b m F := by
  obtain ⟨D, h1, h2⟩ := h; exact ⟨D, h1.mono hm, h2⟩
/-- 'm[x] = v', as an equation on the operation's run. -/
theorem MapV.update {w : World} {b n : Nat} {F : K → Option Value} (h : MapV T w b n F) (ht : P.underlying mt = some (.map kt et)) (hn : n < 100000000000000) {x : K} (hx : T.wf x) (v : Value) :
    ∃ w', (Instr.mapUpdate mt (.map (some b)) (T.val x) v).run P w = .ok () w' ∧ MapV T w' b (n + 1) (updV F x v) ∧ w.grownBy w' (some b) ∧ w'.heap.size = w.heap.size := by
  obtain ⟨D, h1, h2⟩ := h
  have hlt := h1.lt
  obtain ⟨w', r1, r2, r3⟩ := h1.update T.keyed ht (by unfold maxLen; omega) (T.key hx) (val := v) (d := .held v) (ps := []) rfl
  refine ⟨w', r1, ⟨_, r2, holdsV_put T h2 h1.isMap hx⟩, r3, ?_⟩
  obtain ⟨es, clock, hb, F0, hs, rfl⟩ := h1
  obtain ⟨es', clock', hrun, _⟩ := Maps.fit_store (R' := heldR) T.keyed ht hb F0 (show es.size < maxLen from Nat.lt_of_le_of_lt hs (by unfold maxLen; omega)) (fun _ _ _ _ hz => hz) (T.key hx) (show heldR v = some (.held v, []) from rfl)
  rw [hrun] at r1
  cases r1
  simp [Go.ChangeMaps.setBlock]
omit [DecidableEq K] in
/-- 'm[x]'. -/
theorem MapV.look {w : World} {b n : Nat} {F : K → Option Value} (h : MapV T w b n F) (ht : P.underlying mt = some (.map kt et)) {z : Value} (hz : (zeroValue et).run P w = .ok z w) {x : K} (hx : T.wf x) :
    (Instr.lookup mt (.map (some b)) (T.val x) false).run P w = .ok ((F x).getD z) w := by
  obtain ⟨D, h1, h2⟩ := h
  obtain ⟨v, ps, r1, r2⟩ := h1.lookup T.keyed ht hz (show heldR z = some (.held z, []) from rfl) (T.key hx)
  rw [r1]
  have e1 : DataW.held v = D.atKey (T.lit x) (.held z) := congrArg Prod.fst (Option.some.inj r2)
  have := h2 x hx
  cases hf : F x with
  | none =>
    rw [hf] at this
    rw [atKey_of_not_has this] at e1
    cases e1; rfl
  | some p =>
    rw [hf] at this
    rw [this.2] at e1
    cases e1; rfl
omit [DecidableEq K] in
/-- 'len(m)' is 0 just if nothing is there. -/
theorem MapV.len {w : World} {b n : Nat} {F : K → Option Value} (h : MapV T w b n F) (ht : P.underlying mt = some (.map kt et)) : ∃ c : Nat, c ≤ n ∧ (∀ ty, (Builtin.len_ #[mt] ty #[.map (some b)]).run P w = .ok (.int .i64 (c : Int)) w) ∧ (c = 0 ↔ ∀ x, T.wf x → F x = none) := by
  obtain ⟨D, h1, h2⟩ := h
  refine ⟨Maps.size D, h1.size_le, fun ty => h1.len ht ty, ?_⟩
  obtain ⟨es, clock, hb, F0, hs, rfl⟩ := h1
  constructor
  · intro h0 x hx
    have := h2 x hx
    cases hf : F x with
    | none => rfl
    | some p =>
      rw [hf] at this
      exfalso
      have e := this.1
      have hl : ((es.toList.map (rg P kt heldR)).foldr DataW.insert []).length = 0 := h0
      rw [List.length_eq_zero_iff] at hl
      rw [hl] at e
      simp [Maps.has] at e
  · intro hno
    show ((es.toList.map (rg P kt heldR)).foldr DataW.insert []).length = 0
    rw [length_sorted]
    simp only [List.length_map, Array.length_toList]
    false_or_by_contra
    rename_i hne
    obtain ⟨x, hx⟩ : ∃ x, x ∈ es := ⟨es[0]'(by omega), by simp⟩
    obtain ⟨y, hy⟩ := F0.reads x (by simpa using hx)
    have hk := rd_key hy
    obtain ⟨k, hkw, e⟩ := T.inv _ _ hk
    have hl : y.1 = T.lit k := by rw [e, T.key hkw] at hk; exact (Option.some.inj hk).symm
    have h3 := h2 k hkw
    rw [hno k hkw] at h3
    have h4 : Maps.has (DataW.map ((es.toList.map (rg P kt heldR)).foldr DataW.insert [])) (rg P kt heldR x).1 = true :=
      List.any_eq_true.2 ⟨rg P kt heldR x, mem_sorted.2 (List.mem_map.2 ⟨x, by simpa using hx, rfl⟩), WideAt.sameKey_self (by rw [rg_of hy]; exact T.keyed.key (rd_key hy))⟩
    rw [rg_of hy, hl] at h4
    simp only at h3
    rw [h3] at h4
    cases h4
def RngV (T : KeyT P kt K) (w : World) (b r n : Nat) (F : K → Option Value) (left : K → Bool) (cnt : Nat) : Prop :=
  ∃ D leftL, w.ranges P kt heldR b r n D leftL cnt ∧ HoldsV T D F ∧ ∀ x, T.wf x → leftL (T.lit x) = left x
omit [DecidableEq K] in
theorem RngV.lt {w : World} {b r n cnt : Nat} {F : K → Option Value} {left : K → Bool} (h : RngV T w b r n F left cnt) : r < w.heap.size := by obtain ⟨D, l, h1, _⟩ := h; exact h1.lt
omit [DecidableEq K] in
theorem RngV.map {w : World} {b r n cnt : Nat} {F : K → Option Value} {left : K → Bool} (h : RngV T w b r n F left cnt) : MapV T w b n F := by obtain ⟨D, l, h1, h2, _⟩ := h; exact ⟨D, h1.owns, h2⟩
omit [DecidableEq K] in
theorem RngV.kept {w w' : World} {row : Option Nat} {b r n cnt : Nat} {F : K → Option Value} {left : K → Bool} (h : RngV T w b r n F left cnt) (hg : w.grownBy w' row) (hb : some b ≠ row) (hr : some r ≠ row) : RngV T w' b r n F left cnt := by
  obtain ⟨D, l, h1, h2⟩ := h; exact ⟨D, l, h1.kept hg hb hr, h2⟩
omit [DecidableEq K] in
theorem RngV.block {w w' : World} {b r n cnt : Nat} {F : K → Option Value} {left : K → Bool} (h : RngV T w b r n F left cnt) (k1 : w'.heap[b]? = w.heap[b]?) (k2 : w'.heap[r]? = w.heap[r]?) : RngV T w' b r n F left cnt := by
  obtain ⟨D, l, ⟨es, clock, since, seen, c0, e1, e2, e3, e4, e5, e6⟩, h2⟩ := h
  exact ⟨D, l, ⟨es, clock, since, seen, c0, k1.trans e1, e2, e3, e4, k2.trans e5, e6⟩, h2⟩
omit [DecidableEq K] in
theorem RngV.below {w w' : World} {b r n cnt B : Nat} {F : K → Option Value} {left : K → Bool} (h : RngV T w b r n F left cnt) (k : Below B w w') (hb : b < B) (hr : r < B) : RngV T w' b r n F left cnt := h.block (k.block b hb) (k.block r hr)
variable (w : World) {ops : Array Oper} {rest : List Oper} {o : Oper} {a : Act} {Q : Exit → Act → World → Prop}
omit [DecidableEq K] in
/-- 'range m'. -/
theorem wp_rangeV (T : KeyT P kt K) (hg : o.guard = none) (m : Operand) (t : TypeId) (hop : o.op = Op.range t m) (ht : P.underlying t = some (.map kt et)) (b n : Nat) (F : K → Option Value)
    (hm : a.eval m = .map (some b)) (hown : MapV T w b n F)
    (hK : ∀ w' cnt, RngV T w' b w.heap.size n F (fun x => (F x).isSome) cnt → Below w.heap.size w w' → w'.heap.size = w.heap.size + 1 → cnt ≤ n → wpList P ops Q rest (a.put o.dst (.pointer (some ⟨w.heap.size, 0, none⟩))) w') :
    wpList P ops Q (o :: rest) a w := by
  obtain ⟨D, h1, h2⟩ := hown
  refine wpList_range_own w hg m t hop kt et T.keyed ht heldR b n D hm h1 ?_
  intro w' h3 h4 h5
  refine hK w' _ ⟨D, _, h3, h2, fun x hx => ?_⟩ ((Below.refl _ _).grown h4 (Nat.le_refl _) (fun _ e => by cases e)) h5 h1.size_le
  show Maps.has D (T.lit x) = (F x).isSome
  have := h2 x hx
  cases hf : F x with
  | none => rw [hf] at this; exact this
  | some u => rw [hf] at this; exact this.1
set_option maxRecDepth 100000 in
/-- The step of such a range. -/
theorem wp_nextV (T : KeyT P kt K) (hg : o.guard = none) (it : Operand) (hop : o.op = Op.next it false) (b r n : Nat) (F : K → Option Value) (left : K → Bool) (cnt : Nat) (hit : a.eval it = .pointer (some ⟨r, 0, none⟩)) (h : RngV T w b r n F left cnt)
    (hDone : cnt = 0 → (∀ x, T.wf x → left x = false) → wpList P ops Q rest (a.put o.dst (.tuple #[.bool false])) w)
    (hMore : ∀ (x : K) (v : Value) (w' : World) (cnt' : Nat), T.wf x → left x = true → F x = some v → RngV T w' b r n F (fun z => left z && !decide (z = x)) cnt' → cnt' < cnt →
      w.grownBy w' (some r) → w'.heap.size = w.heap.size → (Instr.entry (.pointer (some ⟨r, 0, none⟩))).run P w' = .ok (.tuple #[T.val x, v]) w' → wpList P ops Q rest (a.put o.dst (.tuple #[.bool true, T.val x, v])) w') :
    wpList P ops Q (o :: rest) a w := by
  obtain ⟨D, l, h1, h2, h3⟩ := h
  refine wpList_next_ranges (α := Value) (β := Value) w hg it hop kt T.keyed heldR (fun v => v) (fun v => v) (fun key kl _ => ⟨key, rfl⟩) (fun v y _ => ⟨v, rfl⟩) b r n D l cnt hit h1 (fun e hl => hDone e fun x hx => by rw [← h3 x hx]; exact hl _) ?_
  intro key c kl y w' cnt' hkey hlk hv hat hrg hlt hgr hsz hen
  obtain ⟨x, hx, rfl⟩ := T.inv _ _ hkey
  have hkl : kl = T.lit x := by have := (T.key hx).symm.trans hkey; cases this; rfl
  subst hkl
  refine hMore x c w' cnt' hx (by rw [← h3 x hx]; exact hlk) ?_ ⟨D, _, hrg, h2, fun z hz => ?_⟩ hlt hgr hsz hen
  · have := h2 x hx
    have e2 : y.1 = .held c := by cases hv; rfl
    cases hf : F x with
    | none =>
      rw [hf] at this
      have e3 := (atKey_of_not_has this .nil).symm.trans (hat .nil)
      rw [e2] at e3
      cases e3
    | some p =>
      rw [hf] at this
      have e3 := (this.2 .nil).symm.trans (hat .nil)
      rw [e2] at e3
      cases e3; rfl
  · show (l (T.lit z) && !(T.lit z).sameKey (T.lit x)) = _
    rw [h3 z hz]
    congr 2
    by_cases e : z = x
    · subst e
      rw [decide_eq_true rfl]
      exact WideAt.sameKey_self (T.keyed.key (T.key hx))
    · rw [decide_eq_false e]; exact sameKey_ne (fun e' => e (T.litInj hz hx e'))
end
end Go.Proofs.Ytgmhelclofnpkaa
namespace Go.Proofs.Ytgmhelclofnpkaa
open Go.RowKit Go.Maps Go.ChangeShapes Go.WideShapes Go.ChangeAt Go.WideMaps Go.WideElems

theorem laidOutC : laidOutB Try.prog = true := by kernel_rfl
theorem sizeD : ∃ m, Try.prog.types.size = m + 1 + 1 := ⟨Try.prog.types.size - 2, by kernel_rfl⟩
theorem cellsInt : Try.prog.cellsOf 3 = 1 := by kernel_rfl
theorem cellsU : Try.prog.cellsOf 121 = 1 := by kernel_rfl
theorem litsI {m : Nat} {z : Int} (hz : (Lit.int .i64 z).wf = true) : Try.prog.keyLits (m + 1) 3 [.int .i64 z] = some [.int .i64 z] := by
  have hu := Try.underlying3
  unfold Program.keyLits
  rw [hu]
  simp [hz]
theorem litsU {m : Nat} {z : Int} (hz : (Lit.int .u64 z).wf = true) : Try.prog.keyLits (m + 1) 121 [.int .u64 z] = some [.int .u64 z] := by
  have hu := Try.underlying121
  unfold Program.keyLits
  rw [hu]
  simp [hz]
set_option maxRecDepth 100000 in
theorem invI {m : Nat} {z : Value} {ls : List Lit} (h : Try.prog.keyLits (m + 1) 3 [z] = some ls) : ∃ x, (Lit.int .i64 x).wf = true ∧ z = .int .i64 x := by
  have hu := Try.underlying3
  unfold Program.keyLits at h
  simp only [hu] at h
  cases z <;> simp at h
  obtain ⟨⟨rfl, hw⟩, _⟩ := h
  exact ⟨_, hw, rfl⟩
set_option maxRecDepth 100000 in
theorem invU {m : Nat} {z : Value} {ls : List Lit} (h : Try.prog.keyLits (m + 1) 121 [z] = some ls) : ∃ x : Nat, (Lit.int .u64 (x : Int)).wf = true ∧ z = .int .u64 (x : Int) := by
  have hu := Try.underlying121
  unfold Program.keyLits at h
  simp only [hu] at h
  cases z <;> simp at h
  rename_i q y
  obtain ⟨⟨rfl, hw⟩, _⟩ := h
  have hy : 0 ≤ y := by
    simp [Lit.wf] at hw
    have : IntKind.u64.min = 0 := by kernel_rfl
    omega
  obtain ⟨x, rfl⟩ := Int.eq_ofNat_of_zero_le hy
  exact ⟨x, hw, rfl⟩
abbrev kdV (x : Nat × Int) : Value := .agg #[.int .u64 ((x.1 : Nat) : Int), .int .i64 x.2]
theorem kdStruct : ∃ fs, Try.prog.underlying 164 = some (.struct fs) := ⟨_, Try.underlying164⟩
theorem kdCells : Try.prog.cellsOf 164 = 2 := by kernel_rfl
theorem kdFormed (x : Nat × Int) : (kdV x).formed Try.prog 164 = true := by
  obtain ⟨fs, hu⟩ := kdStruct
  simp [Value.formed, hu, kdCells]
theorem kdLits (x : Nat × Int) (h0 : (Lit.int .u64 (x.1 : Int)).wf = true) (h1 : (Lit.int .i64 (x.2 : Int)).wf = true) : ∃ ls, Try.prog.keyLits (Try.prog.types.size + 1) 164 [.int .u64 ((x.1 : Nat) : Int), .int .i64 x.2] = some ls := by
  obtain ⟨m, hm⟩ := sizeD
  refine ⟨[.int .u64 x.1, .int .i64 x.2], ?_⟩
  rw [hm]
  have hu := Try.underlying164
  unfold Program.keyLits
  rw [hu]
  simp [kdCells, cellsInt, cellsU, litsU h0, litsI h1]
set_option maxRecDepth 100000 in
theorem kdInv {key : Value} {kl : Lit} (h : keyOf Try.prog 164 key = some kl) : ∃ x : Nat × Int, ((Lit.int .u64 (x.1 : Int)).wf = true ∧ (Lit.int .i64 (x.2 : Int)).wf = true) ∧ key = kdV x := by
  have hu := Try.underlying164
  have hs : (keyOf Try.prog 164 key).isSome = true := by rw [h]; rfl
  clear h
  unfold keyOf at hs
  simp only [hu] at hs
  split at hs
  case isFalse => cases hs
  case isTrue hk =>
    rw [Bool.and_eq_true] at hk
    have hf := hk.2
    rw [Option.isSome_map] at hs
    obtain ⟨ls, hl⟩ := Option.isSome_iff_exists.1 hs
    have hc : ∃ c0 c1, key = .agg #[c0, c1] := by
      cases key <;> simp [Value.formed, hu, kdCells] at hf
      rename_i cs
      obtain ⟨l⟩ := cs
      match l, hf with
      | [c0, c1], _ => exact ⟨c0, c1, rfl⟩
    obtain ⟨c0, c1, rfl⟩ := hc
    obtain ⟨m, hm⟩ := sizeD
    have hl' : Try.prog.keyLits (m + 1 + 1 + 1) 164 [c0, c1] = some ls := by rw [← hm]; exact hl
    clear hl hs hk hf
    unfold Program.keyLits at hl'
    simp [hu, kdCells, cellsInt, cellsU] at hl'
    cases e0 : Try.prog.keyLits (m + 1 + 1) 121 [c0] with
    | none => rw [e0] at hl'; cases hl'
    | some l0 =>
      cases e1 : Try.prog.keyLits (m + 1 + 1) 3 [c1] with
      | none => rw [e0, e1] at hl'; cases hl'
      | some l1 =>
        obtain ⟨x, hx, rfl⟩ := invU e0
        obtain ⟨v, hv, rfl⟩ := invI e1
        exact ⟨(x, v), ⟨hx, hv⟩, rfl⟩
/-- The keys. -/
noncomputable def kdT : KeyT Try.prog 164 (Nat × Int) where
  val := kdV
  wf := fun x => (Lit.int .u64 (x.1 : Int)).wf = true ∧ (Lit.int .i64 (x.2 : Int)).wf = true
  keyed := Keyed.of_law (deep_law_laid laidOutC (m := 2) (by omega) (of_decide_eq_true (by kernel_rfl)) (by kernel_rfl) (by kernel_rfl))
  ok := fun x h => by
    obtain ⟨fs, hu⟩ := kdStruct
    obtain ⟨ls, hl⟩ := kdLits x h.1 h.2
    unfold keyOf
    rw [hu]
    have hk : Try.prog.keyType 164 = true := by kernel_rfl
    simp only [hk, kdFormed, Bool.and_self, if_true]
    show (Option.map _ (Try.prog.keyLits (Try.prog.types.size + 1) 164 [.int .u64 ((x.1 : Nat) : Int), .int .i64 x.2])).isSome = true
    rw [hl]; rfl
  inv := fun v l h => kdInv h
  inj := fun x y h => by
    simp at h
    ext <;> omega
abbrev stV (x : Nat × Nat × Int) : Value := .agg #[.int .u64 ((x.1 : Nat) : Int), .int .u64 ((x.2.1 : Nat) : Int), .int .i64 x.2.2]
theorem stStruct : ∃ fs, Try.prog.underlying 125 = some (.struct fs) := ⟨_, Try.underlying125⟩
theorem stCells : Try.prog.cellsOf 125 = 3 := by kernel_rfl
theorem stFormed (x : Nat × Nat × Int) : (stV x).formed Try.prog 125 = true := by
  obtain ⟨fs, hu⟩ := stStruct
  simp [Value.formed, hu, stCells]
theorem stLits (x : Nat × Nat × Int) (h0 : (Lit.int .u64 (x.1 : Int)).wf = true) (h1 : (Lit.int .u64 (x.2.1 : Int)).wf = true) (h2 : (Lit.int .i64 (x.2.2 : Int)).wf = true) : ∃ ls, Try.prog.keyLits (Try.prog.types.size + 1) 125 [.int .u64 ((x.1 : Nat) : Int), .int .u64 ((x.2.1 : Nat) : Int), .int .i64 x.2.2] = some ls := by
  obtain ⟨m, hm⟩ := sizeD
  refine ⟨[.int .u64 x.1, .int .u64 x.2.1, .int .i64 x.2.2], ?_⟩
  rw [hm]
  have hu := Try.underlying125
  have hf : Try.prog.keyLits (m + 1 + 1) 123 [.int .u64 ((x.1 : Nat) : Int), .int .u64 ((x.2.1 : Nat) : Int)] = some [.int .u64 x.1, .int .u64 x.2.1] := by
    have hu2 := Try.underlying123
    unfold Program.keyLits
    rw [hu2]
    simp [show Try.prog.cellsOf 123 = 2 by kernel_rfl, cellsU, litsU h0, litsU h1]
  unfold Program.keyLits
  rw [hu]
  simp [stCells, show Try.prog.cellsOf 123 = 2 by kernel_rfl, cellsInt, hf, litsI h2]
set_option maxRecDepth 100000 in
theorem stInv {key : Value} {kl : Lit} (h : keyOf Try.prog 125 key = some kl) : ∃ x : Nat × Nat × Int, ((Lit.int .u64 (x.1 : Int)).wf = true ∧ (Lit.int .u64 (x.2.1 : Int)).wf = true ∧ (Lit.int .i64 (x.2.2 : Int)).wf = true) ∧ key = stV x := by
  have hu := Try.underlying125
  have hs : (keyOf Try.prog 125 key).isSome = true := by rw [h]; rfl
  clear h
  unfold keyOf at hs
  simp only [hu] at hs
  split at hs
  case isFalse => cases hs
  case isTrue hk =>
    rw [Bool.and_eq_true] at hk
    have hf := hk.2
    rw [Option.isSome_map] at hs
    obtain ⟨ls, hl⟩ := Option.isSome_iff_exists.1 hs
    have hc : ∃ c0 c1 c2, key = .agg #[c0, c1, c2] := by
      cases key <;> simp [Value.formed, hu, stCells] at hf
      rename_i cs
      obtain ⟨l⟩ := cs
      match l, hf with
      | [c0, c1, c2], _ => exact ⟨c0, c1, c2, rfl⟩
    obtain ⟨c0, c1, c2, rfl⟩ := hc
    obtain ⟨m, hm⟩ := sizeD
    have hl' : Try.prog.keyLits (m + 1 + 1 + 1) 125 [c0, c1, c2] = some ls := by rw [← hm]; exact hl
    clear hl hs hk hf
    unfold Program.keyLits at hl'
    have cf : Try.prog.cellsOf 123 = 2 := by kernel_rfl
    simp [hu, stCells, cf, cellsInt] at hl'
    cases e0 : Try.prog.keyLits (m + 1 + 1) 123 [c0, c1] with
    | none => rw [e0] at hl'; cases hl'
    | some l0 =>
      cases e2 : Try.prog.keyLits (m + 1 + 1) 3 [c2] with
      | none => rw [e0, e2] at hl'; cases hl'
      | some l1 =>
        have hu2 := Try.underlying123
        unfold Program.keyLits at e0
        simp [hu2, cf, cellsU] at e0
        cases f0 : Try.prog.keyLits (m + 1) 121 [c0] with
        | none => rw [f0] at e0; cases e0
        | some k0 =>
          cases f1 : Try.prog.keyLits (m + 1) 121 [c1] with
          | none => rw [f0, f1] at e0; cases e0
          | some k1 =>
            obtain ⟨x, hx, rfl⟩ := invU f0
            obtain ⟨y, hy, rfl⟩ := invU f1
            obtain ⟨v, hv, rfl⟩ := invI e2
            exact ⟨(x, y, v), ⟨hx, hy, hv⟩, rfl⟩
/-- The keys. -/
noncomputable def stT : KeyT Try.prog 125 (Nat × Nat × Int) where
  val := stV
  wf := fun x => (Lit.int .u64 (x.1 : Int)).wf = true ∧ (Lit.int .u64 (x.2.1 : Int)).wf = true ∧ (Lit.int .i64 (x.2.2 : Int)).wf = true
  keyed := Keyed.of_law (deep_law_laid laidOutC (m := 3) (by omega) (of_decide_eq_true (by kernel_rfl)) (by kernel_rfl) (by kernel_rfl))
  ok := fun x h => by
    obtain ⟨fs, hu⟩ := stStruct
    obtain ⟨ls, hl⟩ := stLits x h.1 h.2.1 h.2.2
    unfold keyOf
    rw [hu]
    have hk : Try.prog.keyType 125 = true := by kernel_rfl
    simp only [hk, stFormed, Bool.and_self, if_true]
    show (Option.map _ (Try.prog.keyLits (Try.prog.types.size + 1) 125 [.int .u64 ((x.1 : Nat) : Int), .int .u64 ((x.2.1 : Nat) : Int), .int .i64 x.2.2])).isSome = true
    rw [hl]; rfl
  inv := fun v l h => stInv h
  inj := fun x y h => by
    simp at h
    ext <;> omega
end Go.Proofs.Ytgmhelclofnpkaa
namespace Go.Proofs.Ytgmhelclofnpkaa
open Go.RowKit

/-- A dispute. -/
structure Ds where
  P : List P2
  O : List Int
  u : Int
  h : Wh
  l : List Wk
namespace Dp
/-- The set of numbers below k of which p holds. -/
def maskTo (p : Nat → Bool) : Nat → Nat
  | 0 => 0
  | k + 1 => if p k = true then maskTo p k ||| 1 <<< k else maskTo p k
theorem mask_bit (p : Nat → Bool) (i : Nat) : ∀ k, (maskTo p k).testBit i = (decide (i < k) && p i)
  | 0 => by simp [maskTo]
  | k + 1 => by
    have ih := mask_bit p i k
    unfold maskTo
    by_cases hp : p k = true
    · rw [if_pos hp, Nat.testBit_or, ih, Nat.one_shiftLeft, Nat.testBit_two_pow]
      by_cases e : k = i
      · subst e; simp [hp]
      · have : (decide (i < k + 1)) = decide (i < k) := by rw [decide_eq_decide]; omega
        rw [this]; simp [e]
    · rw [if_neg hp, ih]
      by_cases e : k = i
      · subst e; simp [hp]
      · have : (decide (i < k + 1)) = decide (i < k) := by rw [decide_eq_decide]; omega
        rw [this]
theorem mask_lt (p : Nat → Bool) (k : Nat) : maskTo p k < 2 ^ k := Nat.lt_pow_two_of_testBit _ fun i hi => by
  rw [mask_bit]; simp; omega
theorem mask_congr {p q : Nat → Bool} : ∀ k, (∀ i, i < k → p i = q i) → maskTo p k = maskTo q k
  | 0, _ => rfl
  | k + 1, h => by
    unfold maskTo
    rw [mask_congr k (fun i hi => h i (by omega)), h k (by omega)]
theorem mask_0 {p : Nat → Bool} {k : Nat} : maskTo p k = 0 ↔ ∀ i, i < k → p i = false := by
  constructor
  · intro h i hi
    have := mask_bit p i k
    rw [h, Nat.zero_testBit] at this
    simpa [hi] using this.symm
  · intro h
    refine Nat.eq_of_testBit_eq fun i => ?_
    rw [mask_bit, Nat.zero_testBit]
    by_cases hi : i < k
    · rw [h i hi]; simp
    · simp [hi]
/-- How many numbers are in a set. -/
def pc (m : Nat) : Nat := ((List.range 8).filter (m.testBit ·)).length
def pcTo (m k : Nat) : Nat := ((List.range k).filter (m.testBit ·)).length
theorem pcTo_succ (m k : Nat) : pcTo m (k + 1) = if m.testBit k = true then pcTo m k + 1 else pcTo m k := by
  unfold pcTo
  rw [List.range_succ, List.filter_append, List.length_append]
  split <;> simp_all
theorem pcTo_le (m k : Nat) : pcTo m k ≤ k := by
  unfold pcTo
  exact Nat.le_trans (List.length_filter_le _ _) (by simp)
theorem pcTo_end {m k : Nat} (h : m / 2 ^ k = 0) : ∀ n, pcTo m (k + n) = pcTo m k
  | 0 => rfl
  | n + 1 => by
    rw [← Nat.add_assoc, pcTo_succ, pcTo_end h n]
    have : m.testBit (k + n) = false := by
      have hlt : m < 2 ^ k := by
        rcases Nat.lt_or_ge m (2 ^ k) with c | c
        · exact c
        · have := Nat.div_pos c (Nat.two_pow_pos k)
          omega
      exact Nat.testBit_lt_two_pow (Nat.lt_of_lt_of_le hlt (Nat.pow_le_pow_right (by decide) (by omega)))
    rw [this]; rfl
theorem pc_end {m k : Nat} (h : m / 2 ^ k = 0) (hk : k ≤ 8) : pcTo m k = pc m := by
  have := pcTo_end h (8 - k)
  rw [show k + (8 - k) = 8 by omega] at this
  exact this.symm
theorem pc_mask (p : Nat → Bool) {k : Nat} (hk : k ≤ 8) : pc (maskTo p k) = ((List.range k).filter p).length := by
  have key : ∀ n, pcTo (maskTo p k) (k + n) = ((List.range k).filter p).length := by
    intro n
    rw [pcTo_end (Nat.div_eq_of_lt (mask_lt p k)) n]
    unfold pcTo
    congr 1
    refine List.filter_congr fun i hi => ?_
    rw [mask_bit, decide_eq_true (List.mem_range.1 hi), Bool.true_and]
  have := key (8 - k)
  rw [show k + (8 - k) = 8 by omega] at this
  exact this
theorem pc_0 : pc 0 = 0 := by kernel_rfl
theorem pc_le (m : Nat) : pc m ≤ 8 := pcTo_le m 8
/-- A dispute is valid. -/
structure Ok (d : Ds) : Prop where
  ok : Pl.ok d.P = true
  six : d.P.length ≤ 6
  ol : d.O.length = d.P.length
  off : ∀ o ∈ d.O, 0 ≤ o ∧ o ≤ 2
  un : 1 ≤ d.u ∧ d.u ≤ 1000
  wh : WhV d.h d.l
def ar (d : Ds) (f : List P2) : Int := (max (Pl.area f) (-Pl.area f)).tdiv d.u
/-- Which corners are wrong. -/
def mk (d : Ds) (f : List P2) : Nat := maskTo (fun i => decide (Pl.at' f i ≠ Pl.at' d.P i)) f.length
def key (d : Ds) (f : List P2) : Nat × Int := (mk d f, ar d f)
/-- Which walks are wrong. -/
def wp (d : Ds) (a sk : Int) (i : Nat) : Bool := match d.l[i]? with
  | some x => !Wl.rightB d.h x (a, sk)
  | none => false
def wm (d : Ds) (a sk : Int) : Nat := maskTo (wp d a sk) d.l.length
def off (d : Ds) (i : Nat) : Int := d.O.getD i 0
def inOff (d : Ds) (i : Nat) (p : P2) : Prop := ((Pl.at' d.P i).1 - off d i ≤ p.1 ∧ p.1 ≤ (Pl.at' d.P i).1 + off d i) ∧ (Pl.at' d.P i).2 - off d i ≤ p.2 ∧ p.2 ≤ (Pl.at' d.P i).2 + off d i
/-- A field that begins with some corners. -/
def Box (d : Ds) (first f : List P2) : Prop := f.length = d.P.length ∧ f.take first.length = first ∧ ∀ i, first.length ≤ i → i < d.P.length → inOff d i (Pl.at' f i)
theorem box_full {d : Ds} {first f : List P2} (h : first.length = d.P.length) : Box d first f ↔ f = first := by
  constructor
  · rintro ⟨h1, h2, _⟩
    rw [← h2, List.take_of_length_le (by omega)]
  · rintro rfl
    exact ⟨h, by rw [List.take_length], fun i h1 h2 => by omega⟩
theorem take_at {f : List P2} {i : Nat} (h : i < f.length) : f.take (i + 1) = f.take i ++ [Pl.at' f i] := by
  rw [List.take_succ_eq_append_getElem h]
  simp [Pl.at', List.getD_eq_getElem?_getD, h]
theorem box_step {d : Ds} {first f : List P2} (h : first.length < d.P.length) : Box d first f ↔ ∃ p, inOff d first.length p ∧ Box d (first ++ [p]) f := by
  constructor
  · rintro ⟨h1, h2, h3⟩
    refine ⟨Pl.at' f first.length, h3 _ (Nat.le_refl _) h, h1, ?_, fun i hi hl => h3 i (by simp at hi; omega) hl⟩
    rw [List.length_append, List.length_singleton, take_at (by omega), h2]
  · rintro ⟨p, hp, h1, h2, h3⟩
    rw [List.length_append, List.length_singleton, take_at (by omega)] at h2
    obtain ⟨e1, e2⟩ := List.append_inj h2 (by simp; omega)
    refine ⟨h1, e1, fun i hi hl => ?_⟩
    by_cases e : i = first.length
    · subst e
      have : Pl.at' f first.length = p := by simpa using e2
      rw [this]; exact hp
    · exact h3 i (by simp; omega) hl
/-- Which of the first corners are wrong. -/
def mkF (d : Ds) (first : List P2) : Nat := mk d first
theorem mk_snoc (d : Ds) (first : List P2) (p : P2) : mk d (first ++ [p]) = if p ≠ Pl.at' d.P first.length then mk d first ||| 1 <<< first.length else mk d first := by
  unfold mk
  rw [List.length_append, List.length_singleton]
  have e : Pl.at' (first ++ [p]) first.length = p := by simp [Pl.at']
  have c : maskTo (fun i => decide (Pl.at' (first ++ [p]) i ≠ Pl.at' d.P i)) first.length = maskTo (fun i => decide (Pl.at' first i ≠ Pl.at' d.P i)) first.length := mask_congr _ fun i hi => by
    have : Pl.at' (first ++ [p]) i = Pl.at' first i := by simp [Pl.at', List.getElem?_append_left hi]
    rw [this]
  show (if decide (_ ≠ _) = true then _ else _) = _
  rw [c, e]
  by_cases hp : p ≠ Pl.at' d.P first.length
  · rw [if_pos hp, if_pos (decide_eq_true hp)]
  · rw [if_neg hp, if_neg (by simpa using hp)]
theorem ar_bd {d : Ds} (hu : 1 ≤ d.u ∧ d.u ≤ 1000) {f : List P2} (hf : Pl.ok f = true) : 0 ≤ ar d f ∧ ar d f ≤ 800000 := by
  have hb : f.all Pl.isP = true ∧ f.length ≤ 10 := by
    unfold Pl.ok at hf
    simp only [Bool.and_eq_true, btw_iff] at hf
    exact ⟨hf.1.2, by omega⟩
  have := Pl.sumTo_bd hb.1 f.length (Nat.le_refl _)
  have ha : 0 ≤ max (Pl.area f) (-Pl.area f) ∧ max (Pl.area f) (-Pl.area f) ≤ 800000 := by unfold Pl.area; omega
  unfold ar
  generalize max (Pl.area f) (-Pl.area f) = x at *
  rw [Int.tdiv_eq_ediv_of_nonneg ha.1]
  refine ⟨Int.ediv_nonneg ha.1 (by omega), Int.le_trans (Int.ediv_le_self _ ha.1) ha.2⟩
theorem mk_lt {d : Ds} {f : List P2} (h : f.length ≤ 8) : mk d f < 256 := Nat.lt_of_lt_of_le (mask_lt _ _) (Nat.pow_le_pow_right (by decide) h)
theorem wm_lt {d : Ds} (h : d.l.length ≤ 8) (a sk : Int) : wm d a sk < 256 := Nat.lt_of_lt_of_le (mask_lt _ _) (Nat.pow_le_pow_right (by decide) h)
theorem pc_wm {d : Ds} (h : d.l.length ≤ 8) (a sk : Int) : pc (wm d a sk) = Wl.wrongsN d.h d.l (a, sk) := by
  unfold wm
  rw [pc_mask _ h]
  unfold Wl.wrongsN
  have key : ∀ (l : List Wk) (q : Wk → Bool), ((List.range l.length).filter fun i => match l[i]? with | some x => q x | none => false).length = (l.filter q).length := by
    intro l q
    induction l with
    | nil => rfl
    | cons x l ih =>
      rw [List.length_cons, List.range_succ_eq_map, List.filter_cons, List.filter_cons, List.filter_map]
      have e : (List.filter ((fun i => match (x :: l)[i]? with | some x => q x | none => false) ∘ Nat.succ) (List.range l.length)).length = (l.filter q).length := by
        rw [← ih]; rfl
      cases hq : q x <;> simp [hq, e]
  exact key d.l fun x => !Wl.rightB d.h x (a, sk)
/-- The stories' keys. -/
def stK (d : Ds) (f : List P2) (sk : Int) : Nat × Nat × Int := (mk d f, wm d (ar d f) sk, ar d f)
def guess (d : Ds) (a : Int) : Prop := d.h.lo ≤ a ∧ a ≤ d.h.hi
def inSk (d : Ds) (sk : Int) : Prop := -d.h.skew ≤ sk ∧ sk ≤ d.h.skew
/-- A slice's cells are there, in a block that is not the block bm. -/
def Fld (w : World) (bm : Nat) (f : List P2) (v : Value) : Prop := ∃ b cap, v = .slice (some ⟨b, 0, none⟩) f.length cap ∧ b ≠ bm ∧ Rd 2 w (some ⟨b, 0, none⟩) (f.map ptrow)
/-- The kinds found of the fields of which S holds. -/
structure Found (d : Ds) (w : World) (bm : Nat) (F : Nat × Int → Option Value) (S : List P2 → Prop) : Prop where
  sound : ∀ z v, F z = some v → ∃ f, S f ∧ Pl.ok f = true ∧ z = key d f ∧ Fld w bm f v
  all : ∀ f, S f → Pl.ok f = true → (F (key d f)).isSome = true
/-- The stories found. -/
structure Told (d : Ds) (w : World) (G : Nat × Nat × Int → Option Value) : Prop where
  sound : ∀ s v, G s = some v → ∃ f sk b cap, Box d [] f ∧ Pl.ok f = true ∧ guess d (ar d f) ∧ inSk d sk ∧ s = stK d f sk ∧ v = .slice (some ⟨b, 0, none⟩) f.length cap ∧ Rd 2 w (some ⟨b, 0, none⟩) (f.map ptrow)
  all : ∀ f sk, Box d [] f → Pl.ok f = true → guess d (ar d f) → inSk d sk → (G (stK d f sk)).isSome = true
end Dp
end Go.Proofs.Ytgmhelclofnpkaa
namespace Go.Proofs.Ytgmhelclofnpkaa
open Go.RowKit

set_option maxHeartbeats 400000 in
theorem dwithinW (n lo hi : Int) (w : World) :
    Calls Try.prog 103 #[.int .i64 n, .int .i64 lo, .int .i64 hi] w fun e w' => e = .returned (.bool (btw n lo hi)) ∧ w = w' := by
  go_enter Try.func103, Try.ntmps103
  go_wp2
  all_goals go_ret
  · exact ⟨ret_bool (btw_t ‹_›).symm, rfl⟩
  · exact ⟨ret_bool (btw_f ‹_›).symm, rfl⟩
theorem dwithinB {n lo hi : Int} {b : Bool} (h : Hid (btw n lo hi = b)) (w : World) : Calls Try.prog 103 #[.int .i64 n, .int .i64 lo, .int .i64 hi] w fun e w' => e = .returned (.bool b) ∧ w = w' := cPB h.out (dwithinW n lo hi w)
theorem dwithinT {n lo hi : Int} (h : lo ≤ n ∧ n ≤ hi) (w : World) : Calls Try.prog 103 #[.int .i64 n, .int .i64 lo, .int .i64 hi] w fun e w' => e = .returned (.bool true) ∧ w = w' := cPB (by rw [btw_iff]; exact h) (dwithinW n lo hi w)
set_option maxHeartbeats 400000 in
theorem dCheck1W (n : Int) (w : World) (h : 0 ≤ n ∧ n ≤ 2) :
    Calls Try.prog 137 #[.int .i64 n] w fun e w' => e = .returned (.bool false) ∧ w = w' := by
  go_enter Try.func137, Try.ntmps137
  go_wp2_with fail
  refine (dwithinT h _).mono ?_
  rintro e w1 ⟨rfl, rfl⟩
  go_wp2
  go_ret
  exact ⟨rfl, rfl⟩
set_option maxHeartbeats 1000000 in
theorem dIfIntW (A1 : Option Addr) (E : List Int) (n1 cap1 : Nat) (w : World) (hA : RdI w A1 E) (hn : Hid (n1 = E.length)) (hn1 : n1 ≤ 1000) (hx : Hid (∀ x ∈ E, 0 ≤ x ∧ x ≤ 2)) :
    Calls Try.prog 153 #[.slice A1 n1 cap1, .func (.func 137) #[] #[]] w fun e w' => e = .returned (.int .i64 (-1)) ∧ Below w.heap.size w w' := by
  have HA := Lib.hid hA
  clear hA
  go_enter Try.func153, Try.ntmps153
  go_wp2
  go_loopw [8] (fun i wr => ∃ k : Nat, k ≤ n1 ∧ i = .int .i64 k ∧ Below w.heap.size w wr) (fun i _ => n1 - (RowKit.intOf i).toNat)
  case atStart => exact ⟨0, Nat.zero_le _, rfl, Below.refl _ _⟩
  case round =>
    obtain ⟨k, hk', rfl, hbw⟩ := hrel
    by_cases hlt : k < n1
    · obtain ⟨g, hg⟩ : ∃ g, Hid (E[k]? = some g) := ⟨E[k]'(by have := hn.out; omega), by simp [Hid]⟩
      obtain ⟨b, off, rfl, hb, hc0⟩ := RdI.elem (show RdI wr A1 E from HA.out.below hbw (Nat.le_refl _)) hg.out
      go_wp2_with fail
      refine (dCheck1W g _ (hx.out _ (List.mem_of_getElem? hg.out))).mono ?_
      rintro e w1 ⟨rfl, rfl⟩
      clear hc0 hb
      go_wp2
      go_roundw
      case rel => exact ⟨k + 1, by omega, by go_num, hbw⟩
      case measure => simp only [RowKit.intOf]; omega
    · go_wp2
      go_ret
      exact ⟨rfl, hbw⟩
set_option maxHeartbeats 1000000 in
theorem dCfIntW (A1 : Option Addr) (E : List Int) (n1 cap1 : Nat) (w : World) (hA : RdI w A1 E) (hn : Hid (n1 = E.length)) (hn1 : n1 ≤ 1000) (hx : Hid (∀ x ∈ E, 0 ≤ x ∧ x ≤ 2)) :
    Calls Try.prog 138 #[.slice A1 n1 cap1, .func (.func 137) #[] #[]] w fun e w' => e = .returned (.bool false) ∧ Below w.heap.size w w' := by
  have HI := Lib.hid (dIfIntW A1 E n1 cap1 w hA hn hn1 hx)
  clear hA
  go_enter Try.func138, Try.ntmps138
  go_wp2_with fail
  refine HI.out.mono ?_
  rintro e w1 ⟨rfl, hb1⟩
  go_wp2
  go_ret
  exact ⟨rfl, hb1⟩
theorem tmod2 {F : Int} (hF : 0 < F) (z : Int) : (z.tmod F + F).tmod F = z % F := by
  have h1 := Int.lt_tmod_of_pos z hF
  rw [Int.tmod_eq_emod_of_nonneg (a := z.tmod F + F) (by omega)]
  have h2 := Int.tmod_add_mul_tdiv z F
  have h3 : z = (z.tmod F + F) + F * (z.tdiv F - 1) := by rw [Int.mul_sub]; omega
  conv => rhs; rw [h3, Int.add_mul_emod_self_left]
theorem right_eq {h : Wh} {x : Wk} {a sk lo hi L : Int} (hF : 0 < h.full) (hL : L = x.en - x.st - Wl.rollV h x (a, sk)) (h1 : lo = Wl.lowV h x) (h2 : hi = Wl.highV h x) :
    decide (lo + ((L - lo).tmod h.full + h.full).tmod h.full ≤ hi) = Wl.rightB h x (a, sk) := by
  subst hL h1 h2
  unfold Wl.rightB Wl.turnsB
  rw [tmod2 hF, decide_eq_decide]
  omega
set_option maxRecDepth 100000 in
set_option maxHeartbeats 8000000 in
theorem disRightW (h : Wh) (x : Wk) (a sk : Int) (w : World) (hk : Wl.Ok h) (hx : Wl.OkK h x) (ha : 0 ≤ a ∧ a ≤ 9999) (hs : -20 ≤ sk ∧ sk ≤ 20) :
    Calls Try.prog 104 #[whV h, wkV x, .int .i64 a, .int .i64 sk] w fun e w' => e = .returned (.bool (Wl.rightB h x (a, sk))) ∧ Below w.heap.size w w' := by
  obtain ⟨L, hL⟩ : ∃ L, x.en - x.st - Wl.rollV h x (a, sk) = L := ⟨_, rfl⟩
  have hE := fun lo hi h1 h2 => right_eq (h := h) (x := x) (a := a) (sk := sk) (lo := lo) (hi := hi) (L := L) (by have := hk.full; omega) hL.symm h1 h2
  have HE := Lib.hid hE
  clear hE
  obtain ⟨full, read, slip, skew, circ, lo, hi, wrong⟩ := h
  obtain ⟨s, sd, ins, st, en⟩ := x
  have k1 := hk.full
  have k2 := hk.read
  have k3 := hk.slip
  have k5 := hk.circ
  obtain ⟨j1, j2, j3, j4, j5⟩ := hx
  simp only [Wl.rollV] at k1 k2 k3 k5 j1 j2 j3 j4 j5 hL
  have b1 : 0 ≤ ins * circ ∧ ins * circ ≤ 9999 := by
    rcases (show ins = 0 ∨ ins = 1 by omega) with rfl | rfl <;> omega
  have b2 : (-20 ≤ sd * sk ∧ sd * sk ≤ 20) := by rcases j2 with rfl | rfl <;> omega
  generalize hic : ins * circ = ic at *
  generalize hsk : sd * sk = ds at *
  have o0 : Own ((w.alloc (.cells #[.int .i64 full, .int .i64 read, .int .i64 slip, .int .i64 skew, .int .i64 circ, .int .i64 lo, .int .i64 hi, .int .i64 wrong] 34)).alloc (.cells #[.int .i64 s, .int .i64 sd, .int .i64 ins, .int .i64 st, .int .i64 en] 36)) w.heap.size [.int .i64 full, .int .i64 read, .int .i64 slip, .int .i64 skew, .int .i64 circ, .int .i64 lo, .int .i64 hi, .int .i64 wrong] := (Own.new' _ _ rfl rfl).alloc _
  have o1 : Own ((w.alloc (.cells #[.int .i64 full, .int .i64 read, .int .i64 slip, .int .i64 skew, .int .i64 circ, .int .i64 lo, .int .i64 hi, .int .i64 wrong] 34)).alloc (.cells #[.int .i64 s, .int .i64 sd, .int .i64 ins, .int .i64 st, .int .i64 en] 36)) (w.heap.size + 1) [.int .i64 s, .int .i64 sd, .int .i64 ins, .int .i64 st, .int .i64 en] := Own.new' _ _ (by simp) rfl
  have oB : Below w.heap.size w ((w.alloc (.cells #[.int .i64 full, .int .i64 read, .int .i64 slip, .int .i64 skew, .int .i64 circ, .int .i64 lo, .int .i64 hi, .int .i64 wrong] 34)).alloc (.cells #[.int .i64 s, .int .i64 sd, .int .i64 ins, .int .i64 st, .int .i64 en] 36)) := by (repeat' (first | (with_reducible exact Below.refl _ _) | (with_reducible assumption) | (with_reducible refine Below.drew ?_) | (with_reducible refine below_drewN ?_ _) | (with_reducible refine Below.setCell ?_ ?_ _) | (with_reducible refine Below.alloc ?_ ?_ _) | (refine Below.trans ?_ (Below.mono (by with_reducible assumption) ?_)) | omega | (exact Below.size (by with_reducible assumption)) | (simp; done) | (simp; omega)))
  have hf0 : ¬ full = 0 := by omega
  rcases j1 with rfl | rfl
  · have hLb : L = en - st - 1 * (a - ic) - ds := by omega
    have hLs : en - st - (a - ic) - ds = L := by omega
    have hLr : -40000 ≤ L ∧ L ≤ 40000 := by omega
    have hlow := HE.out (-2 * read - slip) (2 * read) (by simp [Wl.lowV]) (by simp [Wl.highV])
    have m1 := Int.lt_tmod_of_pos (L - (-2 * read - slip)) (show 0 < full by omega)
    have m2 := Int.tmod_lt_of_pos (L - (-2 * read - slip)) (show 0 < full by omega)
    obtain ⟨t1, ht1⟩ : ∃ t, (L - (-2 * read - slip)).tmod full = t := ⟨_, rfl⟩
    simp only at hlow
    rw [ht1] at m1 m2 hlow
    have m3 := Int.lt_tmod_of_pos (t1 + full) (show 0 < full by omega)
    have m4 := Int.tmod_lt_of_pos (t1 + full) (show 0 < full by omega)
    obtain ⟨t2, ht2⟩ : ∃ t, (t1 + full).tmod full = t := ⟨_, rfl⟩
    rw [ht2] at m3 m4 hlow
    have HLOW := Lib.hid hlow
    have w1 : IntKind.i64.wrap t1 = t1 := IntWalk.i64_in _ (by omega)
    have w2 : IntKind.i64.wrap t2 = t2 := IntWalk.i64_in _ (by omega)
    clear hL hlow HE j2 hLb
    have hx0 := Aft.cell o0
    have hx1 := Aft.cell o1
    have O0 := Lib.hid o0
    have O1 := Lib.hid o1
    clear o0 o1
    go_enter Try.func104, Try.ntmps104
    go_wp2
    refine wp_region_aft (by kernel_rfl) (by kernel_rfl) ?_; (repeat (go_big_quiet_step (fail))); refine wpQuiet_nil ?_; rintro w1 ⟨⟨_, hb1⟩, rfl⟩
    clear hx0 hx1
    have q0 := O0.out.below hb1 O0.out.lt
    have q1 := O1.out.below hb1 O1.out.lt
    have hB1 := oB.trans (hb1.mono oB.size)
    clear hb1 oB O0 O1
    have hx0 := Aft.cell q0
    obtain ⟨l0, c0, f0⟩ := q0
    obtain ⟨l1, c1, f1⟩ := q1
    go_wp2
    refine wp_region_aft (by kernel_rfl) (by kernel_rfl) ?_; (repeat (go_big_quiet_step (fail))); refine wpQuiet_nil ?_; rintro w2 ⟨⟨_, hb2⟩, rfl⟩
    go_wp2
    go_ret
    exact ⟨ret_bool HLOW.out, hB1.trans (hb2.mono hB1.size)⟩
  · have hLb : L = en - st - -1 * (a - ic) - ds := by omega
    have hLs : en - st + (a - ic) - ds = L := by omega
    have hLr : -40000 ≤ L ∧ L ≤ 40000 := by omega
    have hlow := HE.out (-2 * read) (2 * read + slip) (by simp [Wl.lowV]) (by simp [Wl.highV])
    have m1 := Int.lt_tmod_of_pos (L - (-2 * read)) (show 0 < full by omega)
    have m2 := Int.tmod_lt_of_pos (L - (-2 * read)) (show 0 < full by omega)
    obtain ⟨t1, ht1⟩ : ∃ t, (L - (-2 * read)).tmod full = t := ⟨_, rfl⟩
    simp only at hlow
    rw [ht1] at m1 m2 hlow
    have m3 := Int.lt_tmod_of_pos (t1 + full) (show 0 < full by omega)
    have m4 := Int.tmod_lt_of_pos (t1 + full) (show 0 < full by omega)
    obtain ⟨t2, ht2⟩ : ∃ t, (t1 + full).tmod full = t := ⟨_, rfl⟩
    rw [ht2] at m3 m4 hlow
    have HLOW := Lib.hid hlow
    have w1 : IntKind.i64.wrap t1 = t1 := IntWalk.i64_in _ (by omega)
    have w2 : IntKind.i64.wrap t2 = t2 := IntWalk.i64_in _ (by omega)
    clear hL hlow HE j2 hLb
    have hx0 := Aft.cell o0
    have hx1 := Aft.cell o1
    have O0 := Lib.hid o0
    have O1 := Lib.hid o1
    clear o0 o1
    go_enter Try.func104, Try.ntmps104
    go_wp2
    refine wp_region_aft (by kernel_rfl) (by kernel_rfl) ?_; (repeat (go_big_quiet_step (fail))); refine wpQuiet_nil ?_; rintro w1 ⟨⟨_, hb1⟩, rfl⟩
    clear hx0 hx1
    have q0 := O0.out.below hb1 O0.out.lt
    have q1 := O1.out.below hb1 O1.out.lt
    have hB1 := oB.trans (hb1.mono oB.size)
    clear hb1 oB O0 O1
    have hx0 := Aft.cell q0
    obtain ⟨l0, c0, f0⟩ := q0
    obtain ⟨l1, c1, f1⟩ := q1
    go_wp2
    refine wp_region_aft (by kernel_rfl) (by kernel_rfl) ?_; (repeat (go_big_quiet_step (fail))); refine wpQuiet_nil ?_; rintro w2 ⟨⟨_, hb2⟩, rfl⟩
    go_wp2
    go_ret
    exact ⟨ret_bool HLOW.out, hB1.trans (hb2.mono hB1.size)⟩
end Go.Proofs.Ytgmhelclofnpkaa
namespace Go.Proofs.Ytgmhelclofnpkaa
open Go.RowKit

theorem bit_test (m k : Nat) (hm : m < 8192) : (bits .and .u64 ((m : Int) / 2 ^ k) 1 == 1) = m.testBit k := by
  have e1 : (m : Int) / 2 ^ k = ((m / 2 ^ k : Nat) : Int) := by simp
  have e2 := bits_and_u64_nat (m / 2 ^ k) 1 (by have := Nat.div_le_self m (2 ^ k); omega) (by omega)
  rw [e1, show (1 : Int) = ((1 : Nat) : Int) by rfl, e2, Nat.testBit_eq_decide_div_mod_eq, Nat.and_one_is_mod]
  rw [Bool.eq_iff_iff]; simp; omega
theorem dinfo3 : (Try.prog.info? 3).map (fun i => (i.zero, i.size, i.bytes)) = some (some (.int .i64 0), 1, 8) := by kernel_rfl
theorem shr_0 {m k : Nat} (h : m / 2 ^ k = 0) : (m : Int) / 2 ^ k = 0 := by
  have : (m : Int) / 2 ^ k = ((m / 2 ^ k : Nat) : Int) := by simp
  rw [this, h]; rfl
theorem shr_n {m k : Nat} (h : m / 2 ^ k ≠ 0) : ((m : Int) / 2 ^ k != 0) = true := by
  have : (m : Int) / 2 ^ k = ((m / 2 ^ k : Nat) : Int) := by simp
  rw [this]; simp; omega
theorem div_0 {m : Nat} (hm : m < 256) : m / 2 ^ 8 = 0 := Nat.div_eq_of_lt hm
/-- The rows of the numbers below k. -/
def pcR (m k : Nat) : List (List Value) := ((List.range k).filter (m.testBit ·)).map fun i : Nat => irow (i : Int)
theorem pcR_len (m k : Nat) : (pcR m k).length = Dp.pcTo m k := by unfold pcR Dp.pcTo; rw [List.length_map]
theorem pcR_succ (m k : Nat) : pcR m (k + 1) = if m.testBit k = true then pcR m k ++ [irow (k : Int)] else pcR m k := by
  unfold pcR
  rw [List.range_succ, List.filter_append, List.map_append]
  split <;> simp_all
set_option maxRecDepth 100000 in
set_option maxHeartbeats 4000000 in
theorem dlistW (m : Nat) (w : World) (hm : m < 256) :
    Calls Try.prog 105 #[.int .u64 m] w fun e w' => ∃ (A : Option Addr) (cap : Nat), e = .returned (.slice A (Dp.pc m) cap) ∧ Below w.heap.size w w' := by
  obtain ⟨i0, hi0, hi1, hi2, hi3⟩ := info_parts dinfo3
  go_enter Try.func105, Try.ntmps105
  go_wp2_with fail
  go_loopg [3, 4] 8 (fun K out cnt wr => ∃ k : Nat, K + k = 8 ∧ cnt = .int .i64 k ∧ Gro wr w.heap.size 3 1 out (pcR m k) ∧ Below w.heap.size w wr)
  case atStart => exact ⟨0, rfl, rfl, Gro.nil _ _ _ _, Below.refl _ _⟩
  case round =>
    obtain ⟨k, hk, rfl, hg, hbw⟩ := hrel
    have hz : w.heap.size ≤ wr.heap.size := hbw.size
    have hk64 : (k : Int) ≤ 64 := by omega
    by_cases hlt : m / 2 ^ k = 0
    · have hq := shr_0 hlt
      have hfin := Lib.hid (Dp.pc_end hlt (by omega))
      obtain ⟨A', cap', rfl, hrd⟩ := hg.out
      clear hlt
      go_wp2
      go_ret
      refine ⟨A', cap', ?_, hbw⟩
      rw [pcR_len, hfin.out]; rfl
    · have hq := shr_n hlt
      have hk8 : k < 8 := by
        false_or_by_contra
        have : k = 8 := by omega
        subst this
        exact hlt (div_0 hm)
      have hl2 : (pcR m k).length ≤ k := by rw [pcR_len]; exact Dp.pcTo_le m k
      cases hb : m.testBit k
      · have ht := bit_test m k (by omega)
        rw [hb] at ht
        have hs : Hid (pcR m (k + 1) = pcR m k) := by show _ = _; rw [pcR_succ, hb]; rfl
        clear hlt
        go_wp2
        go_roundg (8 - (k + 1))
        case measure => omega
        case rel => exact ⟨k + 1, by omega, by go_num, by rw [hs.out]; exact hg, hbw⟩
      · have ht := bit_test m k (by omega)
        rw [hb] at ht
        have hs : Hid (pcR m (k + 1) = pcR m k ++ [irow (k : Int)]) := by show _ = _; rw [pcR_succ, hb]; rfl
        clear hlt
        go_wp2_with (at_builtin; refine wpList_append_own _ rfl _ _ 38 rfl (w.heap.size) 3 i0 (.int .i64 0) 1 8 Try.underlying38 hi0 hi1 hi2 hi3 rfl (by decide) _ _ _ rfl (hg.2.alloc _) ⟨wr.heap.size, 0, none⟩ 1 1 [.int .i64 k] rfl rfl (cell_one_new _ _ _) (by intro u hu; simp at hu; subst hu; rfl) (by unfold maxLen; omega) (by omega) (by simp; omega) ?_; intro v' w5 hown' hgrow hnil)
        have hbA : Below w.heap.size wr w5 := ((Below.refl _ wr).alloc hz _).grown hgrow (by simp; omega) (fun i hi => (hg.2.lt i hi).1)
        have q2 : Gro w5 w.heap.size 3 1 v' (pcR m k ++ [irow k]) := Gro.grown hg rfl hown'
        have q1 : Below w.heap.size w w5 := hbw.trans hbA
        clear hg hbw hown' hgrow hnil hbA ht
        go_wp2
        go_roundg (8 - (k + 1))
        case measure => omega
        case rel => exact ⟨k + 1, by omega, by go_num, by rw [hs.out]; exact q2, q1⟩
/-- How many faults. -/
def many (c w : Nat) : Int := ((Dp.pc c + Dp.pc w : Nat) : Int)
set_option maxRecDepth 100000 in
set_option maxHeartbeats 4000000 in
theorem dmanyW (c k : Nat) (w : World) (hc : c < 256) (hk : k < 256) :
    Calls Try.prog 73 #[.agg #[.int .u64 c, .int .u64 k]] w fun e w' => e = .returned (.int .i64 (many c k)) ∧ Below w.heap.size w w' := by
  have p1 := Dp.pc_le c
  have p2 := Dp.pc_le k
  have hm : (((Dp.pc c : Nat) : Int) + ((Dp.pc k : Nat) : Int)) = many c k := by unfold many; omega
  have hmb : 0 ≤ many c k ∧ many c k ≤ 16 := by omega
  have hmw : IntKind.i64.wrap (many c k) = many c k := IntWalk.i64_in _ (by omega)
  have o0 : Own (w.alloc (.cells #[.int .u64 c, .int .u64 k] 123)) w.heap.size [.int .u64 c, .int .u64 k] := Own.new' _ _ rfl rfl
  have oB : Below w.heap.size w (w.alloc (.cells #[.int .u64 c, .int .u64 k] 123)) := by (repeat' (first | (with_reducible exact Below.refl _ _) | (with_reducible assumption) | (with_reducible refine Below.drew ?_) | (with_reducible refine below_drewN ?_ _) | (with_reducible refine Below.setCell ?_ ?_ _) | (with_reducible refine Below.alloc ?_ ?_ _) | (refine Below.trans ?_ (Below.mono (by with_reducible assumption) ?_)) | omega | (exact Below.size (by with_reducible assumption)) | (simp; done) | (simp; omega)))
  have o1 := o0.drew
  have hB1 := oB.drew
  go_enter Try.func73, Try.ntmps73
  go_wp2
  refine rg_start (fun W => Own W w.heap.size [.int .u64 c, .int .u64 k]) 10 (by kernel_rfl) rfl ?_
  generalize World.drew _ = R0 at o1 hB1 ⊢
  clear o0 oB
  refine rg_take (fuel := 6) [0, 1, 4, 5] (by kernel_rfl) (by intro _ _ d _ _ h; first | (cases d <;> exact h) | (simp [Exit.then, Exit.inBlock, ownPostG] at h)) rfl (by kernel_rfl) (by kernel_rfl) o1 ?_; simp only [pickL, pick1, List.cons_append, List.nil_append]
  iterate 4 (refine wpTake_cons (v := ?_) (Or.inl ⟨by rfl, ?_⟩) ?_; rotate_left; (intro w' hSw; have yc := hSw.c; clear hSw; go_simp; (try with_reducible rfl)); (try simp only [Act.put, List.setIfInBounds_toArray, List.set_cons_zero, List.set_cons_succ]))
  refine wpTake_nil ?_
  refine rg_one (fuel := 5) 2 rfl (by kernel_rfl) (by kernel_rfl) ?_; simp only [pick1, wpHead]
  intro K' hK; rw [if_pos (by rfl)]; go_simp
  refine (dlistW c _ hc).mono ?_
  rintro e w1 ⟨A1, c1, rfl, hb1⟩
  have o2 := o1.below hb1 o1.lt
  have hB2 := hB1.trans (hb1.mono hB1.size)
  refine hK.out _ _ o2 ?_
  clear hK K'; (try simp only [Act.put, List.setIfInBounds_toArray, List.set_cons_zero, List.set_cons_succ])
  clear o1 hB1 hb1
  refine rg_take (fuel := 4) [3] (by kernel_rfl) (by intro _ _ d _ _ h; first | (cases d <;> exact h) | (simp [Exit.then, Exit.inBlock, ownPostG] at h)) rfl (by kernel_rfl) (by kernel_rfl) o2 ?_; simp only [pickL, pick1, List.cons_append, List.nil_append]
  (refine wpTake_cons (v := ?_) (Or.inl ⟨by rfl, ?_⟩) ?_; rotate_left; (intro w' hSw; go_simp; (try with_reducible rfl)); (try simp only [Act.put, List.setIfInBounds_toArray, List.set_cons_zero, List.set_cons_succ]))
  refine wpTake_nil ?_
  refine rg_one (fuel := 3) 6 rfl (by kernel_rfl) (by kernel_rfl) ?_; simp only [pick1, wpHead]
  intro K' hK; rw [if_pos (by rfl)]; go_simp
  refine (dlistW k _ hk).mono ?_
  rintro e w2 ⟨A2, c2, rfl, hb2⟩
  have o3 := o2.below hb2 o2.lt
  have hB3 := hB2.trans (hb2.mono hB2.size)
  refine hK.out _ _ o3 ?_
  clear hK K'; (try simp only [Act.put, List.setIfInBounds_toArray, List.set_cons_zero, List.set_cons_succ])
  clear o2 hB2 hb2
  refine rg_take (fuel := 0) [7, 8, 9] (by kernel_rfl) (by intro _ _ d _ _ h; first | (cases d <;> exact h) | (simp [Exit.then, Exit.inBlock, ownPostG] at h)) rfl (by kernel_rfl) (by kernel_rfl) o3 ?_; simp only [pickL, pick1, List.cons_append, List.nil_append]
  iterate 3 (refine wpTake_cons (v := ?_) (Or.inl ⟨by rfl, ?_⟩) ?_; rotate_left; (intro w' hSw; go_simp; (try with_reducible rfl)); (try simp only [Act.put, List.setIfInBounds_toArray, List.set_cons_zero, List.set_cons_succ]))
  refine wpTake_nil ?_
  refine rg_done (by kernel_rfl) ?_
  go_wp2
  go_ret
  exact ⟨rfl, hB3⟩
set_option maxHeartbeats 400000 in
theorem deveryW (s : Nat × Nat × Int) (w : World) : Calls Try.prog 72 #[stV s] w fun e w' => e = .returned (.bool true) ∧ Below w.heap.size w w' := by
  go_enter Try.func72, Try.ntmps72
  go_wp2
  go_ret
  exact ⟨rfl, by (repeat' (first | (with_reducible exact Below.refl _ _) | (with_reducible assumption) | (with_reducible refine Below.drew ?_) | (with_reducible refine below_drewN ?_ _) | (with_reducible refine Below.setCell ?_ ?_ _) | (with_reducible refine Below.alloc ?_ ?_ _) | (refine Below.trans ?_ (Below.mono (by with_reducible assumption) ?_)) | omega | (exact Below.size (by with_reducible assumption)) | (simp; done) | (simp; omega)))⟩
set_option maxHeartbeats 400000 in
theorem dMend1W (s : Nat × Nat × Int) (w : World) : Calls Try.prog 69 #[stV s] w fun e w' => e = .returned (.bool (decide (s.2.1 = 0))) ∧ Below w.heap.size w w' := by
  go_enter Try.func69, Try.ntmps69
  go_wp2
  go_ret
  exact ⟨ret_bool (by (first | rfl | (rw [Bool.eq_iff_iff]; simp; done) | (rw [Bool.eq_iff_iff]; simp; omega))), by (repeat' (first | (with_reducible exact Below.refl _ _) | (with_reducible assumption) | (with_reducible refine Below.drew ?_) | (with_reducible refine below_drewN ?_ _) | (with_reducible refine Below.setCell ?_ ?_ _) | (with_reducible refine Below.alloc ?_ ?_ _) | (refine Below.trans ?_ (Below.mono (by with_reducible assumption) ?_)) | omega | (exact Below.size (by with_reducible assumption)) | (simp; done) | (simp; omega)))⟩
set_option maxHeartbeats 400000 in
theorem dWalks1W (s : Nat × Nat × Int) (w : World) : Calls Try.prog 74 #[stV s] w fun e w' => e = .returned (.bool (decide (s.1 = 0))) ∧ Below w.heap.size w w' := by
  go_enter Try.func74, Try.ntmps74
  go_wp2
  go_ret
  exact ⟨ret_bool (by (first | rfl | (rw [Bool.eq_iff_iff]; simp; done) | (rw [Bool.eq_iff_iff]; simp; omega))), by (repeat' (first | (with_reducible exact Below.refl _ _) | (with_reducible assumption) | (with_reducible refine Below.drew ?_) | (with_reducible refine below_drewN ?_ _) | (with_reducible refine Below.setCell ?_ ?_ _) | (with_reducible refine Below.alloc ?_ ?_ _) | (refine Below.trans ?_ (Below.mono (by with_reducible assumption) ?_)) | omega | (exact Below.size (by with_reducible assumption)) | (simp; done) | (simp; omega)))⟩
end Go.Proofs.Ytgmhelclofnpkaa
