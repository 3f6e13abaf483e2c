/- Laws and walks: slices of slices; walks and counts of the reference. -/
import Derived.Test.YtibkgnnpmidgfaaDoorAx
import Derived.Test.YtibkgnnpmidgfaaDoorBkP
import Derived.Test.YtibkgnnpmidgfaaDoorDc
namespace Go.Proofs.YtibkgnnpmidgfaaDoor
open Go.RowKit

section
variable {P : Program} {ops : Array Oper} {Q : Exit → Act → World → Prop} {K : Act → World → Prop}
theorem run_append_nothing {w : World} (t ty e base size n : Nat) (i : TypeInfo) (ht : P.underlying t = some (.slice e)) (hi : P.info? e = some i) (v : Value) (xs : List Value) (hown : w.ownsRow base e size v n xs) (A : Option Addr) (c : Nat) :
    (Builtin.append_ #[t, t] ty #[v, .slice A 0 c]).run P w = .ok v w := by
  rcases hown.2 with ⟨rfl, rfl⟩ | ⟨g, cap, cur, rfl, _, _, hnc, _⟩
  · cases A <;> simp [Builtin.append_, run_underlying ht, sizeOf, typeInfo, hi, Builtin.lenOf, Builtin.firstCells, loadCells, loadCellsFrom]
  · cases A <;> simp [Builtin.append_, run_underlying ht, sizeOf, typeInfo, hi, Builtin.lenOf, Builtin.firstCells, hnc, storeCells, loadCells, loadCellsFrom]
/-- A whole slice is appended to a row of one's own. -/
theorem wp_app {o : Oper} {a : Act} {w : World} (s x : Operand) (t : TypeId) (ho : o.op = Op.call { callee := Callee.builtin Builtin.append, args := #[s, x], argTypes := #[t, t] })
    (base : Nat) (e : TypeId) (i : TypeInfo) (z : Value) (size bytes : Nat) (ht : P.underlying t = some (.slice e)) (hi : P.info? e = some i) (hz : i.zero = some z) (hsize : i.size = size) (hby : i.bytes = bytes) (hzs : z.cells.size = size) (hsz : 0 < size)
    (v : Value) (rows0 : List (List Value)) (hs : a.eval s = v) (hown : Gro w base e size v rows0) (hb : base ≤ w.heap.size)
    (A : Option Addr) (n c : Nat) (rows : List (List Value)) (hx : a.eval x = .slice A n c) (hn : n = rows.length) (hR : Rd size w A rows) (hl : ∀ r ∈ rows, r.length = size) (h1 : ∀ r ∈ rows, ∀ u ∈ r, u.oneCell' = true)
    (hm : rows0.length + n ≤ maxLen) (h47 : (rows0.length + n) * bytes ≤ 140737488355328)
    (h : ∀ v' w', Gro w' base e size v' (rows0 ++ rows) → w.grownBy w' v.ownBlock → K (a.put o.dst v') w') : o.wp P a w K Q := by
  rcases Nat.eq_zero_or_pos n with h0 | h0
  · subst h0
    obtain rfl : rows = [] := List.eq_nil_of_length_eq_zero hn.symm
    have hr := run_append_nothing (P := P) t o.type e base size rows0.length i ht hi v _ hown.2 A c
    unfold Oper.wp execOp
    simp only [ho, resolve, invoke, builtin, Sem.run_bind, Sem.run_pure, Result.andThen_ok, List.map_toArray, List.map_cons, List.map_nil, hs, hx, hr]
    exact h _ _ (by simpa using hown) (⟨rfl, rfl, rfl, Nat.le_refl _, fun _ _ _ => rfl⟩)
  · obtain ⟨ad, rfl, hc⟩ := hR.news hsz hl (by omega)
    refine wp_append_own w s x t ho base e i z size bytes ht hi hz hsize hby hzs hsz v rows0.length rows0.flatten hs hown.2 ad n c rows.flatten hx (by rw [flatten_len hl, hn]) hc (fun u hu => ?_) hm h47 hb fun v' w' h2 h3 _ => h v' w' ⟨fun r hr => ?_, ?_⟩ h3
    · obtain ⟨r, hr, hu⟩ := List.mem_flatten.1 hu
      exact h1 r hr u hu
    · rcases List.mem_append.1 hr with h | h
      · exact hown.1 r h
      · exact hl r h
    · rw [List.length_append, List.flatten_append, ← hn]; exact h2
theorem step_app {o : Oper} {a : Act} {w : World} (hgd : o.guard = none) (s x : Operand) (t : TypeId) (ho : o.op = Op.call { callee := Callee.builtin Builtin.append, args := #[s, x], argTypes := #[t, t] })
    (base : Nat) (e : TypeId) (i : TypeInfo) (z : Value) (size bytes : Nat) (ht : P.underlying t = some (.slice e)) (hi : P.info? e = some i) (hz : i.zero = some z) (hsize : i.size = size) (hby : i.bytes = bytes) (hzs : z.cells.size = size) (hsz : 0 < size)
    (v : Value) (rows0 : List (List Value)) (hs : a.eval s = v) (hown : Gro w base e size v rows0) (hb : base ≤ w.heap.size)
    (A : Option Addr) (n c : Nat) (rows : List (List Value)) (hx : a.eval x = .slice A n c) (hn : n = rows.length) (hR : Rd size w A rows) (hl : ∀ r ∈ rows, r.length = size) (h1 : ∀ r ∈ rows, ∀ u ∈ r, u.oneCell' = true)
    (hm : rows0.length + n ≤ maxLen) (h47 : (rows0.length + n) * bytes ≤ 140737488355328)
    (h : ∀ v' w', Gro w' base e size v' (rows0 ++ rows) → w.grownBy w' v.ownBlock → K (a.put o.dst v') w') : wpHead P ops Q K a w [o] := by
  have hw : Region.wanted o (yielded ops a.tmps) = true := by simp [Region.wanted, hgd]
  simp only [wpHead]
  rw [if_pos hw]
  exact wp_app s x t ho base e i z size bytes ht hi hz hsize hby hzs hsz v rows0 hs hown hb A n c rows hx hn hR hl h1 hm h47 h
end
/-- Where what is appended to lies apart from what was there. -/
theorem Gro.room {w0 w w' : World} {B e sz : Nat} {v : Value} {rows : List (List Value)} (h : Gro w B e sz v rows) (hb : Below B w0 w) (hg : w.grownBy w' v.ownBlock) (hB : B ≤ w.heap.size) : Below B w0 w' :=
  hb.grown hg hB (fun i hi => (h.2.lt i hi).1)

/-- A slice among slices: address, length, capacity. -/
abbrev Sl := Option Addr × Nat × Nat
def slv (x : Sl) : Value := .slice x.1 x.2.1 x.2.2
def slrow (x : Sl) : List Value := [slv x]
/-- What lies at this address is of this type. -/
def TyB (w : World) (A : Option Addr) (e : TypeId) : Prop := ∀ a, A = some a → ∃ cur fr, w.heap[a.block]? = some (.cells cur e fr)
theorem TyB.below {w w' : World} {A : Option Addr} {e : TypeId} {B : Nat} (h : TyB w A e) (k : Below B w w') (hB : w.heap.size ≤ B) : TyB w' A e := fun a ha => by
  obtain ⟨cur, fr, h1⟩ := h a ha
  exact ⟨cur, fr, (k.block _ (Nat.lt_of_lt_of_le (Array.getElem?_eq_some_iff.1 h1).1 hB)).trans h1⟩
theorem Gro.ty {w : World} {base e sz n c : Nat} {A : Option Addr} {rows : List (List Value)} (h : Gro w base e sz (.slice A n c) rows) : TyB w A e := fun a ha => by
  subst ha
  rcases h.2.2 with ⟨h2, _⟩ | ⟨g2, cap2, cur2, hv, _, h2, _⟩
  · cases h2
  · cases hv; exact ⟨_, _, h2⟩
theorem TyB.apart {w : World} {a : Addr} {e base e' sz : Nat} {v : Value} {rows : List (List Value)} (h : TyB w (some a) e) (k : Gro w base e' sz v rows) (hne : e ≠ e') : some a.block ≠ v.ownBlock := by
  obtain ⟨cur, fr, h1⟩ := h a rfl
  rcases k.2.2 with ⟨rfl, _⟩ | ⟨g2, cap2, cur2, rfl, _, h2, _⟩
  · simp [Value.ownBlock]
  · simp only [Value.ownBlock]
    intro e
    cases e
    rw [h1] at h2
    cases h2
    exact hne rfl
theorem TyB.keptBy {w w' : World} {A : Option Addr} {e base e' sz : Nat} {v : Value} {rows : List (List Value)} (h : TyB w A e) (hg : w.grownBy w' v.ownBlock) (k : Gro w base e' sz v rows) (hne : e ≠ e') : TyB w' A e := fun a ha => by
  subst ha
  have h0 := h.apart k hne
  obtain ⟨cur, fr, h1⟩ := h a rfl
  exact ⟨cur, fr, (hg.block _ (Array.getElem?_eq_some_iff.1 h1).1 h0).trans h1⟩
theorem RdI.keptBy {w w' : World} {A : Option Addr} {e base e' sz : Nat} {v : Value} {rows : List (List Value)} {l : List Int} (hr : RdI w A l) (h : TyB w A e) (hg : w.grownBy w' v.ownBlock) (k : Gro w base e' sz v rows) (hne : e ≠ e') : RdI w' A l := by
  refine ⟨fun i hi => ?_⟩
  obtain ⟨b, off, rfl, hb, hc⟩ := Rd.at_ hr i hi
  have h0 := h.apart k hne
  exact ⟨b, off, rfl, Nat.lt_of_lt_of_le hb hg.size, fun j r hj c u hu => (World.cell?_of_block (hg.block b hb h0)).trans (hc j r hj c u hu)⟩
/-- These slices read as these rows of numbers. -/
structure InL (w : World) (xs : List Sl) (ls : List (List Int)) : Prop where
  len : xs.length = ls.length
  at_ : ∀ (i : Nat) (x : Sl) (l : List Int), xs[i]? = some x → ls[i]? = some l → x.2.1 = l.length ∧ RdI w x.1 l ∧ TyB w x.1 3
theorem InL.nil (w : World) : InL w [] [] := ⟨rfl, fun i x l h => by simp at h⟩
theorem InL.below {w w' : World} {xs : List Sl} {ls : List (List Int)} {B : Nat} (h : InL w xs ls) (k : Below B w w') (hB : w.heap.size ≤ B) : InL w' xs ls :=
  ⟨h.len, fun i x l hx hl => ⟨(h.at_ i x l hx hl).1, (h.at_ i x l hx hl).2.1.below k hB, (h.at_ i x l hx hl).2.2.below k hB⟩⟩
theorem InL.keptBy {w w' : World} {xs : List Sl} {ls : List (List Int)} {base e sz : Nat} {v : Value} {rows : List (List Value)} (h : InL w xs ls) (hg : w.grownBy w' v.ownBlock) (k : Gro w base e sz v rows) (hne : 3 ≠ e) : InL w' xs ls :=
  ⟨h.len, fun i x l hx hl => ⟨(h.at_ i x l hx hl).1, (h.at_ i x l hx hl).2.1.keptBy (h.at_ i x l hx hl).2.2 hg k hne, (h.at_ i x l hx hl).2.2.keptBy hg k hne⟩⟩
theorem InL.append {w : World} {xs ys : List Sl} {ls ms : List (List Int)} (h : InL w xs ls) (k : InL w ys ms) : InL w (xs ++ ys) (ls ++ ms) := by
  refine ⟨by rw [List.length_append, List.length_append, h.len, k.len], fun i x l hx hl => ?_⟩
  by_cases hi : i < xs.length
  · rw [List.getElem?_append_left hi] at hx
    rw [List.getElem?_append_left (by have := h.len; omega)] at hl
    exact h.at_ i x l hx hl
  · rw [List.getElem?_append_right (by omega)] at hx
    rw [List.getElem?_append_right (by have := h.len; omega), ← h.len] at hl
    exact k.at_ _ x l hx hl
theorem InL.one {w : World} {A : Option Addr} {n c : Nat} {l : List Int} (hn : n = l.length) (h : RdI w A l) (ht : TyB w A 3) : InL w [(A, n, c)] [l] := by
  refine ⟨rfl, fun i x m hx hm => ?_⟩
  cases i with
  | zero => simp at hx hm; subst hx; subst hm; exact ⟨hn, h, ht⟩
  | succ i => simp at hx
theorem slrow_len {xs : List Sl} : ∀ r ∈ xs.map slrow, r.length = 1 := fun r hr => by obtain ⟨x, _, rfl⟩ := List.mem_map.1 hr; rfl
theorem slrow_one {xs : List Sl} : ∀ r ∈ xs.map slrow, ∀ u ∈ r, u.oneCell' = true := fun r hr u hu => by
  obtain ⟨x, _, rfl⟩ := List.mem_map.1 hr
  simp [slrow] at hu
  subst hu
  rfl
theorem irow_len {xs : List Int} : ∀ r ∈ xs.map irow, r.length = 1 := fun r hr => by obtain ⟨x, _, rfl⟩ := List.mem_map.1 hr; rfl
theorem irow_one {xs : List Int} : ∀ r ∈ xs.map irow, ∀ u ∈ r, u.oneCell' = true := fun r hr u hu => by
  obtain ⟨x, _, rfl⟩ := List.mem_map.1 hr
  simp [irow] at hu
  subst hu
  rfl
/-- A slice of slices reads as these lists. -/
def RdLL (w : World) (A : Option Addr) (ls : List (List Int)) : Prop := ∃ xs : List Sl, Rd 1 w A (xs.map slrow) ∧ InL w xs ls
theorem RdLL.below {w w' : World} {A : Option Addr} {ls : List (List Int)} {B : Nat} (h : RdLL w A ls) (k : Below B w w') (hB : w.heap.size ≤ B) : RdLL w' A ls := by
  obtain ⟨xs, h1, h2⟩ := h
  exact ⟨xs, h1.below k hB, h2.below k hB⟩
/-- One of its slices. -/
theorem RdLL.elem {w : World} {A : Option Addr} {ls : List (List Int)} (h : RdLL w A ls) {i : Nat} {l : List Int} (hi : ls[i]? = some l) :
    ∃ b off A' c, A = some ⟨b, off, none⟩ ∧ b < w.heap.size ∧ w.cell? ⟨b, off + i, none⟩ = some (.slice A' l.length c) ∧ RdI w A' l := by
  obtain ⟨xs, h1, h2⟩ := h
  have hlt := (List.getElem?_eq_some_iff.1 hi).1
  obtain ⟨x, hx⟩ : ∃ x, xs[i]? = some x := ⟨xs[i]'(by rw [h2.len]; exact hlt), by simp⟩
  obtain ⟨b, off, e, hb, hc⟩ := h1.elem (i := i) (r := slrow x) (by rw [List.getElem?_map, hx]; rfl)
  obtain ⟨hn, hr, _⟩ := h2.at_ i x l hx hi
  refine ⟨b, off, x.1, x.2.2, e, hb, ?_, hr⟩
  have := hc 0 (slv x) rfl
  rw [Nat.mul_one, Nat.add_zero] at this
  rw [this, ← hn]; rfl
theorem Gro.rdLL {w : World} {base : Nat} {v : Value} {xs : List Sl} {ls : List (List Int)} (h : Gro w base 46 1 v (xs.map slrow)) (k : InL w xs ls) : ∃ A c, v = .slice A ls.length c ∧ RdLL w A ls := by
  obtain ⟨A, c, e, hr⟩ := h.out
  rw [List.length_map, k.len] at e
  exact ⟨A, c, e, xs, hr, k⟩

end Go.Proofs.YtibkgnnpmidgfaaDoor
namespace Go.Proofs.YtibkgnnpmidgfaaDoor

/-- All walks to bend t that begin with some bends, the last of which is now. -/
def walksF (B : List Pt) (o : Int) (t : Nat) : Nat → Nat → List Int → List (List Int)
  | 0, _, _ => []
  | n + 1, now, fs => if now = t then [fs] else (List.range (t - now)).flatMap fun i => if reachB (atB B (now + 1 + i)) (atB B now) o = true then walksF B o t n (now + 1 + i) (fs ++ [((now + 1 + i : Nat) : Int)]) else []
/-- Those whose next bend is one of the next j. -/
def walksJ (B : List Pt) (o : Int) (t n now : Nat) (fs : List Int) (j : Nat) : List (List Int) :=
  (List.range j).flatMap fun i => if reachB (atB B (now + 1 + i)) (atB B now) o = true then walksF B o t n (now + 1 + i) (fs ++ [((now + 1 + i : Nat) : Int)]) else []
theorem walksJ_zero (B : List Pt) (o : Int) (t n now : Nat) (fs : List Int) : walksJ B o t n now fs 0 = [] := rfl
theorem walksJ_succ (B : List Pt) (o : Int) (t n now : Nat) (fs : List Int) (j : Nat) : walksJ B o t n now fs (j + 1) = walksJ B o t n now fs j ++ (if reachB (atB B (now + 1 + j)) (atB B now) o = true then walksF B o t n (now + 1 + j) (fs ++ [((now + 1 + j : Nat) : Int)]) else []) := by
  unfold walksJ
  rw [List.range_succ, List.flatMap_append]; simp
theorem walksF_at (B : List Pt) (o : Int) (t n : Nat) (fs : List Int) : walksF B o t (n + 1) t fs = [fs] := by unfold walksF; rw [if_pos rfl]
theorem walksF_on {B : List Pt} {o : Int} {t n now : Nat} {fs : List Int} (h : now ≠ t) : walksF B o t (n + 1) now fs = walksJ B o t n now fs (t - now) := by rw [walksF, if_neg h]; rfl
theorem walksF_ge {B : List Pt} {o : Int} {t : Nat} {l : List Int} : ∀ {n now : Nat} {fs : List Int}, l ∈ walksF B o t n now fs → ∃ m, l.length = fs.length + m
  | 0, _, _, h => by cases h
  | n + 1, now, fs, h => by
    rw [walksF] at h
    split at h
    · exact ⟨0, by rw [List.mem_singleton.1 h]; rfl⟩
    · obtain ⟨i, _, hm⟩ := List.mem_flatMap.1 h
      split at hm
      · obtain ⟨m, hm⟩ := walksF_ge hm
        exact ⟨m + 1, by rw [hm, List.length_append, List.length_singleton]; omega⟩
      · cases hm
/-- How long they are. -/
theorem walksF_len {B : List Pt} {o : Int} {t : Nat} : ∀ {n now : Nat} {fs : List Int} {m : Nat}, now ≤ t → t - now < n → ((∃ l ∈ walksF B o t n now fs, l.length = fs.length + m) ↔ walkB B o now m t = true)
  | 0, now, fs, m, h1, h2 => by omega
  | n + 1, now, fs, m, h1, h2 => by
    by_cases e : now = t
    · subst e
      rw [walksF_at]
      constructor
      · rintro ⟨l, hl, h⟩
        rw [List.mem_singleton.1 hl] at h
        obtain rfl : m = 0 := by omega
        simp [walkB]
      · intro h
        have := walkB_ge h
        exact ⟨fs, List.mem_singleton.2 rfl, by omega⟩
    · rw [walksF_on e]
      unfold walksJ
      constructor
      · rintro ⟨l, hl, h⟩
        obtain ⟨i, hi, hm⟩ := List.mem_flatMap.1 hl
        have hi' := List.mem_range.1 hi
        split at hm
        · rename_i hr
          have hlen : ∃ m', l.length = (fs ++ [((now + 1 + i : Nat) : Int)]).length + m' := walksF_ge hm
          obtain ⟨m', hm'⟩ := hlen
          have h3 := (walksF_len (B := B) (o := o) (t := t) (n := n) (now := now + 1 + i) (fs := fs ++ [((now + 1 + i : Nat) : Int)]) (m := m') (by omega) (by omega)).1 ⟨l, hm, hm'⟩
          rw [List.length_append, List.length_singleton] at hm'
          obtain rfl : m = m' + 1 := by omega
          exact walkB_first.2 ⟨now + 1 + i, by omega, by omega, by rw [reachB_comm]; exact hr, h3⟩
        · cases hm
      · intro h
        cases m with
        | zero => simp [walkB] at h; omega
        | succ m =>
          obtain ⟨b, h3, h4, h5, h6⟩ := walkB_first.1 h
          obtain ⟨l, hl, h7⟩ := (walksF_len (B := B) (o := o) (t := t) (n := n) (now := b) (fs := fs ++ [(b : Int)]) (m := m) h4 (by omega)).2 h6
          refine ⟨l, List.mem_flatMap.2 ⟨b - now - 1, List.mem_range.2 (by omega), ?_⟩, by rw [h7, List.length_append, List.length_singleton]; omega⟩
          rw [show now + 1 + (b - now - 1) = b by omega, if_pos (by rw [reachB_comm]; exact h5)]
          exact hl
theorem walks_pow {B : List Pt} {o : Int} {t : Nat} : ∀ {n now : Nat} {fs : List Int}, now ≤ t → (walksF B o t n now fs).length ≤ 2 ^ (t - now)
  | 0, now, fs, h => Nat.zero_le _
  | n + 1, now, fs, h => by
    by_cases e : now = t
    · subst e; rw [walksF_at]; exact Nat.one_le_two_pow
    · rw [walksF_on e]
      have key : ∀ j, j ≤ t - now → (walksJ B o t n now fs j).length + 2 ^ (t - now - j) ≤ 2 ^ (t - now) := by
        intro j
        induction j with
        | zero => intro _; simp [walksJ_zero]
        | succ j ih =>
          intro hj
          have h1 := ih (by omega)
          rw [walksJ_succ, List.length_append]
          have h2 : (if reachB (atB B (now + 1 + j)) (atB B now) o = true then walksF B o t n (now + 1 + j) (fs ++ [((now + 1 + j : Nat) : Int)]) else []).length ≤ 2 ^ (t - now - (j + 1)) := by
            split
            · have := walks_pow (B := B) (o := o) (t := t) (n := n) (now := now + 1 + j) (fs := fs ++ [((now + 1 + j : Nat) : Int)]) (by omega)
              rwa [show t - (now + 1 + j) = t - now - (j + 1) by omega] at this
            · exact Nat.zero_le _
          have h3 : 2 ^ (t - now - j) = 2 ^ (t - now - (j + 1)) + 2 ^ (t - now - (j + 1)) := by
            rw [show t - now - j = (t - now - (j + 1)) + 1 by omega, Nat.pow_succ]; omega
          omega
      exact Nat.le_trans (Nat.le_add_right _ _) (key (t - now) (Nat.le_refl _))
theorem walksJ_pow {B : List Pt} {o : Int} {t n now j : Nat} {fs : List Int} (h : now < t) (hj : j ≤ t - now) : (walksJ B o t n now fs j).length ≤ 2 ^ (t - now) := by
  have h1 := walks_pow (B := B) (o := o) (t := t) (n := n + 1) (now := now) (fs := fs) (by omega)
  rw [walksF_on (by omega)] at h1
  refine Nat.le_trans ?_ h1
  have : ∀ d, (walksJ B o t n now fs j).length ≤ (walksJ B o t n now fs (j + d)).length := by
    intro d
    induction d with
    | zero => exact Nat.le_refl _
    | succ d ih => rw [← Nat.add_assoc, walksJ_succ, List.length_append]; omega
  have := this (t - now - j)
  rwa [show j + (t - now - j) = t - now by omega] at this
/-- The numbers of steps up to j. -/
def cntP (m j : Nat) : List Int := ((List.range j).filter fun n => m.testBit (n + 1)).map fun n => ((n + 1 : Nat) : Int)
theorem filter_one {α : Type} (p : α → Bool) (a : α) : [a].filter p = if p a = true then [a] else [] := by
  rw [List.filter_cons]; rfl
theorem cntP_succ (m j : Nat) : cntP m (j + 1) = if m.testBit (j + 1) = true then cntP m j ++ [((j + 1 : Nat) : Int)] else cntP m j := by
  unfold cntP
  rw [List.range_succ, List.filter_append, List.map_append]
  by_cases h : m.testBit (j + 1) = true
  · rw [if_pos h, filter_one, if_pos h]; rfl
  · rw [if_neg h, filter_one, if_neg h]; simp
theorem cntP_len (m : Nat) : ∀ j, (cntP m j).length ≤ j
  | 0 => Nat.le_refl _
  | j + 1 => by have := cntP_len m j; rw [cntP_succ]; split <;> simp <;> omega
theorem cntP_bits {m : Nat} (h0 : m.testBit 0 = false) : ∀ j, cntP m j = ((List.range (j + 1)).filter (m.testBit ·)).map Int.ofNat
  | 0 => by simp [cntP, h0]
  | j + 1 => by
    rw [cntP_succ, cntP_bits h0 j, List.range_succ (n := j + 1), List.filter_append, List.map_append]
    by_cases h : m.testBit (j + 1) = true
    · rw [if_pos h, filter_one, if_pos h]; rfl
    · rw [if_neg h, filter_one, if_neg h]; simp
theorem cntP_all {B : List Pt} {o : Int} {f t N : Nat} (hft : f < t) (ht : t < N) (hN : N ≤ 12) : cntP (mk B o f t) N = bitsL (mk B o f t) := by
  have h0 : (mk B o f t).testBit 0 = false := by rw [mk_bit]; simp [walkB]; omega
  have key : ∀ d, cntP (mk B o f t) (N + d) = cntP (mk B o f t) N := by
    intro d
    induction d with
    | zero => rfl
    | succ d ih =>
      rw [← Nat.add_assoc, cntP_succ, if_neg, ih]
      rw [mk_bit]
      intro h
      have := walkB_ge h
      omega
  rw [← key (12 - N), show N + (12 - N) = 12 by omega, cntP_bits h0]; rfl

end Go.Proofs.YtibkgnnpmidgfaaDoor
namespace Go.Proofs.YtibkgnnpmidgfaaDoor
open Go.RowKit

theorem info46 : (Tryd.prog.info? 46).map (fun i => (i.zero, i.size, i.bytes)) = some (some (.slice none 0 0), 1, 24) := by kernel_rfl
theorem OwnT.rdI {w : World} {b : Nat} {t : TypeId} {x : Int} (h : OwnT w b t [.int .i64 x]) : RdI w (some ⟨b, 0, none⟩) [x] := by
  refine Rd.mk' h.lt fun j r hj c u hu => ?_
  cases j with
  | zero =>
    simp [irow] at hj
    subst hj
    cases c with
    | zero => simp at hu; subst hu; exact h.own.c 0
    | succ c => simp at hu
  | succ j => simp at hj
theorem OwnT.rdSl {w : World} {b : Nat} {t : TypeId} {x : Sl} (h : OwnT w b t [slv x]) : Rd 1 w (some ⟨b, 0, none⟩) ([x].map slrow) := by
  refine Rd.mk' h.lt fun j r hj c u hu => ?_
  cases j with
  | zero =>
    simp [slrow] at hj
    subst hj
    cases c with
    | zero => simp at hu; subst hu; exact h.own.c 0
    | succ c => simp at hu
  | succ j => simp at hj

set_option maxRecDepth 100000 in
set_option maxHeartbeats 8000000 in
theorem walks102 (A0 A1 A2 : Option Addr) (n0 n1 n2 c0 c1 c2 : Nat) (cw : Int) (o : Int) (t : Nat) (B D : List Pt) (R : List Rep) (hV : Hid (Val cw B D R)) (ho : 1 ≤ o ∧ o ≤ 60) (htn : t < n0) (hn0 : n0 ≤ 12) : ∀ (n now : Nat) (fs : List Int) (A : Option Addr) (c : Nat) (w : World), RdC w A0 A1 A2 n0 n1 n2 B D R → now ≤ t → t - now < n → 0 < fs.length → fs.length + (t - now) ≤ 14 → fs[fs.length - 1]? = some (now : Int) → RdI w A fs → TyB w A 3 →
    Calls Tryd.prog 102 #[.agg #[.slice A0 n0 c0, .slice A1 n1 c1, .slice A2 n2 c2, .int .i64 cw], .int .i64 o, .int .i64 t, .slice A fs.length c] w fun e w' => ∃ (A' : Option Addr) (c' : Nat), e = .returned (.slice A' (walksF B o t n now fs).length c') ∧ RdLL w' A' (walksF B o t n now fs) ∧ Below w.heap.size w w'
  | 0, now, fs, A, c, w, hC, h1, h2, h3, h4, h5, h6, h7 => by omega
  | n + 1, now, fs, A, c, w, hC, h1, h2, h3, h4, h5, h6, h7 => by
    obtain ⟨i0, hi0, hi1, hi2, hi3⟩ := info_parts Tryd.info3
    obtain ⟨j0, hj0, hj1, hj2, hj3⟩ := info_parts info46
    have HC := Lib.hid hC
    have HF := Lib.hid h6
    have HT := Lib.hid h7
    have H5 := Lib.hid h5
    have o0 : Own (w.alloc (.cells #[.slice A0 n0 c0, .slice A1 n1 c1, .slice A2 n2 c2, .int .i64 cw] 26)) w.heap.size [.slice A0 n0 c0, .slice A1 n1 c1, .slice A2 n2 c2, .int .i64 cw] := Own.new' _ _ rfl rfl
    have oB : Below w.heap.size w (w.alloc (.cells #[.slice A0 n0 c0, .slice A1 n1 c1, .slice A2 n2 c2, .int .i64 cw] 26)) := by (repeat' (first | (with_reducible exact Below.refl _ _) | (with_reducible assumption) | (with_reducible refine Below.drew ?_) | (with_reducible refine below_drewN ?_ _) | (with_reducible refine Below.setCell ?_ ?_ _) | (with_reducible refine Below.alloc ?_ ?_ _) | (refine Below.trans ?_ (Below.mono (by with_reducible assumption) ?_)) | omega | (exact Below.size (by with_reducible assumption)) | (simp; done) | (simp; omega)))
    obtain ⟨b, off, rfl, hb, g0⟩ := (HF.out.below oB (Nat.le_refl _)).elem H5.out
    have hix : ((fs.length : Int) - 1).toNat = fs.length - 1 := by omega
    have HRec := Lib.hid (walks102 A0 A1 A2 n0 n1 n2 c0 c1 c2 cw o t B D R hV ho htn hn0 n)
    clear hC h5 h6 h7 walks102
    go_enter Tryd.func102, Tryd.ntmps102
    by_cases hnt : now = t
    · subst hnt
      have HW : Hid (walksF B o now (n + 1) now fs = [fs]) := walksF_at B o now n fs
      have t1 : OwnT ((w.alloc (.cells #[.slice A0 n0 c0, .slice A1 n1 c1, .slice A2 n2 c2, .int .i64 cw] 26)).alloc (.cells #[.slice (some ⟨b, off, none⟩) fs.length c] 46)) (w.heap.size + 1) 46 [.slice (some ⟨b, off, none⟩) fs.length c] := by
        have := OwnT.new (w.alloc (.cells #[.slice A0 n0 c0, .slice A1 n1 c1, .slice A2 n2 c2, .int .i64 cw] 26)) #[.slice (some ⟨b, off, none⟩) fs.length c] 46
        simpa using this
      have hB2 : Below w.heap.size w ((w.alloc (.cells #[.slice A0 n0 c0, .slice A1 n1 c1, .slice A2 n2 c2, .int .i64 cw] 26)).alloc (.cells #[.slice (some ⟨b, off, none⟩) fs.length c] 46)) := by (repeat' (first | (with_reducible exact Below.refl _ _) | (with_reducible assumption) | (with_reducible refine Below.drew ?_) | (with_reducible refine below_drewN ?_ _) | (with_reducible refine Below.setCell ?_ ?_ _) | (with_reducible refine Below.alloc ?_ ?_ _) | (refine Below.trans ?_ (Below.mono (by with_reducible assumption) ?_)) | omega | (exact Below.size (by with_reducible assumption)) | (simp; done) | (simp; omega)))
      have HLL : Hid (RdLL ((w.alloc (.cells #[.slice A0 n0 c0, .slice A1 n1 c1, .slice A2 n2 c2, .int .i64 cw] 26)).alloc (.cells #[.slice (some ⟨b, off, none⟩) fs.length c] 46)) (some ⟨w.heap.size + 1, 0, none⟩) [fs]) :=
        ⟨[(some ⟨b, off, none⟩, fs.length, c)], t1.rdSl, InL.one rfl (HF.out.below hB2 (Nat.le_refl _)) (HT.out.below hB2 (Nat.le_refl _))⟩
      clear t1
      go_wp2
      go_ret
      rw [HW.out]
      exact ⟨_, _, rfl, HLL.out, hB2⟩
    · have hne : ((now : Int) == (t : Int)) = false := by simp; omega
      have HW : Hid (walksF B o t (n + 1) now fs = walksJ B o t n now fs (t - now)) := walksF_on hnt
      have hlt : now < t := by omega
      go_wp2
      go_loopg [10, 11] (t - now) (fun K v y wr => ∃ (k : Nat) (xs : List Sl), K + k = t - now ∧ y = .int .i64 ((now + 1 + k : Nat) : Int) ∧ Own wr w.heap.size [.slice A0 n0 c0, .slice A1 n1 c1, .slice A2 n2 c2, .int .i64 cw] ∧ Gro wr (w.heap.size + 1) 46 1 v (xs.map slrow) ∧ InL wr xs (walksJ B o t n now fs k) ∧ Below w.heap.size w wr)
      case atStart => exact ⟨0, [], by omega, (by simp), o0, Gro.nil _ _ _ _, InL.nil _, oB⟩
      case round =>
        clear o0 oB g0
        obtain ⟨k, xs, hk, rfl, q0, hg, hin, hbw⟩ := hrel
        obtain ⟨wo, rfl⟩ : ∃ wo : World, wo = wr := ⟨_, rfl⟩
        obtain ⟨PA, pc, rfl, hrd⟩ := hg.out
        have hxl := Lib.hid hin.len
        rw [List.length_map]
        rw [List.length_map] at hg
        obtain ⟨l0, k0, f0⟩ := q0
        have q0 := Own.mk l0 k0 f0
        by_cases hkt : k < t - now
        · have HGO := Lib.hid hg
          have HIN := Lib.hid hin
          clear hrd hin hg
          go_wp2_with fail
          refine (reaches69 A0 A1 A2 n0 n1 n2 c0 c1 c2 cw o now (now + 1 + k) B D R _ (HC.out.below hbw (Nat.le_refl _)) hV ho (by omega) (by omega)).mono ?_
          cases hr : reachB (atB B (now + 1 + k)) (atB B now) o
          · rintro e w4 ⟨rfl, hb4⟩
            have HJ : Hid (walksJ B o t n now fs (k + 1) = walksJ B o t n now fs k) := by show _ = _; rw [walksJ_succ, hr, if_neg (by simp), List.append_nil]
            clear hr
            have p0 := q0.below hb4 q0.lt
            have g4 := HGO.out.below hb4 (Nat.le_refl _)
            have i4 := HIN.out.below hb4 (Nat.le_refl _)
            have hB4 : Below w.heap.size w w4 := by (repeat' (first | (with_reducible exact Below.refl _ _) | (with_reducible assumption) | (with_reducible refine Below.drew ?_) | (with_reducible refine below_drewN ?_ _) | (with_reducible refine Below.setCell ?_ ?_ _) | (with_reducible refine Below.alloc ?_ ?_ _) | (refine Below.trans ?_ (Below.mono (by with_reducible assumption) ?_)) | omega | (exact Below.size (by with_reducible assumption)) | (simp; done) | (simp; omega)))
            go_wp2
            go_roundg (t - now - (k + 1))
            case measure => omega
            case rel => exact ⟨k + 1, xs, by omega, by go_num, p0, g4, (by rw [HJ.out]; exact i4), hB4⟩
          · rintro e w4 ⟨rfl, hb4⟩
            have HJ : Hid (walksJ B o t n now fs (k + 1) = walksJ B o t n now fs k ++ walksF B o t n (now + 1 + k) (fs ++ [((now + 1 + k : Nat) : Int)])) := by show _ = _; rw [walksJ_succ, if_pos hr]
            clear hr
            have p0 := q0.below hb4 q0.lt
            have g4 := HGO.out.below hb4 (Nat.le_refl _)
            have i4 := HIN.out.below hb4 (Nat.le_refl _)
            have hB4 : Below w.heap.size w w4 := by (repeat' (first | (with_reducible exact Below.refl _ _) | (with_reducible assumption) | (with_reducible refine Below.drew ?_) | (with_reducible refine below_drewN ?_ _) | (with_reducible refine Below.setCell ?_ ?_ _) | (with_reducible refine Below.alloc ?_ ?_ _) | (refine Below.trans ?_ (Below.mono (by with_reducible assumption) ?_)) | omega | (exact Below.size (by with_reducible assumption)) | (simp; done) | (simp; omega)))
            clear q0 l0 k0 f0 HGO HIN hbw hb4
            obtain ⟨nx, hnx⟩ : ∃ x, now + 1 + k = x := ⟨_, rfl⟩
            have hpow : ∀ d, d ≤ 12 → 2 ^ d ≤ 2 ^ 12 := fun d hd => Nat.pow_le_pow_right (by decide) hd
            have HWJ : Hid ((walksJ B o t n now fs k).length ≤ 4096) := Nat.le_trans (walksJ_pow hlt (by omega)) (hpow _ (by omega))
            have HWF : Hid ((walksF B o t n nx (fs ++ [(nx : Int)])).length ≤ 4096) := Nat.le_trans (walks_pow (by omega)) (hpow _ (by omega))
            clear hpow
            go_wp2
            replace p0 := p0.drew
            replace hB4 := hB4.drew
            replace g4 : Gro w4.drew _ _ _ _ _ := g4
            replace i4 := i4.below (Below.refl w4.heap.size w4).drew (Nat.le_refl _)
            refine rg_start (fun w' => Own w' w.heap.size [.slice A0 n0 c0, .slice A1 n1 c1, .slice A2 n2 c2, .int .i64 cw]) 13 (by kernel_rfl) rfl ?_
            refine rg_take (fuel := 7) [0, 1, 2, 3, 5, 7] (by kernel_rfl) (by intro _ _ d _ _ h; cases d <;> exact h) rfl (by kernel_rfl) (by kernel_rfl) p0 ?_
            simp only [pickL, pick1, List.cons_append, List.nil_append]
            (refine wpTake_cons (v := ?_) (Or.inl ⟨by rfl, ?_⟩) ?_; rotate_left; (intro w' hSw; have y0 : w'.cell? ⟨w.heap.size, 0, none⟩ = some (.slice A0 n0 c0) := hSw.c 0; have y1 : w'.cell? ⟨w.heap.size, 1, none⟩ = some (.slice A1 n1 c1) := hSw.c 1; have y2 : w'.cell? ⟨w.heap.size, 2, none⟩ = some (.slice A2 n2 c2) := hSw.c 2; have y3 : w'.cell? ⟨w.heap.size, 3, none⟩ = some (.int .i64 cw) := hSw.c 3; clear hSw; go_simp; (try with_reducible rfl)); (try simp only [Act.put, List.setIfInBounds_toArray, List.set_cons_zero, List.set_cons_succ]))
            (refine wpTake_cons (v := ?_) (Or.inl ⟨by rfl, ?_⟩) ?_; rotate_left; (intro w' hSw; have y0 : w'.cell? ⟨w.heap.size, 0, none⟩ = some (.slice A0 n0 c0) := hSw.c 0; have y1 : w'.cell? ⟨w.heap.size, 1, none⟩ = some (.slice A1 n1 c1) := hSw.c 1; have y2 : w'.cell? ⟨w.heap.size, 2, none⟩ = some (.slice A2 n2 c2) := hSw.c 2; have y3 : w'.cell? ⟨w.heap.size, 3, none⟩ = some (.int .i64 cw) := hSw.c 3; clear hSw; go_simp; (try with_reducible rfl)); (try simp only [Act.put, List.setIfInBounds_toArray, List.set_cons_zero, List.set_cons_succ]))
            (refine wpTake_cons (v := ?_) (Or.inl ⟨by rfl, ?_⟩) ?_; rotate_left; (intro w' hSw; have y0 : w'.cell? ⟨w.heap.size, 0, none⟩ = some (.slice A0 n0 c0) := hSw.c 0; have y1 : w'.cell? ⟨w.heap.size, 1, none⟩ = some (.slice A1 n1 c1) := hSw.c 1; have y2 : w'.cell? ⟨w.heap.size, 2, none⟩ = some (.slice A2 n2 c2) := hSw.c 2; have y3 : w'.cell? ⟨w.heap.size, 3, none⟩ = some (.int .i64 cw) := hSw.c 3; clear hSw; go_simp; (try with_reducible rfl)); (try simp only [Act.put, List.setIfInBounds_toArray, List.set_cons_zero, List.set_cons_succ]))
            (refine wpTake_cons (v := ?_) (Or.inl ⟨by rfl, ?_⟩) ?_; rotate_left; (intro w' hSw; have y0 : w'.cell? ⟨w.heap.size, 0, none⟩ = some (.slice A0 n0 c0) := hSw.c 0; have y1 : w'.cell? ⟨w.heap.size, 1, none⟩ = some (.slice A1 n1 c1) := hSw.c 1; have y2 : w'.cell? ⟨w.heap.size, 2, none⟩ = some (.slice A2 n2 c2) := hSw.c 2; have y3 : w'.cell? ⟨w.heap.size, 3, none⟩ = some (.int .i64 cw) := hSw.c 3; clear hSw; go_simp; (try with_reducible rfl)); (try simp only [Act.put, List.setIfInBounds_toArray, List.set_cons_zero, List.set_cons_succ]))
            (refine wpTake_cons (v := ?_) (Or.inl ⟨by rfl, ?_⟩) ?_; rotate_left; (intro w' hSw; have y0 : w'.cell? ⟨w.heap.size, 0, none⟩ = some (.slice A0 n0 c0) := hSw.c 0; have y1 : w'.cell? ⟨w.heap.size, 1, none⟩ = some (.slice A1 n1 c1) := hSw.c 1; have y2 : w'.cell? ⟨w.heap.size, 2, none⟩ = some (.slice A2 n2 c2) := hSw.c 2; have y3 : w'.cell? ⟨w.heap.size, 3, none⟩ = some (.int .i64 cw) := hSw.c 3; clear hSw; go_simp; (try with_reducible rfl)); (try simp only [Act.put, List.setIfInBounds_toArray, List.set_cons_zero, List.set_cons_succ]))
            (refine wpTake_cons (v := ?_) (Or.inl ⟨by rfl, ?_⟩) ?_; rotate_left; (intro w' hSw; have y0 : w'.cell? ⟨w.heap.size, 0, none⟩ = some (.slice A0 n0 c0) := hSw.c 0; have y1 : w'.cell? ⟨w.heap.size, 1, none⟩ = some (.slice A1 n1 c1) := hSw.c 1; have y2 : w'.cell? ⟨w.heap.size, 2, none⟩ = some (.slice A2 n2 c2) := hSw.c 2; have y3 : w'.cell? ⟨w.heap.size, 3, none⟩ = some (.int .i64 cw) := hSw.c 3; clear hSw; go_simp; (try with_reducible rfl)); (try simp only [Act.put, List.setIfInBounds_toArray, List.set_cons_zero, List.set_cons_succ]))
            refine wpTake_nil ?_
            generalize World.drew _ = w4 at p0 hB4 g4 i4 ⊢
            have hN := Below.refl w4.heap.size w4
            have ow := p0
            have hBw := hB4
            refine rg_many (fuel := 6) [4, 8] rfl (by simp) (by kernel_rfl) (by kernel_rfl) ?_
            intro cc hcc
            rcases (show cc = 4 ∨ cc = 8 by simpa using hcc) with rfl | rfl
            · intro K hK
              simp only [pick1]
              refine step_empty (K := K) rfl 46 3 1 w4.heap.size rfl (by kernel_rfl) i0 hi0 hN.size ?_
              intro g4x W' G4 hb
              replace hN := hN.trans (hb.mono hN.size)
              have ow := p0.below hN p0.lt
              have hBw := hB4.trans (hN.mono hB4.size)
              refine hK.out _ _ ow ?_
              clear hb hK
              (try simp only [Act.put, List.setIfInBounds_toArray, List.set_cons_zero, List.set_cons_succ])
              refine rg_many (fuel := 5) [6, 8] rfl (by simp) (by kernel_rfl) (by kernel_rfl) ?_
              intro cc hcc
              rcases (show cc = 6 ∨ cc = 8 by simpa using hcc) with rfl | rfl
              · intro K hK
                simp only [pick1]
                refine step_fill (K := K) rfl (.tmp 39) (.tmp 40) 46 rfl w4.heap.size 3 i0 (.int .i64 0) 1 8 (by kernel_rfl) hi0 hi1 hi2 hi3 rfl (by decide) g4x rfl G4 hN.size (some ⟨b, off, none⟩) fs.length c (fs.map irow) rfl (List.length_map _).symm (HF.out.below hBw (Nat.le_refl _)) irow_len (by unfold maxLen; omega) (by omega) ?_
                intro v6 W' G6 hb
                replace hN := hN.trans (hb.mono hN.size)
                have ow := p0.below hN p0.lt
                have hBw := hB4.trans (hN.mono hB4.size)
                refine hK.out _ _ ow ?_
                clear hb hK
                (try simp only [Act.put, List.setIfInBounds_toArray, List.set_cons_zero, List.set_cons_succ])
                refine rg_many (fuel := 4) [8] rfl (by simp) (by kernel_rfl) (by kernel_rfl) ?_
                intro cc hcc
                rcases (show cc = 8 by simpa using hcc) with rfl
                · intro K hK
                  simp only [pick1, wpHead]
                  rw [if_pos (by rfl)]
                  go_simp
                  have T8 := (OwnT.new W' #[.int .i64 nx] 3).rdI
                  have hb := (Below.refl W'.heap.size W').alloc (Nat.le_refl _) (.cells #[.int .i64 nx] 3)
                  replace hN := hN.trans (hb.mono hN.size)
                  generalize hg8 : W'.heap.size = g8 at T8 ⊢
                  generalize hWe : World.alloc W' _ = W' at hb hN T8 ⊢
                  clear hWe hg8
                  have ow := p0.below hN p0.lt
                  have hBw := hB4.trans (hN.mono hB4.size)
                  replace G6 := G6.below hb (Nat.le_refl _)
                  refine hK.out _ _ ow ?_
                  clear hb hK
                  (try simp only [Act.put, List.setIfInBounds_toArray, List.set_cons_zero, List.set_cons_succ])
                  refine rg_many (fuel := 3) [9] rfl (by simp) (by kernel_rfl) (by kernel_rfl) ?_
                  intro cc hcc
                  rcases (show cc = 9 by simpa using hcc) with rfl
                  · intro K hK
                    simp only [pick1]
                    refine step_app (K := K) rfl (.tmp 41) (.tmp 43) 46 rfl w4.heap.size 3 i0 (.int .i64 0) 1 8 (by kernel_rfl) hi0 hi1 hi2 hi3 rfl (by decide) v6 (fs.map irow) rfl G6 hN.size (some ⟨g8, 0, none⟩) 1 1 ([(nx : Int)].map irow) rfl rfl T8 irow_len irow_one (by rw [List.length_map]; unfold maxLen; omega) (by rw [List.length_map]; omega) ?_
                    intro v9 W' G9 hgr
                    replace hN := G6.room hN hgr hN.size
                    rw [← List.map_append] at G9
                    obtain ⟨A9, c9, rfl, hr9⟩ := G9.out
                    have hty9 := G9.ty
                    rw [List.length_map]
                    clear G6 G9 hgr
                    have ow := p0.below hN p0.lt
                    have hBw := hB4.trans (hN.mono hB4.size)
                    refine hK.out _ _ ow ?_
                    clear hK
                    (try simp only [Act.put, List.setIfInBounds_toArray, List.set_cons_zero, List.set_cons_succ])
                    refine rg_many (fuel := 2) [10] rfl (by simp) (by kernel_rfl) (by kernel_rfl) ?_
                    intro cc hcc
                    rcases (show cc = 10 by simpa using hcc) with rfl
                    · intro K hK
                      simp only [pick1, wpHead]
                      rw [if_pos (by rfl)]
                      go_simp
                      have hcall := HRec.out nx (fs ++ [(nx : Int)]) A9 c9 W' (HC.out.below hBw (Nat.le_refl _)) (by omega) (by omega) (by simp) (by rw [List.length_append, List.length_singleton]; omega) (by simp) hr9 hty9
                      rw [List.length_append, List.length_singleton] at hcall
                      refine hcall.mono ?_
                      clear hcall
                      rintro e W' ⟨A10, c10, rfl, ⟨ys, hr10, i10⟩, hb⟩
                      replace hN := hN.trans (hb.mono hN.size)
                      go_wp2_with fail
                      have ow := p0.below hN p0.lt
                      have hBw := hB4.trans (hN.mono hB4.size)
                      refine hK.out _ _ ow ?_
                      clear hb hK
                      (try simp only [Act.put, List.setIfInBounds_toArray, List.set_cons_zero, List.set_cons_succ])
                      refine rg_many (fuel := 1) [11] rfl (by simp) (by kernel_rfl) (by kernel_rfl) ?_
                      intro cc hcc
                      rcases (show cc = 11 by simpa using hcc) with rfl
                      · intro K hK
                        simp only [pick1]
                        have hz10 : w.heap.size + 1 ≤ w4.heap.size := p0.lt
                        have GO := g4.below hN (Nat.le_refl _)
                        have IO := i4.below hN (Nat.le_refl _)
                        have hzn := hN.size
                        refine step_app (K := K) rfl (.tmp 35) (.tmp 45) 107 rfl (w.heap.size + 1) 46 j0 (.slice none 0 0) 1 24 (by kernel_rfl) hj0 hj1 hj2 hj3 rfl (by decide) _ (xs.map slrow) rfl GO (by omega) A10 _ c10 (ys.map slrow) rfl (by rw [List.length_map]; exact i10.len.symm) hr10 slrow_len slrow_one (by have := HWJ.out; have := HWF.out; rw [List.length_map, hxl.out]; unfold maxLen; omega) (by have := HWJ.out; have := HWF.out; rw [List.length_map, hxl.out]; omega) ?_
                        intro v11 W' G11 hgr
                        have i11 := (IO.append i10).keptBy hgr GO (by decide)
                        rw [← List.map_append] at G11
                        have hBw := (hB4.trans (hN.mono hB4.size)).grown hgr (by omega) (fun i hi => by have := (GO.2.lt i hi).1; omega)
                        have ow := (p0.below hN p0.lt).keptBy hgr (fun e => by have := (GO.2.lt _ e.symm).1; omega)
                        clear GO IO hgr hr10 i10 hN
                        refine hK.out _ _ ow ?_
                        clear hK
                        (try simp only [Act.put, List.setIfInBounds_toArray, List.set_cons_zero, List.set_cons_succ])
                        refine rg_many (fuel := 0) [12] rfl (by simp) (by kernel_rfl) (by kernel_rfl) ?_
                        intro cc hcc
                        rcases (show cc = 12 by simpa using hcc) with rfl
                        · intro K hK
                          simp only [pick1, wpHead]
                          rw [if_pos (by rfl)]
                          go_simp
                          refine hK.out _ _ ow ?_
                          clear hK
                          (try simp only [Act.put, List.setIfInBounds_toArray, List.set_cons_zero, List.set_cons_succ])
                          refine rg_done (by kernel_rfl) ?_
                          rw [hnx] at HJ
                          go_wp2
                          go_roundg (t - now - (k + 1))
                          case measure => omega
                          case rel => exact ⟨k + 1, xs ++ ys, by omega, (by subst hnx; go_num), ow, G11, (by rw [HJ.out]; exact i11), hBw⟩
              · intro K hK
                simp only [pick1, wpHead]
                rw [if_pos (by rfl)]
                go_simp
                have T8 := (OwnT.new W' #[.int .i64 nx] 3).rdI
                have hb := (Below.refl W'.heap.size W').alloc (Nat.le_refl _) (.cells #[.int .i64 nx] 3)
                replace hN := hN.trans (hb.mono hN.size)
                generalize hg8 : W'.heap.size = g8 at T8 ⊢
                generalize hWe : World.alloc W' _ = W' at hb hN T8 ⊢
                clear hWe hg8
                have ow := p0.below hN p0.lt
                have hBw := hB4.trans (hN.mono hB4.size)
                replace G4 := G4.below hb (Nat.le_refl _)
                refine hK.out _ _ ow ?_
                clear hb hK
                (try simp only [Act.put, List.setIfInBounds_toArray, List.set_cons_zero, List.set_cons_succ])
                refine rg_many (fuel := 4) [6] rfl (by simp) (by kernel_rfl) (by kernel_rfl) ?_
                intro cc hcc
                rcases (show cc = 6 by simpa using hcc) with rfl
                · intro K hK
                  simp only [pick1]
                  refine step_fill (K := K) rfl (.tmp 39) (.tmp 40) 46 rfl w4.heap.size 3 i0 (.int .i64 0) 1 8 (by kernel_rfl) hi0 hi1 hi2 hi3 rfl (by decide) g4x rfl G4 hN.size (some ⟨b, off, none⟩) fs.length c (fs.map irow) rfl (List.length_map _).symm (HF.out.below hBw (Nat.le_refl _)) irow_len (by unfold maxLen; omega) (by omega) ?_
                  intro v6 W' G6 hb
                  replace hN := hN.trans (hb.mono hN.size)
                  have ow := p0.below hN p0.lt
                  have hBw := hB4.trans (hN.mono hB4.size)
                  replace T8 := T8.below hb (Nat.le_refl _)
                  refine hK.out _ _ ow ?_
                  clear hb hK
                  (try simp only [Act.put, List.setIfInBounds_toArray, List.set_cons_zero, List.set_cons_succ])
                  refine rg_many (fuel := 3) [9] rfl (by simp) (by kernel_rfl) (by kernel_rfl) ?_
                  intro cc hcc
                  rcases (show cc = 9 by simpa using hcc) with rfl
                  · intro K hK
                    simp only [pick1]
                    refine step_app (K := K) rfl (.tmp 41) (.tmp 43) 46 rfl w4.heap.size 3 i0 (.int .i64 0) 1 8 (by kernel_rfl) hi0 hi1 hi2 hi3 rfl (by decide) v6 (fs.map irow) rfl G6 hN.size (some ⟨g8, 0, none⟩) 1 1 ([(nx : Int)].map irow) rfl rfl T8 irow_len irow_one (by rw [List.length_map]; unfold maxLen; omega) (by rw [List.length_map]; omega) ?_
                    intro v9 W' G9 hgr
                    replace hN := G6.room hN hgr hN.size
                    rw [← List.map_append] at G9
                    obtain ⟨A9, c9, rfl, hr9⟩ := G9.out
                    have hty9 := G9.ty
                    rw [List.length_map]
                    clear G6 G9 hgr
                    have ow := p0.below hN p0.lt
                    have hBw := hB4.trans (hN.mono hB4.size)
                    refine hK.out _ _ ow ?_
                    clear hK
                    (try simp only [Act.put, List.setIfInBounds_toArray, List.set_cons_zero, List.set_cons_succ])
                    refine rg_many (fuel := 2) [10] rfl (by simp) (by kernel_rfl) (by kernel_rfl) ?_
                    intro cc hcc
                    rcases (show cc = 10 by simpa using hcc) with rfl
                    · intro K hK
                      simp only [pick1, wpHead]
                      rw [if_pos (by rfl)]
                      go_simp
                      have hcall := HRec.out nx (fs ++ [(nx : Int)]) A9 c9 W' (HC.out.below hBw (Nat.le_refl _)) (by omega) (by omega) (by simp) (by rw [List.length_append, List.length_singleton]; omega) (by simp) hr9 hty9
                      rw [List.length_append, List.length_singleton] at hcall
                      refine hcall.mono ?_
                      clear hcall
                      rintro e W' ⟨A10, c10, rfl, ⟨ys, hr10, i10⟩, hb⟩
                      replace hN := hN.trans (hb.mono hN.size)
                      go_wp2_with fail
                      have ow := p0.below hN p0.lt
                      have hBw := hB4.trans (hN.mono hB4.size)
                      refine hK.out _ _ ow ?_
                      clear hb hK
                      (try simp only [Act.put, List.setIfInBounds_toArray, List.set_cons_zero, List.set_cons_succ])
                      refine rg_many (fuel := 1) [11] rfl (by simp) (by kernel_rfl) (by kernel_rfl) ?_
                      intro cc hcc
                      rcases (show cc = 11 by simpa using hcc) with rfl
                      · intro K hK
                        simp only [pick1]
                        have hz10 : w.heap.size + 1 ≤ w4.heap.size := p0.lt
                        have GO := g4.below hN (Nat.le_refl _)
                        have IO := i4.below hN (Nat.le_refl _)
                        have hzn := hN.size
                        refine step_app (K := K) rfl (.tmp 35) (.tmp 45) 107 rfl (w.heap.size + 1) 46 j0 (.slice none 0 0) 1 24 (by kernel_rfl) hj0 hj1 hj2 hj3 rfl (by decide) _ (xs.map slrow) rfl GO (by omega) A10 _ c10 (ys.map slrow) rfl (by rw [List.length_map]; exact i10.len.symm) hr10 slrow_len slrow_one (by have := HWJ.out; have := HWF.out; rw [List.length_map, hxl.out]; unfold maxLen; omega) (by have := HWJ.out; have := HWF.out; rw [List.length_map, hxl.out]; omega) ?_
                        intro v11 W' G11 hgr
                        have i11 := (IO.append i10).keptBy hgr GO (by decide)
                        rw [← List.map_append] at G11
                        have hBw := (hB4.trans (hN.mono hB4.size)).grown hgr (by omega) (fun i hi => by have := (GO.2.lt i hi).1; omega)
                        have ow := (p0.below hN p0.lt).keptBy hgr (fun e => by have := (GO.2.lt _ e.symm).1; omega)
                        clear GO IO hgr hr10 i10 hN
                        refine hK.out _ _ ow ?_
                        clear hK
                        (try simp only [Act.put, List.setIfInBounds_toArray, List.set_cons_zero, List.set_cons_succ])
                        refine rg_many (fuel := 0) [12] rfl (by simp) (by kernel_rfl) (by kernel_rfl) ?_
                        intro cc hcc
                        rcases (show cc = 12 by simpa using hcc) with rfl
                        · intro K hK
                          simp only [pick1, wpHead]
                          rw [if_pos (by rfl)]
                          go_simp
                          refine hK.out _ _ ow ?_
                          clear hK
                          (try simp only [Act.put, List.setIfInBounds_toArray, List.set_cons_zero, List.set_cons_succ])
                          refine rg_done (by kernel_rfl) ?_
                          rw [hnx] at HJ
                          go_wp2
                          go_roundg (t - now - (k + 1))
                          case measure => omega
                          case rel => exact ⟨k + 1, xs ++ ys, by omega, (by subst hnx; go_num), ow, G11, (by rw [HJ.out]; exact i11), hBw⟩
            · intro K hK
              simp only [pick1, wpHead]
              rw [if_pos (by rfl)]
              go_simp
              have T8 := (OwnT.new w4 #[.int .i64 nx] 3).rdI
              have hb := (Below.refl w4.heap.size w4).alloc (Nat.le_refl _) (.cells #[.int .i64 nx] 3)
              replace hN := hN.trans (hb.mono hN.size)
              generalize hg8 : w4.heap.size = g8 at T8 ⊢
              generalize hWe : World.alloc w4 _ = W' at hb hN T8 ⊢
              clear hWe hg8
              have ow := p0.below hN p0.lt
              have hBw := hB4.trans (hN.mono hB4.size)
              refine hK.out _ _ ow ?_
              clear hb hK
              (try simp only [Act.put, List.setIfInBounds_toArray, List.set_cons_zero, List.set_cons_succ])
              refine rg_many (fuel := 5) [4] rfl (by simp) (by kernel_rfl) (by kernel_rfl) ?_
              intro cc hcc
              rcases (show cc = 4 by simpa using hcc) with rfl
              · intro K hK
                simp only [pick1]
                refine step_empty (K := K) rfl 46 3 1 w4.heap.size rfl (by kernel_rfl) i0 hi0 hN.size ?_
                intro g4x W' G4 hb
                replace hN := hN.trans (hb.mono hN.size)
                have ow := p0.below hN p0.lt
                have hBw := hB4.trans (hN.mono hB4.size)
                replace T8 := T8.below hb (Nat.le_refl _)
                refine hK.out _ _ ow ?_
                clear hb hK
                (try simp only [Act.put, List.setIfInBounds_toArray, List.set_cons_zero, List.set_cons_succ])
                refine rg_many (fuel := 4) [6] rfl (by simp) (by kernel_rfl) (by kernel_rfl) ?_
                intro cc hcc
                rcases (show cc = 6 by simpa using hcc) with rfl
                · intro K hK
                  simp only [pick1]
                  refine step_fill (K := K) rfl (.tmp 39) (.tmp 40) 46 rfl w4.heap.size 3 i0 (.int .i64 0) 1 8 (by kernel_rfl) hi0 hi1 hi2 hi3 rfl (by decide) g4x rfl G4 hN.size (some ⟨b, off, none⟩) fs.length c (fs.map irow) rfl (List.length_map _).symm (HF.out.below hBw (Nat.le_refl _)) irow_len (by unfold maxLen; omega) (by omega) ?_
                  intro v6 W' G6 hb
                  replace hN := hN.trans (hb.mono hN.size)
                  have ow := p0.below hN p0.lt
                  have hBw := hB4.trans (hN.mono hB4.size)
                  replace T8 := T8.below hb (Nat.le_refl _)
                  refine hK.out _ _ ow ?_
                  clear hb hK
                  (try simp only [Act.put, List.setIfInBounds_toArray, List.set_cons_zero, List.set_cons_succ])
                  refine rg_many (fuel := 3) [9] rfl (by simp) (by kernel_rfl) (by kernel_rfl) ?_
                  intro cc hcc
                  rcases (show cc = 9 by simpa using hcc) with rfl
                  · intro K hK
                    simp only [pick1]
                    refine step_app (K := K) rfl (.tmp 41) (.tmp 43) 46 rfl w4.heap.size 3 i0 (.int .i64 0) 1 8 (by kernel_rfl) hi0 hi1 hi2 hi3 rfl (by decide) v6 (fs.map irow) rfl G6 hN.size (some ⟨g8, 0, none⟩) 1 1 ([(nx : Int)].map irow) rfl rfl T8 irow_len irow_one (by rw [List.length_map]; unfold maxLen; omega) (by rw [List.length_map]; omega) ?_
                    intro v9 W' G9 hgr
                    replace hN := G6.room hN hgr hN.size
                    rw [← List.map_append] at G9
                    obtain ⟨A9, c9, rfl, hr9⟩ := G9.out
                    have hty9 := G9.ty
                    rw [List.length_map]
                    clear G6 G9 hgr
                    have ow := p0.below hN p0.lt
                    have hBw := hB4.trans (hN.mono hB4.size)
                    refine hK.out _ _ ow ?_
                    clear hK
                    (try simp only [Act.put, List.setIfInBounds_toArray, List.set_cons_zero, List.set_cons_succ])
                    refine rg_many (fuel := 2) [10] rfl (by simp) (by kernel_rfl) (by kernel_rfl) ?_
                    intro cc hcc
                    rcases (show cc = 10 by simpa using hcc) with rfl
                    · intro K hK
                      simp only [pick1, wpHead]
                      rw [if_pos (by rfl)]
                      go_simp
                      have hcall := HRec.out nx (fs ++ [(nx : Int)]) A9 c9 W' (HC.out.below hBw (Nat.le_refl _)) (by omega) (by omega) (by simp) (by rw [List.length_append, List.length_singleton]; omega) (by simp) hr9 hty9
                      rw [List.length_append, List.length_singleton] at hcall
                      refine hcall.mono ?_
                      clear hcall
                      rintro e W' ⟨A10, c10, rfl, ⟨ys, hr10, i10⟩, hb⟩
                      replace hN := hN.trans (hb.mono hN.size)
                      go_wp2_with fail
                      have ow := p0.below hN p0.lt
                      have hBw := hB4.trans (hN.mono hB4.size)
                      refine hK.out _ _ ow ?_
                      clear hb hK
                      (try simp only [Act.put, List.setIfInBounds_toArray, List.set_cons_zero, List.set_cons_succ])
                      refine rg_many (fuel := 1) [11] rfl (by simp) (by kernel_rfl) (by kernel_rfl) ?_
                      intro cc hcc
                      rcases (show cc = 11 by simpa using hcc) with rfl
                      · intro K hK
                        simp only [pick1]
                        have hz10 : w.heap.size + 1 ≤ w4.heap.size := p0.lt
                        have GO := g4.below hN (Nat.le_refl _)
                        have IO := i4.below hN (Nat.le_refl _)
                        have hzn := hN.size
                        refine step_app (K := K) rfl (.tmp 35) (.tmp 45) 107 rfl (w.heap.size + 1) 46 j0 (.slice none 0 0) 1 24 (by kernel_rfl) hj0 hj1 hj2 hj3 rfl (by decide) _ (xs.map slrow) rfl GO (by omega) A10 _ c10 (ys.map slrow) rfl (by rw [List.length_map]; exact i10.len.symm) hr10 slrow_len slrow_one (by have := HWJ.out; have := HWF.out; rw [List.length_map, hxl.out]; unfold maxLen; omega) (by have := HWJ.out; have := HWF.out; rw [List.length_map, hxl.out]; omega) ?_
                        intro v11 W' G11 hgr
                        have i11 := (IO.append i10).keptBy hgr GO (by decide)
                        rw [← List.map_append] at G11
                        have hBw := (hB4.trans (hN.mono hB4.size)).grown hgr (by omega) (fun i hi => by have := (GO.2.lt i hi).1; omega)
                        have ow := (p0.below hN p0.lt).keptBy hgr (fun e => by have := (GO.2.lt _ e.symm).1; omega)
                        clear GO IO hgr hr10 i10 hN
                        refine hK.out _ _ ow ?_
                        clear hK
                        (try simp only [Act.put, List.setIfInBounds_toArray, List.set_cons_zero, List.set_cons_succ])
                        refine rg_many (fuel := 0) [12] rfl (by simp) (by kernel_rfl) (by kernel_rfl) ?_
                        intro cc hcc
                        rcases (show cc = 12 by simpa using hcc) with rfl
                        · intro K hK
                          simp only [pick1, wpHead]
                          rw [if_pos (by rfl)]
                          go_simp
                          refine hK.out _ _ ow ?_
                          clear hK
                          (try simp only [Act.put, List.setIfInBounds_toArray, List.set_cons_zero, List.set_cons_succ])
                          refine rg_done (by kernel_rfl) ?_
                          rw [hnx] at HJ
                          go_wp2
                          go_roundg (t - now - (k + 1))
                          case measure => omega
                          case rel => exact ⟨k + 1, xs ++ ys, by omega, (by subst hnx; go_num), ow, G11, (by rw [HJ.out]; exact i11), hBw⟩
        · have hkn : k = t - now := by omega
          have e : Hid (walksF B o t (n + 1) now fs = walksJ B o t n now fs k) := by show _ = _; rw [HW.out, hkn]
          obtain ⟨PA', pc', hv', hll⟩ := hg.rdLL hin
          go_wp2
          go_ret
          rw [e.out]
          refine ⟨PA', pc', ?_, hll, hbw⟩
          rw [← hv']; rfl

end Go.Proofs.YtibkgnnpmidgfaaDoor
namespace Go.Proofs.YtibkgnnpmidgfaaDoor
open Go.RowKit

theorem cnt_mem {B : List Pt} {o : Int} {f t k : Nat} {ls : List (List Int)} (hls : ls = walksF B o t (t - f + 1) f [(f : Int)]) (hft : f ≤ t) : (∃ l ∈ ls, l.length = k + 1) ↔ (mk B o f t).testBit k = true := by
  rw [mk_bit, ← walksF_len (n := t - f + 1) (fs := [(f : Int)]) hft (by omega), hls]
  constructor
  · rintro ⟨l, h1, h2⟩; exact ⟨l, h1, by simp; omega⟩
  · rintro ⟨l, h1, h2⟩; exact ⟨l, h1, by simp at h2; omega⟩

set_option maxRecDepth 100000 in
set_option maxHeartbeats 8000000 in
theorem counts88 (A0 A1 A2 : Option Addr) (n0 n1 n2 c0 c1 c2 : Nat) (cw : Int) (o : Int) (f t : Nat) (B D : List Pt) (R : List Rep) (w : World) (hC : RdC w A0 A1 A2 n0 n1 n2 B D R) (hV : Hid (Val cw B D R)) (ho : 1 ≤ o ∧ o ≤ 60) (hft : f < t) (htn : t < n0) :
    Calls Tryd.prog 88 #[.agg #[.slice A0 n0 c0, .slice A1 n1 c1, .slice A2 n2 c2, .int .i64 cw], .int .i64 o, .int .i64 f, .int .i64 t] w fun e w' => ∃ (A : Option Addr) (c : Nat), e = .returned (.slice A (bitsL (mk B o f t)).length c) ∧ RdI w' A (bitsL (mk B o f t)) ∧ Below w.heap.size w w' := by
  obtain ⟨i0, hi0, hi1, hi2, hi3⟩ := info_parts Tryd.info3
  have HC := Lib.hid hC
  have HL := Lib.hid hC.h0
  have hn0 : n0 ≤ 12 := by have := hV.out.b2; have := HL.out; omega
  clear hC
  have o0 : Own ((w.alloc (.cells #[.slice A0 n0 c0, .slice A1 n1 c1, .slice A2 n2 c2, .int .i64 cw] 26)).alloc (.cells #[.int .i64 f] 3)) w.heap.size [.slice A0 n0 c0, .slice A1 n1 c1, .slice A2 n2 c2, .int .i64 cw] := (Own.new' _ _ rfl rfl).alloc _
  have oB : Below w.heap.size w ((w.alloc (.cells #[.slice A0 n0 c0, .slice A1 n1 c1, .slice A2 n2 c2, .int .i64 cw] 26)).alloc (.cells #[.int .i64 f] 3)) := by (repeat' (first | (with_reducible exact Below.refl _ _) | (with_reducible assumption) | (with_reducible refine Below.drew ?_) | (with_reducible refine below_drewN ?_ _) | (with_reducible refine Below.setCell ?_ ?_ _) | (with_reducible refine Below.alloc ?_ ?_ _) | (refine Below.trans ?_ (Below.mono (by with_reducible assumption) ?_)) | omega | (exact Below.size (by with_reducible assumption)) | (simp; done) | (simp; omega)))
  have t1 : OwnT ((w.alloc (.cells #[.slice A0 n0 c0, .slice A1 n1 c1, .slice A2 n2 c2, .int .i64 cw] 26)).alloc (.cells #[.int .i64 f] 3)) (w.heap.size + 1) 3 [.int .i64 f] := by
    have := OwnT.new (w.alloc (.cells #[.slice A0 n0 c0, .slice A1 n1 c1, .slice A2 n2 c2, .int .i64 cw] 26)) #[.int .i64 f] 3
    simpa using this
  have HT1 := Lib.hid t1
  clear t1
  go_enter Tryd.func88, Tryd.ntmps88
  go_wp2_with fail
  refine (walks102 A0 A1 A2 n0 n1 n2 c0 c1 c2 cw o t B D R hV ho htn hn0 (t - f + 1) f [(f : Int)] (some ⟨w.heap.size + 1, 0, none⟩) 1 _ (HC.out.below oB (Nat.le_refl _)) (by omega) (by omega) (by simp) (by simp; omega) rfl HT1.out.rdI (fun a ha => by cases ha; exact ⟨_, _, HT1.out⟩)).mono ?_
  rintro e w1 ⟨A1', c1', rfl, hll, hb1⟩
  obtain ⟨ls, hls⟩ : ∃ x, walksF B o t (t - f + 1) f [(f : Int)] = x := ⟨_, rfl⟩
  have hlsl : ls.length ≤ 4096 := by
    rw [← hls]
    exact Nat.le_trans (walks_pow (by omega)) (Nat.le_trans (Nat.pow_le_pow_right (by decide) (show t - f ≤ 12 by omega)) (by decide))
  have HLS := Lib.hid hls.symm
  rw [hls] at hll ⊢
  obtain ⟨m, hm⟩ : ∃ x, mk B o f t = x := ⟨_, rfl⟩
  have HM := Lib.hid hm
  have HCN : Hid (∀ k, (∃ l ∈ ls, l.length = k + 1) ↔ m.testBit k = true) := fun k => by rw [← hm]; exact cnt_mem hls.symm (by omega)
  have HLL := Lib.hid hll
  have HLN : Hid (∀ l ∈ ls, l.length ≤ 14) := fun l hl => by
    rw [← hls] at hl
    obtain ⟨d, hd⟩ := walksF_ge hl
    have h1 := walkB_ge ((walksF_len (n := t - f + 1) (fs := [(f : Int)]) (by omega) (by omega)).1 ⟨l, hl, hd⟩)
    simp at hd
    omega
  have q0 := o0.below hb1 o0.lt
  have hB1 : Below w.heap.size w w1 := by (repeat' (first | (with_reducible exact Below.refl _ _) | (with_reducible assumption) | (with_reducible refine Below.drew ?_) | (with_reducible refine below_drewN ?_ _) | (with_reducible refine Below.setCell ?_ ?_ _) | (with_reducible refine Below.alloc ?_ ?_ _) | (refine Below.trans ?_ (Below.mono (by with_reducible assumption) ?_)) | omega | (exact Below.size (by with_reducible assumption)) | (simp; done) | (simp; omega)))
  have hw1 : w.heap.size < w1.heap.size := q0.lt
  clear hls hll hm o0 oB hb1
  obtain ⟨l0, k0, f0⟩ := q0
  have q0 := Own.mk l0 k0 f0
  go_wp2
  go_loopg [10, 11] n0 (fun K v y wr => ∃ k : Nat, K + k = n0 ∧ y = .int .i64 ((k + 1 : Nat) : Int) ∧ Own wr w.heap.size [.slice A0 n0 c0, .slice A1 n1 c1, .slice A2 n2 c2, .int .i64 cw] ∧ Gro wr w1.heap.size 3 1 v ((cntP m k).map irow) ∧ Below w.heap.size w wr ∧ Below w1.heap.size w1 wr)
  case atStart => exact ⟨0, by omega, rfl, q0, (by simpa [cntP] using Gro.nil _ _ _ _), hB1, Below.refl _ _⟩
  case round =>
    clear q0 hB1 l0 k0 f0
    obtain ⟨wo, rfl⟩ : ∃ wo : World, wo = wr := ⟨_, rfl⟩
    obtain ⟨k, hk, rfl, q0, hg, hbw, hbv⟩ := hrel
    obtain ⟨PA, pc, rfl, hrd⟩ := hg.out
    obtain ⟨l0, k0, f0⟩ := q0
    have q0 := Own.mk l0 k0 f0
    by_cases hkn : k < n0
    · clear hrd
      go_wp2
      go_loopg [10, 12] ls.length (fun K v y wr => ∃ j : Nat, K + j = ls.length ∧ y = .int .i64 j ∧ v = .slice PA ((cntP m k).map irow).length pc ∧ Hid (∀ l ∈ ls.take j, l.length ≠ k + 1 + 1) ∧ Own wr w.heap.size [.slice A0 n0 c0, .slice A1 n1 c1, .slice A2 n2 c2, .int .i64 cw] ∧ Gro wr w1.heap.size 3 1 (.slice PA ((cntP m k).map irow).length pc) ((cntP m k).map irow) ∧ Below w.heap.size w wr ∧ Below w1.heap.size w1 wr)
      case atStart => exact ⟨0, by omega, rfl, rfl, (by intro l h; simp at h), q0, hg, hbw, hbv⟩
      case round =>
        clear q0 l0 k0 f0 hg hbw hbv
        obtain ⟨wi, rfl⟩ : ∃ wi : World, wi = wr := ⟨_, rfl⟩
        obtain ⟨j, hj, rfl, rfl, hno, q0, hg, hbw, hbv⟩ := hrel
        obtain ⟨l0, k0, f0⟩ := q0
        have q0 := Own.mk l0 k0 f0
        have hzi := hbv.size
        by_cases hjl : j < ls.length
        · obtain ⟨l, hl⟩ : ∃ l, Hid (ls[j]? = some l) := ⟨ls[j]'hjl, by simp [Hid]⟩
          obtain ⟨b, off, A', c', rfl, hbl, hcell, hrl⟩ := (HLL.out.below hbv (Nat.le_refl _)).elem hl.out
          have hll : l.length ≤ 14 := HLN.out l (List.mem_of_getElem? hl.out)
          by_cases he : l.length = k + 1 + 1
          · have hbit : Hid (m.testBit (k + 1) = true) := (HCN.out (k + 1)).1 ⟨l, List.mem_of_getElem? hl.out, he⟩
            have HCP : Hid (cntP m (k + 1) = cntP m k ++ [((k + 1 : Nat) : Int)]) := by show _ = _; rw [cntP_succ, if_pos hbit.out]
            have hcl : ((cntP m k).map irow).length ≤ 12 := by rw [List.length_map]; have := cntP_len m k; omega
            have HE := Lib.hid he
            rw [he] at hcell
            clear he hrl
            go_wp2_with (at_builtin; go_must (refine wpList_append_own _ rfl _ _ 46 rfl w1.heap.size 3 i0 (.int .i64 0) 1 8 Tryd.underlying46 hi0 hi1 hi2 hi3 rfl (by decide) _ _ _ rfl (hg.2.alloc _) ⟨wi.heap.size, 0, none⟩ 1 1 [.int .i64 ((k + 1 : Nat) : Int)] rfl rfl (cell_one_new _ _ _) (by intro u hu; simp at hu; subst hu; rfl) (by unfold maxLen; omega) (by omega) (by simp; omega) ?_; intro v' w8 hown' hgrow hnil; have hbA : Below w1.heap.size wi w8 := ((Below.refl _ wi).alloc hzi _).grown hgrow (by simp; omega) (fun i hi => (hg.2.lt i hi).1); have hg8 : Gro w8 w1.heap.size 3 1 v' ((cntP m k).map irow ++ [irow ((k + 1 : Nat) : Int)]) := Gro.grown hg rfl hown'; clear hown' hgrow hnil))
            go_roundg (n0 - (k + 1))
            case measure => omega
            case rel => exact ⟨k + 1, by omega, by go_num, q0.below hbA hw1, (by rw [HCP.out, List.map_append]; exact hg8), hbw.trans (hbA.mono (by omega)), hbv.trans hbA⟩
          · have hne : ((l.length : Int) - 1 == ((k + 1 : Nat) : Int)) = false := by simp; omega
            clear hrl
            go_wp2
            go_roundg (ls.length - (j + 1))
            case measure => omega
            case rel => exact ⟨j + 1, by omega, by go_num, rfl, (by
              intro x hx
              rw [take_snoc hl.out] at hx
              rcases List.mem_append.1 hx with h | h
              · exact hno.out x h
              · rw [List.mem_singleton.1 h]; exact he), q0, hg, hbw, hbv⟩
        · have hbit : m.testBit (k + 1) = false := by
            refine Bool.eq_false_iff.2 fun h => ?_
            obtain ⟨l, h1, h2⟩ := (HCN.out (k + 1)).2 h
            exact hno.out l (by rw [List.take_of_length_le (by omega)]; exact h1) h2
          have HCP : Hid (cntP m (k + 1) = cntP m k) := by show _ = _; rw [cntP_succ, hbit]; rfl
          clear hbit
          go_wp2
          go_roundg (n0 - (k + 1))
          case measure => omega
          case rel => exact ⟨k + 1, by omega, by go_num, q0, (by rw [HCP.out]; exact hg), hbw, hbv⟩
    · have hkn : k = n0 := by omega
      subst hkn
      have HE : Hid (bitsL m = cntP m k) := by show _ = _; rw [← HM.out]; exact (cntP_all hft htn hn0).symm
      go_wp2
      go_ret
      rw [HM.out, HE.out]
      exact ⟨PA, pc, by rw [List.length_map]; rfl, hrd, hbw⟩

end Go.Proofs.YtibkgnnpmidgfaaDoor
