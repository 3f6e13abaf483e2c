/- Walks: do no two sides of a polygon have a point that they should not? -/
import Derived.Test.YtgmhelclofnpkaaKe
import Derived.Test.YtgmhelclofnpkaaRgI
import Derived.RangeFuncWrites
import Derived.RangeFuncBox
namespace Go.Proofs.Ytgmhelclofnpkaa
open Go.RowKit Go.Shelf

attribute [local go_sem] Oper.semAt_some
theorem grown_of_below {W W' : World} (h : Below W.heap.size W W') : W.grownBy W' none :=
  ⟨h.os, h.tape, h.output, h.size, fun k hk _ => h.block k hk⟩
theorem Own.grown {w w' : World} {b : Nat} {vs : List Value} {row : Option Nat} (h : Own w b vs) (hg : w.grownBy w' row) (hne : some b ≠ row) : Own w' b vs :=
  ⟨Nat.lt_of_lt_of_le h.lt hg.size, fun i => (World.cell?_of_block (hg.block b h.lt hne)).trans (h.c i), fun i => (World.frozen?_of_block (hg.block b h.lt hne)).trans (h.f i)⟩
theorem own_cells {w : World} {b : Nat} {v : Value} {vs : List Value} (h : Own w b (v :: vs)) {o : Obj} (ho : w.heap[b]? = some o) : o.isCells = true := by
  have := h.c 0
  unfold World.cell? at this
  simp only [ho] at this
  cases o <;> first | rfl | (simp at this)
/-- It abides: what is written meanwhile is no block of cells. -/
theorem own_abides {w w' : World} {b : Nat} {v : Value} {vs : List Value} {row : Option Nat} (h : Own w b (v :: vs)) (hg : w.grownBy w' row) (hr : ∀ r, row = some r → ∃ o : Obj, w.heap[r]? = some o ∧ o.isCells = false) : Own w' b (v :: vs) :=
  h.grown hg fun e => by
    obtain ⟨o, h1, h2⟩ := hr b e.symm
    rw [own_cells h h1] at h2; cases h2
theorem callsIn_gen {F : Fence} {n : Nat} {P : Program} {f : FuncId} {args : Array Value} {Q : Ending → World → Prop} {w : World} (h : ∀ W, W = w → CallsIn F n P f args W Q) : CallsIn F n P f args w Q := h w rfl
theorem wpIn_gen {F : Fence} {n : Nat} {P : Program} {c : Code} {Q : Exit → Act → World → Prop} {a : Act} {w : World} (h : ∀ W, W = w → c.wpIn F n P Q a W) : c.wpIn F n P Q a w := h w rfl
theorem sidesS (A : Option Addr) (n cap : Nat) (ps : List P2) (B0 n₁ : Nat) (w : World) (nF : Nat) (hnF : 2 ≤ nF) (hA : ∀ W, Below n₁ w W → Rd 2 W A (ps.map ptrow)) (hn₁ : n₁ ≤ w.heap.size) (hn : Hid (n = ps.length)) (hlen : n ≤ 1000) (h0 : Own w B0 [.slice A n cap]) :
    SeqStopsK Fence.wide nF Try.prog 98 #[.pointer (some ⟨B0, 0, none⟩)] (fun x : Fin n => sdE ps x.1) (KpB1 n₁ B0) (fun ys => ys.map (·.1) = List.range n) (fun _ => True) n w := by
  intro l J Jx W hW hJ hJx hY hJ0
  have hz := hW.size
  have hl0 := h0.lt
  refine (sides1s A n cap ps B0 nF hnF hn hlen l (fun pre W1 => J pre W1 ∧ Below n₁ w W1 ∧ W1.heap[B0]? = w.heap[B0]?) Jx W ?_ ?_ ?_ ?_).mono ?_
  · rintro pre W1 ⟨hj, hb, e0⟩
    exact ⟨h0.ofBlock e0, hA _ hb⟩
  · rintro pre W1 ⟨hj, hb, e0⟩
    exact ⟨hJ _ _ _ none hj (grown_of_below (Below.refl _ _).drew) (fun r e => by cases e), hb.drew, e0⟩
  · rintro pre x W1 ⟨hj, hb, e0⟩ hlen
    refine (hY pre x W1 hj hlen).mono ?_
    rintro e' W' (⟨rfl, h1, h2, h3⟩ | ⟨rfl, h1⟩)
    · exact Or.inl ⟨rfl, h1, hb.trans h2, h3.trans e0⟩
    · exact Or.inr ⟨rfl, h1⟩
  · exact ⟨hJ0, hW.mono hn₁, hW.block B0 hl0⟩
  · rintro e W' ⟨h1, ⟨pre', h2, h3, _⟩ | ⟨pre, h2⟩⟩
    · exact ⟨h1, Or.inl ⟨pre', h2, h3⟩⟩
    · exact ⟨h1, Or.inr ⟨pre, trivial, h2⟩⟩
theorem results_cellB {P : Program} {fn : Func} {tmps : Array Value} {w : World} {a B t : Nat} {v : Value} (hr : fn.results = #[.cell a t]) (ha : tmps.getD a undef = .pointer (some ⟨B, 0, none⟩)) (ho : Own w B [v])
    (hagg : (isAgg t).run P w = .ok false w) (hsz : (sizeOf t).run P w = .ok 1 w) : (results fn tmps).run P w = .ok v w := by
  have ha' : tmps[a]?.getD undef = .pointer (some ⟨B, 0, none⟩) := by simpa using ha
  have hc : w.cell? ⟨B, 0, none⟩ = some v := ho.c 0
  simp [results, hr, go_sem, loadVar, hagg, hsz, loadCells, ha', asAddr, hc]
/-- What the third question reads. -/
def YS (Bi n b x : Nat) (W : World) : Prop := Own W Bi [.int .i64 x] ∧ Own W (b + 1 + 1) [.int .i64 n]
set_option maxRecDepth 100000 in
set_option maxHeartbeats 8000000 in
theorem isSimpleW (A : Option Addr) (n cap : Nat) (ps : List P2) (w : World) (hA : Rd 2 w A (ps.map ptrow)) (hn : Hid (n = ps.length)) (hlen : n ≤ 1000) (hP : Hid (ps.all Pl.isP = true)) :
    Calls Try.prog 86 #[.slice A n cap] w fun e w' => e = .returned (.bool (Pl.simple ps)) ∧ Below w.heap.size w w' := by
  have HA := Lib.hid hA
  clear hA
  have f1 : Fence.wide.fn 62 := trivial
  have f2 : Fence.wide.fn 98 := trivial
  refine (callsIn_wide (n := 9)).1 ?_
  refine callsIn_of_wp_marks Try.func86 rfl trivial ?_ rfl
  simp only [Try.ntmps86, List.size_toArray, List.length_cons, List.length_nil, Nat.reduceAdd, Nat.reduceSub, Array.replicate_succ, Array.replicate_zero, List.push_toArray, List.append_toArray, List.nil_append, List.cons_append]
  gi_wp2_with (gi_at_call 62; refine (callsIn_wide.2 (sidesW _ _ _ _)).mono ?_; rintro e w' ⟨rfl, rfl⟩)
  refine wpIn_gen fun W0 hW0 => ?_
  have hB0 : Below w.heap.size w W0 := by rw [hW0]; (repeat' (first | (with_reducible exact Below.refl _ _) | (with_reducible assumption) | (with_reducible refine Below.drew ?_) | (with_reducible refine below_drewN ?_ _) | (with_reducible refine Below.setCell ?_ ?_ _) | (with_reducible refine Below.alloc ?_ ?_ _) | (refine Below.trans ?_ (Below.mono (by with_reducible assumption) ?_)) | omega | (exact Below.size (by with_reducible assumption)) | (simp; done) | (simp; omega)))
  have hsz : W0.heap.size = w.heap.size + 4 := by rw [hW0]; simp
  have o0 : Own W0 w.heap.size [.slice A n cap] := by rw [hW0]; exact (((Own.new' _ _ (by simp) rfl).alloc _).alloc _).alloc _
  have o1 : Own W0 (w.heap.size + 1) [.bool false] := by rw [hW0]; exact ((Own.new' _ _ (by simp) rfl).alloc _).alloc _
  have o2 : Own W0 (w.heap.size + 1 + 1) [.int .i64 n] := by rw [hW0]; exact (Own.new' _ _ (by simp) rfl).alloc _
  have o3 : Own W0 (w.heap.size + 1 + 1 + 1) [.slice A n cap] := by rw [hW0]; exact Own.new' _ _ (by simp) rfl
  clear hW0
  refine wpIn_rangeFunc_ownH rfl (by omega) (gf := 98) (lb := #[.pointer (some ⟨w.heap.size + 1 + 1 + 1, 0, none⟩)]) rfl f2 (enters_of Try.func98 (by kernel_rfl) rfl)
    (sidesS A n cap ps (w.heap.size + 1 + 1 + 1) w.heap.size W0 8 (by omega) (fun W hW => HA.out.below (hB0.trans hW) (Nat.le_refl _)) hB0.size hn hlen o3)
    (fun h1 h2 => ⟨h1.1.trans h2.1, h2.2.trans h1.2⟩)
    (fun W l o o' hl ho hc hw => ⟨?kb, World.putObj_heap_other (by omega)⟩)
    (Below.refl _ _) (fun _ => rfl)
    (fun pre W => Hid (∀ x ∈ pre, ∀ k, k < n → Pl.bad ps x.1 k = false) ∧ (Own W w.heap.size [.slice A n cap] ∧ Own W (w.heap.size + 1) [.bool false] ∧ Own W (w.heap.size + 1 + 1) [.int .i64 n]) ∧ W0.heap.size ≤ W.heap.size ∧ Below w.heap.size w W)
    (fun c _ W => c = .ret ∧ Hid (Pl.simple ps = false) ∧ Own W (w.heap.size + 1) [.bool false] ∧ Below w.heap.size w W)
    ?hI ?hIx ⟨(fun x hx => nomatch hx), ⟨o0, o1, o2⟩, Nat.le_refl _, hB0⟩
    (fun x a' W => ∃ Bi Bs, W0.heap.size ≤ Bi ∧ W0.heap.size ≤ Bs ∧ Own W Bi [.int .i64 x.1] ∧ Own W Bs [.int .i64 (Pl.at' ps x.1).1, .int .i64 (Pl.at' ps x.1).2, .int .i64 (Pl.nx ps x.1).1, .int .i64 (Pl.nx ps x.1).2] ∧ a' = { tmps := #[.slice A n cap, .pointer (some ⟨w.heap.size, 0, none⟩), .pointer (some ⟨w.heap.size + 1, 0, none⟩), .pointer (some ⟨w.heap.size + 1 + 1, 0, none⟩), .pointer (some ⟨Bi, 0, none⟩), .pointer (some ⟨Bs, 0, none⟩), undef, undef, .slice A n cap, .int .i64 n, .slice A n cap, .func (.func 98) #[] #[.pointer (some ⟨w.heap.size + 1 + 1 + 1, 0, none⟩)], .int .i64 x.1, sdV (Pl.at' ps x.1) (Pl.nx ps x.1), undef, undef, undef, undef, undef, undef, undef, undef, undef, undef, undef, undef, undef, undef, undef, undef, undef, undef, undef, undef, undef, undef, undef, undef, undef, undef, undef, undef, undef, undef, undef, undef, undef, undef, undef, undef], defers := [] })
    ?hAx ?assign ?body ?done ?stop
  case kb =>
    have hlt := (Array.getElem?_eq_some_iff.1 ho).1
    exact (Below.refl w.heap.size W).grown (grownBy_putObj' W l o') (by omega) (fun k e => by cases e; omega)
  case hI =>
    rintro s W W' row ⟨h1, ⟨h2, h3, h4⟩, h5, h6⟩ hg hr
    have hrow : ∀ r, row = some r → W0.heap.size ≤ r := fun r e => (hr r e).1
    exact ⟨h1, ⟨h2.grown hg (fun e => by have := hrow _ e.symm; omega), h3.grown hg (fun e => by have := hrow _ e.symm; omega), h4.grown hg (fun e => by have := hrow _ e.symm; omega)⟩, Nat.le_trans h5 hg.size, h6.grown hg h6.size (fun k e => by have := hrow k e; omega)⟩
  case hIx =>
    rintro c s W W' row ⟨h0, h1, h3, h6⟩ hg hr
    have hrow : ∀ r, row = some r → W0.heap.size ≤ r := fun r e => (hr r e).1
    exact ⟨h0, h1, h3.grown hg (fun e => by have := hrow _ e.symm; omega), h6.grown hg h6.size (fun k e => by have := hrow k e; omega)⟩
  case hAx =>
    rintro x a' _ W W' row ⟨Bi, Bs, h1, h2, h3, h4, h5⟩ hg hr
    exact ⟨Bi, Bs, h1, h2, own_abides h3 hg (fun r e => (hr r e).2), own_abides h4 hg (fun r e => (hr r e).2), h5⟩
  case assign =>
    rintro l pre x W K ⟨h1, ⟨h2, h3, h4⟩, h5, h6⟩ hK
    simp only [sdE]
    gi_wp2
    refine hK _ _ (((KeepsOthers.alloc _ _).trans (KeepsOthers.alloc _ _)).from _) ⟨((Below.refl _ W).alloc h6.size _).alloc (by simp; have := h6.size; omega) _, ((Below.heap_alloc _ _ _ (by simp; omega)).trans (Below.heap_alloc _ _ _ (by omega)))⟩ ⟨h1, ⟨(h2.alloc _).alloc _, (h3.alloc _).alloc _, (h4.alloc _).alloc _⟩, by simp; omega, (h6.alloc h6.size _).alloc (by simp; have := h6.size; omega) _⟩
      ⟨W.heap.size, W.heap.size + 1, by omega, by omega, (Own.new' _ _ rfl rfl).alloc _, Own.new' _ _ (by simp) rfl, rfl⟩
  case done =>
    rintro D xs W hD hS ⟨h1, ⟨h2, h3, h4⟩, h5, h6⟩ hK
    have hres : Pl.simple ps = true := Pl.simple_iff.2 fun i k hi hk => by
      have hin : i < n := by have := hn.out; omega
      have hm : i ∈ xs.map (·.1) := by rw [hS]; exact List.mem_range.2 hin
      obtain ⟨x, hx, e⟩ := List.mem_map.1 hm
      rw [← e]
      exact h1 x hx k (by have := hn.out; omega)
    have HRES := Lib.hid hres
    clear hres
    have h3' := Lib.hid h3
    have h6' := Lib.hid h6
    obtain ⟨l1, k1, g1⟩ := h3
    gi_wp2
    refine ⟨by simp, .inl ⟨_, _, rfl, run_takeDeferred (by first | exact hK | exact (World.setCell_heap_other (by show _ ≠ _; omega)).trans hK | exact (Below.heap_setCell _ _ _ _ (by dsimp only; omega)).trans hK), ?_⟩⟩
    exact ⟨_, results_cellB (B := w.heap.size + 1) rfl rfl ((h3'.out.set 0 (by simp) _).ofBlock (World.putObj_heap_other (by omega))) (by kernel_rfl) (by kernel_rfl), ret_bool HRES.out.symm,
      (h6'.out.setCell (by dsimp only; omega) _).trans (belowK_b (w := w) (Nat.le_refl _) _ D _ _ (by omega) (by first | exact hK | exact (Below.heap_setCell _ _ _ _ (by dsimp only; omega)).trans hK) rfl rfl)⟩
  case stop =>
    rintro D c pre W hD _ ⟨rfl, h1, h3, h6⟩ hK
    have h3' := Lib.hid h3
    have h6' := Lib.hid h6
    gi_wp2
    refine ⟨by simp, .inl ⟨_, _, rfl, run_takeDeferred hK, ?_⟩⟩
    exact ⟨_, results_cellB (B := w.heap.size + 1) rfl rfl (h3'.out.ofBlock (World.putObj_heap_other (by omega))) (by kernel_rfl) (by kernel_rfl), ret_bool h1.out.symm, h6'.out.trans (belowK_b (w := w) (Nat.le_refl _) _ D _ _ (by omega) hK rfl rfl)⟩
  case body =>
    rintro l pre x a' W hl ⟨r, hr⟩ ⟨h1, ⟨h2, h3, h4⟩, h5, h6⟩ ⟨Bi, Bs, hBi, hBs, oi, os, rfl⟩ hlt
    have q0 := Lib.hid h2
    have q1 := Lib.hid h3
    have q2 := Lib.hid h4
    have qi := Lib.hid oi
    have qs := Lib.hid os
    have H1 := Lib.hid h1
    have hsW := h6.size
    have lBi := oi.lt
    have lBs := os.lt
    have hxn : x.1 < n := x.2
    obtain ⟨l0, k0, g0⟩ := h2
    clear h3 h4 oi os h1
    gi_wp2_with (gi_at_call 62; refine (CallsIn.inRound l (callsIn_wide.2 (sidesW _ _ _ _))).mono ?_; rintro e w' ⟨rfl, rfl⟩)
    clear k0 g0
    have hr' : (W.alloc (.cells #[.slice A n cap] 22)).heap[l]? = some (.loop r) := (Below.heap_alloc W _ l (Array.getElem?_eq_some_iff.1 hr).1).trans hr
    refine wpIn_rangeFunc_ownN (l₀ := l) (r₀ := r) rfl hr' (by omega) (gf := 98) (lb := #[.pointer (some ⟨W.heap.size, 0, none⟩)]) rfl trivial (enters_of Try.func98 (by kernel_rfl) rfl)
      ((sidesS A n cap ps W.heap.size w.heap.size (W.alloc (.cells #[.slice A n cap] 22)) 6 (by omega) (fun W' hW' => HA.out.below ((h6.alloc hsW _).trans hW') (Nat.le_refl _)) (by simp; omega) hn hlen (Own.new' _ _ rfl rfl)).inRound l)
      (fun h1 h2 => ⟨h1.1.trans h2.1, h2.2.trans h1.2⟩) (fun W' l' o o' hl' ho hc hw => ⟨?kb2, World.putObj_heap_other (by simp at hl'; omega)⟩) (Below.refl _ _) (fun _ => rfl)
      (fun pre' W' => Hid (∀ y ∈ pre', Pl.bad ps x.1 y.1 = false) ∧ (Own W' w.heap.size [.slice A n cap] ∧ Own W' (w.heap.size + 1) [.bool false] ∧ Own W' (w.heap.size + 1 + 1) [.int .i64 n] ∧ Own W' Bi [.int .i64 x.1] ∧ Own W' Bs [.int .i64 (Pl.at' ps x.1).1, .int .i64 (Pl.at' ps x.1).2, .int .i64 (Pl.nx ps x.1).1, .int .i64 (Pl.nx ps x.1).2]) ∧ W.heap.size + 1 ≤ W'.heap.size ∧ Below w.heap.size W W' ∧ KeepsFrom W0.heap.size W W' ∧ W'.heap[w.heap.size + 1 + 1 + 1]? = W.heap[w.heap.size + 1 + 1 + 1]?)
      (fun c _ W' => c = .ret ∧ Hid (Pl.simple ps = false) ∧ Own W' (w.heap.size + 1) [.bool false] ∧ Below w.heap.size W W' ∧ KeepsFrom W0.heap.size W W')
      ?hI2 ?hIx2 ⟨(fun y hy => nomatch hy), ⟨q0.out.alloc _, q1.out.alloc _, q2.out.alloc _, qi.out.alloc _, qs.out.alloc _⟩, by simp, (Below.refl _ W).alloc hsW _, (KeepsOthers.alloc _ _).from _, Below.heap_alloc _ _ _ (by omega)⟩
      (fun y a'' W' => ∃ Bo, W.heap.size + 1 ≤ Bo ∧ Own W' Bo [.int .i64 (Pl.at' ps y.1).1, .int .i64 (Pl.at' ps y.1).2, .int .i64 (Pl.nx ps y.1).1, .int .i64 (Pl.nx ps y.1).2] ∧ a'' = { tmps := #[.slice A n cap, .pointer (some ⟨w.heap.size, 0, none⟩), .pointer (some ⟨w.heap.size + 1, 0, none⟩), .pointer (some ⟨w.heap.size + 1 + 1, 0, none⟩), .pointer (some ⟨Bi, 0, none⟩), .pointer (some ⟨Bs, 0, none⟩), .int .i64 y.1, .pointer (some ⟨Bo, 0, none⟩), .slice A n cap, .int .i64 n, .slice A n cap, .func (.func 98) #[] #[.pointer (some ⟨w.heap.size + 1 + 1 + 1, 0, none⟩)], .int .i64 x.1, sdV (Pl.at' ps x.1) (Pl.nx ps x.1), .slice A n cap, .func (.func 98) #[] #[.pointer (some ⟨W.heap.size, 0, none⟩)], .int .i64 y.1, sdV (Pl.at' ps y.1) (Pl.nx ps y.1), undef, undef, undef, undef, undef, undef, undef, undef, undef, undef, undef, undef, undef, undef, undef, undef, undef, undef, undef, undef, undef, undef, undef, undef, undef, undef, undef, undef, undef, undef, undef, undef], defers := [] })
      ?hAx2 ?assign2 ?body2 ?done2 ?stop2
    case kb2 =>
      have hlt' := (Array.getElem?_eq_some_iff.1 ho).1
      exact (Below.refl w.heap.size W').grown (grownBy_putObj' W' l' o') (by simp at hl'; omega) (fun k e => by cases e; simp at hl'; omega)
    case hI2 =>
      rintro s X Y row ⟨e1, ⟨e2, e3, e4, e5, e6⟩, e7, e8, e9, e10⟩ hg hr
      have hrow : ∀ r, row = some r → W.heap.size + 1 ≤ r := fun r e => by have := (hr r e).1; simpa using this
      have hz := e8.size
      exact ⟨e1, ⟨e2.grown hg (fun e => by have := hrow _ e.symm; omega), e3.grown hg (fun e => by have := hrow _ e.symm; omega), e4.grown hg (fun e => by have := hrow _ e.symm; omega), e5.grown hg (fun e => by have := hrow _ e.symm; omega), e6.grown hg (fun e => by have := hrow _ e.symm; omega)⟩,
        Nat.le_trans e7 hg.size, e8.grown hg (by omega) (fun k e => by have := hrow k e; omega), ownFrom_keepsFrom (β := Unit) (B := W0.heap.size) (w₀ := W) (B' := W.heap.size + 1) (by omega) () X Y row e9 hg (fun r e => ⟨hrow r e, (hr r e).2⟩), (hg.block _ (by omega) (fun e => by have := hrow _ e.symm; omega)).trans e10⟩
    case hIx2 =>
      rintro c s X Y row ⟨e0, e1, e3, e8, e9⟩ hg hr
      have hrow : ∀ r, row = some r → W.heap.size + 1 ≤ r := fun r e => by have := (hr r e).1; simpa using this
      have hz := e8.size
      exact ⟨e0, e1, e3.grown hg (fun e => by have := hrow _ e.symm; omega), e8.grown hg (by omega) (fun k e => by have := hrow k e; omega), ownFrom_keepsFrom (β := Unit) (B := W0.heap.size) (w₀ := W) (B' := W.heap.size + 1) (by omega) () X Y row e9 hg (fun r e => ⟨hrow r e, (hr r e).2⟩)⟩
    case hAx2 =>
      rintro y a'' _ X Y row ⟨Bo, e1, e2, e3⟩ hg hr
      exact ⟨Bo, e1, own_abides e2 hg (fun r e => (hr r e).2), e3⟩
    case assign2 =>
      rintro l2 pre' y W' K ⟨e1, ⟨e2, e3, e4, e5, e6⟩, e7, e8, e9, e10⟩ hK
      simp only [sdE]
      gi_wp2
      have hz := e8.size
      refine hK _ _ ((KeepsOthers.alloc _ _).from _) ⟨(Below.refl _ W').alloc (by omega) _, Below.heap_alloc _ _ _ (by omega)⟩ ⟨e1, ⟨e2.alloc _, e3.alloc _, e4.alloc _, e5.alloc _, e6.alloc _⟩, by simp; omega, e8.alloc (by omega) _, e9.trans ((KeepsOthers.alloc _ _).from _), (Below.heap_alloc _ _ _ (by omega)).trans e10⟩ ⟨W'.heap.size, by omega, Own.new' _ _ rfl rfl, rfl⟩
    case done2 =>
      rintro ys W' hS ⟨e1, ⟨e2, e3, e4, e5, e6⟩, e7, e8, e9, e10⟩
      gi_wp2
      refine ⟨e9, ⟨e8, e10⟩, ?_, ⟨e2, e3, e4⟩, by omega, h6.trans e8⟩
      intro z hz k hk
      rcases List.mem_append.1 hz with hz | hz
      · exact H1.out z hz k hk
      · obtain rfl := List.mem_singleton.1 hz
        have hm : k ∈ ys.map (·.1) := by rw [hS]; exact List.mem_range.2 hk
        obtain ⟨y, hy, e⟩ := List.mem_map.1 hm
        rw [← e]
        exact e1 y hy
    case stop2 =>
      rintro c pre' W' _ ⟨rfl, e1, e3, e8, e9⟩
      gi_wp2
      exact ⟨e9, rfl, e1, e3, h6.trans e8⟩
    case body2 =>
      rintro l2 pre' y a'' W' hl2 _ ⟨e1, ⟨e2, e3, e4, e5, e6⟩, e7, e8, e9, e10⟩ ⟨Bo, hBo, oo, rfl⟩ hlt2
      have hyn : y.1 < n := y.2
      have hz := e8.size
      have E1 := Lib.hid e1
      have p0 := Lib.hid e2
      have p1 := Lib.hid e3
      have p2 := Lib.hid e4
      have pi := Lib.hid e5
      have ps' := Lib.hid e6
      -- how a round goes on
      have go : ∀ W'' : World, Below W'.heap.size W' W'' → Pl.bad ps x.1 y.1 = false → (∀ B, KeepsFrom B W' W'') ∧ KpB1 w.heap.size W.heap.size W' W'' ∧ (Hid (∀ z ∈ pre' ++ [y], Pl.bad ps x.1 z.1 = false) ∧ (Own W'' w.heap.size [.slice A n cap] ∧ Own W'' (w.heap.size + 1) [.bool false] ∧ Own W'' (w.heap.size + 1 + 1) [.int .i64 n] ∧ Own W'' Bi [.int .i64 x.1] ∧ Own W'' Bs [.int .i64 (Pl.at' ps x.1).1, .int .i64 (Pl.at' ps x.1).2, .int .i64 (Pl.nx ps x.1).1, .int .i64 (Pl.nx ps x.1).2]) ∧ W.heap.size + 1 ≤ W''.heap.size ∧ Below w.heap.size W W'' ∧ KeepsFrom W0.heap.size W W'' ∧ W''.heap[w.heap.size + 1 + 1 + 1]? = W.heap[w.heap.size + 1 + 1 + 1]?) := fun W'' hb hbad => by
        have hz2 := hb.size
        have hkf : ∀ B, KeepsFrom B W' W'' := fun B => (KeepsOthers.of_grownBy (grown_of_below hb) (fun j o e _ => by cases e)).from B
        refine ⟨hkf, ⟨hb.mono (by omega), hb.block _ (by omega)⟩, ?_, ⟨p0.out.below hb p0.out.lt, p1.out.below hb p1.out.lt, p2.out.below hb p2.out.lt, pi.out.below hb pi.out.lt, ps'.out.below hb ps'.out.lt⟩, by omega, e8.trans (hb.mono (by omega)), e9.trans (hkf _), (hb.block _ (by omega)).trans e10⟩
        intro z hz
        rcases List.mem_append.1 hz with hz | hz
        · exact E1.out z hz
        · obtain rfl := List.mem_singleton.1 hz
          exact hbad
      -- how it is left
      have out : ∀ W'' : World, Below W'.heap.size W' W'' → Pl.bad ps x.1 y.1 = true → (∀ B, KeepsFrom B W' (W''.setCell ⟨w.heap.size + 1, 0, none⟩ (.bool false))) ∧ (Code.ret = Code.ret ∧ Hid (Pl.simple ps = false) ∧ Own (W''.setCell ⟨w.heap.size + 1, 0, none⟩ (.bool false)) (w.heap.size + 1) [.bool false] ∧ Below w.heap.size W (W''.setCell ⟨w.heap.size + 1, 0, none⟩ (.bool false)) ∧ KeepsFrom W0.heap.size W (W''.setCell ⟨w.heap.size + 1, 0, none⟩ (.bool false))) := fun W'' hb hbad => by
        have hz2 := hb.size
        have hkf : ∀ B, KeepsFrom B W' (W''.setCell ⟨w.heap.size + 1, 0, none⟩ (.bool false)) := fun B => ((KeepsOthers.of_grownBy (grown_of_below hb) (fun j o e _ => by cases e)).trans (KeepsOthers.setCell _ _ _)).from B
        exact ⟨hkf, rfl, Pl.simple_no (i := x.1) (k := y.1) (by have := hn.out; omega) (by have := hn.out; omega) hbad, (p1.out.below hb p1.out.lt).set 0 (by simp) _, (e8.trans (hb.mono (by omega))).setCell (by dsimp only; omega) _, e9.trans (hkf _)⟩
      have GO := Lib.hid go
      have OUT := Lib.hid out
      clear go out e1 e7 e8 e9 e10 hr hr' E1
      obtain ⟨_, c1, f1'⟩ := e3
      obtain ⟨_, c2, f2'⟩ := e4
      obtain ⟨_, ci, fi⟩ := e5
      obtain ⟨_, cs, fs⟩ := e6
      have OO := Lib.hid oo
      obtain ⟨lo, co, fo⟩ := oo
      have hL := hn.out
      have hAt : ∀ i, i < n → Pl.isP (Pl.at' ps i) = true := fun i hi => Pl.at_isP hP.out (by omega)
      have hNx : ∀ i, i < n → Pl.isP (Pl.nx ps i) = true := fun i hi => Pl.nx_isP hP.out (by omega)
      have HA1 := Lib.hid (hAt x.1 hxn)
      have HA2 := Lib.hid (hAt y.1 hyn)
      have HN1 := Lib.hid (hNx x.1 hxn)
      have HN2 := Lib.hid (hNx y.1 hyn)
      clear hAt hNx
      obtain ⟨j1, hj1⟩ : ∃ j, (x.1 + 1) % ps.length = j := ⟨_, rfl⟩
      obtain ⟨j2, hj2⟩ : ∃ j, (y.1 + 1) % ps.length = j := ⟨_, rfl⟩
      have hm1 : (((x.1 : Nat) : Int) + 1).tmod (n : Int) = (j1 : Int) := by
        rw [← hj1, ← hL, show ((x.1 : Nat) : Int) + 1 = ((x.1 + 1 : Nat) : Int) by omega]
        exact Int.ofNat_tmod _ _
      have hm2 : (((y.1 : Nat) : Int) + 1).tmod (n : Int) = (j2 : Int) := by
        rw [← hj2, ← hL, show ((y.1 : Nat) : Int) + 1 = ((y.1 + 1 : Nat) : Int) by omega]
        exact Int.ofNat_tmod _ _
      have HJ1 := Lib.hid hj1
      have HJ2 := Lib.hid hj2
      have HLL := Lib.hid hL
      clear hj1 hj2 hL hsz h5
      have hn0 : ¬ n = 0 := by omega
      have hw1 : IntKind.i64.wrap (((x.1 : Nat) : Int) + 1) = ((x.1 : Nat) : Int) + 1 := IntWalk.i64_in _ (by omega)
      have hw2 : IntKind.i64.wrap (((y.1 : Nat) : Int) + 1) = ((y.1 : Nat) : Int) + 1 := IntWalk.i64_in _ (by omega)
      have f3 : Fence.wide.fn 63 := trivial
      have f4 : Fence.wide.fn 115 := trivial
      by_cases hik : x.1 = y.1
      · have hbad := Lib.hid (show Pl.bad ps x.1 y.1 = false by unfold Pl.bad; rw [if_pos hik])
        obtain rfl : x = y := Fin.ext hik
        gi_wp2
        exact ⟨(GO.out _ (Below.refl _ _) hbad.out).1 _, (GO.out _ (Below.refl _ _) hbad.out).2⟩
      · by_cases hk1 : y.1 = j1
        · have hb1 : Pl.bad ps x.1 y.1 = (Pl.has (Pl.at' ps x.1) (Pl.nx ps x.1) (Pl.nx ps y.1) || Pl.has (Pl.at' ps y.1) (Pl.nx ps y.1) (Pl.at' ps x.1)) := by
            have := HJ1.out
            unfold Pl.bad
            rw [if_neg hik, if_pos (by omega)]
          obtain rfl := hk1.symm
          cases hh1 : Pl.has (Pl.at' ps x.1) (Pl.nx ps x.1) (Pl.nx ps y.1)
          · cases hh2 : Pl.has (Pl.at' ps y.1) (Pl.nx ps y.1) (Pl.at' ps x.1)
            · have hbad := Lib.hid (show Pl.bad ps x.1 y.1 = false by rw [hb1, hh1, hh2]; rfl)
              have HH1 := Lib.hid hh1
              have HH2 := Lib.hid hh2
              clear hb1 hh1 hh2
              gi_wp2_with fail
              refine (CallsIn.inRound l2 (CallsIn.inRound l (callsIn_wide.2 (cBB HH1.out (hasW _ _ _ _ _ _ _ HA1.out HN1.out HN2.out))))).mono ?_
              rintro e w1 ⟨rfl, hb1⟩
              clear co cs fo fs ci fi
              have hz1 := hb1.size
              have co := ((OO.out.below hb1 OO.out.lt)).c
              have cs := (ps'.out.below hb1 ps'.out.lt).c
              gi_wp2_with fail
              refine (CallsIn.inRound l2 (CallsIn.inRound l (callsIn_wide.2 (cBB HH2.out (hasW _ _ _ _ _ _ _ HA2.out HN2.out HA1.out))))).mono ?_
              rintro e w2 ⟨rfl, hb2⟩
              gi_wp2
              exact ⟨(GO.out _ (hb1.trans (hb2.mono hz1)) hbad.out).1 _, (GO.out _ (hb1.trans (hb2.mono hz1)) hbad.out).2⟩
            · have hbad := Lib.hid (show Pl.bad ps x.1 y.1 = true by rw [hb1, hh1, hh2]; rfl)
              have HH1 := Lib.hid hh1
              have HH2 := Lib.hid hh2
              clear hb1 hh1 hh2
              gi_wp2_with fail
              refine (CallsIn.inRound l2 (CallsIn.inRound l (callsIn_wide.2 (cBB HH1.out (hasW _ _ _ _ _ _ _ HA1.out HN1.out HN2.out))))).mono ?_
              rintro e w1 ⟨rfl, hb1⟩
              clear co cs fo fs ci fi
              have hz1 := hb1.size
              have co := ((OO.out.below hb1 OO.out.lt)).c
              have cs := (ps'.out.below hb1 ps'.out.lt).c
              gi_wp2_with fail
              refine (CallsIn.inRound l2 (CallsIn.inRound l (callsIn_wide.2 (cBB HH2.out (hasW _ _ _ _ _ _ _ HA2.out HN2.out HA1.out))))).mono ?_
              rintro e w2 ⟨rfl, hb2⟩
              have c1 := ((p1.out.below hb1 p1.out.lt).below hb2 (by have := p1.out.lt; omega)).c
              have f1' := ((p1.out.below hb1 p1.out.lt).below hb2 (by have := p1.out.lt; omega)).f
              gi_wp2
              exact ⟨(OUT.out _ (hb1.trans (hb2.mono hz1)) hbad.out).1 _, rfl, (OUT.out _ (hb1.trans (hb2.mono hz1)) hbad.out).2.2⟩
          · have hbad := Lib.hid (show Pl.bad ps x.1 y.1 = true by rw [hb1, hh1]; rfl)
            have HH1 := Lib.hid hh1
            clear hb1 hh1
            gi_wp2_with fail
            refine (CallsIn.inRound l2 (CallsIn.inRound l (callsIn_wide.2 (cBB HH1.out (hasW _ _ _ _ _ _ _ HA1.out HN1.out HN2.out))))).mono ?_
            rintro e w1 ⟨rfl, hb1⟩
            clear co cs fo fs ci fi c1 f1'
            have c1 := (p1.out.below hb1 p1.out.lt).c
            have f1' := (p1.out.below hb1 p1.out.lt).f
            gi_wp2
            exact ⟨(OUT.out _ hb1 hbad.out).1 _, rfl, (OUT.out _ hb1 hbad.out).2.2⟩
        · have hS : Own W' w.heap.size [.slice A n cap] := p0.out
          gi_wp2
          have hS : YS Bi n w.heap.size x.1 W' := ⟨pi.out, p2.out⟩
          have hb1 : ∀ b, decide (x.1 = j2) = b → Pl.bad ps x.1 y.1 = (if b = true then false else Pl.meets (Pl.at' ps x.1) (Pl.nx ps x.1) (Pl.at' ps y.1) (Pl.nx ps y.1)) := fun b hb => by
            have := HJ1.out
            have := HJ2.out
            unfold Pl.bad
            rw [if_neg hik, if_neg (by omega)]
            subst hb
            by_cases e : x.1 = j2
            · rw [if_pos (by omega), decide_eq_true e]; rfl
            · rw [if_neg (by omega), decide_eq_false e]; rfl
          obtain ⟨bb, hbb⟩ : ∃ bb, decide (x.1 = j2) = bb := ⟨_, rfl⟩
          have hb1' := Lib.hid (hb1 bb hbb)
          clear hb1 hk1
          refine region_in (S := YS Bi n w.heap.size x.1) 7 (by kernel_rfl) (by kernel_rfl) (by kernel_rfl) (by rintro ⟨a, w, h⟩; exact h) ?_
          refine rg_take (fuel := 0) [0, 1, 2, 3, 4, 5, 6] (by kernel_rfl) (by intro _ _ d _ _ h; first | (cases d <;> exact h) | (simp [Exit.then, Exit.inBlock, ownPostG] at h)) rfl (by kernel_rfl) (by kernel_rfl) ⟨pi.out.drew, p2.out.drew⟩ ?_
          simp only [pickL, pick1, List.cons_append, List.nil_append]
          iterate 7 (refine wpTake_cons (v := ?_) (Or.inl ⟨by rfl, ?_⟩) ?_; rotate_left; (intro w' hSw; have yo := hSw.1.c; have yp := hSw.2.c; clear hSw; go_simp; (try with_reducible rfl)); (try simp only [Act.put, List.setIfInBounds_toArray, List.set_cons_zero, List.set_cons_succ]))
          refine wpTake_nil ?_
          refine rg_done (by kernel_rfl) ?_
          have hbe : (((x.1 : Nat) : Int) == ((j2 : Nat) : Int)) = bb := by
            rw [← hbb, Bool.eq_iff_iff, beq_iff_eq, decide_eq_true_iff]
            constructor <;> (intro h; omega)
          have HBE := Lib.hid hbb
          rw [hbe]
          clear hbe hbb
          have R0 : Below W'.heap.size W' W'.drew := (Below.refl _ _).drew
          have HS := Lib.hid hS
          clear hS
          cases bb
          · cases hmm : Pl.meets (Pl.at' ps x.1) (Pl.nx ps x.1) (Pl.at' ps y.1) (Pl.nx ps y.1)
            · have hbad := Lib.hid (show Pl.bad ps x.1 y.1 = false by rw [hb1'.out, hmm]; rfl)
              have HM := Lib.hid hmm
              clear hmm
              gi_wp2_with fail
              refine (CallsIn.inRound l2 (CallsIn.inRound l (callsIn_wide.2 (cBB HM.out (meetsW _ _ _ _ _ _ _ _ _ HA1.out HN1.out HA2.out HN2.out))))).mono ?_
              rintro e w1 ⟨rfl, hb1⟩
              gi_wp2
              exact ⟨(GO.out _ (R0.trans (hb1.mono R0.size)) hbad.out).1 _, (GO.out _ (R0.trans (hb1.mono R0.size)) hbad.out).2⟩
            · have hbad := Lib.hid (show Pl.bad ps x.1 y.1 = true by rw [hb1'.out, hmm]; rfl)
              have HM := Lib.hid hmm
              clear hmm
              gi_wp2_with fail
              refine (CallsIn.inRound l2 (CallsIn.inRound l (callsIn_wide.2 (cBB HM.out (meetsW _ _ _ _ _ _ _ _ _ HA1.out HN1.out HA2.out HN2.out))))).mono ?_
              rintro e w1 ⟨rfl, hb1⟩
              clear co cs fo fs ci fi c1 f1'
              have hB1 := R0.trans (hb1.mono R0.size)
              have c1 := (p1.out.below hB1 p1.out.lt).c
              have f1' := (p1.out.below hB1 p1.out.lt).f
              gi_wp2
              exact ⟨(OUT.out _ hB1 hbad.out).1 _, rfl, (OUT.out _ hB1 hbad.out).2.2⟩
          · have hbad := Lib.hid (show Pl.bad ps x.1 y.1 = false by rw [hb1'.out]; rfl)
            gi_wp2
            exact ⟨(GO.out _ R0 hbad.out).1 _, (GO.out _ R0 hbad.out).2⟩
end Go.Proofs.Ytgmhelclofnpkaa
