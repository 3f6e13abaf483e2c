/- TopHull: Where, Area, the tests, the walk. -/
import Derived.Test.YtgmhelclofnpkaaKh
import Derived.Test.YtgmhelclofnpkaaUe
import Derived.Test.YtgmhelclofnpkaaHulA
import Derived.Test.YtgmhelclofnpkaaUg
import Derived.Test.YtgmhelclofnpkaaGb
import Derived.Test.YtgmhelclofnpkaaQa
import Derived.Test.YtgmhelclofnpkaaUb
import Derived.Deep.LoopGhost
import Derived.Test.YtgmhelclofnpkaaHulB
import Derived.Test.YtgmhelclofnpkaaQc
import Derived.Test.YtgmhelclofnpkaaUm
namespace Go.Proofs.Ytgmhelclofnpkaa
open Go.RowKit Go.Shelf

attribute [local go_sem] Oper.semAt_some
/-- How many of these sides are crossed. -/
def crsL (ps : List P2) (p : P2) (l : List Nat) : Nat := (l.filter fun i => Hu.crs (Pl.at' ps i) (Pl.nx ps i) p).length
theorem crsL_snoc (ps : List P2) (p : P2) (l : List Nat) (i : Nat) : crsL ps p (l ++ [i]) = crsL ps p l + (if Hu.crs (Pl.at' ps i) (Pl.nx ps i) p = true then 1 else 0) := by
  unfold crsL
  rw [List.filter_append, List.length_append]
  cases e : Hu.crs (Pl.at' ps i) (Pl.nx ps i) p <;> simp [e]
theorem crsL_range (ps : List P2) (p : P2) : ∀ n, crsL ps p (List.range n) = Hu.crsTo ps p n
  | 0 => rfl
  | n + 1 => by rw [List.range_succ, crsL_snoc, crsL_range ps p n]; rfl
theorem crsL_le (ps : List P2) (p : P2) (l : List Nat) : crsL ps p l ≤ l.length := List.length_filter_le _ _
/-- What Where tells. -/
def WhR (ps : List P2) (p : P2) (r : Int) : Prop := (r = 2 ∧ ∃ i, i < ps.length ∧ Pl.has (Pl.at' ps i) (Pl.nx ps i) p = true) ∨ (r ≠ 2 ∧ (∀ i, i < ps.length → Pl.has (Pl.at' ps i) (Pl.nx ps i) p = false) ∧ (Hu.crsTo ps p ps.length % 2 = 1 → r = 1))
set_option maxRecDepth 100000 in
set_option maxHeartbeats 8000000 in
theorem whereW (A : Option Addr) (n cap : Nat) (ps : List P2) (px py : Int) (w : World) (hA : Rd 2 w A (ps.map ptrow)) (hn : Hid (n = ps.length)) (hok : Hid (Pl.ok ps = true)) (hp : Hid (Pl.isP (px, py) = true)) :
    Calls Try.prog 18 #[.slice A n cap, .agg #[.int .i64 px, .int .i64 py]] w fun e w' => ∃ r : Int, e = .returned (.tuple #[.int .i64 r, .int .i64 0]) ∧ Hid (WhR ps (px, py) r) ∧ Below w.heap.size w w' := by
  have HA := Lib.hid hA
  clear hA
  have hlen : n ≤ 10 := by have := (Pl.ok_parts hok.out).1; have := hn.out; omega
  have HC := Lib.hid (fun W (k : Rd 2 W A (ps.map ptrow)) => ccheckW A n cap ps W k hn (by omega))
  rw [hok.out] at HC
  have HI := Lib.hid (fun W => isPoint px py W)
  rw [hp.out] at HI
  have f1 : Fence.wide.fn 62 := trivial
  have f2 : Fence.wide.fn 98 := trivial
  have f3 : Fence.wide.fn 36 := trivial
  have f4 : Fence.wide.fn 49 := trivial
  have f5 : Fence.wide.fn 63 := trivial
  have f6 : Fence.wide.fn 56 := trivial
  refine (callsIn_wide (n := 9)).1 ?_
  refine callsIn_of_wp_marks Try.func18 rfl trivial ?_ rfl
  simp only [Try.ntmps18, List.size_toArray, List.length_cons, List.length_nil, Nat.reduceAdd, Nat.reduceSub, Array.replicate_succ, Array.replicate_zero, List.push_toArray, List.append_toArray, List.nil_append, List.cons_append]
  gi_wp2_with fail
  refine (callsIn_wide.2 (HC.out _ (HA.out.below (by (repeat' (first | (with_reducible exact Below.refl _ _) | (with_reducible assumption) | (with_reducible refine Below.drew ?_) | (with_reducible refine below_drewN ?_ _) | (with_reducible refine Below.setCell ?_ ?_ _) | (with_reducible refine Below.alloc ?_ ?_ _) | (refine Below.trans ?_ (Below.mono (by with_reducible assumption) ?_)) | omega | (exact Below.size (by with_reducible assumption)) | (simp; done) | (simp; omega)))) (Nat.le_refl _)))).mono ?_
  rintro e w1 ⟨rfl, hb1⟩
  have p3 : Own w1 w.heap.size [.int .i64 px, .int .i64 py] := Own.below (((Own.new' (w := w) #[.int .i64 px, .int .i64 py] _ (by simp) rfl).alloc _).alloc _) hb1 (by simp; omega)
  have p4 : Own w1 (w.heap.size + 1) [.int .i64 0] := Own.below ((Own.new' (w := w.alloc _) #[.int .i64 0] _ (by simp) rfl).alloc _) hb1 (by simp)
  have p5 : Own w1 (w.heap.size + 1 + 1) [.int .i64 0] := Own.below (Own.new' (w := (w.alloc _).alloc _) #[.int .i64 0] _ (by simp) rfl) hb1 (by simp)
  have hB1 : Below w.heap.size w w1 := by (repeat' (first | (with_reducible exact Below.refl _ _) | (with_reducible assumption) | (with_reducible refine Below.drew ?_) | (with_reducible refine below_drewN ?_ _) | (with_reducible refine Below.setCell ?_ ?_ _) | (with_reducible refine Below.alloc ?_ ?_ _) | (refine Below.trans ?_ (Below.mono (by with_reducible assumption) ?_)) | omega | (exact Below.size (by with_reducible assumption)) | (simp; done) | (simp; omega)))
  clear hb1
  have P3 := Lib.hid p3
  obtain ⟨l3, c3, g3⟩ := p3
  gi_wp2_with fail
  refine (callsIn_wide.2 (HI.out _)).mono ?_
  rintro e w2 ⟨rfl, hb2⟩
  have q3 := P3.out.below hb2 P3.out.lt
  have q4 := p4.below hb2 p4.lt
  have q5 := p5.below hb2 p5.lt
  have hB2 := hB1.trans (hb2.mono hB1.size)
  have hz2 := q5.lt
  clear p4 p5 hB1 hb2 P3 l3 c3 g3
  gi_wp2_with (gi_at_call 62; refine (callsIn_wide.2 (sidesW _ _ _ _)).mono ?_; rintro e w' ⟨rfl, rfl⟩)
  -- loop
  have hasc := Lib.hid (fun ax ay bx by' W (h1 : Pl.isP (ax, ay) = true) (h2 : Pl.isP (bx, by') = true) => hasW ax ay bx by' px py W h1 h2 hp.out)
  have trnc := Lib.hid (fun ax ay bx by' W (h1 : Pl.isP (ax, ay) = true) (h2 : Pl.isP (bx, by') = true) => turnW ax ay bx by' px py W h1 h2 hp.out)
  have hok2 := Lib.hid ((Pl.ok_parts hok.out).2.1)
  refine wpIn_gen fun W0 hW0 => ?_
  have hB0 : Below w2.heap.size w2 W0 := by rw [hW0]; (repeat' (first | (with_reducible exact Below.refl _ _) | (with_reducible assumption) | (with_reducible refine Below.drew ?_) | (with_reducible refine below_drewN ?_ _) | (with_reducible refine Below.setCell ?_ ?_ _) | (with_reducible refine Below.alloc ?_ ?_ _) | (refine Below.trans ?_ (Below.mono (by with_reducible assumption) ?_)) | omega | (exact Below.size (by with_reducible assumption)) | (simp; done) | (simp; omega)))
  have hBW : Below w.heap.size w W0 := hB2.trans (hB0.mono hB2.size)
  have hsz : W0.heap.size = w2.heap.size + 2 := by rw [hW0]; simp
  have o7 : Own W0 w2.heap.size [.int .i64 0] := by rw [hW0]; exact (Own.new' _ _ (by simp) rfl).alloc _
  have o8 : Own W0 (w2.heap.size + 1) [.slice A n cap] := by rw [hW0]; exact Own.new' _ _ (by simp) rfl
  have r3 := q3.below hB0 q3.lt
  have r4 := q4.below hB0 q4.lt
  have r5 := q5.below hB0 q5.lt
  clear hW0 q3 q4 q5 HC HI
  refine wpIn_rangeFunc_ownH rfl (by omega) (gf := 98) (lb := #[.pointer (some ⟨w2.heap.size + 1, 0, none⟩)]) rfl f2 (enters_of Try.func98 (by kernel_rfl) rfl)
    (sidesS A n cap ps (w2.heap.size + 1) w.heap.size W0 8 (by omega) (fun W hW => HA.out.below (hBW.trans hW) (Nat.le_refl _)) hBW.size hn (by omega) o8)
    (fun h1 h2 => ⟨h1.1.trans h2.1, h2.2.trans h1.2⟩)
    (fun W l o o' hl ho hc hw => ⟨?kb, World.putObj_heap_other (by omega)⟩)
    (Below.refl _ _) (fun _ => rfl)
    (fun pre W => Hid (∀ y ∈ pre.map (·.1), Pl.has (Pl.at' ps y) (Pl.nx ps y) (px, py) = false) ∧ (Own W w.heap.size [.int .i64 px, .int .i64 py] ∧ Own W (w.heap.size + 1) [.int .i64 0] ∧ Own W (w.heap.size + 1 + 1) [.int .i64 0] ∧ Own W w2.heap.size [.int .i64 (crsL ps (px, py) (pre.map (·.1)) : Nat)]) ∧ W0.heap.size ≤ W.heap.size ∧ Below w.heap.size w W)
    (fun c pre W => c = .ret ∧ Hid (∃ y, y < ps.length ∧ Pl.has (Pl.at' ps y) (Pl.nx ps y) (px, py) = true) ∧ (Own W (w.heap.size + 1) [.int .i64 2] ∧ Own W (w.heap.size + 1 + 1) [.int .i64 0]) ∧ Below w.heap.size w W)
    ?hI ?hIx ⟨fun y hy => (by cases hy), ⟨r3, r4, r5, o7⟩, Nat.le_refl _, hBW⟩
    (fun x a' W => ∃ Bo, W0.heap.size ≤ Bo ∧ Own W Bo [.int .i64 (Pl.at' ps x.1).1, .int .i64 (Pl.at' ps x.1).2, .int .i64 (Pl.nx ps x.1).1, .int .i64 (Pl.nx ps x.1).2] ∧ a' = { tmps := #[.slice A n cap, .agg #[.int .i64 px, .int .i64 py], undef, .pointer (some ⟨w.heap.size, 0, none⟩), .pointer (some ⟨w.heap.size + 1, 0, none⟩), .pointer (some ⟨w.heap.size + 1 + 1, 0, none⟩), .int .i64 0, .pointer (some ⟨w2.heap.size, 0, none⟩), undef, .pointer (some ⟨Bo, 0, none⟩), .slice A n cap, .int .i64 0, .int .i64 0, .bool false, undef, .agg #[.int .i64 px, .int .i64 py], .bool true, .bool false, .slice A n cap, .func (.func 98) #[] #[.pointer (some ⟨w2.heap.size + 1, 0, none⟩)], .int .i64 x.1, sdV (Pl.at' ps x.1) (Pl.nx ps x.1), undef, undef, undef, undef, undef, undef, undef, undef, undef, undef, undef, undef, undef, undef, undef, undef, undef, undef, undef, undef, undef, undef, undef, undef, undef, undef, undef, undef, undef, undef, undef, undef, undef, undef, undef, undef, undef, undef, undef, undef, undef, undef, undef, undef], defers := [] })
    ?hAx ?assign ?body ?done ?stop
  case kb =>
    have hlt := (Array.getElem?_eq_some_iff.1 ho).1
    exact (Below.refl w.heap.size W).grown (grownBy_putObj' W l o') (by omega) (fun k e => by cases e; omega)
  case hI =>
    rintro s W W' row ⟨h0, ⟨h1, h2, h3, h4⟩, h5, h6⟩ hg hr
    have hrow : ∀ r, row = some r → W0.heap.size ≤ r := fun r e => (hr r e).1
    exact ⟨h0, ⟨h1.grown hg (fun e => by have := hrow _ e.symm; omega), h2.grown hg (fun e => by have := hrow _ e.symm; omega), h3.grown hg (fun e => by have := hrow _ e.symm; omega), h4.grown hg (fun e => by have := hrow _ e.symm; omega)⟩, Nat.le_trans h5 hg.size, h6.grown hg h6.size (fun k e => by have := hrow k e; omega)⟩
  case hIx =>
    rintro c s W W' row ⟨h0, h1, ⟨h2, h3⟩, h6⟩ hg hr
    have hrow : ∀ r, row = some r → W0.heap.size ≤ r := fun r e => (hr r e).1
    exact ⟨h0, h1, ⟨h2.grown hg (fun e => by have := hrow _ e.symm; omega), h3.grown hg (fun e => by have := hrow _ e.symm; omega)⟩, h6.grown hg h6.size (fun k e => by have := hrow k e; omega)⟩
  case hAx =>
    rintro x a' _ W W' row ⟨Bs, h2, h4, h5⟩ hg hr
    exact ⟨Bs, h2, own_abides h4 hg (fun r e => (hr r e).2), h5⟩
  case assign =>
    rintro l pre x W K ⟨h0, ⟨h1, h2, h3, h4⟩, h5, h6⟩ hK
    simp only [sdE]
    gi_wp2
    exact hK _ _ ((KeepsOthers.alloc _ _).from _) ⟨(Below.refl _ W).alloc h6.size _, Below.heap_alloc _ _ _ (by omega)⟩ ⟨h0, ⟨h1.alloc _, h2.alloc _, h3.alloc _, h4.alloc _⟩, by simp; omega, h6.alloc h6.size _⟩ ⟨W.heap.size, by omega, Own.new' _ _ rfl rfl, rfl⟩
  case stop =>
    rintro D c pre W hD _ ⟨rfl, h1, ⟨h2, h3⟩, h6⟩ hK
    have h6' := Lib.hid h6
    gi_wp2
    refine ⟨by simp, .inl ⟨_, _, rfl, run_takeDeferred hK, ?_⟩⟩
    exact ⟨_, results_cellBB (B := w.heap.size + 1) (C := w.heap.size + 1 + 1) rfl rfl rfl (h2.ofBlock (World.putObj_heap_other (by omega))) (h3.ofBlock (World.putObj_heap_other (by omega))) (by kernel_rfl) (by kernel_rfl) (by kernel_rfl) (by kernel_rfl), 2, rfl, Or.inl ⟨rfl, h1.out⟩, h6'.out.trans (belowK_b (w := w) (Nat.le_refl _) W D _ _ (by omega) hK rfl rfl)⟩
  case done =>
    rintro D xs W hD hS ⟨h0, ⟨h1, h2, h3, h4⟩, h5, h6⟩ hK
    rw [hS, crsL_range, hn.out] at h4
    rw [hS, hn.out] at h0
    have hno : Hid (∀ i, i < ps.length → Pl.has (Pl.at' ps i) (Pl.nx ps i) (px, py) = false) := fun i hi => h0.out i (List.mem_range.2 hi)
    obtain ⟨N, hN⟩ : ∃ N, Hu.crsTo ps (px, py) ps.length = N := ⟨_, rfl⟩
    have hN10 : N ≤ 10 := by rw [← hN]; have := Hu.crsTo_le ps (px, py) ps.length; have := hn.out; omega
    rw [hN] at h4
    have HN := Lib.hid hN
    have h6' := Lib.hid h6
    have H2 := Lib.hid h2
    have H3 := Lib.hid h3
    have hDl : D < W.heap.size := (Array.getElem?_eq_some_iff.1 hK).1
    clear hN hS h0 h1
    obtain ⟨l2, c2, g2⟩ := h2
    obtain ⟨l3, c3, g3⟩ := h3
    obtain ⟨l4, c4, g4⟩ := h4
    have hrem : ((N : Nat) : Int).tmod 2 = ((N % 2 : Nat) : Int) := by rw [Int.tmod_eq_emod_of_nonneg (by omega)]; omega
    have hw : IntKind.i64.wrap (((N : Nat) : Int).tmod 2) = ((N % 2 : Nat) : Int) := by rw [hrem]; exact IntWalk.i64_in _ (by omega)
    rcases Nat.mod_two_eq_zero_or_one N with hm | hm
    · rw [hm] at hrem hw
      gi_wp2
      refine ⟨by simp, .inl ⟨_, _, rfl, run_takeDeferred (((Below.heap_setCell _ _ _ _ (by first | omega | (dsimp only; omega) | (simp; done) | (simp; omega))).trans (Below.heap_setCell _ _ _ _ (by first | omega | (dsimp only; omega) | (simp; done) | (simp; omega)))).trans hK), ?_⟩⟩
      exact ⟨_, results_cellBB (B := w.heap.size + 1) (C := w.heap.size + 1 + 1) rfl rfl rfl (((H2.out.set 0 (by simp) _).setOther (by first | omega | (dsimp only; omega) | (simp; done) | (simp; omega)) _).ofBlock (World.putObj_heap_other (by omega))) (((H3.out.setOther (by first | omega | (dsimp only; omega) | (simp; done) | (simp; omega)) _).set 0 (by simp) _).ofBlock (World.putObj_heap_other (by omega))) (by kernel_rfl) (by kernel_rfl) (by kernel_rfl) (by kernel_rfl), 3, rfl, Or.inr ⟨by decide, hno.out, fun h => (by first | rfl | (rw [HN.out] at h; omega))⟩,
        ((h6'.out.setCell (by first | omega | (dsimp only; omega) | (simp; done) | (simp; omega)) _).setCell (by first | omega | (dsimp only; omega) | (simp; done) | (simp; omega)) _).trans (belowK_b (w := w) (Nat.le_refl _) _ D _ _ (by omega) (((Below.heap_setCell _ _ _ _ (by first | omega | (dsimp only; omega) | (simp; done) | (simp; omega))).trans (Below.heap_setCell _ _ _ _ (by first | omega | (dsimp only; omega) | (simp; done) | (simp; omega)))).trans hK) rfl rfl)⟩
    · rw [hm] at hrem hw
      gi_wp2
      refine ⟨by simp, .inl ⟨_, _, rfl, run_takeDeferred (((Below.heap_setCell _ _ _ _ (by first | omega | (dsimp only; omega) | (simp; done) | (simp; omega))).trans (Below.heap_setCell _ _ _ _ (by first | omega | (dsimp only; omega) | (simp; done) | (simp; omega)))).trans hK), ?_⟩⟩
      exact ⟨_, results_cellBB (B := w.heap.size + 1) (C := w.heap.size + 1 + 1) rfl rfl rfl (((H2.out.set 0 (by simp) _).setOther (by first | omega | (dsimp only; omega) | (simp; done) | (simp; omega)) _).ofBlock (World.putObj_heap_other (by omega))) (((H3.out.setOther (by first | omega | (dsimp only; omega) | (simp; done) | (simp; omega)) _).set 0 (by simp) _).ofBlock (World.putObj_heap_other (by omega))) (by kernel_rfl) (by kernel_rfl) (by kernel_rfl) (by kernel_rfl), 1, rfl, Or.inr ⟨by decide, hno.out, fun h => (by first | rfl | (rw [HN.out] at h; omega))⟩,
        ((h6'.out.setCell (by first | omega | (dsimp only; omega) | (simp; done) | (simp; omega)) _).setCell (by first | omega | (dsimp only; omega) | (simp; done) | (simp; omega)) _).trans (belowK_b (w := w) (Nat.le_refl _) _ D _ _ (by omega) (((Below.heap_setCell _ _ _ _ (by first | omega | (dsimp only; omega) | (simp; done) | (simp; omega))).trans (Below.heap_setCell _ _ _ _ (by first | omega | (dsimp only; omega) | (simp; done) | (simp; omega)))).trans hK) rfl rfl)⟩
  case body =>
    rintro l pre x a' W hl hr ⟨h0, ⟨h1, h2, h3, h4⟩, h5, h6⟩ ⟨Bo, hBo, oo, rfl⟩ hlt
    have hxn : x.1 < ps.length := by have := x.2; have := hn.out; omega
    have hA1 := Pl.at_isP hok2.out hxn
    have hN1 := Pl.nx_isP hok2.out hxn
    have hcs := crsL_snoc ps (px, py) (pre.map (·.1)) x.1
    have hcl := crsL_le ps (px, py) (pre.map (·.1))
    rw [List.length_map] at hcl
    have hmp : (pre ++ [x]).map (·.1) = pre.map (·.1) ++ [x.1] := by rw [List.map_append]; rfl
    obtain ⟨m, hm⟩ : ∃ m, crsL ps (px, py) (pre.map (·.1)) = m := ⟨_, rfl⟩
    rw [hm] at h4 hcs hcl
    obtain ⟨⟨ax, ay⟩, ha⟩ : ∃ a, Pl.at' ps x.1 = a := ⟨_, rfl⟩
    obtain ⟨⟨bx, by'⟩, hb⟩ : ∃ b, Pl.nx ps x.1 = b := ⟨_, rfl⟩
    rw [ha] at hA1 oo hcs
    rw [hb] at hN1 oo hcs
    rw [ha, hb]
    dsimp only at oo
    have hm10 : m ≤ 10 := by omega
    have HM := Lib.hid hmp
    have HHA := Lib.hid (fun W => hasc.out ax ay bx by' W hA1 hN1)
    have HA1 := Lib.hid hA1
    have HN1 := Lib.hid hN1
    have Ha := Lib.hid ha
    have Hb := Lib.hid hb
    have HCS := Lib.hid hcs
    have hz6 := h6.size
    have hKM : ∀ W3, Below W.heap.size W W3 → KeepsOthers W W3 := fun W3 hb => KeepsOthers.of_grownBy (grown_of_below hb) (fun j o e _ => by cases e)
    have hKH := Lib.hid hKM
    have hF0 := Lib.hid h0.out
    have l1 := h1.lt
    have l7 := h4.lt
    have lo := oo.lt
    clear hA1 hN1 ha hb hcs hcl hmp hm hKM hasc h0
    have H1 := Lib.hid h1
    have H2 := Lib.hid h2
    have H3 := Lib.hid h3
    have H4 := Lib.hid h4
    have HO := Lib.hid oo
    have H6 := Lib.hid h6
    obtain ⟨_, c1, g1⟩ := h1
    obtain ⟨_, co, go⟩ := oo
    clear h2 h3 h4 h6
    gi_wp2_with fail
    cases hv : Pl.has (ax, ay) (bx, by') (px, py)
    · rw [hv] at HHA
      refine (CallsIn.inRound l (callsIn_wide.2 (HHA.out _))).mono ?_
      rintro e w3 ⟨rfl, hb3⟩
      have HV := Lib.hid hv
      have hz3 := hb3.size
      have HB3 := Lib.hid hb3
      have p1 := H1.out.below hb3 l1
      have po := HO.out.below hb3 lo
      have p4 := H4.out.below hb3 l7
      have P1 := Lib.hid p1
      have PO := Lib.hid po
      have P4 := Lib.hid p4
      clear hb3 hv c1 g1 co go HHA
      obtain ⟨_, c1, g1⟩ := p1
      obtain ⟨_, co, go⟩ := po
      obtain ⟨_, c4, g4⟩ := p4
      have hF : Hid (∀ y ∈ (pre ++ [x]).map (·.1), Pl.has (Pl.at' ps y) (Pl.nx ps y) (px, py) = false) := fun y hy => by
        rw [HM.out] at hy
        rcases List.mem_append.1 hy with hy | hy
        · exact hF0.out y hy
        · rw [List.mem_singleton.1 hy, Ha.out, Hb.out]; exact HV.out
      by_cases hsw : by' < ay
      · have hgt : Hid (by' < ay) := by show _; exact hsw
        by_cases c1' : by' ≤ py
        · by_cases c2' : py < ay
          · have HT := Lib.hid (fun W => trnc.out bx by' ax ay W HN1.out HA1.out)
            obtain ⟨T, hT⟩ : ∃ T, Pl.turn (bx, by') (ax, ay) (px, py) = T := ⟨_, rfl⟩
            rw [hT] at HT
            have HTe := Lib.hid hT
            by_cases c3' : 0 < T
            · clear hT
              have HC3 := Lib.hid c3'
              gi_wp2_with fail
              refine (CallsIn.inRound l (callsIn_wide.2 (HT.out _))).mono ?_
              rintro e w4 ⟨rfl, hb4⟩
              have p7 := ((((P4.out.setOther (a := ⟨Bo, 0, none⟩) (by first | omega | (dsimp only; omega) | (simp; done) | (simp; omega)) (.int .i64 bx)).setOther (a := ⟨Bo, 1, none⟩) (by first | omega | (dsimp only; omega) | (simp; done) | (simp; omega)) (.int .i64 by')).setOther (a := ⟨Bo, 2, none⟩) (by first | omega | (dsimp only; omega) | (simp; done) | (simp; omega)) (.int .i64 ax)).setOther (a := ⟨Bo, 3, none⟩) (by first | omega | (dsimp only; omega) | (simp; done) | (simp; omega)) (.int .i64 ay)).below hb4 (by first | omega | (dsimp only; omega) | (simp; done) | (simp; omega))
              have HB4 := Lib.hid hb4
              clear hb4 c1 g1 co go c4 g4
              obtain ⟨l4, c4, g4⟩ := p7
              have hadd : IntKind.i64.wrap ((m : Int) + 1) = ((m + 1 : Nat) : Int) := IntWalk.i64_in _ (by omega)
              gi_wp2
              have hcr : (if Hu.crs (ax, ay) (bx, by') (px, py) = true then 1 else 0) = 1 := by
                unfold Hu.crs
                rw [if_pos (show (bx, by').2 < (ax, ay).2 from hgt.out)]
                rw [HTe.out]; simp [c1', c2', HC3.out]
              refine ⟨(((((((hKH.out _ HB3.out).trans (KeepsOthers.setCell _ _ _)).trans (KeepsOthers.setCell _ _ _)).trans (KeepsOthers.setCell _ _ _)).trans (KeepsOthers.setCell _ _ _)).trans (KeepsOthers.of_grownBy (grown_of_below HB4.out) (fun j o e _ => by cases e))).trans (KeepsOthers.setCell _ _ _)).from _, ⟨(((((((HB3.out.mono hz6).setCell (by first | omega | (dsimp only; omega) | (simp; done) | (simp; omega)) _).setCell (by first | omega | (dsimp only; omega) | (simp; done) | (simp; omega)) _).setCell (by first | omega | (dsimp only; omega) | (simp; done) | (simp; omega)) _).setCell (by first | omega | (dsimp only; omega) | (simp; done) | (simp; omega)) _).trans (HB4.out.mono (by first | omega | (dsimp only; omega) | (simp; done) | (simp; omega)))).setCell (by first | omega | (dsimp only; omega) | (simp; done) | (simp; omega)) _), ((Below.heap_setCell _ _ _ _ (by first | omega | (dsimp only; omega) | (simp; done) | (simp; omega))).trans ((HB4.out.block _ (by first | omega | (dsimp only; omega) | (simp; done) | (simp; omega))).trans ((Below.heap_setCell _ _ _ _ (by first | omega | (dsimp only; omega) | (simp; done) | (simp; omega))).trans ((Below.heap_setCell _ _ _ _ (by first | omega | (dsimp only; omega) | (simp; done) | (simp; omega))).trans ((Below.heap_setCell _ _ _ _ (by first | omega | (dsimp only; omega) | (simp; done) | (simp; omega))).trans ((Below.heap_setCell _ _ _ _ (by first | omega | (dsimp only; omega) | (simp; done) | (simp; omega))).trans (HB3.out.block _ (by omega))))))))⟩, (by first | exact hF | exact (fun a ha => hF.out _ (List.mem_map.2 ⟨a, ha, rfl⟩))), ⟨(((((((H1.out.below HB3.out l1).setOther (a := ⟨Bo, 0, none⟩) (by first | omega | (dsimp only; omega) | (simp; done) | (simp; omega)) (.int .i64 bx)).setOther (a := ⟨Bo, 1, none⟩) (by first | omega | (dsimp only; omega) | (simp; done) | (simp; omega)) (.int .i64 by')).setOther (a := ⟨Bo, 2, none⟩) (by first | omega | (dsimp only; omega) | (simp; done) | (simp; omega)) (.int .i64 ax)).setOther (a := ⟨Bo, 3, none⟩) (by first | omega | (dsimp only; omega) | (simp; done) | (simp; omega)) (.int .i64 ay)).below HB4.out (by first | omega | (dsimp only; omega) | (simp; done) | (simp; omega))).setOther (a := ⟨w2.heap.size, 0, none⟩) (by first | omega | (dsimp only; omega) | (simp; done) | (simp; omega)) _), (((((((H2.out.below HB3.out (by omega)).setOther (a := ⟨Bo, 0, none⟩) (by first | omega | (dsimp only; omega) | (simp; done) | (simp; omega)) (.int .i64 bx)).setOther (a := ⟨Bo, 1, none⟩) (by first | omega | (dsimp only; omega) | (simp; done) | (simp; omega)) (.int .i64 by')).setOther (a := ⟨Bo, 2, none⟩) (by first | omega | (dsimp only; omega) | (simp; done) | (simp; omega)) (.int .i64 ax)).setOther (a := ⟨Bo, 3, none⟩) (by first | omega | (dsimp only; omega) | (simp; done) | (simp; omega)) (.int .i64 ay)).below HB4.out (by first | omega | (dsimp only; omega) | (simp; done) | (simp; omega))).setOther (a := ⟨w2.heap.size, 0, none⟩) (by first | omega | (dsimp only; omega) | (simp; done) | (simp; omega)) _), (((((((H3.out.below HB3.out (by omega)).setOther (a := ⟨Bo, 0, none⟩) (by first | omega | (dsimp only; omega) | (simp; done) | (simp; omega)) (.int .i64 bx)).setOther (a := ⟨Bo, 1, none⟩) (by first | omega | (dsimp only; omega) | (simp; done) | (simp; omega)) (.int .i64 by')).setOther (a := ⟨Bo, 2, none⟩) (by first | omega | (dsimp only; omega) | (simp; done) | (simp; omega)) (.int .i64 ax)).setOther (a := ⟨Bo, 3, none⟩) (by first | omega | (dsimp only; omega) | (simp; done) | (simp; omega)) (.int .i64 ay)).below HB4.out (by first | omega | (dsimp only; omega) | (simp; done) | (simp; omega))).setOther (a := ⟨w2.heap.size, 0, none⟩) (by first | omega | (dsimp only; omega) | (simp; done) | (simp; omega)) _), ?_⟩, by have := HB4.out.size; (try simp at this ⊢); omega, H6.out.trans ((((((((HB3.out.mono hz6).setCell (by first | omega | (dsimp only; omega) | (simp; done) | (simp; omega)) _).setCell (by first | omega | (dsimp only; omega) | (simp; done) | (simp; omega)) _).setCell (by first | omega | (dsimp only; omega) | (simp; done) | (simp; omega)) _).setCell (by first | omega | (dsimp only; omega) | (simp; done) | (simp; omega)) _).trans (HB4.out.mono (by first | omega | (dsimp only; omega) | (simp; done) | (simp; omega)))).setCell (by first | omega | (dsimp only; omega) | (simp; done) | (simp; omega)) _))⟩
              rw [HM.out, HCS.out, hcr]
              exact ((((((H4.out.below HB3.out l7).setOther (a := ⟨Bo, 0, none⟩) (by first | omega | (dsimp only; omega) | (simp; done) | (simp; omega)) (.int .i64 bx)).setOther (a := ⟨Bo, 1, none⟩) (by first | omega | (dsimp only; omega) | (simp; done) | (simp; omega)) (.int .i64 by')).setOther (a := ⟨Bo, 2, none⟩) (by first | omega | (dsimp only; omega) | (simp; done) | (simp; omega)) (.int .i64 ax)).setOther (a := ⟨Bo, 3, none⟩) (by first | omega | (dsimp only; omega) | (simp; done) | (simp; omega)) (.int .i64 ay)).below HB4.out (by first | omega | (dsimp only; omega) | (simp; done) | (simp; omega))).set 0 (by simp) _
            · clear hT
              have HC3 := Lib.hid c3'
              gi_wp2_with fail
              refine (CallsIn.inRound l (callsIn_wide.2 (HT.out _))).mono ?_
              rintro e w4 ⟨rfl, hb4⟩
              have HB4 := Lib.hid hb4
              clear hb4 c1 g1 co go c4 g4
              gi_wp2
              have hcr : (if Hu.crs (ax, ay) (bx, by') (px, py) = true then 1 else 0) = 0 := by
                unfold Hu.crs
                rw [if_pos (show (bx, by').2 < (ax, ay).2 from hgt.out)]
                rw [HTe.out]; simp [HC3.out]
              refine ⟨((((((hKH.out _ HB3.out).trans (KeepsOthers.setCell _ _ _)).trans (KeepsOthers.setCell _ _ _)).trans (KeepsOthers.setCell _ _ _)).trans (KeepsOthers.setCell _ _ _)).trans (KeepsOthers.of_grownBy (grown_of_below HB4.out) (fun j o e _ => by cases e))).from _, ⟨((((((HB3.out.mono hz6).setCell (by first | omega | (dsimp only; omega) | (simp; done) | (simp; omega)) _).setCell (by first | omega | (dsimp only; omega) | (simp; done) | (simp; omega)) _).setCell (by first | omega | (dsimp only; omega) | (simp; done) | (simp; omega)) _).setCell (by first | omega | (dsimp only; omega) | (simp; done) | (simp; omega)) _).trans (HB4.out.mono (by first | omega | (dsimp only; omega) | (simp; done) | (simp; omega)))), ((HB4.out.block _ (by first | omega | (dsimp only; omega) | (simp; done) | (simp; omega))).trans ((Below.heap_setCell _ _ _ _ (by first | omega | (dsimp only; omega) | (simp; done) | (simp; omega))).trans ((Below.heap_setCell _ _ _ _ (by first | omega | (dsimp only; omega) | (simp; done) | (simp; omega))).trans ((Below.heap_setCell _ _ _ _ (by first | omega | (dsimp only; omega) | (simp; done) | (simp; omega))).trans ((Below.heap_setCell _ _ _ _ (by first | omega | (dsimp only; omega) | (simp; done) | (simp; omega))).trans (HB3.out.block _ (by omega)))))))⟩, (by first | exact hF | exact (fun a ha => hF.out _ (List.mem_map.2 ⟨a, ha, rfl⟩))), ⟨((((((H1.out.below HB3.out l1).setOther (a := ⟨Bo, 0, none⟩) (by first | omega | (dsimp only; omega) | (simp; done) | (simp; omega)) (.int .i64 bx)).setOther (a := ⟨Bo, 1, none⟩) (by first | omega | (dsimp only; omega) | (simp; done) | (simp; omega)) (.int .i64 by')).setOther (a := ⟨Bo, 2, none⟩) (by first | omega | (dsimp only; omega) | (simp; done) | (simp; omega)) (.int .i64 ax)).setOther (a := ⟨Bo, 3, none⟩) (by first | omega | (dsimp only; omega) | (simp; done) | (simp; omega)) (.int .i64 ay)).below HB4.out (by first | omega | (dsimp only; omega) | (simp; done) | (simp; omega))), ((((((H2.out.below HB3.out (by omega)).setOther (a := ⟨Bo, 0, none⟩) (by first | omega | (dsimp only; omega) | (simp; done) | (simp; omega)) (.int .i64 bx)).setOther (a := ⟨Bo, 1, none⟩) (by first | omega | (dsimp only; omega) | (simp; done) | (simp; omega)) (.int .i64 by')).setOther (a := ⟨Bo, 2, none⟩) (by first | omega | (dsimp only; omega) | (simp; done) | (simp; omega)) (.int .i64 ax)).setOther (a := ⟨Bo, 3, none⟩) (by first | omega | (dsimp only; omega) | (simp; done) | (simp; omega)) (.int .i64 ay)).below HB4.out (by first | omega | (dsimp only; omega) | (simp; done) | (simp; omega))), ((((((H3.out.below HB3.out (by omega)).setOther (a := ⟨Bo, 0, none⟩) (by first | omega | (dsimp only; omega) | (simp; done) | (simp; omega)) (.int .i64 bx)).setOther (a := ⟨Bo, 1, none⟩) (by first | omega | (dsimp only; omega) | (simp; done) | (simp; omega)) (.int .i64 by')).setOther (a := ⟨Bo, 2, none⟩) (by first | omega | (dsimp only; omega) | (simp; done) | (simp; omega)) (.int .i64 ax)).setOther (a := ⟨Bo, 3, none⟩) (by first | omega | (dsimp only; omega) | (simp; done) | (simp; omega)) (.int .i64 ay)).below HB4.out (by first | omega | (dsimp only; omega) | (simp; done) | (simp; omega))), ?_⟩, by have := HB4.out.size; (try simp at this ⊢); omega, H6.out.trans (((((((HB3.out.mono hz6).setCell (by first | omega | (dsimp only; omega) | (simp; done) | (simp; omega)) _).setCell (by first | omega | (dsimp only; omega) | (simp; done) | (simp; omega)) _).setCell (by first | omega | (dsimp only; omega) | (simp; done) | (simp; omega)) _).setCell (by first | omega | (dsimp only; omega) | (simp; done) | (simp; omega)) _).trans (HB4.out.mono (by first | omega | (dsimp only; omega) | (simp; done) | (simp; omega)))))⟩
              rw [HM.out, HCS.out, hcr]
              exact ((((((H4.out.below HB3.out l7).setOther (a := ⟨Bo, 0, none⟩) (by first | omega | (dsimp only; omega) | (simp; done) | (simp; omega)) (.int .i64 bx)).setOther (a := ⟨Bo, 1, none⟩) (by first | omega | (dsimp only; omega) | (simp; done) | (simp; omega)) (.int .i64 by')).setOther (a := ⟨Bo, 2, none⟩) (by first | omega | (dsimp only; omega) | (simp; done) | (simp; omega)) (.int .i64 ax)).setOther (a := ⟨Bo, 3, none⟩) (by first | omega | (dsimp only; omega) | (simp; done) | (simp; omega)) (.int .i64 ay)).below HB4.out (by first | omega | (dsimp only; omega) | (simp; done) | (simp; omega)))
          · have HC2 := Lib.hid c2'
            gi_wp2
            have hcr : (if Hu.crs (ax, ay) (bx, by') (px, py) = true then 1 else 0) = 0 := by
              unfold Hu.crs
              rw [if_pos (show (bx, by').2 < (ax, ay).2 from hgt.out)]
              simp; intro a b; have := HC2.out; omega
            refine ⟨(((((hKH.out _ HB3.out).trans (KeepsOthers.setCell _ _ _)).trans (KeepsOthers.setCell _ _ _)).trans (KeepsOthers.setCell _ _ _)).trans (KeepsOthers.setCell _ _ _)).from _, ⟨(((((HB3.out.mono hz6).setCell (by first | omega | (dsimp only; omega) | (simp; done) | (simp; omega)) _).setCell (by first | omega | (dsimp only; omega) | (simp; done) | (simp; omega)) _).setCell (by first | omega | (dsimp only; omega) | (simp; done) | (simp; omega)) _).setCell (by first | omega | (dsimp only; omega) | (simp; done) | (simp; omega)) _), ((Below.heap_setCell _ _ _ _ (by first | omega | (dsimp only; omega) | (simp; done) | (simp; omega))).trans ((Below.heap_setCell _ _ _ _ (by first | omega | (dsimp only; omega) | (simp; done) | (simp; omega))).trans ((Below.heap_setCell _ _ _ _ (by first | omega | (dsimp only; omega) | (simp; done) | (simp; omega))).trans ((Below.heap_setCell _ _ _ _ (by first | omega | (dsimp only; omega) | (simp; done) | (simp; omega))).trans (HB3.out.block _ (by omega))))))⟩, (by first | exact hF | exact (fun a ha => hF.out _ (List.mem_map.2 ⟨a, ha, rfl⟩))), ⟨(((((H1.out.below HB3.out l1).setOther (a := ⟨Bo, 0, none⟩) (by first | omega | (dsimp only; omega) | (simp; done) | (simp; omega)) (.int .i64 bx)).setOther (a := ⟨Bo, 1, none⟩) (by first | omega | (dsimp only; omega) | (simp; done) | (simp; omega)) (.int .i64 by')).setOther (a := ⟨Bo, 2, none⟩) (by first | omega | (dsimp only; omega) | (simp; done) | (simp; omega)) (.int .i64 ax)).setOther (a := ⟨Bo, 3, none⟩) (by first | omega | (dsimp only; omega) | (simp; done) | (simp; omega)) (.int .i64 ay)), (((((H2.out.below HB3.out (by omega)).setOther (a := ⟨Bo, 0, none⟩) (by first | omega | (dsimp only; omega) | (simp; done) | (simp; omega)) (.int .i64 bx)).setOther (a := ⟨Bo, 1, none⟩) (by first | omega | (dsimp only; omega) | (simp; done) | (simp; omega)) (.int .i64 by')).setOther (a := ⟨Bo, 2, none⟩) (by first | omega | (dsimp only; omega) | (simp; done) | (simp; omega)) (.int .i64 ax)).setOther (a := ⟨Bo, 3, none⟩) (by first | omega | (dsimp only; omega) | (simp; done) | (simp; omega)) (.int .i64 ay)), (((((H3.out.below HB3.out (by omega)).setOther (a := ⟨Bo, 0, none⟩) (by first | omega | (dsimp only; omega) | (simp; done) | (simp; omega)) (.int .i64 bx)).setOther (a := ⟨Bo, 1, none⟩) (by first | omega | (dsimp only; omega) | (simp; done) | (simp; omega)) (.int .i64 by')).setOther (a := ⟨Bo, 2, none⟩) (by first | omega | (dsimp only; omega) | (simp; done) | (simp; omega)) (.int .i64 ax)).setOther (a := ⟨Bo, 3, none⟩) (by first | omega | (dsimp only; omega) | (simp; done) | (simp; omega)) (.int .i64 ay)), ?_⟩, by first | omega | (simp; omega), H6.out.trans ((((((HB3.out.mono hz6).setCell (by first | omega | (dsimp only; omega) | (simp; done) | (simp; omega)) _).setCell (by first | omega | (dsimp only; omega) | (simp; done) | (simp; omega)) _).setCell (by first | omega | (dsimp only; omega) | (simp; done) | (simp; omega)) _).setCell (by first | omega | (dsimp only; omega) | (simp; done) | (simp; omega)) _))⟩
            rw [HM.out, HCS.out, hcr]
            exact (((((H4.out.below HB3.out l7).setOther (a := ⟨Bo, 0, none⟩) (by first | omega | (dsimp only; omega) | (simp; done) | (simp; omega)) (.int .i64 bx)).setOther (a := ⟨Bo, 1, none⟩) (by first | omega | (dsimp only; omega) | (simp; done) | (simp; omega)) (.int .i64 by')).setOther (a := ⟨Bo, 2, none⟩) (by first | omega | (dsimp only; omega) | (simp; done) | (simp; omega)) (.int .i64 ax)).setOther (a := ⟨Bo, 3, none⟩) (by first | omega | (dsimp only; omega) | (simp; done) | (simp; omega)) (.int .i64 ay))
        · have HC1 := Lib.hid c1'
          gi_wp2
          have hcr : (if Hu.crs (ax, ay) (bx, by') (px, py) = true then 1 else 0) = 0 := by
            unfold Hu.crs
            rw [if_pos (show (bx, by').2 < (ax, ay).2 from hgt.out)]
            simp; intro a b; have := HC1.out; omega
          refine ⟨(((((hKH.out _ HB3.out).trans (KeepsOthers.setCell _ _ _)).trans (KeepsOthers.setCell _ _ _)).trans (KeepsOthers.setCell _ _ _)).trans (KeepsOthers.setCell _ _ _)).from _, ⟨(((((HB3.out.mono hz6).setCell (by first | omega | (dsimp only; omega) | (simp; done) | (simp; omega)) _).setCell (by first | omega | (dsimp only; omega) | (simp; done) | (simp; omega)) _).setCell (by first | omega | (dsimp only; omega) | (simp; done) | (simp; omega)) _).setCell (by first | omega | (dsimp only; omega) | (simp; done) | (simp; omega)) _), ((Below.heap_setCell _ _ _ _ (by first | omega | (dsimp only; omega) | (simp; done) | (simp; omega))).trans ((Below.heap_setCell _ _ _ _ (by first | omega | (dsimp only; omega) | (simp; done) | (simp; omega))).trans ((Below.heap_setCell _ _ _ _ (by first | omega | (dsimp only; omega) | (simp; done) | (simp; omega))).trans ((Below.heap_setCell _ _ _ _ (by first | omega | (dsimp only; omega) | (simp; done) | (simp; omega))).trans (HB3.out.block _ (by omega))))))⟩, (by first | exact hF | exact (fun a ha => hF.out _ (List.mem_map.2 ⟨a, ha, rfl⟩))), ⟨(((((H1.out.below HB3.out l1).setOther (a := ⟨Bo, 0, none⟩) (by first | omega | (dsimp only; omega) | (simp; done) | (simp; omega)) (.int .i64 bx)).setOther (a := ⟨Bo, 1, none⟩) (by first | omega | (dsimp only; omega) | (simp; done) | (simp; omega)) (.int .i64 by')).setOther (a := ⟨Bo, 2, none⟩) (by first | omega | (dsimp only; omega) | (simp; done) | (simp; omega)) (.int .i64 ax)).setOther (a := ⟨Bo, 3, none⟩) (by first | omega | (dsimp only; omega) | (simp; done) | (simp; omega)) (.int .i64 ay)), (((((H2.out.below HB3.out (by omega)).setOther (a := ⟨Bo, 0, none⟩) (by first | omega | (dsimp only; omega) | (simp; done) | (simp; omega)) (.int .i64 bx)).setOther (a := ⟨Bo, 1, none⟩) (by first | omega | (dsimp only; omega) | (simp; done) | (simp; omega)) (.int .i64 by')).setOther (a := ⟨Bo, 2, none⟩) (by first | omega | (dsimp only; omega) | (simp; done) | (simp; omega)) (.int .i64 ax)).setOther (a := ⟨Bo, 3, none⟩) (by first | omega | (dsimp only; omega) | (simp; done) | (simp; omega)) (.int .i64 ay)), (((((H3.out.below HB3.out (by omega)).setOther (a := ⟨Bo, 0, none⟩) (by first | omega | (dsimp only; omega) | (simp; done) | (simp; omega)) (.int .i64 bx)).setOther (a := ⟨Bo, 1, none⟩) (by first | omega | (dsimp only; omega) | (simp; done) | (simp; omega)) (.int .i64 by')).setOther (a := ⟨Bo, 2, none⟩) (by first | omega | (dsimp only; omega) | (simp; done) | (simp; omega)) (.int .i64 ax)).setOther (a := ⟨Bo, 3, none⟩) (by first | omega | (dsimp only; omega) | (simp; done) | (simp; omega)) (.int .i64 ay)), ?_⟩, by first | omega | (simp; omega), H6.out.trans ((((((HB3.out.mono hz6).setCell (by first | omega | (dsimp only; omega) | (simp; done) | (simp; omega)) _).setCell (by first | omega | (dsimp only; omega) | (simp; done) | (simp; omega)) _).setCell (by first | omega | (dsimp only; omega) | (simp; done) | (simp; omega)) _).setCell (by first | omega | (dsimp only; omega) | (simp; done) | (simp; omega)) _))⟩
          rw [HM.out, HCS.out, hcr]
          exact (((((H4.out.below HB3.out l7).setOther (a := ⟨Bo, 0, none⟩) (by first | omega | (dsimp only; omega) | (simp; done) | (simp; omega)) (.int .i64 bx)).setOther (a := ⟨Bo, 1, none⟩) (by first | omega | (dsimp only; omega) | (simp; done) | (simp; omega)) (.int .i64 by')).setOther (a := ⟨Bo, 2, none⟩) (by first | omega | (dsimp only; omega) | (simp; done) | (simp; omega)) (.int .i64 ax)).setOther (a := ⟨Bo, 3, none⟩) (by first | omega | (dsimp only; omega) | (simp; done) | (simp; omega)) (.int .i64 ay))
      · have hgt : Hid (¬ by' < ay) := by show _; exact hsw
        by_cases c1' : ay ≤ py
        · by_cases c2' : py < by'
          · have HT := Lib.hid (fun W => trnc.out ax ay bx by' W HA1.out HN1.out)
            obtain ⟨T, hT⟩ : ∃ T, Pl.turn (ax, ay) (bx, by') (px, py) = T := ⟨_, rfl⟩
            rw [hT] at HT
            have HTe := Lib.hid hT
            by_cases c3' : 0 < T
            · clear hT
              have HC3 := Lib.hid c3'
              gi_wp2_with fail
              refine (CallsIn.inRound l (callsIn_wide.2 (HT.out _))).mono ?_
              rintro e w4 ⟨rfl, hb4⟩
              have p7 := P4.out.below hb4 (by first | omega | (dsimp only; omega) | (simp; done) | (simp; omega))
              have HB4 := Lib.hid hb4
              clear hb4 c1 g1 co go c4 g4
              obtain ⟨l4, c4, g4⟩ := p7
              have hadd : IntKind.i64.wrap ((m : Int) + 1) = ((m + 1 : Nat) : Int) := IntWalk.i64_in _ (by omega)
              gi_wp2
              have hcr : (if Hu.crs (ax, ay) (bx, by') (px, py) = true then 1 else 0) = 1 := by
                unfold Hu.crs
                rw [if_neg (show ¬ (bx, by').2 < (ax, ay).2 by have := hgt.out; dsimp only; omega)]
                rw [HTe.out]; simp [c1', c2', HC3.out]
              refine ⟨(((hKH.out _ HB3.out).trans (KeepsOthers.of_grownBy (grown_of_below HB4.out) (fun j o e _ => by cases e))).trans (KeepsOthers.setCell _ _ _)).from _, ⟨(((HB3.out.mono hz6).trans (HB4.out.mono (by first | omega | (dsimp only; omega) | (simp; done) | (simp; omega)))).setCell (by first | omega | (dsimp only; omega) | (simp; done) | (simp; omega)) _), ((Below.heap_setCell _ _ _ _ (by first | omega | (dsimp only; omega) | (simp; done) | (simp; omega))).trans ((HB4.out.block _ (by first | omega | (dsimp only; omega) | (simp; done) | (simp; omega))).trans (HB3.out.block _ (by omega))))⟩, (by first | exact hF | exact (fun a ha => hF.out _ (List.mem_map.2 ⟨a, ha, rfl⟩))), ⟨(((H1.out.below HB3.out l1).below HB4.out (by first | omega | (dsimp only; omega) | (simp; done) | (simp; omega))).setOther (a := ⟨w2.heap.size, 0, none⟩) (by first | omega | (dsimp only; omega) | (simp; done) | (simp; omega)) _), (((H2.out.below HB3.out (by omega)).below HB4.out (by first | omega | (dsimp only; omega) | (simp; done) | (simp; omega))).setOther (a := ⟨w2.heap.size, 0, none⟩) (by first | omega | (dsimp only; omega) | (simp; done) | (simp; omega)) _), (((H3.out.below HB3.out (by omega)).below HB4.out (by first | omega | (dsimp only; omega) | (simp; done) | (simp; omega))).setOther (a := ⟨w2.heap.size, 0, none⟩) (by first | omega | (dsimp only; omega) | (simp; done) | (simp; omega)) _), ?_⟩, by have := HB4.out.size; (try simp at this ⊢); omega, H6.out.trans ((((HB3.out.mono hz6).trans (HB4.out.mono (by first | omega | (dsimp only; omega) | (simp; done) | (simp; omega)))).setCell (by first | omega | (dsimp only; omega) | (simp; done) | (simp; omega)) _))⟩
              rw [HM.out, HCS.out, hcr]
              exact ((H4.out.below HB3.out l7).below HB4.out (by first | omega | (dsimp only; omega) | (simp; done) | (simp; omega))).set 0 (by simp) _
            · clear hT
              have HC3 := Lib.hid c3'
              gi_wp2_with fail
              refine (CallsIn.inRound l (callsIn_wide.2 (HT.out _))).mono ?_
              rintro e w4 ⟨rfl, hb4⟩
              have HB4 := Lib.hid hb4
              clear hb4 c1 g1 co go c4 g4
              gi_wp2
              have hcr : (if Hu.crs (ax, ay) (bx, by') (px, py) = true then 1 else 0) = 0 := by
                unfold Hu.crs
                rw [if_neg (show ¬ (bx, by').2 < (ax, ay).2 by have := hgt.out; dsimp only; omega)]
                rw [HTe.out]; simp [HC3.out]
              refine ⟨((hKH.out _ HB3.out).trans (KeepsOthers.of_grownBy (grown_of_below HB4.out) (fun j o e _ => by cases e))).from _, ⟨((HB3.out.mono hz6).trans (HB4.out.mono (by first | omega | (dsimp only; omega) | (simp; done) | (simp; omega)))), ((HB4.out.block _ (by first | omega | (dsimp only; omega) | (simp; done) | (simp; omega))).trans (HB3.out.block _ (by omega)))⟩, (by first | exact hF | exact (fun a ha => hF.out _ (List.mem_map.2 ⟨a, ha, rfl⟩))), ⟨((H1.out.below HB3.out l1).below HB4.out (by first | omega | (dsimp only; omega) | (simp; done) | (simp; omega))), ((H2.out.below HB3.out (by omega)).below HB4.out (by first | omega | (dsimp only; omega) | (simp; done) | (simp; omega))), ((H3.out.below HB3.out (by omega)).below HB4.out (by first | omega | (dsimp only; omega) | (simp; done) | (simp; omega))), ?_⟩, by have := HB4.out.size; (try simp at this ⊢); omega, H6.out.trans (((HB3.out.mono hz6).trans (HB4.out.mono (by first | omega | (dsimp only; omega) | (simp; done) | (simp; omega)))))⟩
              rw [HM.out, HCS.out, hcr]
              exact ((H4.out.below HB3.out l7).below HB4.out (by first | omega | (dsimp only; omega) | (simp; done) | (simp; omega)))
          · have HC2 := Lib.hid c2'
            gi_wp2
            have hcr : (if Hu.crs (ax, ay) (bx, by') (px, py) = true then 1 else 0) = 0 := by
              unfold Hu.crs
              rw [if_neg (show ¬ (bx, by').2 < (ax, ay).2 by have := hgt.out; dsimp only; omega)]
              simp; intro a b; have := HC2.out; omega
            refine ⟨(hKH.out _ HB3.out).from _, ⟨(HB3.out.mono hz6), (HB3.out.block _ (by omega))⟩, (by first | exact hF | exact (fun a ha => hF.out _ (List.mem_map.2 ⟨a, ha, rfl⟩))), ⟨(H1.out.below HB3.out l1), (H2.out.below HB3.out (by omega)), (H3.out.below HB3.out (by omega)), ?_⟩, by first | omega | (simp; omega), H6.out.trans ((HB3.out.mono hz6))⟩
            rw [HM.out, HCS.out, hcr]
            exact (H4.out.below HB3.out l7)
        · have HC1 := Lib.hid c1'
          gi_wp2
          have hcr : (if Hu.crs (ax, ay) (bx, by') (px, py) = true then 1 else 0) = 0 := by
            unfold Hu.crs
            rw [if_neg (show ¬ (bx, by').2 < (ax, ay).2 by have := hgt.out; dsimp only; omega)]
            simp; intro a b; have := HC1.out; omega
          refine ⟨(hKH.out _ HB3.out).from _, ⟨(HB3.out.mono hz6), (HB3.out.block _ (by omega))⟩, (by first | exact hF | exact (fun a ha => hF.out _ (List.mem_map.2 ⟨a, ha, rfl⟩))), ⟨(H1.out.below HB3.out l1), (H2.out.below HB3.out (by omega)), (H3.out.below HB3.out (by omega)), ?_⟩, by first | omega | (simp; omega), H6.out.trans ((HB3.out.mono hz6))⟩
          rw [HM.out, HCS.out, hcr]
          exact (H4.out.below HB3.out l7)
    · rw [hv] at HHA
      refine (CallsIn.inRound l (callsIn_wide.2 (HHA.out _))).mono ?_
      rintro e w3 ⟨rfl, hb3⟩
      have HV := Lib.hid hv
      have hz3 := hb3.size
      have p2 := H2.out.below hb3 (by omega)
      have p3 := H3.out.below hb3 (by omega)
      have HB3 := Lib.hid hb3
      clear hb3 hv c1 g1 co go
      have P2 := Lib.hid p2
      have P3 := Lib.hid p3
      obtain ⟨_, c2, g2⟩ := p2
      obtain ⟨_, c3, g3⟩ := p3
      gi_wp2
      refine ⟨(((hKH.out _ HB3.out).trans (KeepsOthers.setCell _ _ _)).trans (KeepsOthers.setCell _ _ _)).from _, rfl, ⟨x.1, hxn, by rw [Ha.out, Hb.out]; exact HV.out⟩, ⟨(P2.out.set 0 (by simp) _).setOther (by first | omega | (dsimp only; omega) | (simp; done) | (simp; omega)) _, (P3.out.setOther (by first | omega | (dsimp only; omega) | (simp; done) | (simp; omega)) _).set 0 (by simp) _⟩, ((H6.out.trans (HB3.out.mono hz6)).setCell (by first | omega | (dsimp only; omega) | (simp; done) | (simp; omega)) _).setCell (by first | omega | (dsimp only; omega) | (simp; done) | (simp; omega)) _⟩
end Go.Proofs.Ytgmhelclofnpkaa
namespace Go.Proofs.Ytgmhelclofnpkaa
open Go.RowKit Go.Shelf

/-- The doubled area without its sign. -/
def abA (ps : List P2) : Int := max (Pl.area ps) (- Pl.area ps)
theorem area_bd' {ps : List P2} (h : Pl.ok ps = true) : -800000 ≤ Pl.area ps ∧ Pl.area ps ≤ 800000 := by
  have hb : ps.all Pl.isP = true ∧ ps.length ≤ 10 := by
    unfold Pl.ok at h
    simp only [Bool.and_eq_true, btw_iff] at h
    exact ⟨h.1.2, by omega⟩
  have := Pl.sumTo_bd hb.1 ps.length (Nat.le_refl _)
  unfold Pl.area; omega
theorem abA_bd {ps : List P2} (h : Pl.ok ps = true) : 0 ≤ abA ps ∧ abA ps ≤ 800000 := by
  have := area_bd' h
  unfold abA; omega
set_option maxHeartbeats 1000000 in
theorem sArea1W (f1 f2 N : Int) (Bn : Nat) (W : World) (h1 : 900 ≤ f1 ∧ f1 ≤ 1100) (h2 : 900 ≤ f2 ∧ f2 ≤ 1100) (hN : 0 ≤ N ∧ N ≤ 800000) (ho : Own W Bn [.int .i64 N]) :
    Calls Try.prog 61 #[.agg #[.int .i64 f1, .int .i64 f2], .pointer (some ⟨Bn, 0, none⟩)] W fun e w' => e = .returned (.tuple #[.int .i64 (N * 1000000), .int .i64 (f1 * f2)]) ∧ Below W.heap.size W w' := by
  have hm := Pl.mul_bd (a := f1) (b := f2) (A := 1100) (B := 1100) (by omega) (by omega)
  have hw1 : IntKind.i64.wrap (N * 1000000) = N * 1000000 := IntWalk.i64_in _ (by omega)
  have hw2 : IntKind.i64.wrap (f1 * f2) = f1 * f2 := IntWalk.i64_in _ (by omega)
  obtain ⟨l0, c0, g0⟩ := ho
  go_enter Try.func61, Try.ntmps61
  go_wp2
  go_region
  go_wp2
  go_ret2
  exact ⟨rfl, by (repeat' (first | (with_reducible exact Below.refl _ _) | (with_reducible assumption) | (with_reducible refine Below.drew ?_) | (with_reducible refine below_drewN ?_ _) | (with_reducible refine Below.setCell ?_ ?_ _) | (with_reducible refine Below.alloc ?_ ?_ _) | (refine Below.trans ?_ (Below.mono (by with_reducible assumption) ?_)) | omega | (exact Below.size (by with_reducible assumption)) | (simp; done) | (simp; omega)))⟩
theorem frac_area (aL aH lL lH wq : Int) (cs : List Ct) (N : Int) (Bn : Nat) (w : World) (hV : ShV aL aH lL lH wq cs) (hN : 0 ≤ N ∧ N ≤ 800000) (ho : Own w Bn [.int .i64 N]) (p : P2) (hp : Sh.In aL aH lL lH p) :
    FracF 61 #[.pointer (some ⟨Bn, 0, none⟩)] (fun _ => N * 1000000) (fun p => p.1 * p.2) p w := by
  have a := hV.a
  have l := hV.l
  obtain ⟨h1, h2⟩ := hp
  have hm := Pl.mul_bd (a := p.1) (b := p.2) (A := 1100) (B := 1100) (by omega) (by omega)
  have hm2 : 900 * 900 ≤ p.1 * p.2 := Int.mul_le_mul (by omega) (by omega) (by omega) (by omega)
  exact ⟨fun W hb => sArea1W p.1 p.2 N Bn W (by omega) (by omega) hN (ho.below hb ho.lt), by omega, by omega⟩
set_option maxHeartbeats 4000000 in
theorem measuredW (aL aH lL lH : Int) (A : Option Addr) (n cap : Nat) (wq : Int) (cs : List Ct) (A2 : Option Addr) (n2 cap2 : Nat) (ps : List P2) (w : World) (hA : Rd 4 w A (cs.map ctrow)) (hn : Hid (n = cs.length)) (hok : Hid (Sh.okSh aL aH lL lH wq cs = true))
    (hA2 : Rd 2 w A2 (ps.map ptrow)) (hn2 : Hid (n2 = ps.length)) (hok2 : Hid (Pl.ok ps = true)) :
    Calls Try.prog 58 #[shV aL aH lL lH A n cap wq, .slice A2 n2 cap2] w fun e w' => e = .returned (.tuple #[.int .i64 (abA ps), .int .i64 0]) ∧ Below w.heap.size w w' := by
  have HA := Lib.hid hA
  have HA2 := Lib.hid hA2
  have hV := Lib.hid (shV_of hok.out)
  have hlen : n ≤ 9223372036854775807 := by have := hV.out.n; have := hn.out; omega
  have hck := Lib.hid (fun w (h : Rd 4 w A (cs.map ctrow)) => cIB (show (if Sh.okSh aL aH lL lH wq cs = true then (0 : Int) else 40) = 0 by rw [hok.out]; rfl) (scheckW aL aH lL lH A n cap wq cs w h hn hlen))
  have har := area_bd' hok2.out
  obtain ⟨a, haa⟩ : ∃ a, Pl.area ps = a := ⟨_, rfl⟩
  have HR : Hid (abA ps = max a (-a)) := by show _ = _; unfold abA; rw [haa]
  have HCT := Lib.hid (fun W (q : Rd 2 W A2 (ps.map ptrow)) => ctwW A2 n2 cap2 ps W q hn2 (by have := (Pl.ok_parts hok2.out).1; have := hn2.out; omega))
  rw [hok2.out, haa] at HCT
  rw [haa] at har
  rw [HR.out]
  have hwn : IntKind.i64.wrap (-a) = -a := IntWalk.i64_in _ (by omega)
  clear hA hA2 haa
  go_enter Try.func58, Try.ntmps58
  go_wp2_with fail
  refine (hck.out _ (HA.out.below (by (repeat' (first | (with_reducible exact Below.refl _ _) | (with_reducible assumption) | (with_reducible refine Below.drew ?_) | (with_reducible refine below_drewN ?_ _) | (with_reducible refine Below.setCell ?_ ?_ _) | (with_reducible refine Below.alloc ?_ ?_ _) | (refine Below.trans ?_ (Below.mono (by with_reducible assumption) ?_)) | omega | (exact Below.size (by with_reducible assumption)) | (simp; done) | (simp; omega)))) (Nat.le_refl _))).mono ?_
  rintro e w1 ⟨rfl, hb1⟩
  have hB1 : Below w.heap.size w w1 := by (repeat' (first | (with_reducible exact Below.refl _ _) | (with_reducible assumption) | (with_reducible refine Below.drew ?_) | (with_reducible refine below_drewN ?_ _) | (with_reducible refine Below.setCell ?_ ?_ _) | (with_reducible refine Below.alloc ?_ ?_ _) | (refine Below.trans ?_ (Below.mono (by with_reducible assumption) ?_)) | omega | (exact Below.size (by with_reducible assumption)) | (simp; done) | (simp; omega)))
  go_wp2_with fail
  refine (HCT.out _ (HA2.out.below hB1 (Nat.le_refl _))).mono ?_
  rintro e w2 ⟨rfl, hb2⟩
  have hB2 := hB1.trans (hb2.mono hB1.size)
  go_wp2
  all_goals
    go_ret2
    refine ⟨?_, hB2⟩
    first
      | rfl
      | (rw [show max a (-a) = -a by omega]; rfl)
      | (rw [show max a (-a) = a by omega]; rfl)
theorem results_cell_tA {P : Program} {fn : Func} {tmps : Array Value} {w : World} {a s B t : Nat} {vs : List Value} (hr : fn.results = #[.cell a t, .tmp s]) (ha : tmps.getD a undef = .pointer (some ⟨B, 0, none⟩)) (ho : Own w B vs)
    (hagg : (isAgg t).run P w = .ok true w) (hsz : (sizeOf t).run P w = .ok vs.length w) : (results fn tmps).run P w = .ok (.tuple #[.agg vs.toArray, tmps.getD s undef]) w := by
  have hl := loadCells_own (P := P) ho vs.length 0 #[] (by omega)
  have ha' : tmps[a]?.getD undef = .pointer (some ⟨B, 0, none⟩) := by simpa using ha
  simp [results, hr, go_sem, loadVar, hagg, hsz, loadCells, hl, ha', asAddr]
/-- What Area tells. -/
def ArR (aL aH lL lH wq : Int) (cs : List Ct) (N lo hi er : Int) : Prop := (Sh.trs aL aH lL lH wq cs = [] ∧ er = 3 ∧ lo = 0 ∧ hi = 0) ∨
  (Sh.trs aL aH lL lH wq cs ≠ [] ∧ er = 0 ∧ Sh.bdL (fun p => (N * 1000000).tdiv (p.1 * p.2)) (fun p => (N * 1000000 + p.1 * p.2 - 1).tdiv (p.1 * p.2)) (Sh.trs aL aH lL lH wq cs) = some (lo, hi))
set_option maxHeartbeats 4000000 in
theorem sAreaW (aL aH lL lH : Int) (A : Option Addr) (n cap : Nat) (wq : Int) (cs : List Ct) (A2 : Option Addr) (n2 cap2 : Nat) (ps : List P2) (w : World) (hA : Rd 4 w A (cs.map ctrow)) (hn : Hid (n = cs.length)) (hok : Hid (Sh.okSh aL aH lL lH wq cs = true))
    (hA2 : Rd 2 w A2 (ps.map ptrow)) (hn2 : Hid (n2 = ps.length)) (hok2 : Hid (Pl.ok ps = true)) :
    Calls Try.prog 17 #[shV aL aH lL lH A n cap wq, .slice A2 n2 cap2] w fun e w' => ∃ lo hi er, e = .returned (.tuple #[.agg #[.int .i64 lo, .int .i64 hi], .int .i64 er]) ∧ Hid (ArR aL aH lL lH wq cs (abA ps) lo hi er) ∧ Below w.heap.size w w' := by
  have HA := Lib.hid hA
  have HA2 := Lib.hid hA2
  have hV := Lib.hid (shV_of hok.out)
  obtain ⟨N, hN⟩ : ∃ N, abA ps = N := ⟨_, rfl⟩
  have hNb := abA_bd hok2.out
  have HM := Lib.hid (fun W h1 h2 => measuredW aL aH lL lH A n cap wq cs A2 n2 cap2 ps W h1 hn hok h2 hn2 hok2)
  rw [hN] at HM hNb ⊢
  have HNB := Lib.hid hNb
  clear hA hA2 hN hNb
  go_enter Try.func17, Try.ntmps17
  go_wp2_with fail
  refine (HM.out _ (HA.out.below (by (repeat' (first | (with_reducible exact Below.refl _ _) | (with_reducible assumption) | (with_reducible refine Below.drew ?_) | (with_reducible refine below_drewN ?_ _) | (with_reducible refine Below.setCell ?_ ?_ _) | (with_reducible refine Below.alloc ?_ ?_ _) | (refine Below.trans ?_ (Below.mono (by with_reducible assumption) ?_)) | omega | (exact Below.size (by with_reducible assumption)) | (simp; done) | (simp; omega)))) (Nat.le_refl _)) (HA2.out.below (by (repeat' (first | (with_reducible exact Below.refl _ _) | (with_reducible assumption) | (with_reducible refine Below.drew ?_) | (with_reducible refine below_drewN ?_ _) | (with_reducible refine Below.setCell ?_ ?_ _) | (with_reducible refine Below.alloc ?_ ?_ _) | (refine Below.trans ?_ (Below.mono (by with_reducible assumption) ?_)) | omega | (exact Below.size (by with_reducible assumption)) | (simp; done) | (simp; omega)))) (Nat.le_refl _))).mono ?_
  rintro e w1 ⟨rfl, hb1⟩
  have p0 : Own w1 w.heap.size [.int .i64 aL, .int .i64 aH, .int .i64 lL, .int .i64 lH, .slice A n cap, .int .i64 wq] := Own.below ((Own.new' (w := w) #[.int .i64 aL, .int .i64 aH, .int .i64 lL, .int .i64 lH, .slice A n cap, .int .i64 wq] _ rfl rfl).alloc _) hb1 (by simp; omega)
  have p1 : Own w1 (w.heap.size + 1) [.int .i64 0, .int .i64 0] := Own.below (Own.new' (w := w.alloc _) #[.int .i64 0, .int .i64 0] _ (by simp) rfl) hb1 (by simp)
  have hB1 : Below w.heap.size w w1 := by (repeat' (first | (with_reducible exact Below.refl _ _) | (with_reducible assumption) | (with_reducible refine Below.drew ?_) | (with_reducible refine below_drewN ?_ _) | (with_reducible refine Below.setCell ?_ ?_ _) | (with_reducible refine Below.alloc ?_ ?_ _) | (refine Below.trans ?_ (Below.mono (by with_reducible assumption) ?_)) | omega | (exact Below.size (by with_reducible assumption)) | (simp; done) | (simp; omega)))
  have hz1 := p1.lt
  have q0 := p0.alloc (.cells #[.int .i64 N] 3)
  have q1 := p1.alloc (.cells #[.int .i64 N] 3)
  have q2 := Own.new' (w := w1) (b := w1.heap.size) #[.int .i64 N] 3 rfl rfl
  have hB2 := hB1.alloc hB1.size (.cells #[.int .i64 N] 3)
  have Q1 := Lib.hid q1
  have Q2 := Lib.hid q2
  clear hb1 hB1 p1 q1 q2 q0
  obtain ⟨l0, c0, g0⟩ := p0
  go_wp2_with fail
  refine (sopenW aL aH lL lH A n cap wq cs _ (HA.out.below hB2 (Nat.le_refl _)) hn hok).mono ?_
  rintro e w2 ⟨p, er, rfl, hb2, hc⟩
  have s1 := Q1.out.below hb2 Q1.out.lt
  have s2 := Q2.out.below hb2 Q2.out.lt
  have hB3 := hB2.trans (hb2.mono hB2.size)
  clear hb2 hB2 l0 c0 g0 Q1 Q2
  have S1 := Lib.hid s1
  rcases hc.out with ⟨h1, rfl, rfl⟩ | ⟨h1, rfl, Bs, rfl, hBs, hO⟩
  · have H1 := Lib.hid h1
    clear hc h1 s2
    obtain ⟨l1, c1, g1⟩ := s1
    go_wp2
    refine bodyPost_ret (results_cell_tA (B := w.heap.size + 1) (vs := [.int .i64 0, .int .i64 0]) rfl rfl ((S1.out.set 0 (by simp) _).set 1 (by simp) _) (by kernel_rfl) (by kernel_rfl)) rfl ?_
    exact ⟨0, 0, 3, rfl, Or.inl ⟨H1.out, rfl, rfl, rfl⟩, (hB3.setCell (by first | omega | (dsimp only; omega)) _).setCell (by first | omega | (dsimp only; omega)) _⟩
  · have H1 := Lib.hid h1
    have hO' := Lib.hid hO
    have HF := Lib.hid (fun p hp => frac_area aL aH lL lH wq cs N _ w2 hV.out HNB.out s2 p hp)
    obtain ⟨⟨lo, hi⟩, hres⟩ : ∃ r, Sh.bdL (fun p => (N * 1000000).tdiv (p.1 * p.2)) (fun p => (N * 1000000 + p.1 * p.2 - 1).tdiv (p.1 * p.2)) (Sh.trs aL aH lL lH wq cs) = some r := by
      cases hb : Sh.bdL (fun p => (N * 1000000).tdiv (p.1 * p.2)) (fun p => (N * 1000000 + p.1 * p.2 - 1).tdiv (p.1 * p.2)) (Sh.trs aL aH lL lH wq cs) with
      | none => exact absurd (Sh.bdL_none hb) h1
      | some r => exact ⟨r, rfl⟩
    have HRES := Lib.hid hres
    clear hc h1 hres hO s2
    obtain ⟨l1, c1, g1⟩ := s1
    go_wp2_with fail
    refine (sboundsW aL aH lL lH A n cap wq cs Bs 61 _ (fun _ => N * 1000000) (fun p => p.1 * p.2) w2 (HA.out.below hB3 (Nat.le_refl _)) hn hV hO'.out (enters_of Try.func61 (by kernel_rfl) rfl) HF lo hi HRES).mono ?_
    rintro e w3 ⟨rfl, hb3⟩
    have s3 := S1.out.below hb3 S1.out.lt
    have hB4 := hB3.trans (hb3.mono hB3.size)
    have S3 := Lib.hid s3
    clear hb3 hB3 l1 c1 g1
    obtain ⟨l1, c1, g1⟩ := s3
    go_wp2
    refine bodyPost_ret (results_cell_tA (B := w.heap.size + 1) (vs := [.int .i64 lo, .int .i64 hi]) rfl rfl ((S3.out.set 0 (by simp) _).set 1 (by simp) _) (by kernel_rfl) (by kernel_rfl)) rfl ?_
    exact ⟨lo, hi, 0, rfl, Or.inr ⟨H1.out, rfl, HRES.out⟩, (hB4.setCell (by first | omega | (dsimp only; omega)) _).setCell (by first | omega | (dsimp only; omega)) _⟩
end Go.Proofs.Ytgmhelclofnpkaa
namespace Go.Proofs.Ytgmhelclofnpkaa
open Go.RowKit

set_option maxHeartbeats 1000000 in
theorem r4withinW (x lo hi : Int) (w : World) : Calls Try.prog 43 #[.int .i64 x, .int .i64 lo, .int .i64 hi] w fun e w' => e = .returned (.bool (btw x lo hi)) ∧ Below w.heap.size w w' := by
  go_enter Try.func43, Try.ntmps43
  go_wp2_with fail
  refine (rwithinW x lo hi _).mono ?_
  rintro e w1 ⟨rfl, rfl⟩
  go_wp2
  go_ret
  exact ⟨rfl, by (repeat' (first | (with_reducible exact Below.refl _ _) | (with_reducible assumption) | (with_reducible refine Below.drew ?_) | (with_reducible refine below_drewN ?_ _) | (with_reducible refine Below.setCell ?_ ?_ _) | (with_reducible refine Below.alloc ?_ ?_ _) | (refine Below.trans ?_ (Below.mono (by with_reducible assumption) ?_)) | omega | (exact Below.size (by with_reducible assumption)) | (simp; done) | (simp; omega)))⟩
set_option maxHeartbeats 1000000 in
theorem r4IsWayW (x : Int) (w : World) : Calls Try.prog 44 #[.int .i64 x] w fun e w' => e = .returned (.bool (decide (x = 1) || decide (x = 2))) ∧ Below w.heap.size w w' := by
  by_cases h1 : x = 1
  · subst h1
    go_enter Try.func44, Try.ntmps44
    go_wp2
    go_ret
    exact ⟨rfl, by (repeat' (first | (with_reducible exact Below.refl _ _) | (with_reducible assumption) | (with_reducible refine Below.drew ?_) | (with_reducible refine below_drewN ?_ _) | (with_reducible refine Below.setCell ?_ ?_ _) | (with_reducible refine Below.alloc ?_ ?_ _) | (refine Below.trans ?_ (Below.mono (by with_reducible assumption) ?_)) | omega | (exact Below.size (by with_reducible assumption)) | (simp; done) | (simp; omega)))⟩
  · by_cases h2 : x = 2
    · subst h2
      go_enter Try.func44, Try.ntmps44
      go_wp2
      go_ret
      exact ⟨rfl, by (repeat' (first | (with_reducible exact Below.refl _ _) | (with_reducible assumption) | (with_reducible refine Below.drew ?_) | (with_reducible refine below_drewN ?_ _) | (with_reducible refine Below.setCell ?_ ?_ _) | (with_reducible refine Below.alloc ?_ ?_ _) | (refine Below.trans ?_ (Below.mono (by with_reducible assumption) ?_)) | omega | (exact Below.size (by with_reducible assumption)) | (simp; done) | (simp; omega)))⟩
    · have e1 : (x == 1) = false := by simpa using h1
      have e2 : (x == 2) = false := by simpa using h2
      have e3 : (decide (x = 1) || decide (x = 2)) = false := by simp [h1, h2]
      rw [e3]
      go_enter Try.func44, Try.ntmps44
      go_wp2
      go_ret
      exact ⟨rfl, by (repeat' (first | (with_reducible exact Below.refl _ _) | (with_reducible assumption) | (with_reducible refine Below.drew ?_) | (with_reducible refine below_drewN ?_ _) | (with_reducible refine Below.setCell ?_ ?_ _) | (with_reducible refine Below.alloc ?_ ?_ _) | (refine Below.trans ?_ (Below.mono (by with_reducible assumption) ?_)) | omega | (exact Below.size (by with_reducible assumption)) | (simp; done) | (simp; omega)))⟩
set_option maxHeartbeats 1000000 in
theorem r4isSpanW (lo hi : Int) (w : World) : Calls Try.prog 42 #[.agg #[.int .i64 lo, .int .i64 hi]] w fun e w' => e = .returned (.bool (Sh.okSp lo hi)) ∧ Below w.heap.size w w' := by
  by_cases h1 : 900 ≤ lo
  · by_cases h2 : hi ≤ 1100
    · by_cases h3 : lo ≤ hi
      · have e3 : Sh.okSp lo hi = true := Sh.okSp_iff.2 ⟨h1, h3, h2⟩
        rw [e3]
        go_enter Try.func42, Try.ntmps42
        go_wp2
        go_ret
        exact ⟨rfl, by (repeat' (first | (with_reducible exact Below.refl _ _) | (with_reducible assumption) | (with_reducible refine Below.drew ?_) | (with_reducible refine below_drewN ?_ _) | (with_reducible refine Below.setCell ?_ ?_ _) | (with_reducible refine Below.alloc ?_ ?_ _) | (refine Below.trans ?_ (Below.mono (by with_reducible assumption) ?_)) | omega | (exact Below.size (by with_reducible assumption)) | (simp; done) | (simp; omega)))⟩
      · have e3 : Sh.okSp lo hi = false := by rw [← Bool.not_eq_true, Sh.okSp_iff]; omega
        rw [e3]
        go_enter Try.func42, Try.ntmps42
        go_wp2
        go_ret
        exact ⟨rfl, by (repeat' (first | (with_reducible exact Below.refl _ _) | (with_reducible assumption) | (with_reducible refine Below.drew ?_) | (with_reducible refine below_drewN ?_ _) | (with_reducible refine Below.setCell ?_ ?_ _) | (with_reducible refine Below.alloc ?_ ?_ _) | (refine Below.trans ?_ (Below.mono (by with_reducible assumption) ?_)) | omega | (exact Below.size (by with_reducible assumption)) | (simp; done) | (simp; omega)))⟩
    · have e3 : Sh.okSp lo hi = false := by rw [← Bool.not_eq_true, Sh.okSp_iff]; omega
      rw [e3]
      go_enter Try.func42, Try.ntmps42
      go_wp2
      go_ret
      exact ⟨rfl, by (repeat' (first | (with_reducible exact Below.refl _ _) | (with_reducible assumption) | (with_reducible refine Below.drew ?_) | (with_reducible refine below_drewN ?_ _) | (with_reducible refine Below.setCell ?_ ?_ _) | (with_reducible refine Below.alloc ?_ ?_ _) | (refine Below.trans ?_ (Below.mono (by with_reducible assumption) ?_)) | omega | (exact Below.size (by with_reducible assumption)) | (simp; done) | (simp; omega)))⟩
  · have e3 : Sh.okSp lo hi = false := by rw [← Bool.not_eq_true, Sh.okSp_iff]; omega
    rw [e3]
    go_enter Try.func42, Try.ntmps42
    go_wp2
    go_ret
    exact ⟨rfl, by (repeat' (first | (with_reducible exact Below.refl _ _) | (with_reducible assumption) | (with_reducible refine Below.drew ?_) | (with_reducible refine below_drewN ?_ _) | (with_reducible refine Below.setCell ?_ ?_ _) | (with_reducible refine Below.alloc ?_ ?_ _) | (refine Below.trans ?_ (Below.mono (by with_reducible assumption) ?_)) | omega | (exact Below.size (by with_reducible assumption)) | (simp; done) | (simp; omega)))⟩
/-- What the reference tells of a sheet. -/
def r4V (aL aH lL lH wq : Int) (cs : List Ct) : Int := if Sh.okSh aL aH lL lH wq cs = true then 0 else 40
theorem r4_no {aL aH lL lH wq : Int} {cs : List Ct} (h : Sh.okSh aL aH lL lH wq cs = false) : (40 : Int) = r4V aL aH lL lH wq cs := by
  unfold r4V; rw [h]; rfl
theorem r4_yes {aL aH lL lH wq : Int} {cs : List Ct} (h : Sh.okSh aL aH lL lH wq cs = true) : (0 : Int) = r4V aL aH lL lH wq cs := by
  unfold r4V; rw [h]; rfl
theorem r4_ct {aL aH lL lH wq : Int} {cs : List Ct} {c : Ct} (hc : c ∈ cs) (h : Sh.okCt c = false) : Sh.okSh aL aH lL lH wq cs = false := by
  have : cs.all Sh.okCt = false := List.all_eq_false.2 ⟨c, hc, by rw [h]; simp⟩
  unfold Sh.okSh
  rw [this]; simp
set_option maxHeartbeats 8000000 in
theorem r4CheckW (aL aH lL lH : Int) (A : Option Addr) (n cap : Nat) (wq : Int) (cs : List Ct) (w : World) (hA : Rd 4 w A (cs.map ctrow)) (hn : Hid (n = cs.length)) (hlen : n ≤ 9223372036854775807) :
    Calls Try.prog 14 #[shV aL aH lL lH A n cap wq] w fun e w' => e = .returned (.int .i64 (r4V aL aH lL lH wq cs)) ∧ Below w.heap.size w w' := by
  have HA := Lib.hid hA
  clear hA
  have o0 : Own (w.alloc (.cells #[.int .i64 aL, .int .i64 aH, .int .i64 lL, .int .i64 lH, .slice A n cap, .int .i64 wq] 44)) w.heap.size [.int .i64 aL, .int .i64 aH, .int .i64 lL, .int .i64 lH, .slice A n cap, .int .i64 wq] := Own.new' _ _ rfl rfl
  have hB0 : Below w.heap.size w (w.alloc (.cells #[.int .i64 aL, .int .i64 aH, .int .i64 lL, .int .i64 lH, .slice A n cap, .int .i64 wq] 44)) := by (repeat' (first | (with_reducible exact Below.refl _ _) | (with_reducible assumption) | (with_reducible refine Below.drew ?_) | (with_reducible refine below_drewN ?_ _) | (with_reducible refine Below.setCell ?_ ?_ _) | (with_reducible refine Below.alloc ?_ ?_ _) | (refine Below.trans ?_ (Below.mono (by with_reducible assumption) ?_)) | omega | (exact Below.size (by with_reducible assumption)) | (simp; done) | (simp; omega)))
  have O0 := Lib.hid o0
  cases hb0 : Sh.okSp aL aH
  · have H0 := Lib.hid hb0
    obtain ⟨l0, c0, f0⟩ := o0
    go_enter Try.func14, Try.ntmps14
    go_wp2_with fail
    refine (cBB H0.out (r4isSpanW aL aH _)).mono ?_
    rintro e w1 ⟨rfl, hb1⟩
    have o1 := O0.out.below hb1 O0.out.lt
    have hB1 := hB0.trans (hb1.mono hB0.size)
    have O1 := Lib.hid o1
    clear O0 hb1 hB0 l0 c0 f0
    obtain ⟨l0, c0, f0⟩ := o1
    have hE := Lib.hid (r4_no (aL := aL) (aH := aH) (lL := lL) (lH := lH) (wq := wq) (cs := cs) (by unfold Sh.okSh; rw [H0.out]; rfl))
    go_wp2
    go_ret
    exact ⟨ret_int hE.out, hB1⟩
  · have H0 := Lib.hid hb0
    cases hb1 : Sh.okSp lL lH
    · have H1 := Lib.hid hb1
      clear hb0 hb1
      obtain ⟨l0, c0, f0⟩ := o0
      go_enter Try.func14, Try.ntmps14
      go_wp2_with fail
      refine (cBB H0.out (r4isSpanW aL aH _)).mono ?_
      rintro e w1 ⟨rfl, hb1⟩
      have o1 := O0.out.below hb1 O0.out.lt
      have hB1 := hB0.trans (hb1.mono hB0.size)
      have O1 := Lib.hid o1
      clear O0 hb1 hB0 l0 c0 f0
      obtain ⟨l0, c0, f0⟩ := o1
      go_wp2_with fail
      refine (cBB H1.out (r4isSpanW lL lH _)).mono ?_
      rintro e w2 ⟨rfl, hb2⟩
      have o2 := O1.out.below hb2 O1.out.lt
      have hB2 := hB1.trans (hb2.mono hB1.size)
      have O2 := Lib.hid o2
      clear O1 hb2 hB1 l0 c0 f0
      obtain ⟨l0, c0, f0⟩ := o2
      have hE := Lib.hid (r4_no (aL := aL) (aH := aH) (lL := lL) (lH := lH) (wq := wq) (cs := cs) (by unfold Sh.okSh; rw [H0.out, H1.out]; rfl))
      go_wp2
      go_ret
      exact ⟨ret_int hE.out, hB2⟩
    · have H1 := Lib.hid hb1
      by_cases h8 : n ≤ 8
      · cases hb4 : btw wq 0 8
        · have H4 := Lib.hid hb4
          clear hb0 hb1 hb4
          obtain ⟨l0, c0, f0⟩ := o0
          go_enter Try.func14, Try.ntmps14
          go_wp2_with fail
          refine (cBB H0.out (r4isSpanW aL aH _)).mono ?_
          rintro e w1 ⟨rfl, hb1⟩
          have o1 := O0.out.below hb1 O0.out.lt
          have hB1 := hB0.trans (hb1.mono hB0.size)
          have O1 := Lib.hid o1
          clear O0 hb1 hB0 l0 c0 f0
          obtain ⟨l0, c0, f0⟩ := o1
          go_wp2_with fail
          refine (cBB H1.out (r4isSpanW lL lH _)).mono ?_
          rintro e w2 ⟨rfl, hb2⟩
          have o2 := O1.out.below hb2 O1.out.lt
          have hB2 := hB1.trans (hb2.mono hB1.size)
          have O2 := Lib.hid o2
          clear O1 hb2 hB1 l0 c0 f0
          obtain ⟨l0, c0, f0⟩ := o2
          go_wp2_with fail
          refine (cBB H4.out (r4withinW wq 0 8 _)).mono ?_
          rintro e w3 ⟨rfl, hb3⟩
          have o3 := O2.out.below hb3 O2.out.lt
          have hB3 := hB2.trans (hb3.mono hB2.size)
          have O3 := Lib.hid o3
          clear O2 hb3 hB2 l0 c0 f0
          obtain ⟨l0, c0, f0⟩ := o3
          have hE := Lib.hid (r4_no (aL := aL) (aH := aH) (lL := lL) (lH := lH) (wq := wq) (cs := cs) (by unfold Sh.okSh; rw [H0.out, H1.out, H4.out]; simp))
          go_wp2
          go_ret
          exact ⟨ret_int hE.out, hB3⟩
        · have H4 := Lib.hid hb4
          clear hb0 hb1 hb4
          obtain ⟨l0, c0, f0⟩ := o0
          go_enter Try.func14, Try.ntmps14
          go_wp2_with fail
          refine (cBB H0.out (r4isSpanW aL aH _)).mono ?_
          rintro e w1 ⟨rfl, hb1⟩
          have o1 := O0.out.below hb1 O0.out.lt
          have hB1 := hB0.trans (hb1.mono hB0.size)
          have O1 := Lib.hid o1
          clear O0 hb1 hB0 l0 c0 f0
          obtain ⟨l0, c0, f0⟩ := o1
          go_wp2_with fail
          refine (cBB H1.out (r4isSpanW lL lH _)).mono ?_
          rintro e w2 ⟨rfl, hb2⟩
          have o2 := O1.out.below hb2 O1.out.lt
          have hB2 := hB1.trans (hb2.mono hB1.size)
          have O2 := Lib.hid o2
          clear O1 hb2 hB1 l0 c0 f0
          obtain ⟨l0, c0, f0⟩ := o2
          go_wp2_with fail
          refine (cBB H4.out (r4withinW wq 0 8 _)).mono ?_
          rintro e w3 ⟨rfl, hb3⟩
          have o3 := O2.out.below hb3 O2.out.lt
          have hB3 := hB2.trans (hb3.mono hB2.size)
          have O3 := Lib.hid o3
          clear O2 hb3 hB2 l0 c0 f0
          obtain ⟨l0, c0, f0⟩ := o3
          go_wp2
          go_loopg [3] n (fun K i wr => ∃ k : Nat, K + k = n ∧ i = .int .i64 k ∧ Hid ((cs.take k).all Sh.okCt = true) ∧ Own wr w.heap.size [.int .i64 aL, .int .i64 aH, .int .i64 lL, .int .i64 lH, .slice A n cap, .int .i64 wq] ∧ Below w.heap.size w wr)
          case atStart => exact ⟨0, rfl, rfl, rfl, O3.out, hB3⟩
          case round =>
            clear O3 hB3 l0 c0 f0
            obtain ⟨k, hk, rfl, hI, hv, hB4⟩ := hrel
            by_cases hlt : k < n
            · obtain ⟨⟨cw, ct, cr, co⟩, hc⟩ : ∃ c, Hid (cs[k]? = some c) := ⟨cs[k]'(by have := hn.out; omega), by simp [Hid]⟩
              obtain ⟨b, off, rfl, hbl, hc0, hc1, hc2, hc3⟩ := rd_ct (HA.out.below hB4 (Nat.le_refl _)) hc.out
              dsimp only at hc0 hc1 hc2 hc3
              have o4 := hv.alloc (.cells #[.int .i64 cw, .int .i64 ct, .int .i64 cr, .int .i64 co] 93)
              have p4 := Own.new' (w := wr) (b := wr.heap.size) #[.int .i64 cw, .int .i64 ct, .int .i64 cr, .int .i64 co] 93 rfl rfl
              replace hB4 := hB4.alloc hB4.size (.cells #[.int .i64 cw, .int .i64 ct, .int .i64 cr, .int .i64 co] 93)
              have O4 := Lib.hid o4
              have P4 := Lib.hid p4
              have hmem := Lib.hid (List.mem_of_getElem? hc.out)
              clear o4
              obtain ⟨l0, c0, f0⟩ := hv
              obtain ⟨l1, c1, f1⟩ := p4
              cases hk0 : (decide (cw = 1) || decide (cw = 2))
              · have K0 := Lib.hid hk0
                clear hk0
                go_wp2_with fail
                refine (cBB K0.out (r4IsWayW cw _)).mono ?_
                rintro e w5 ⟨rfl, hb5⟩
                have o5 := O4.out.below hb5 O4.out.lt
                have p5 := P4.out.below hb5 P4.out.lt
                have hB5 := hB4.trans (hb5.mono hB4.size)
                have O5 := Lib.hid o5
                have P5 := Lib.hid p5
                clear O4 hb5 hB4 l0 c0 f0 P4 l1 c1 f1
                obtain ⟨l0, c0, f0⟩ := o5
                obtain ⟨l1, c1, f1⟩ := p5
                clear hc0 hc1 hc2 hc3
                have hE := Lib.hid (r4_no (aL := aL) (aH := aH) (lL := lL) (lH := lH) (wq := wq) (cs := cs) (r4_ct hmem.out (by unfold Sh.okCt; simp only [K0.out]; rfl)))
                go_wp2
                go_ret
                exact ⟨ret_int hE.out, hB5⟩
              · have K0 := Lib.hid hk0
                cases hk1 : btw ct 1 9999
                · have K1 := Lib.hid hk1
                  clear hk0
                  clear hk1
                  go_wp2_with fail
                  refine (cBB K0.out (r4IsWayW cw _)).mono ?_
                  rintro e w5 ⟨rfl, hb5⟩
                  have o5 := O4.out.below hb5 O4.out.lt
                  have p5 := P4.out.below hb5 P4.out.lt
                  have hB5 := hB4.trans (hb5.mono hB4.size)
                  have O5 := Lib.hid o5
                  have P5 := Lib.hid p5
                  clear O4 hb5 hB4 l0 c0 f0 P4 l1 c1 f1
                  obtain ⟨l0, c0, f0⟩ := o5
                  obtain ⟨l1, c1, f1⟩ := p5
                  clear hc0 hc1 hc2 hc3
                  go_wp2_with fail
                  refine (cBB K1.out (r4withinW ct 1 9999 _)).mono ?_
                  rintro e w6 ⟨rfl, hb6⟩
                  have o6 := O5.out.below hb6 O5.out.lt
                  have p6 := P5.out.below hb6 P5.out.lt
                  have hB6 := hB5.trans (hb6.mono hB5.size)
                  have O6 := Lib.hid o6
                  have P6 := Lib.hid p6
                  clear O5 hb6 hB5 l0 c0 f0 P5 l1 c1 f1
                  obtain ⟨l0, c0, f0⟩ := o6
                  obtain ⟨l1, c1, f1⟩ := p6
                  have hE := Lib.hid (r4_no (aL := aL) (aH := aH) (lL := lL) (lH := lH) (wq := wq) (cs := cs) (r4_ct hmem.out (by unfold Sh.okCt; simp only [K0.out, K1.out]; rfl)))
                  go_wp2
                  go_ret
                  exact ⟨ret_int hE.out, hB6⟩
                · have K1 := Lib.hid hk1
                  cases hk2 : btw cr 0 9999
                  · have K2 := Lib.hid hk2
                    clear hk0
                    clear hk1
                    clear hk2
                    go_wp2_with fail
                    refine (cBB K0.out (r4IsWayW cw _)).mono ?_
                    rintro e w5 ⟨rfl, hb5⟩
                    have o5 := O4.out.below hb5 O4.out.lt
                    have p5 := P4.out.below hb5 P4.out.lt
                    have hB5 := hB4.trans (hb5.mono hB4.size)
                    have O5 := Lib.hid o5
                    have P5 := Lib.hid p5
                    clear O4 hb5 hB4 l0 c0 f0 P4 l1 c1 f1
                    obtain ⟨l0, c0, f0⟩ := o5
                    obtain ⟨l1, c1, f1⟩ := p5
                    clear hc0 hc1 hc2 hc3
                    go_wp2_with fail
                    refine (cBB K1.out (r4withinW ct 1 9999 _)).mono ?_
                    rintro e w6 ⟨rfl, hb6⟩
                    have o6 := O5.out.below hb6 O5.out.lt
                    have p6 := P5.out.below hb6 P5.out.lt
                    have hB6 := hB5.trans (hb6.mono hB5.size)
                    have O6 := Lib.hid o6
                    have P6 := Lib.hid p6
                    clear O5 hb6 hB5 l0 c0 f0 P5 l1 c1 f1
                    obtain ⟨l0, c0, f0⟩ := o6
                    obtain ⟨l1, c1, f1⟩ := p6
                    go_wp2_with fail
                    refine (cBB K2.out (r4withinW cr 0 9999 _)).mono ?_
                    rintro e w7 ⟨rfl, hb7⟩
                    have o7 := O6.out.below hb7 O6.out.lt
                    have p7 := P6.out.below hb7 P6.out.lt
                    have hB7 := hB6.trans (hb7.mono hB6.size)
                    have O7 := Lib.hid o7
                    have P7 := Lib.hid p7
                    clear O6 hb7 hB6 l0 c0 f0 P6 l1 c1 f1
                    obtain ⟨l0, c0, f0⟩ := o7
                    obtain ⟨l1, c1, f1⟩ := p7
                    have hE := Lib.hid (r4_no (aL := aL) (aH := aH) (lL := lL) (lH := lH) (wq := wq) (cs := cs) (r4_ct hmem.out (by unfold Sh.okCt; simp only [K0.out, K1.out, K2.out]; rfl)))
                    go_wp2
                    go_ret
                    exact ⟨ret_int hE.out, hB7⟩
                  · have K2 := Lib.hid hk2
                    cases hk3 : btw co 0 9999
                    · have K3 := Lib.hid hk3
                      clear hk0
                      clear hk1
                      clear hk2
                      clear hk3
                      go_wp2_with fail
                      refine (cBB K0.out (r4IsWayW cw _)).mono ?_
                      rintro e w5 ⟨rfl, hb5⟩
                      have o5 := O4.out.below hb5 O4.out.lt
                      have p5 := P4.out.below hb5 P4.out.lt
                      have hB5 := hB4.trans (hb5.mono hB4.size)
                      have O5 := Lib.hid o5
                      have P5 := Lib.hid p5
                      clear O4 hb5 hB4 l0 c0 f0 P4 l1 c1 f1
                      obtain ⟨l0, c0, f0⟩ := o5
                      obtain ⟨l1, c1, f1⟩ := p5
                      clear hc0 hc1 hc2 hc3
                      go_wp2_with fail
                      refine (cBB K1.out (r4withinW ct 1 9999 _)).mono ?_
                      rintro e w6 ⟨rfl, hb6⟩
                      have o6 := O5.out.below hb6 O5.out.lt
                      have p6 := P5.out.below hb6 P5.out.lt
                      have hB6 := hB5.trans (hb6.mono hB5.size)
                      have O6 := Lib.hid o6
                      have P6 := Lib.hid p6
                      clear O5 hb6 hB5 l0 c0 f0 P5 l1 c1 f1
                      obtain ⟨l0, c0, f0⟩ := o6
                      obtain ⟨l1, c1, f1⟩ := p6
                      go_wp2_with fail
                      refine (cBB K2.out (r4withinW cr 0 9999 _)).mono ?_
                      rintro e w7 ⟨rfl, hb7⟩
                      have o7 := O6.out.below hb7 O6.out.lt
                      have p7 := P6.out.below hb7 P6.out.lt
                      have hB7 := hB6.trans (hb7.mono hB6.size)
                      have O7 := Lib.hid o7
                      have P7 := Lib.hid p7
                      clear O6 hb7 hB6 l0 c0 f0 P6 l1 c1 f1
                      obtain ⟨l0, c0, f0⟩ := o7
                      obtain ⟨l1, c1, f1⟩ := p7
                      go_wp2_with fail
                      refine (cBB K3.out (r4withinW co 0 9999 _)).mono ?_
                      rintro e w8 ⟨rfl, hb8⟩
                      have o8 := O7.out.below hb8 O7.out.lt
                      have p8 := P7.out.below hb8 P7.out.lt
                      have hB8 := hB7.trans (hb8.mono hB7.size)
                      have O8 := Lib.hid o8
                      have P8 := Lib.hid p8
                      clear O7 hb8 hB7 l0 c0 f0 P7 l1 c1 f1
                      obtain ⟨l0, c0, f0⟩ := o8
                      obtain ⟨l1, c1, f1⟩ := p8
                      have hE := Lib.hid (r4_no (aL := aL) (aH := aH) (lL := lL) (lH := lH) (wq := wq) (cs := cs) (r4_ct hmem.out (by unfold Sh.okCt; simp only [K0.out, K1.out, K2.out, K3.out]; rfl)))
                      go_wp2
                      go_ret
                      exact ⟨ret_int hE.out, hB8⟩
                    · have K3 := Lib.hid hk3
                      clear hk0
                      clear hk1
                      clear hk2
                      clear hk3
                      go_wp2_with fail
                      refine (cBB K0.out (r4IsWayW cw _)).mono ?_
                      rintro e w5 ⟨rfl, hb5⟩
                      have o5 := O4.out.below hb5 O4.out.lt
                      have p5 := P4.out.below hb5 P4.out.lt
                      have hB5 := hB4.trans (hb5.mono hB4.size)
                      have O5 := Lib.hid o5
                      have P5 := Lib.hid p5
                      clear O4 hb5 hB4 l0 c0 f0 P4 l1 c1 f1
                      obtain ⟨l0, c0, f0⟩ := o5
                      obtain ⟨l1, c1, f1⟩ := p5
                      clear hc0 hc1 hc2 hc3
                      go_wp2_with fail
                      refine (cBB K1.out (r4withinW ct 1 9999 _)).mono ?_
                      rintro e w6 ⟨rfl, hb6⟩
                      have o6 := O5.out.below hb6 O5.out.lt
                      have p6 := P5.out.below hb6 P5.out.lt
                      have hB6 := hB5.trans (hb6.mono hB5.size)
                      have O6 := Lib.hid o6
                      have P6 := Lib.hid p6
                      clear O5 hb6 hB5 l0 c0 f0 P5 l1 c1 f1
                      obtain ⟨l0, c0, f0⟩ := o6
                      obtain ⟨l1, c1, f1⟩ := p6
                      go_wp2_with fail
                      refine (cBB K2.out (r4withinW cr 0 9999 _)).mono ?_
                      rintro e w7 ⟨rfl, hb7⟩
                      have o7 := O6.out.below hb7 O6.out.lt
                      have p7 := P6.out.below hb7 P6.out.lt
                      have hB7 := hB6.trans (hb7.mono hB6.size)
                      have O7 := Lib.hid o7
                      have P7 := Lib.hid p7
                      clear O6 hb7 hB6 l0 c0 f0 P6 l1 c1 f1
                      obtain ⟨l0, c0, f0⟩ := o7
                      obtain ⟨l1, c1, f1⟩ := p7
                      go_wp2_with fail
                      refine (cBB K3.out (r4withinW co 0 9999 _)).mono ?_
                      rintro e w8 ⟨rfl, hb8⟩
                      have o8 := O7.out.below hb8 O7.out.lt
                      have p8 := P7.out.below hb8 P7.out.lt
                      have hB8 := hB7.trans (hb8.mono hB7.size)
                      have O8 := Lib.hid o8
                      have P8 := Lib.hid p8
                      clear O7 hb8 hB7 l0 c0 f0 P7 l1 c1 f1
                      obtain ⟨l0, c0, f0⟩ := o8
                      obtain ⟨l1, c1, f1⟩ := p8
                      go_wp2
                      go_roundg (n - (k + 1))
                      case measure => omega
                      case rel =>
                        refine ⟨k + 1, by omega, by go_num, ?_, O8.out, hB8⟩
                        show _ = _
                        rw [take_snoc hc.out, List.all_append, hI.out]
                        have : Sh.okCt ⟨cw, ct, cr, co⟩ = true := by unfold Sh.okCt; simp only [K0.out, K1.out, K2.out, K3.out]; rfl
                        simpa using this
            · have hI2 : cs.all Sh.okCt = true := by
                have := hI.out
                rwa [List.take_of_length_le (by have := hn.out; omega)] at this
              have hE := Lib.hid (r4_yes (aL := aL) (aH := aH) (lL := lL) (lH := lH) (wq := wq) (cs := cs) (by unfold Sh.okSh; rw [H0.out, H1.out, hI2, H4.out, decide_eq_true (show cs.length ≤ 8 by have := hn.out; omega)]; rfl))
              obtain ⟨l0, c0, f0⟩ := hv
              clear hI2
              go_wp2
              go_ret
              exact ⟨ret_int hE.out, hB4⟩
      · have hcs : decide (cs.length ≤ 8) = false := decide_eq_false (by have := hn.out; omega)
        have HCS := Lib.hid hcs
        clear hcs hb0 hb1
        obtain ⟨l0, c0, f0⟩ := o0
        go_enter Try.func14, Try.ntmps14
        go_wp2_with fail
        refine (cBB H0.out (r4isSpanW aL aH _)).mono ?_
        rintro e w1 ⟨rfl, hb1⟩
        have o1 := O0.out.below hb1 O0.out.lt
        have hB1 := hB0.trans (hb1.mono hB0.size)
        have O1 := Lib.hid o1
        clear O0 hb1 hB0 l0 c0 f0
        obtain ⟨l0, c0, f0⟩ := o1
        go_wp2_with fail
        refine (cBB H1.out (r4isSpanW lL lH _)).mono ?_
        rintro e w2 ⟨rfl, hb2⟩
        have o2 := O1.out.below hb2 O1.out.lt
        have hB2 := hB1.trans (hb2.mono hB1.size)
        have O2 := Lib.hid o2
        clear O1 hb2 hB1 l0 c0 f0
        obtain ⟨l0, c0, f0⟩ := o2
        have hE := Lib.hid (r4_no (aL := aL) (aH := aH) (lL := lL) (lH := lH) (wq := wq) (cs := cs) (by unfold Sh.okSh; rw [H0.out, H1.out, HCS.out]; simp))
        go_wp2
        go_ret
        exact ⟨ret_int hE.out, hB2⟩
end Go.Proofs.Ytgmhelclofnpkaa
namespace Go.Proofs.Ytgmhelclofnpkaa
open Go.RowKit

set_option maxHeartbeats 8000000 in
theorem far04W (aL aH lL lH : Int) (A : Option Addr) (n cap : Nat) (wq : Int) (cs : List Ct) (w : World) (hA : Rd 4 w A (cs.map ctrow)) (hn : Hid (n = cs.length)) (hlen : n ≤ 9223372036854775807) :
    Calls Try.prog 13 #[shV aL aH lL lH A n cap wq] w fun e w' => ∃ v : Value, e = .returned v ∧ Hid (v = .bool true ∨ v = .bool false) ∧ Below w.heap.size w w' := by
  have HA := Lib.hid hA
  clear hA
  have o0 : Own (w.alloc (.cells #[.int .i64 aL, .int .i64 aH, .int .i64 lL, .int .i64 lH, .slice A n cap, .int .i64 wq] 44)) w.heap.size [.int .i64 aL, .int .i64 aH, .int .i64 lL, .int .i64 lH, .slice A n cap, .int .i64 wq] := Own.new' _ _ rfl rfl
  have hB0 : Below w.heap.size w (w.alloc (.cells #[.int .i64 aL, .int .i64 aH, .int .i64 lL, .int .i64 lH, .slice A n cap, .int .i64 wq] 44)) := by (repeat' (first | (with_reducible exact Below.refl _ _) | (with_reducible assumption) | (with_reducible refine Below.drew ?_) | (with_reducible refine below_drewN ?_ _) | (with_reducible refine Below.setCell ?_ ?_ _) | (with_reducible refine Below.alloc ?_ ?_ _) | (refine Below.trans ?_ (Below.mono (by with_reducible assumption) ?_)) | omega | (exact Below.size (by with_reducible assumption)) | (simp; done) | (simp; omega)))
  by_cases h40 : 40 < n
  · go_enter Try.func13, Try.ntmps13
    go_wp2
    go_ret
    exact ⟨_, rfl, Or.inl rfl, hB0⟩
  · cases hs : Sh.okSh aL aH lL lH wq cs
    · have hv : r4V aL aH lL lH wq cs = 40 := by unfold r4V; rw [hs]; rfl
      have HC := Lib.hid (fun W k => r4CheckW aL aH lL lH A n cap wq cs W k hn hlen)
      rw [hv] at HC
      clear hs hv
      go_enter Try.func13, Try.ntmps13
      go_wp2_with fail
      refine (HC.out _ (HA.out.below hB0 (Nat.le_refl _))).mono ?_
      rintro e w1 ⟨rfl, hb1⟩
      have hB1 := hB0.trans (hb1.mono hB0.size)
      go_wp2
      go_ret
      exact ⟨_, rfl, Or.inr rfl, hB1⟩
    · have hv : r4V aL aH lL lH wq cs = 0 := by unfold r4V; rw [hs]; rfl
      have hV := shV_of hs
      have ha := hV.a
      have hl := hV.l
      have HC := Lib.hid (fun W k => r4CheckW aL aH lL lH A n cap wq cs W k hn hlen)
      rw [hv] at HC
      have O0 := Lib.hid o0
      obtain ⟨l0, c0, f0⟩ := o0
      clear hs hv hV
      go_enter Try.func13, Try.ntmps13
      go_wp2_with fail
      refine (HC.out _ (HA.out.below hB0 (Nat.le_refl _))).mono ?_
      rintro e w1 ⟨rfl, hb1⟩
      have hB1 := hB0.trans (hb1.mono hB0.size)
      have o1 := O0.out.below hb1 O0.out.lt
      clear O0 l0 c0 f0 hb1 hB0
      obtain ⟨l0, c0, f0⟩ := o1
      have w1' : IntKind.i64.wrap (aH - aL) = aH - aL := IntWalk.i64_in _ (by omega)
      have w2' : IntKind.i64.wrap (lH - lL) = lH - lL := IntWalk.i64_in _ (by omega)
      by_cases h1 : 25 ≤ aH - aL
      · by_cases h2 : lH - lL ≤ aH - aL
        · go_wp2
          all_goals
            go_ret
            exact ⟨_, rfl, by first | exact Or.inl rfl | exact Or.inr rfl | (simp [Hid]; omega), hB1⟩
        · go_wp2
          all_goals
            go_ret
            exact ⟨_, rfl, by first | exact Or.inl rfl | exact Or.inr rfl | (simp [Hid]; omega), hB1⟩
      · by_cases h2 : 25 ≤ lH - lL
        · go_wp2
          all_goals
            go_ret
            exact ⟨_, rfl, by first | exact Or.inl rfl | exact Or.inr rfl | (simp [Hid]; omega), hB1⟩
        · go_wp2
          all_goals
            go_ret
            exact ⟨_, rfl, by first | exact Or.inl rfl | exact Or.inr rfl | (simp [Hid]; omega), hB1⟩
namespace Sh
theorem bdL_mono {f g f' g' : P2 → Int} : ∀ (k : Nat) (l : List P2), l.length = k → (∀ p ∈ l, f p ≤ f' p ∧ g p ≤ g' p) → ∀ a b c d, bdL f g l = some (a, b) → bdL f' g' l = some (c, d) → a ≤ c ∧ b ≤ d
  | 0, l, hl, _, a, b, c, d, h1, _ => by
    obtain rfl := List.eq_nil_of_length_eq_zero hl
    cases h1
  | k + 1, l, hl, h, a, b, c, d, h1, h2 => by
    rcases List.eq_nil_or_concat l with rfl | ⟨l', p, rfl⟩
    · simp at hl
    · rw [List.concat_eq_append] at *
      rw [bdL_snoc] at h1 h2
      have hp := h p (by simp)
      cases e1 : bdL f g l' with
      | none =>
        have := bdL_none e1
        subst this
        rw [e1] at h1
        rw [show bdL f' g' [] = none from rfl] at h2
        unfold bdS at h1 h2
        cases h1; cases h2
        exact hp
      | some q =>
        cases e2 : bdL f' g' l' with
        | none =>
          have := bdL_none e2
          subst this
          cases e1
        | some r =>
          rw [e1] at h1
          rw [e2] at h2
          obtain ⟨q1, q2⟩ := q
          obtain ⟨r1, r2⟩ := r
          have ih := bdL_mono k l' (by simp at hl; exact hl) (fun x hx => h x (by simp [hx])) q1 q2 r1 r2 e1 e2
          unfold bdS at h1 h2
          simp only [Option.some.injEq, Prod.mk.injEq] at h1 h2
          omega
end Sh
theorem pairs_inH {aL lL : Int} {m : Nat} {p : P2} : ∀ n, p ∈ Sh.pairs aL lL m n → ∃ i j : Nat, i < n ∧ j < m ∧ p = (aL + (i : Int), lL + (j : Int))
  | 0, h => by simp [Sh.pairs] at h
  | n + 1, h => by
    rw [Sh.pairs, List.mem_append] at h
    rcases h with h | h
    · obtain ⟨i, j, h1, h2, h3⟩ := pairs_inH n h
      exact ⟨i, j, by omega, h2, h3⟩
    · obtain ⟨j, hj, rfl⟩ := List.mem_map.1 h
      exact ⟨n, j, by omega, List.mem_range.1 hj, rfl⟩
theorem allP_inH {aL aH lL lH : Int} {p : P2} (h : p ∈ Sh.allP aL aH lL lH) : Sh.In aL aH lL lH p := by
  obtain ⟨i, j, h1, h2, rfl⟩ := pairs_inH _ h
  unfold Sh.In
  simp only
  omega
/-- A greater area has greater bounds. -/
theorem ar_mono {aL aH lL lH wq : Int} {cs : List Ct} {N N' lo hi er lo' hi' er' : Int} (hV : ShV aL aH lL lH wq cs) (hN : 0 ≤ N) (hNN : N ≤ N') (h : ArR aL aH lL lH wq cs N lo hi er) (h' : ArR aL aH lL lH wq cs N' lo' hi' er') : (er = er' ∧ (er = 0 ∨ er = 3)) ∧ lo ≤ lo' ∧ hi ≤ hi' := by
  rcases h with ⟨h1, rfl, rfl, rfl⟩ | ⟨h1, rfl, h2⟩
  · rcases h' with ⟨_, rfl, rfl, rfl⟩ | ⟨k1, _, _⟩
    · exact ⟨⟨rfl, Or.inr rfl⟩, Int.le_refl _, Int.le_refl _⟩
    · exact absurd h1 k1
  · rcases h' with ⟨k1, _⟩ | ⟨_, rfl, k2⟩
    · exact absurd k1 h1
    · refine ⟨⟨rfl, Or.inl rfl⟩, Sh.bdL_mono _ _ rfl (fun p hp => ?_) _ _ _ _ h2 k2⟩
      have hin : Sh.In aL aH lL lH p := allP_inH (List.mem_filter.1 hp).1
      have a := hV.a
      have l := hV.l
      obtain ⟨i1, i2⟩ := hin
      have hm2 : 900 * 900 ≤ p.1 * p.2 := Int.mul_le_mul (by omega) (by omega) (by omega) (by omega)
      generalize p.1 * p.2 = d at *
      have e1 : (N * 1000000).tdiv d = (N * 1000000) / d := Int.tdiv_eq_ediv_of_nonneg (by omega)
      have e2 : (N' * 1000000).tdiv d = (N' * 1000000) / d := Int.tdiv_eq_ediv_of_nonneg (by omega)
      have e3 : (N * 1000000 + d - 1).tdiv d = (N * 1000000 + d - 1) / d := Int.tdiv_eq_ediv_of_nonneg (by omega)
      have e4 : (N' * 1000000 + d - 1).tdiv d = (N' * 1000000 + d - 1) / d := Int.tdiv_eq_ediv_of_nonneg (by omega)
      rw [e1, e2, e3, e4]
      exact ⟨Int.ediv_le_ediv (by omega) (by omega), Int.ediv_le_ediv (by omega) (by omega)⟩
theorem ar_same {aL aH lL lH wq : Int} {cs : List Ct} {N lo hi er lo' hi' er' : Int} (h : ArR aL aH lL lH wq cs N lo hi er) (h' : ArR aL aH lL lH wq cs N lo' hi' er') : lo = lo' ∧ hi = hi' := by
  rcases h with ⟨h1, rfl, rfl, rfl⟩ | ⟨h1, rfl, h2⟩
  · rcases h' with ⟨_, rfl, rfl, rfl⟩ | ⟨k1, _, _⟩
    · exact ⟨rfl, rfl⟩
    · exact absurd h1 k1
  · rcases h' with ⟨k1, _⟩ | ⟨_, rfl, k2⟩
    · exact absurd k1 h1
    · rw [h2] at k2
      cases k2
      exact ⟨rfl, rfl⟩
end Go.Proofs.Ytgmhelclofnpkaa
namespace Go.Proofs.Ytgmhelclofnpkaa
open Go.RowKit

set_option maxHeartbeats 400000 in
theorem farHW (A : Option Addr) (n cap : Nat) (w : World) : Calls Try.prog 7 #[.slice A n cap] w fun e w' => ∃ v : Value, e = .returned v ∧ Hid (v = .bool true ∨ v = .bool false) ∧ Below w.heap.size w w' := by
  by_cases h : 40 < n
  · go_enter Try.func7, Try.ntmps7
    go_wp2
    go_ret
    exact ⟨_, rfl, Or.inl (by simp; omega), by (repeat' (first | (with_reducible exact Below.refl _ _) | (with_reducible assumption) | (with_reducible refine Below.drew ?_) | (with_reducible refine below_drewN ?_ _) | (with_reducible refine Below.setCell ?_ ?_ _) | (with_reducible refine Below.alloc ?_ ?_ _) | (refine Below.trans ?_ (Below.mono (by with_reducible assumption) ?_)) | omega | (exact Below.size (by with_reducible assumption)) | (simp; done) | (simp; omega)))⟩
  · go_enter Try.func7, Try.ntmps7
    go_wp2
    go_ret
    exact ⟨_, rfl, Or.inr (by simp; omega), by (repeat' (first | (with_reducible exact Below.refl _ _) | (with_reducible assumption) | (with_reducible refine Below.drew ?_) | (with_reducible refine below_drewN ?_ _) | (with_reducible refine Below.setCell ?_ ?_ _) | (with_reducible refine Below.alloc ?_ ?_ _) | (refine Below.trans ?_ (Below.mono (by with_reducible assumption) ?_)) | omega | (exact Below.size (by with_reducible assumption)) | (simp; done) | (simp; omega)))⟩
/-- A corner on a hull's side is on its line. -/
theorem has_turn {a b p : P2} (h : Pl.has a b p = true) : Pl.turn a b p = 0 := by
  unfold Pl.has at h
  rw [Bool.and_eq_true] at h
  exact of_decide_eq_true h.1
set_option maxRecDepth 100000 in
set_option maxHeartbeats 16000000 in
theorem hullTopW (aL aH lL lH : Int) (A : Option Addr) (n cap : Nat) (wq : Int) (cs : List Ct) (A2 : Option Addr) (n2 cap2 : Nat) (ps : List P2) (w : World) (hA : Rd 4 w A (cs.map ctrow)) (hn : n = cs.length) (hlen : n ≤ 9223372036854775807)
    (hA2 : Rd 2 w A2 (ps.map ptrow)) (hn2 : n2 = ps.length) (hlen2 : n2 ≤ 9223372036854775807) :
    Calls Try.prog 4 #[shV aL aH lL lH A n cap wq, .slice A2 n2 cap2] w fun e w' => e = .returned (.bool true) ∧ Below w.heap.size w w' := by
  have HN := Lib.hid hn
  have HN2 := Lib.hid hn2
  have HA := Lib.hid hA
  have HA2 := Lib.hid hA2
  have HL := Lib.hid hlen
  have HL2 := Lib.hid hlen2
  have o0 : Own (w.alloc (.cells #[.int .i64 aL, .int .i64 aH, .int .i64 lL, .int .i64 lH, .slice A n cap, .int .i64 wq] 44)) w.heap.size [.int .i64 aL, .int .i64 aH, .int .i64 lL, .int .i64 lH, .slice A n cap, .int .i64 wq] := Own.new' _ _ rfl rfl
  have hB0 : Below w.heap.size w (w.alloc (.cells #[.int .i64 aL, .int .i64 aH, .int .i64 lL, .int .i64 lH, .slice A n cap, .int .i64 wq] 44)) := by (repeat' (first | (with_reducible exact Below.refl _ _) | (with_reducible assumption) | (with_reducible refine Below.drew ?_) | (with_reducible refine below_drewN ?_ _) | (with_reducible refine Below.setCell ?_ ?_ _) | (with_reducible refine Below.alloc ?_ ?_ _) | (refine Below.trans ?_ (Below.mono (by with_reducible assumption) ?_)) | omega | (exact Below.size (by with_reducible assumption)) | (simp; done) | (simp; omega)))
  have O0 := Lib.hid o0
  clear hA hn hlen hA2 hn2 hlen2
  obtain ⟨rv, hrv⟩ : ∃ v, r4V aL aH lL lH wq cs = v := ⟨_, rfl⟩
  have HR := Lib.hid (fun W k => r4CheckW aL aH lL lH A n cap wq cs W k HN HL.out)
  rw [hrv] at HR
  have HRV := Lib.hid hrv
  clear hrv
  obtain ⟨l0, c0, f0⟩ := o0
  go_enter Try.func4, Try.ntmps4
  go_wp2_with fail
  refine (far04W aL aH lL lH A n cap wq cs _ (HA.out.below hB0 (Nat.le_refl _)) HN HL.out).mono ?_
  rintro e w1 ⟨fv, rfl, hfv, hb1⟩
  have o1 := O0.out.below hb1 O0.out.lt
  have hB1 := hB0.trans (hb1.mono hB0.size)
  have O1 := Lib.hid o1
  clear O0 l0 c0 f0 hb1 hB0
  rcases hfv.out with rfl | rfl
  · go_wp2_with fail
    refine (mappedW _).mono ?_
    rintro e w2 ⟨rfl, hb2⟩
    go_wp2
    go_ret
    exact ⟨rfl, hB1.trans (hb2.mono hB1.size)⟩
  clear hfv
  obtain ⟨l0, c0, f0⟩ := o1
  go_wp2_with fail
  refine (farHW A2 n2 cap2 _).mono ?_
  rintro e w2 ⟨fv, rfl, hfv, hb2⟩
  have o2 := O1.out.below hb2 O1.out.lt
  have hB2 := hB1.trans (hb2.mono hB1.size)
  have O2 := Lib.hid o2
  clear O1 l0 c0 f0 hb2 hB1
  rcases hfv.out with rfl | rfl
  · go_wp2_with fail
    refine (mappedW _).mono ?_
    rintro e w3 ⟨rfl, hb3⟩
    go_wp2
    go_ret
    exact ⟨rfl, hB2.trans (hb3.mono hB2.size)⟩
  clear hfv
  obtain ⟨l0, c0, f0⟩ := o2
  go_wp2_with fail
  refine (HR.out _ (HA.out.below hB2 (Nat.le_refl _))).mono ?_
  rintro e w3 ⟨rfl, hb3⟩
  have o3 := O2.out.below hb3 O2.out.lt
  have hB3 := hB2.trans (hb3.mono hB2.size)
  have O3 := Lib.hid o3
  clear O2 l0 c0 f0 hb3 hB2 HR
  by_cases hr0 : rv = 0
  case neg =>
    have hne : (rv != 0) = true := by simpa using hr0
    go_wp2_with fail
    refine (mappedW _).mono ?_
    rintro e w4 ⟨rfl, hb4⟩
    go_wp2
    go_ret
    exact ⟨rfl, hB3.trans (hb4.mono hB3.size)⟩
  subst hr0
  have hok : Sh.okSh aL aH lL lH wq cs = true := by
    have := HRV.out
    unfold r4V at this
    by_cases h : Sh.okSh aL aH lL lH wq cs = true
    · exact h
    · rw [if_neg h] at this; cases this
  have HOK := Lib.hid hok
  clear HRV hok
  obtain ⟨l0, c0, f0⟩ := o3
  go_wp2_with fail
  refine (rCheckW A2 ps n2 cap2 _ (HA2.out.below hB3 (Nat.le_refl _)) HN2 HL2.out).mono ?_
  rintro e w4 ⟨rv, rfl, hrv, hb4⟩
  have o4 := O3.out.below hb4 O3.out.lt
  have hB4 := hB3.trans (hb4.mono hB3.size)
  have O4 := Lib.hid o4
  clear O3 l0 c0 f0 hb4 hB3
  by_cases hr0 : rv = 0
  case neg =>
    have hne : (rv != 0) = true := by simpa using hr0
    go_wp2_with fail
    refine (mappedW _).mono ?_
    rintro e w5 ⟨rfl, hb5⟩
    go_wp2
    go_ret
    exact ⟨rfl, hB4.trans (hb5.mono hB4.size)⟩
  subst hr0
  have HPO := Lib.hid (hrv.out rfl)
  clear hrv
  obtain ⟨l0, c0, f0⟩ := o4
  go_wp2_with fail
  refine (hullW A2 n2 cap2 ps _ (HA2.out.below hB4 (Nat.le_refl _)) HN2 HPO).mono ?_
  rintro e w5 ⟨g, capH, H, e0, rfl, hHu, hRH, hb5⟩
  have o5 := O4.out.below hb5 O4.out.lt
  have hB5 := hB4.trans (hb5.mono hB4.size)
  have O5 := Lib.hid o5
  have RH5 := Lib.hid hRH
  have hLe : H.length ≤ n2 := by have := Hu.len_ps hHu.out HPO.out; have := HN2.out; omega
  have HHO := Lib.hid (Hu.hull_ok hHu.out HPO.out)
  have hn10 : n2 ≤ 10 := by have := (Pl.ok_parts HPO.out).1; have := HN2.out; omega
  clear O4 l0 c0 f0 hb5 hB4 hRH
  obtain ⟨l0, c0, f0⟩ := o5
  go_wp2_with fail
  refine (sAreaW aL aH lL lH A n cap wq cs A2 n2 cap2 ps _ (HA.out.below hB5 (Nat.le_refl _)) HN HOK (HA2.out.below hB5 (Nat.le_refl _)) HN2 HPO).mono ?_
  rintro e w6 ⟨lo1, hi1, er1, rfl, hR1, hb6⟩
  have o6 := O5.out.below hb6 O5.out.lt
  have hB6 := hB5.trans (hb6.mono hB5.size)
  have RH6 := Lib.hid (RH5.out.below hb6 (Nat.le_refl _))
  have q0 := o6.alloc (.cells #[.int .i64 lo1, .int .i64 hi1] 32)
  have q7 := Own.new' (w := w6) (b := w6.heap.size) #[.int .i64 lo1, .int .i64 hi1] 32 rfl rfl
  have RH7 := Lib.hid (RH6.out.below ((Below.refl _ w6).alloc (Nat.le_refl _) (.cells #[.int .i64 lo1, .int .i64 hi1] 32)) (Nat.le_refl _))
  have hB7 := hB6.alloc hB6.size (.cells #[.int .i64 lo1, .int .i64 hi1] 32)
  have Q7 := Lib.hid q7
  clear O5 l0 c0 f0 hb6 hB5 RH5 RH6 q0 q7 hB6
  obtain ⟨l0, c0, f0⟩ := o6
  go_wp2_with fail
  refine (sAreaW aL aH lL lH A n cap wq cs (some ⟨g, 0, none⟩) H.length capH H _ (HA.out.below hB7 (Nat.le_refl _)) HN HOK RH7.out (Lib.hid rfl) HHO).mono ?_
  rintro e w8 ⟨lo2, hi2, er2, rfl, hR2, hb8⟩
  have q8 := Q7.out.below hb8 Q7.out.lt
  have hB8 := hB7.trans (hb8.mono hB7.size)
  have RH8 := Lib.hid (RH7.out.below hb8 (Nat.le_refl _))
  have hal := Hu.area_le hHu.out HPO.out
  have habs : abA H = Pl.area H := by unfold abA; omega
  obtain ⟨⟨her, her0⟩, hlo, hhi⟩ := ar_mono (shV_of HOK.out) (abA_bd HPO.out).1 (show abA ps ≤ abA H by rw [habs]; exact hal.2) hR1.out hR2.out
  subst her
  have s7 := q8.alloc (.cells #[.int .i64 lo2, .int .i64 hi2] 32)
  have s9 := Own.new' (w := w8) (b := w8.heap.size) #[.int .i64 lo2, .int .i64 hi2] 32 rfl rfl
  have RH9 := RH8.out.below ((Below.refl _ w8).alloc (Nat.le_refl _) (.cells #[.int .i64 lo2, .int .i64 hi2] 32)) (Nat.le_refl _)
  have hB9 := hB8.alloc hB8.size (.cells #[.int .i64 lo2, .int .i64 hi2] 32)
  have hz8 := q8.lt
  have hz6 := hB7.size
  clear Q7 l0 c0 f0 hb8 hB7 RH7 RH8 hal habs hB8
  obtain ⟨l7, c7, f7⟩ := q8
  have hle1 : ¬ lo2 < lo1 := by omega
  have hle2 : ¬ hi2 < hi1 := by omega
  have HEQ := Lib.hid (fun (h : ∀ i, ∃ f, Pl.turn (Pl.crn H f) (Pl.crn H (f + 1)) (Pl.crn ps i) = 0) => (by
    have e1 := Hu.area_eq hHu.out HPO.out h
    have e2 := (Hu.area_le hHu.out HPO.out).1
    have e3 : abA H = abA ps := by unfold abA; omega
    have k1 := hR1.out
    rw [← e3] at k1
    exact ar_same k1 hR2.out : lo1 = lo2 ∧ hi1 = hi2))
  have S7 := Lib.hid s7
  have S9 := Lib.hid s9
  have RH := Lib.hid RH9
  clear hR1 hR2 s7 s9 RH9
  rcases her0 with rfl | rfl
  all_goals
    go_wp2
    go_loopg [11] n2 (fun K i wr => ∃ k : Nat, K + k = n2 ∧ i = .int .i64 k ∧ Hid (∀ j, j < k → ∃ f, f < H.length ∧ Pl.has (Pl.at' H f) (Pl.nx H f) (Pl.at' ps j) = true) ∧ Own wr w6.heap.size [.int .i64 lo1, .int .i64 hi1] ∧ Own wr w8.heap.size [.int .i64 lo2, .int .i64 hi2] ∧ Hid (Rd 2 wr (some ⟨g, 0, none⟩) (H.map ptrow)) ∧ Below w.heap.size w wr)
    case atStart => exact ⟨0, rfl, rfl, fun j hj => by omega, S7.out, S9.out, RH, hB9⟩
    case round =>
      clear S7 S9 RH hB9 l7 c7 f7
      obtain ⟨k, hk, rfl, hI, hv7, hv9, hrd, hbw⟩ := hrel
      by_cases hlt : k < n2
      · obtain ⟨⟨px, py⟩, hp⟩ : ∃ p, Hid (ps[k]? = some p) := ⟨ps[k]'(by have := HN2.out; omega), by simp [Hid]⟩
        obtain ⟨b, off, rfl, hbl, hc0, hc1⟩ := rd_p2 (HA2.out.below hbw (Nat.le_refl _)) hp.out
        dsimp only at hc0 hc1
        have hmem := List.mem_of_getElem? hp.out
        have hPp : Hid (Pl.isP (px, py) = true) := List.all_eq_true.1 (Pl.ok_parts HPO.out).2.1 _ hmem
        have HM := Lib.hid hmem
        clear hmem
        go_wp2_with fail
        refine (whereW (some ⟨g, 0, none⟩) H.length capH H px py _ hrd.out (Lib.hid rfl) HHO hPp).mono ?_
        rintro e wB ⟨r, rfl, hr, hbB⟩
        have t7 := hv7.below hbB hv7.lt
        have t9 := hv9.below hbB hv9.lt
        have hRB := Lib.hid (hrd.out.below hbB (Nat.le_refl _))
        have hBB := hbw.trans (hbB.mono hbw.size)
        clear hv7 hv9 hrd hbB hbw hc0 hc1
        by_cases hr2 : r = 2
        · subst hr2
          have hF : Hid (∃ f, f < H.length ∧ Pl.has (Pl.at' H f) (Pl.nx H f) (px, py) = true) := by
            rcases hr.out with ⟨_, h⟩ | ⟨h, _⟩
            · exact h
            · exact absurd rfl h
          clear hr
          go_wp2
          go_roundg (n2 - (k + 1))
          case measure => omega
          case rel =>
            refine ⟨k + 1, by omega, by go_num, fun j hj => ?_, t7, t9, hRB, hBB⟩
            by_cases e : j = k
            · subst e
              have : Pl.at' ps j = (px, py) := by unfold Pl.at'; rw [List.getD_eq_getElem?_getD, hp.out]; rfl
              rw [this]; exact hF.out
            · exact hI.out j (by omega)
        · have hr1 : r = 1 := by
            rcases hr.out with ⟨h, _⟩ | ⟨_, h1, h2⟩
            · exact absurd h hr2
            · exact h2 (by rw [Hu.inside hHu.out HPO.out HM.out h1])
          subst hr1
          go_wp2_with fail
          refine (mappedW _).mono ?_
          rintro e wC ⟨rfl, hbC⟩
          go_wp2
          go_ret
          exact ⟨rfl, hBB.trans (hbC.mono hBB.size)⟩
      · have hpos : 0 < ps.length := by have := (Pl.ok_parts HPO.out).1; omega
        obtain ⟨rfl, rfl⟩ := HEQ.out (fun i => by
          have hi := Nat.mod_lt i hpos
          obtain ⟨f, hf, hh⟩ := hI.out (i % ps.length) (by have := HN2.out; omega)
          refine ⟨f, ?_⟩
          rw [Pl.crn_lt hf, Pl.crn_nx hf]
          exact has_turn hh)
        clear HEQ
        obtain ⟨l7, c7, f7⟩ := hv7
        obtain ⟨l9, c9, f9⟩ := hv9
        go_wp2_with fail
        refine (mappedW _).mono ?_
        rintro e wC ⟨rfl, hbC⟩
        go_wp2
        go_ret
        exact ⟨rfl, hbw.trans (hbC.mono hbw.size)⟩
end Go.Proofs.Ytgmhelclofnpkaa
