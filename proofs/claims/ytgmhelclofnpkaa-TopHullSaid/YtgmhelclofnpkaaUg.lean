/- Walks: the integers between which a fraction lies in all truths of a sheet. -/
import Derived.Test.YtgmhelclofnpkaaUf
import Derived.Test.YtgmhelclofnpkaaRgI
namespace Go.Proofs.Ytgmhelclofnpkaa
open Go.RowKit Go.Shelf

attribute [local go_sem] Oper.semAt_some
namespace Sh
def bdS (f g : P2 → Int) (acc : Option (Int × Int)) (p : P2) : Option (Int × Int) := match acc with
  | none => some (f p, g p)
  | some (a, b) => some (min a (f p), max b (g p))
/-- The least of one and the greatest of another. -/
def bdL (f g : P2 → Int) (l : List P2) : Option (Int × Int) := l.foldl (bdS f g) none
theorem bdL_snoc (f g : P2 → Int) (l : List P2) (p : P2) : bdL f g (l ++ [p]) = bdS f g (bdL f g l) p := by simp [bdL, List.foldl_append]
theorem bdL_none {f g : P2 → Int} {l : List P2} (h : bdL f g l = none) : l = [] := by
  rcases List.eq_nil_or_concat l with rfl | ⟨l', p, rfl⟩
  · rfl
  · rw [List.concat_eq_append, bdL_snoc] at h
    unfold bdS at h
    split at h <;> cases h
end Sh
theorem own_set2' {w : World} {b : Nat} {a0 a1 : Value} (h : Own w b [a0, a1]) (x0 x1 : Value) : Own ((w.setCell ⟨b, 0, none⟩ x0).setCell ⟨b, 1, none⟩ x1) b [x0, x1] := own_set2 h rfl x0 x1
/-- What the boxes of bounds hold. -/
def BdI (B : Nat) (o : Option (Int × Int)) (W : World) : Prop := ∃ a b fl, Own W (B + 1 + 1) [.int .i64 a, .int .i64 b] ∧ Own W (B + 1 + 1 + 1) [.bool fl] ∧ Hid ((o = none ∧ fl = true) ∨ (o = some (a, b) ∧ fl = false))
/-- What the fraction's function does. -/
structure FracF (F : Nat) (lb : Array Value) (num den : P2 → Int) (p : P2) (w : World) : Prop where
  c : ∀ W, Below w.heap.size w W → Calls Try.prog F (#[.agg #[.int .i64 p.1, .int .i64 p.2]] ++ lb) W fun e w' => e = .returned (.tuple #[.int .i64 (num p), .int .i64 (den p)]) ∧ Below W.heap.size W w'
  n : 0 ≤ num p ∧ num p ≤ 4000000000000000000
  d : 1 ≤ den p ∧ den p ≤ 4000000000000
theorem loadCells_own {P : Program} {w : World} {B : Nat} {vs : List Value} (ho : Own w B vs) : ∀ (n i : Nat) (acc : Array Value), i + n = vs.length → (loadCellsFrom ⟨B, 0, none⟩ i n acc).run P w = .ok (acc ++ (vs.drop i).toArray) w
  | 0, i, acc, h => by
    have : vs.drop i = [] := List.drop_eq_nil_of_le (by omega)
    rw [this]
    simp [loadCellsFrom, go_sem]
  | n + 1, i, acc, h => by
    have hi : i < vs.length := by omega
    have hc : w.cell? ⟨B, i, none⟩ = some vs[i] := by rw [ho.c i]; exact List.getElem?_eq_getElem hi
    have ih := loadCells_own (P := P) ho n (i + 1) (acc.push vs[i]) (by omega)
    have e1 : (if i = 0 then (⟨B, 0, none⟩ : Addr) else ⟨B, i, none⟩) = ⟨B, i, none⟩ := by by_cases h0 : i = 0 <;> simp [h0]
    have e2 : acc ++ (vs.drop i).toArray = acc.push vs[i] ++ (vs.drop (i + 1)).toArray := by
      rw [List.drop_eq_getElem_cons hi]
      simp [-List.getElem_cons_drop]
    rw [e2]
    simp [loadCellsFrom, go_sem, Addr.add, e1, hc, ih]
theorem results_cell1 {P : Program} {fn : Func} {tmps : Array Value} {w : World} {a B t : Nat} {vs : List Value} (hr : fn.results = #[.cell a t]) (ha : tmps.getD a undef = .pointer (some ⟨B, 0, none⟩)) (ho : Own w B vs)
    (hagg : (isAgg t).run P w = .ok true w) (hsz : (sizeOf t).run P w = .ok vs.length w) : (results fn tmps).run P w = .ok (.agg vs.toArray) w := by
  have hl := loadCells_own (P := P) ho vs.length 0 #[] (by omega)
  have ha' : tmps[a]?.getD undef = .pointer (some ⟨B, 0, none⟩) := by simpa using ha
  simp [results, hr, go_sem, loadVar, hagg, hsz, loadCells, hl, ha', asAddr]
section
attribute [local go_sem ↓] mn2_run mx2_run
set_option maxRecDepth 100000 in
set_option maxHeartbeats 8000000 in
theorem sboundsW (aL aH lL lH : Int) (A : Option Addr) (n cap : Nat) (wq : Int) (cs : List Ct) (Bs F : Nat) (lb : Array Value) (num den : P2 → Int) (w : World) (hA : Rd 4 w A (cs.map ctrow)) (hn : Hid (n = cs.length)) (hV : Hid (ShV aL aH lL lH wq cs)) (os : Own w Bs (shC aL aH lL lH A n cap wq))
    (eg : ∀ args w, (callFunc F args).run Try.prog w = .ok (.enter F args) w)
    (hF : Hid (∀ p, Sh.In aL aH lL lH p → FracF F lb num den p w)) (lo hi : Int) (hres : Hid (Sh.bdL (fun p => (num p).tdiv (den p)) (fun p => (num p + den p - 1).tdiv (den p)) (Sh.trs aL aH lL lH wq cs) = some (lo, hi))) :
    Calls Try.prog 60 #[.pointer (some ⟨Bs, 0, none⟩), .func (.func F) #[] lb] w fun e w' => e = .returned (.agg #[.int .i64 lo, .int .i64 hi]) ∧ Below w.heap.size w w' := by
  have HA := Lib.hid hA
  clear hA
  have f2 : Fence.wide.fn 92 := trivial
  refine (callsIn_wide (n := 12)).1 ?_
  refine callsIn_of_wp_marks Try.func60 rfl trivial ?_ rfl
  simp only [Try.ntmps60, List.size_toArray, List.length_cons, List.length_nil, Nat.reduceAdd, Nat.reduceSub, Array.replicate_succ, Array.replicate_zero, List.push_toArray, List.append_toArray, List.nil_append, List.cons_append]
  gi_wp2
  refine wpIn_gen fun W0 hW0 => ?_
  have hB0 : Below w.heap.size w W0 := by rw [hW0]; (repeat' (first | (with_reducible exact Below.refl _ _) | (with_reducible assumption) | (with_reducible refine Below.drew ?_) | (with_reducible refine below_drewN ?_ _) | (with_reducible refine Below.setCell ?_ ?_ _) | (with_reducible refine Below.alloc ?_ ?_ _) | (refine Below.trans ?_ (Below.mono (by with_reducible assumption) ?_)) | omega | (exact Below.size (by with_reducible assumption)) | (simp; done) | (simp; omega)))
  have hsz : W0.heap.size = w.heap.size + 4 := by rw [hW0]; simp
  have o0 : Own W0 w.heap.size [.func (.func F) #[] lb] := by rw [hW0]; exact (((Own.new' _ _ (by simp) rfl).alloc _).alloc _).alloc _
  have o1 : Own W0 (w.heap.size + 1) [.int .i64 0, .int .i64 0] := by rw [hW0]; exact ((Own.new' _ _ (by simp) rfl).alloc _).alloc _
  have o2 : Own W0 (w.heap.size + 1 + 1) [.int .i64 0, .int .i64 0] := by rw [hW0]; exact (Own.new' _ _ (by simp) rfl).alloc _
  have o3 : Own W0 (w.heap.size + 1 + 1 + 1) [.bool true] := by rw [hW0]; exact Own.new' _ _ (by simp) rfl
  have hlB := os.lt
  have os0 := os.below hB0 hlB
  clear hW0
  refine wpIn_rangeB (by omega) (gf := 92) (fst := #[.pointer (some ⟨Bs, 0, none⟩)]) (lb := #[]) rfl (enters_of Try.func92 (by kernel_rfl) rfl)
    (strS aL aH lL lH A n cap wq cs Bs w.heap.size W0 11 (by omega) (fun W hW => HA.out.below (hB0.trans hW) (Nat.le_refl _)) hB0.size hn hV os0)
    (fun h k => h.trans k) (fun W o o' ho hc hw => KpC.put (by omega) (by omega) (by have := (Array.getElem?_eq_some_iff.1 ho).1; omega) (by omega)) (fun _ => rfl)
    (fun pre W => BdI w.heap.size (Sh.bdL (fun p => (num p).tdiv (den p)) (fun p => (num p + den p - 1).tdiv (den p)) (pre.map (·.1))) W ∧ (Own W w.heap.size [.func (.func F) #[] lb] ∧ Own W (w.heap.size + 1) [.int .i64 0, .int .i64 0]) ∧ W0.heap.size ≤ W.heap.size ∧ Below w.heap.size w W)
    (fun _ _ _ => False)
    ?hI (fun _ _ _ _ _ hs _ _ => hs) ⟨⟨0, 0, true, o2, o3, Or.inl ⟨rfl, rfl⟩⟩, ⟨o0, o1⟩, Nat.le_refl _, hB0⟩
    (fun x a' W => ∃ Bf, W0.heap.size ≤ Bf ∧ Own W Bf [.int .i64 x.1.1, .int .i64 x.1.2] ∧ a' = { tmps := #[.pointer (some ⟨Bs, 0, none⟩), .func (.func F) #[] lb, undef, .pointer (some ⟨w.heap.size, 0, none⟩), .pointer (some ⟨w.heap.size + 1, 0, none⟩), .pointer (some ⟨w.heap.size + 1 + 1, 0, none⟩), .pointer (some ⟨w.heap.size + 1 + 1 + 1, 0, none⟩), .pointer (some ⟨Bf, 0, none⟩), undef, undef, undef, undef, .agg #[.int .i64 0, .int .i64 0], .pointer (some ⟨Bs, 0, none⟩), .func (.func 92) #[.pointer (some ⟨Bs, 0, none⟩)] #[], .agg #[.int .i64 x.1.1, .int .i64 x.1.2], undef, undef, undef, undef, undef, undef, undef, undef, undef, undef, undef, undef, undef, undef, undef, undef, undef, undef, undef, undef, undef, undef, undef, undef, undef, undef, undef, undef, undef], defers := [] })
    ?hAx ?assign ?body ?done ?stop
  case hI =>
    rintro s X Y row ⟨⟨a, b, fl, e1, e2, e3⟩, ⟨e4, e5⟩, e6, e7⟩ hg hr
    have hrow : ∀ r, row = some r → W0.heap.size ≤ r := fun r e => (hr r e).1
    exact ⟨⟨a, b, fl, e1.grown hg (fun e => by have := hrow _ e.symm; omega), e2.grown hg (fun e => by have := hrow _ e.symm; omega), e3⟩, ⟨e4.grown hg (fun e => by have := hrow _ e.symm; omega), e5.grown hg (fun e => by have := hrow _ e.symm; omega)⟩, Nat.le_trans e6 hg.size, e7.grown hg (by omega) (fun k e => by have := hrow k e; omega)⟩
  case hAx =>
    rintro x a' _ X Y row ⟨Bf, h2, h4, h5⟩ hg hr
    exact ⟨Bf, h2, own_abides h4 hg (fun r e => (hr r e).2), h5⟩
  case assign =>
    rintro l pre x W K ⟨⟨a, b, fl, e1, e2, e3⟩, ⟨e4, e5⟩, e6, e7⟩ hK
    simp only [facT]
    gi_wp2
    exact hK _ _ ((KeepsOthers.alloc _ _).from _) (KpC.below ((Below.refl _ W).alloc (Nat.le_refl _) _) (by omega) (by omega)) ⟨⟨a, b, fl, e1.alloc _, e2.alloc _, e3⟩, ⟨e4.alloc _, e5.alloc _⟩, by simp; omega, e7.alloc (by omega) _⟩ ⟨W.heap.size, by omega, Own.new' _ _ rfl rfl, rfl⟩
  case stop =>
    rintro D c pre W _ h _
    exact h.elim
  case done =>
    rintro D xs W hD hS ⟨⟨a, b, fl, e1, e2, e3⟩, ⟨e4, e5⟩, e6, e7⟩ hK
    have hab : a = lo ∧ b = hi := by
      rw [hS, hres.out] at e3
      rcases e3.out with ⟨h1, _⟩ | ⟨h1, _⟩
      · cases h1
      · cases h1; exact ⟨rfl, rfl⟩
    obtain ⟨rfl, rfl⟩ := hab
    have q5 := Lib.hid e5
    have q7 := Lib.hid e7
    obtain ⟨l1, c1, f1⟩ := e1
    obtain ⟨l5, c5, f5⟩ := e5
    clear hS e3
    gi_wp2
    have hK2 : ∀ v u, ((W.setCell ⟨w.heap.size + 1, 0, none⟩ v).setCell ⟨w.heap.size + 1, 1, none⟩ u).heap[D]? = some (.deferred (some [])) := fun v u => (Below.heap_setCell _ _ _ _ (by dsimp only; omega)).trans ((Below.heap_setCell _ _ _ _ (by dsimp only; omega)).trans hK)
    refine ⟨by simp, .inl ⟨_, _, rfl, run_takeDeferred (hK2 _ _), ?_⟩⟩
    exact ⟨_, results_cell1 (B := w.heap.size + 1) (vs := [.int .i64 a, .int .i64 b]) rfl rfl ((own_set2' q5.out _ _).ofBlock (World.putObj_heap_other (by omega))) (by kernel_rfl) (by kernel_rfl), rfl,
      ((q7.out.setCell (by dsimp only; omega) _).setCell (by dsimp only; omega) _).trans (belowK_b (w := w) (Nat.le_refl _) _ D _ _ (by omega) (hK2 _ _) rfl rfl)⟩
  case body =>
    rintro l pre x a' W hl hr ⟨⟨a, b, fl, e1, e2, e3⟩, ⟨e4, e5⟩, e6, e7⟩ ⟨Bf, hBf, oo, rfl⟩ hlt
    have hFx := hF.out x.1 x.2.1
    have HSZ := Lib.hid hsz
    clear hsz
    have hn0 := hFx.n
    have hd0 := hFx.d
    have hCall := Lib.hid hFx.c
    clear hFx
    have q0 := Lib.hid e4
    have q1 := Lib.hid e5
    have q2 := Lib.hid e1
    have q3 := Lib.hid e2
    obtain ⟨l0, c0, f0⟩ := e4
    obtain ⟨lo', co, fo⟩ := oo
    obtain ⟨N, hN⟩ : ∃ N, num x.1 = N := ⟨_, rfl⟩
    obtain ⟨D, hD⟩ : ∃ D, den x.1 = D := ⟨_, rfl⟩
    have hC := hCall.out W e7
    rw [hN, hD] at hC
    rw [hN] at hn0
    rw [hD] at hd0
    have HC := Lib.hid hC
    clear hC
    have hq1b := Int.tdiv_nonneg (a := N) (b := D) (by omega) (by omega)
    have hq1c := Int.tdiv_le_self D hn0.1
    have hq2b := Int.tdiv_nonneg (a := N + D - 1) (b := D) (by omega) (by omega)
    have hq2c := Int.tdiv_le_self (a := N + D - 1) D (by omega)
    obtain ⟨L, hL⟩ : ∃ L, N.tdiv D = L := ⟨_, rfl⟩
    obtain ⟨H, hH⟩ : ∃ H, (N + D - 1).tdiv D = H := ⟨_, rfl⟩
    rw [hL] at hq1b hq1c
    rw [hH] at hq2b hq2c
    have hw1 : IntKind.i64.wrap (N.tdiv D) = L := by rw [hL]; exact IntWalk.i64_in _ (by omega)
    have hw2 : IntKind.i64.wrap ((N + D - 1).tdiv D) = H := by rw [hH]; exact IntWalk.i64_in _ (by omega)
    have hw3 : IntKind.i64.wrap (N + D) = N + D := IntWalk.i64_in _ (by omega)
    have hw4 : IntKind.i64.wrap (N + D - 1) = N + D - 1 := IntWalk.i64_in _ (by omega)
    have hD0 : ¬ D = 0 := by omega
    have hbd : ∀ o, Sh.bdL (fun p => (num p).tdiv (den p)) (fun p => (num p + den p - 1).tdiv (den p)) (pre.map (·.1)) = o → Sh.bdL (fun p => (num p).tdiv (den p)) (fun p => (num p + den p - 1).tdiv (den p)) ((pre ++ [x]).map (·.1)) = match o with | none => some (L, H) | some (a, b) => some (min a L, max b H) := fun o ho => by
      rw [List.map_append]
      show Sh.bdL _ _ (pre.map (·.1) ++ [x.1]) = _
      rw [Sh.bdL_snoc, ho]
      unfold Sh.bdS
      simp only [hN, hD, hL, hH]
    have HBD := Lib.hid hbd
    clear hbd hN hD hL hH
    gi_wp2
    refine ⟨trivial, (CallsIn.inRound l (callsIn_wide.2 HC.out)).mono ?_⟩
    rintro e w2 ⟨rfl, hb2⟩
    have hz2 := hb2.size
    have r0 := q0.out.below hb2 q0.out.lt
    have r1 := q1.out.below hb2 q1.out.lt
    have r2 := q2.out.below hb2 q2.out.lt
    have r3 := q3.out.below hb2 q3.out.lt
    have hlq3 := q3.out.lt
    have hlq2 := q2.out.lt
    have HB2 := Lib.hid hb2
    have R2 := Lib.hid r2
    have R3 := Lib.hid r3
    clear c0 f0 co fo hb2
    gi_wp2
    refine region_in (S := fun _ => True) 11 (by kernel_rfl) (by kernel_rfl) (by kernel_rfl) (by rintro ⟨a, w, h⟩; exact h) ?_
    refine rg_take (fuel := 0) [0, 1, 2, 3, 4, 5, 6, 7, 8, 9, 10] (by kernel_rfl) (by intro _ _ d _ _ h; first | (cases d <;> exact h) | (simp [Exit.then, Exit.inBlock, ownPostG] at h)) rfl (by kernel_rfl) (by kernel_rfl) trivial ?_
    simp only [pickL, pick1, List.cons_append, List.nil_append]
    iterate 11 (refine wpTake_cons (v := ?_) (Or.inl ⟨by rfl, ?_⟩) ?_; rotate_left; (intro w' hSw; go_simp; (try with_reducible rfl)); (try simp only [Act.put, List.setIfInBounds_toArray, List.set_cons_zero, List.set_cons_succ]))
    refine wpTake_nil ?_
    refine rg_done (by kernel_rfl) ?_
    rcases e3.out with ⟨h1, rfl⟩ | ⟨h1, rfl⟩
    · have hnew := Lib.hid (HBD.out _ h1)
      obtain ⟨l2, c2, f2'⟩ := r2
      obtain ⟨l3, c3, f3⟩ := r3
      clear e3 h1
      gi_wp2
      have hs4 := HSZ.out
      have hlb := os0.lt
      refine ⟨(((((((KeepsOthers.of_grownBy (grown_of_below HB2.out) (fun j o e _ => by cases e)).trans (KeepsOthers.setCell _ _ _)).trans (KeepsOthers.setCell _ _ _)).trans (KeepsOthers.setCell _ _ _)).trans (KeepsOthers.setCell _ _ _)).trans (KeepsOthers.setCell _ _ _)).trans (KeepsOthers.drew _)).from _, ((((((KpC.below HB2.out (by omega) (by omega)).trans (KpC.set (by omega) (by omega) (by omega) _ _)).trans (KpC.set (by omega) (by omega) (by omega) _ _)).trans (KpC.set (by omega) (by omega) (by omega) _ _)).trans (KpC.set (by omega) (by omega) (by omega) _ _)).trans (KpC.set (by omega) (by omega) (by omega) _ _)).drew, ⟨_, _, false, (own_set2' ((own_set2' R2.out _ _).setOther (by dsimp only; omega) _) _ _).drew, (((((R3.out.setOther (by dsimp only; omega) _).setOther (by dsimp only; omega) _).set 0 (by simp) _).setOther (by dsimp only; omega) _).setOther (by dsimp only; omega) _).drew, Or.inr ⟨hnew.out, rfl⟩⟩, ⟨(((((r0.setOther (by dsimp only; omega) _).setOther (by dsimp only; omega) _).setOther (by dsimp only; omega) _).setOther (by dsimp only; omega) _).setOther (by dsimp only; omega) _).drew, (((((r1.setOther (by dsimp only; omega) _).setOther (by dsimp only; omega) _).setOther (by dsimp only; omega) _).setOther (by dsimp only; omega) _).setOther (by dsimp only; omega) _).drew⟩, ?_, ?_⟩
      · simp only [World.size_drew, World.size_setCell]; omega
      · exact ((((((e7.trans (HB2.out.mono (by omega))).setCell (by dsimp only; omega) _).setCell (by dsimp only; omega) _).setCell (by dsimp only; omega) _).setCell (by dsimp only; omega) _).setCell (by dsimp only; omega) _).drew
    · have hnew := Lib.hid (HBD.out _ h1)
      obtain ⟨l2, c2, f2'⟩ := r2
      obtain ⟨l3, c3, f3⟩ := r3
      clear e3 h1
      gi_wp2
      have hs4 := HSZ.out
      have hlb := os0.lt
      refine ⟨((((KeepsOthers.of_grownBy (grown_of_below HB2.out) (fun j o e _ => by cases e)).trans (KeepsOthers.setCell _ _ _)).trans (KeepsOthers.setCell _ _ _)).trans (KeepsOthers.drew _)).from _, (((KpC.below HB2.out (by omega) (by omega)).trans (KpC.set (by omega) (by omega) (by omega) _ _)).trans (KpC.set (by omega) (by omega) (by omega) _ _)).drew, ⟨_, _, false, (own_set2' R2.out _ _).drew, ((R3.out.setOther (by dsimp only; omega) _).setOther (by dsimp only; omega) _).drew, Or.inr ⟨hnew.out, rfl⟩⟩, ⟨((r0.setOther (by dsimp only; omega) _).setOther (by dsimp only; omega) _).drew, ((r1.setOther (by dsimp only; omega) _).setOther (by dsimp only; omega) _).drew⟩, ?_, ?_⟩
      · simp only [World.size_drew, World.size_setCell]; omega
      · exact (((e7.trans (HB2.out.mono (by omega))).setCell (by dsimp only; omega) _).setCell (by dsimp only; omega) _).drew
end
end Go.Proofs.Ytgmhelclofnpkaa
