/- Walks: the number of truths of a sheet that has one. -/
import Derived.Test.YtgmhelclofnpkaaUe
namespace Go.Proofs.Ytgmhelclofnpkaa
open Go.RowKit Go.Shelf

attribute [local go_sem] Oper.semAt_some
theorem results_cellB_tmp {P : Program} {fn : Func} {tmps : Array Value} {w : World} {a B t u : Nat} {v : Value} (hr : fn.results = #[.cell a t, .tmp u]) (ha : tmps.getD a undef = .pointer (some ⟨B, 0, none⟩)) (ho : Own w B [v])
    (hagg : (isAgg t).run P w = .ok false w) (hsz : (sizeOf t).run P w = .ok 1 w) : (results fn tmps).run P w = .ok (.tuple #[v, tmps.getD u undef]) w := by
  have ha' : tmps[a]?.getD undef = .pointer (some ⟨B, 0, none⟩) := by simpa using ha
  have hc : w.cell? ⟨B, 0, none⟩ = some v := ho.c 0
  simp [results, hr, go_sem, loadVar, hagg, hsz, loadCells, ha', asAddr, hc]
set_option maxRecDepth 100000 in
set_option maxHeartbeats 8000000 in
theorem sManyW (aL aH lL lH : Int) (A : Option Addr) (n cap : Nat) (wq : Int) (cs : List Ct) (w : World) (hA : Rd 4 w A (cs.map ctrow)) (hn : Hid (n = cs.length)) (hok : Hid (Sh.okSh aL aH lL lH wq cs = true)) (hne : Hid (Sh.trs aL aH lL lH wq cs ≠ [])) :
    Calls Try.prog 45 #[shV aL aH lL lH A n cap wq] w fun e w' => e = .returned (.tuple #[.int .i64 ((Sh.trs aL aH lL lH wq cs).length : Nat), .int .i64 0]) ∧ Below w.heap.size w w' := by
  have HA := Lib.hid hA
  have hV := Lib.hid (shV_of hok.out)
  clear hA
  have f1 : Fence.wide.fn 59 := trivial
  have f2 : Fence.wide.fn 92 := trivial
  refine (callsIn_wide (n := 12)).1 ?_
  refine callsIn_of_wp_marks Try.func45 rfl trivial ?_ rfl
  simp only [Try.ntmps45, List.size_toArray, List.length_cons, List.length_nil, Nat.reduceAdd, Nat.reduceSub, Array.replicate_succ, Array.replicate_zero, List.push_toArray, List.append_toArray, List.nil_append, List.cons_append]
  gi_wp2_with fail
  refine (callsIn_wide.2 (sopenW aL aH lL lH A n cap wq cs _ (HA.out.below (by (repeat' (first | (with_reducible exact Below.refl _ _) | (with_reducible assumption) | (with_reducible refine Below.drew ?_) | (with_reducible refine below_drewN ?_ _) | (with_reducible refine Below.setCell ?_ ?_ _) | (with_reducible refine Below.alloc ?_ ?_ _) | (refine Below.trans ?_ (Below.mono (by with_reducible assumption) ?_)) | omega | (exact Below.size (by with_reducible assumption)) | (simp; done) | (simp; omega)))) (Nat.le_refl _)) hn hok)).mono ?_
  rintro e w1 ⟨p, er, rfl, hb1, hR⟩
  have hB1 : Below w.heap.size w w1 := by (repeat' (first | (with_reducible exact Below.refl _ _) | (with_reducible assumption) | (with_reducible refine Below.drew ?_) | (with_reducible refine below_drewN ?_ _) | (with_reducible refine Below.setCell ?_ ?_ _) | (with_reducible refine Below.alloc ?_ ?_ _) | (refine Below.trans ?_ (Below.mono (by with_reducible assumption) ?_)) | omega | (exact Below.size (by with_reducible assumption)) | (simp; done) | (simp; omega)))
  have p1 : Own w1 (w.heap.size + 1) [.int .i64 0] := Own.below (Own.new' (w := w.alloc _) #[.int .i64 0] _ (by simp) rfl) hb1 (by simp)
  have hzz := hb1.size
  simp only [World.size_alloc] at hzz
  rcases hR.out with ⟨h1, _, _⟩ | ⟨_, rfl, Bs, rfl, hBs, os⟩
  · exact absurd h1 hne.out
  simp only [World.size_alloc] at hBs
  clear hb1 hR
  gi_wp2
  have hlB := os.lt
  have hz1 := hB1.size
  refine wpIn_rangeB (by omega) (gf := 92) (fst := #[.pointer (some ⟨Bs, 0, none⟩)]) (lb := #[]) rfl (enters_of Try.func92 (by kernel_rfl) rfl)
    (strS aL aH lL lH A n cap wq cs Bs w.heap.size w1 11 (by omega) (fun W hW => HA.out.below (hB1.trans hW) (Nat.le_refl _)) hB1.size hn hV os)
    (fun h k => h.trans k) (fun W o o' ho hc hw => KpC.put (by omega) (by omega) (by have := (Array.getElem?_eq_some_iff.1 ho).1; omega) (by omega)) (fun _ => rfl)
    (fun pre W => Own W (w.heap.size + 1) [.int .i64 (pre.length : Nat)] ∧ w1.heap.size ≤ W.heap.size ∧ Below w.heap.size w W)
    (fun _ _ _ => False)
    ?hI (fun _ _ _ _ _ hs _ _ => hs) ⟨p1, Nat.le_refl _, hB1⟩
    (fun x a' _ => a' = { tmps := #[shV aL aH lL lH A n cap wq, .pointer (some ⟨w.heap.size, 0, none⟩), .pointer (some ⟨w.heap.size + 1, 0, none⟩), .int .i64 0, .pointer (some ⟨Bs, 0, none⟩), .tuple #[.pointer (some ⟨Bs, 0, none⟩), .int .i64 0], .agg #[.int .i64 aL, .int .i64 aH, .int .i64 lL, .int .i64 lH, .slice A n cap, .int .i64 wq], .tuple #[.pointer (some ⟨Bs, 0, none⟩), .int .i64 0], .pointer (some ⟨Bs, 0, none⟩), .int .i64 0, .int .i64 0, .bool false, undef, .pointer (some ⟨Bs, 0, none⟩), .func (.func 92) #[.pointer (some ⟨Bs, 0, none⟩)] #[], .agg #[.int .i64 x.1.1, .int .i64 x.1.2], undef, undef, undef], defers := [] })
    (fun _ _ _ _ _ _ hs _ _ => hs) ?assign ?body ?done ?stop
  case hI =>
    rintro s X Y row ⟨e2, e6, e7⟩ hg hr
    have hrow : ∀ r, row = some r → w1.heap.size ≤ r := fun r e => (hr r e).1
    exact ⟨e2.grown hg (fun e => by have := hrow _ e.symm; omega), Nat.le_trans e6 hg.size, e7.grown hg (by omega) (fun k e => by have := hrow k e; omega)⟩
  case assign =>
    rintro l pre x W K hI hK
    simp only [facT]
    gi_wp2
    exact hK _ _ (KeepsFrom.refl _ _) KpC.refl hI (by simp)
  case body =>
    rintro l pre x a' W hl hr ⟨e2, e6, e7⟩ rfl hlt
    have q2 := Lib.hid e2
    obtain ⟨l2, c2, f2'⟩ := e2
    gi_wp2
    refine ⟨(KeepsOthers.setCell _ _ _).from _, KpC.set (by omega) (by omega) (by omega) _ _, ?_, by simp; omega, e7.setCell (by dsimp only; omega) _⟩
    have := q2.out.set 0 (by simp) (.int .i64 ((pre.length : Int) + 1))
    refine this.cast ?_
    simp
  case stop =>
    rintro D c pre W _ h _
    exact h.elim
  case done =>
    rintro D xs W hD hS ⟨e2, e6, e7⟩ hK
    have hlen := congrArg List.length hS
    rw [List.length_map] at hlen
    have HL := Lib.hid hlen
    have q2 := Lib.hid e2
    have q7 := Lib.hid e7
    obtain ⟨l2, c2, f2'⟩ := e2
    clear hS hlen
    gi_wp2
    have hK2 : ∀ v, (W.setCell ⟨w.heap.size + 1, 0, none⟩ v).heap[D]? = some (.deferred (some [])) := fun v => (Below.heap_setCell _ _ _ _ (by dsimp only; omega)).trans hK
    refine ⟨by simp, .inl ⟨_, _, rfl, run_takeDeferred (hK2 _), ?_⟩⟩
    exact ⟨_, results_cellB_tmp (B := w.heap.size + 1) rfl rfl ((q2.out.set 0 (by simp) _).ofBlock (World.putObj_heap_other (by omega))) (by kernel_rfl) (by kernel_rfl), by rw [HL.out]; rfl,
      (q7.out.setCell (by dsimp only; omega) _).trans (belowK_b (w := w) (Nat.le_refl _) _ D _ _ (by omega) (hK2 _) rfl rfl)⟩
end Go.Proofs.Ytgmhelclofnpkaa
