/- Walks: open a sheet; the number of its truths. -/
import Derived.Test.YtgmhelclofnpkaaUd
namespace Go.Proofs.Ytgmhelclofnpkaa
open Go.RowKit Go.Shelf

attribute [local go_sem] Oper.semAt_some
theorem ne_nil_of_tr {aL aH lL lH wq : Int} {cs : List Ct} (x : Tr aL aH lL lH wq cs) : Sh.trs aL aH lL lH wq cs ≠ [] := fun e => by
  have := trs_mem x
  rw [e] at this; cases this
theorem results_cellBB {P : Program} {fn : Func} {tmps : Array Value} {w : World} {a b B C t u : Nat} {v x : Value} (hr : fn.results = #[.cell a t, .cell b u]) (ha : tmps.getD a undef = .pointer (some ⟨B, 0, none⟩)) (hb : tmps.getD b undef = .pointer (some ⟨C, 0, none⟩)) (ho : Own w B [v]) (hp : Own w C [x])
    (hagg : (isAgg t).run P w = .ok false w) (hsz : (sizeOf t).run P w = .ok 1 w) (hagg' : (isAgg u).run P w = .ok false w) (hsz' : (sizeOf u).run P w = .ok 1 w) : (results fn tmps).run P w = .ok (.tuple #[v, x]) w := by
  have ha' : tmps[a]?.getD undef = .pointer (some ⟨B, 0, none⟩) := by simpa using ha
  have hb' : tmps[b]?.getD undef = .pointer (some ⟨C, 0, none⟩) := by simpa using hb
  have hc : w.cell? ⟨B, 0, none⟩ = some v := ho.c 0
  have hd : w.cell? ⟨C, 0, none⟩ = some x := hp.c 0
  simp [results, hr, go_sem, loadVar, hagg, hsz, hagg', hsz', loadCells, ha', hb', asAddr, hc, hd]
set_option maxRecDepth 100000 in
set_option maxHeartbeats 8000000 in
theorem sopenW (aL aH lL lH : Int) (A : Option Addr) (n cap : Nat) (wq : Int) (cs : List Ct) (w : World) (hA : Rd 4 w A (cs.map ctrow)) (hn : Hid (n = cs.length)) (hok : Hid (Sh.okSh aL aH lL lH wq cs = true)) :
    Calls Try.prog 59 #[shV aL aH lL lH A n cap wq, .bool true] w fun e w' => ∃ (p : Option Addr) (er : Int), e = .returned (.tuple #[.pointer p, .int .i64 er]) ∧ Below w.heap.size w w' ∧
      Hid ((Sh.trs aL aH lL lH wq cs = [] ∧ p = none ∧ er = 3) ∨ (Sh.trs aL aH lL lH wq cs ≠ [] ∧ er = 0 ∧ ∃ Bs, p = some ⟨Bs, 0, none⟩ ∧ w.heap.size ≤ Bs ∧ Own w' Bs (shC aL aH lL lH A n cap wq))) := by
  have HA := Lib.hid hA
  have hV := Lib.hid (shV_of hok.out)
  have hlen : n ≤ 9223372036854775807 := by have := hV.out.n; have := hn.out; omega
  have hck := fun w (h : Rd 4 w A (cs.map ctrow)) => cIB (show (if Sh.okSh aL aH lL lH wq cs = true then (0 : Int) else 40) = 0 by rw [hok.out]; rfl) (scheckW aL aH lL lH A n cap wq cs w h hn hlen)
  have HCK := Lib.hid hck
  clear hA hck
  have f1 : Fence.wide.fn 97 := trivial
  have f2 : Fence.wide.fn 92 := trivial
  refine (callsIn_wide (n := 12)).1 ?_
  refine callsIn_of_wp_marks Try.func59 rfl trivial ?_ rfl
  simp only [Try.ntmps59, List.size_toArray, List.length_cons, List.length_nil, Nat.reduceAdd, Nat.reduceSub, Array.replicate_succ, Array.replicate_zero, List.push_toArray, List.append_toArray, List.nil_append, List.cons_append]
  gi_wp2_with fail
  refine (callsIn_wide.2 (HCK.out _ (HA.out.below (by (repeat' (first | (with_reducible exact Below.refl _ _) | (with_reducible assumption) | (with_reducible refine Below.drew ?_) | (with_reducible refine below_drewN ?_ _) | (with_reducible refine Below.setCell ?_ ?_ _) | (with_reducible refine Below.alloc ?_ ?_ _) | (refine Below.trans ?_ (Below.mono (by with_reducible assumption) ?_)) | omega | (exact Below.size (by with_reducible assumption)) | (simp; done) | (simp; omega)))) (Nat.le_refl _)))).mono ?_
  rintro e w1 ⟨rfl, hb1⟩
  have hB1 : Below w.heap.size w w1 := by (repeat' (first | (with_reducible exact Below.refl _ _) | (with_reducible assumption) | (with_reducible refine Below.drew ?_) | (with_reducible refine below_drewN ?_ _) | (with_reducible refine Below.setCell ?_ ?_ _) | (with_reducible refine Below.alloc ?_ ?_ _) | (refine Below.trans ?_ (Below.mono (by with_reducible assumption) ?_)) | omega | (exact Below.size (by with_reducible assumption)) | (simp; done) | (simp; omega)))
  (have hz1 := hb1.size; (try simp at hz1); have hc1_0 := fun o => (bcell hb1).1 (w.heap.size) o (by first | omega | (simp; done) | (simp; omega)); have hf1_0 := fun o => (bcell hb1).2 (w.heap.size) o (by first | omega | (simp; done) | (simp; omega)); have : w.heap.size < w1.heap.size := (by first | omega | (simp; done) | (simp; omega)); have : w.heap.size < w1.heap.size + 1 := (by first | omega | (simp; done) | (simp; omega)); have : w.heap.size < w1.heap.size + 2 := (by first | omega | (simp; done) | (simp; omega)); have : w.heap.size < w1.heap.size + 3 := (by first | omega | (simp; done) | (simp; omega)); have hc1_1 := fun o => (bcell hb1).1 (w.heap.size + 1) o (by first | omega | (simp; done) | (simp; omega)); have hf1_1 := fun o => (bcell hb1).2 (w.heap.size + 1) o (by first | omega | (simp; done) | (simp; omega)); have : w.heap.size + 1 < w1.heap.size := (by first | omega | (simp; done) | (simp; omega)); have : w.heap.size + 1 < w1.heap.size + 1 := (by first | omega | (simp; done) | (simp; omega)); have : w.heap.size + 1 < w1.heap.size + 2 := (by first | omega | (simp; done) | (simp; omega)); have : w.heap.size + 1 < w1.heap.size + 3 := (by first | omega | (simp; done) | (simp; omega)); have hc1_2 := fun o => (bcell hb1).1 (w.heap.size + 1 + 1) o (by first | omega | (simp; done) | (simp; omega)); have hf1_2 := fun o => (bcell hb1).2 (w.heap.size + 1 + 1) o (by first | omega | (simp; done) | (simp; omega)); have : w.heap.size + 1 + 1 < w1.heap.size := (by first | omega | (simp; done) | (simp; omega)); have : w.heap.size + 1 + 1 < w1.heap.size + 1 := (by first | omega | (simp; done) | (simp; omega)); have : w.heap.size + 1 + 1 < w1.heap.size + 2 := (by first | omega | (simp; done) | (simp; omega)); have : w.heap.size + 1 + 1 < w1.heap.size + 3 := (by first | omega | (simp; done) | (simp; omega)))
  have p1 : Own w1 (w.heap.size + 1) [.pointer none] := Own.below ((Own.new' (w := w.alloc _) #[.pointer none] _ (by simp) rfl).alloc _) hb1 (by simp)
  have p2 : Own w1 (w.heap.size + 1 + 1) [.int .i64 0] := Own.below (Own.new' (w := (w.alloc _).alloc _) #[.int .i64 0] _ (by simp) rfl) hb1 (by simp)
  clear hb1
  gi_wp2
  refine wpIn_gen fun W0 hW0 => ?_
  obtain ⟨Bs, hBs⟩ : ∃ B, w1.heap.size = B := ⟨_, rfl⟩
  have hz1 := hB1.size
  have hl2 := p2.lt
  have hsz : W0.heap.size = Bs + 2 := by rw [hW0, ← hBs]; simp
  have hB01 : Below w1.heap.size w1 W0 := by rw [hW0]; (repeat' (first | (with_reducible exact Below.refl _ _) | (with_reducible assumption) | (with_reducible refine Below.drew ?_) | (with_reducible refine below_drewN ?_ _) | (with_reducible refine Below.setCell ?_ ?_ _) | (with_reducible refine Below.alloc ?_ ?_ _) | (refine Below.trans ?_ (Below.mono (by with_reducible assumption) ?_)) | omega | (exact Below.size (by with_reducible assumption)) | (simp; done) | (simp; omega)))
  have hB0 : Below w.heap.size w W0 := hB1.trans (hB01.mono hz1)
  have o1 : Own W0 (w.heap.size + 1) [.pointer none] := p1.below hB01 p1.lt
  have o2 : Own W0 (w.heap.size + 1 + 1) [.int .i64 0] := p2.below hB01 p2.lt
  have os : Own W0 Bs (shC aL aH lL lH A n cap wq) := by rw [hW0]; exact (Own.new' _ _ hBs.symm rfl).alloc _
  have o7 : Own W0 (Bs + 1) [.pointer (some ⟨Bs, 0, none⟩)] := by rw [hW0, ← hBs]; exact Own.new' _ _ (by simp) rfl
  rw [hBs] at hB01 hz1 hl2 ⊢
  clear hW0 p1 p2
  refine wpIn_rangeB (by omega) (gf := 92) (fst := #[.pointer (some ⟨Bs, 0, none⟩)]) (lb := #[]) rfl (enters_of Try.func92 (by kernel_rfl) rfl)
    (strS aL aH lL lH A n cap wq cs Bs w.heap.size W0 11 (by omega) (fun W hW => HA.out.below (hB0.trans hW) (Nat.le_refl _)) hB0.size hn hV os)
    (fun h k => h.trans k) (fun W o o' ho hc hw => KpC.put (by omega) (by omega) (by have := (Array.getElem?_eq_some_iff.1 ho).1; omega) (by omega)) (fun _ => rfl)
    (fun pre W => pre = [] ∧ (Own W (w.heap.size + 1) [.pointer none] ∧ Own W (w.heap.size + 1 + 1) [.int .i64 0] ∧ Own W (Bs + 1) [.pointer (some ⟨Bs, 0, none⟩)] ∧ Own W Bs (shC aL aH lL lH A n cap wq)) ∧ W0.heap.size ≤ W.heap.size ∧ Below w.heap.size w W)
    (fun c _ W => c = .ret ∧ Hid (Sh.trs aL aH lL lH wq cs ≠ []) ∧ (Own W (w.heap.size + 1) [.pointer (some ⟨Bs, 0, none⟩)] ∧ Own W (w.heap.size + 1 + 1) [.int .i64 0] ∧ Own W Bs (shC aL aH lL lH A n cap wq)) ∧ Below w.heap.size w W)
    ?hI ?hIx ⟨rfl, ⟨o1, o2, o7, os⟩, Nat.le_refl _, hB0⟩
    (fun x a' _ => a' = { tmps := #[shV aL aH lL lH A n cap wq, .bool true, .pointer (some ⟨w.heap.size, 0, none⟩), undef, .pointer (some ⟨w.heap.size + 1, 0, none⟩), .pointer (some ⟨w.heap.size + 1 + 1, 0, none⟩), .int .i64 0, .pointer (some ⟨Bs + 1, 0, none⟩), .agg #[.int .i64 aL, .int .i64 aH, .int .i64 lL, .int .i64 lH, .slice A n cap, .int .i64 wq], .int .i64 0, .int .i64 0, .bool false, undef, .bool true, .bool false, .agg #[.int .i64 aL, .int .i64 aH, .int .i64 lL, .int .i64 lH, .slice A n cap, .int .i64 wq], .agg #[.int .i64 aL, .int .i64 aH, .int .i64 lL, .int .i64 lH, .slice A n cap, .int .i64 wq], .pointer (some ⟨Bs, 0, none⟩), .pointer (some ⟨Bs, 0, none⟩), .func (.func 92) #[.pointer (some ⟨Bs, 0, none⟩)] #[], .agg #[.int .i64 x.1.1, .int .i64 x.1.2], undef], defers := [] })
    (fun _ _ _ _ _ _ hs _ _ => hs) ?assign ?body ?done ?stop
  case hI =>
    rintro s X Y row ⟨e1, ⟨e2, e3, e4, e5⟩, e6, e7⟩ hg hr
    have hrow : ∀ r, row = some r → W0.heap.size ≤ r := fun r e => (hr r e).1
    exact ⟨e1, ⟨e2.grown hg (fun e => by have := hrow _ e.symm; omega), e3.grown hg (fun e => by have := hrow _ e.symm; omega), e4.grown hg (fun e => by have := hrow _ e.symm; omega), e5.grown hg (fun e => by have := hrow _ e.symm; omega)⟩, Nat.le_trans e6 hg.size, e7.grown hg (by omega) (fun k e => by have := hrow k e; omega)⟩
  case hIx =>
    rintro c s X Y row ⟨e0, e1, ⟨e2, e3, e5⟩, e7⟩ hg hr
    have hrow : ∀ r, row = some r → W0.heap.size ≤ r := fun r e => (hr r e).1
    have := e7.size
    exact ⟨e0, e1, ⟨e2.grown hg (fun e => by have := hrow _ e.symm; omega), e3.grown hg (fun e => by have := hrow _ e.symm; omega), e5.grown hg (fun e => by have := hrow _ e.symm; omega)⟩, e7.grown hg e7.size (fun k e => by have := hrow k e; omega)⟩
  case assign =>
    rintro l pre x W K hI hK
    simp only [facT]
    gi_wp2
    exact hK _ _ (KeepsFrom.refl _ _) KpC.refl hI (by simp)
  case body =>
    rintro l pre x a' W hl hr ⟨rfl, ⟨e2, e3, e4, e5⟩, e6, e7⟩ rfl hlt
    have hne := Lib.hid (ne_nil_of_tr x)
    have q2 := Lib.hid e2
    have q3 := Lib.hid e3
    have q5 := Lib.hid e5
    obtain ⟨l2, c2, f2'⟩ := e2
    obtain ⟨l3, c3, f3⟩ := e3
    obtain ⟨l4, c4, f4⟩ := e4
    gi_wp2
    exact ⟨((KeepsOthers.setCell _ _ _).trans (KeepsOthers.setCell _ _ _)).from _, rfl, hne.out, ⟨(q2.out.set 0 (by simp) _).setOther (by dsimp only; omega) _, (q3.out.setOther (by dsimp only; omega) _).set 0 (by simp) _, (q5.out.setOther (by dsimp only; omega) _).setOther (by dsimp only; omega) _⟩, (e7.setCell (by dsimp only; omega) _).setCell (by dsimp only; omega) _⟩
  case stop =>
    rintro D c pre W hD ⟨rfl, e1, ⟨e2, e3, e5⟩, e7⟩ hK
    gi_wp2
    refine ⟨by simp, .inl ⟨_, _, rfl, run_takeDeferred hK, ?_⟩⟩
    exact ⟨_, results_cellBB (B := w.heap.size + 1) (C := w.heap.size + 1 + 1) rfl rfl rfl (e2.ofBlock (World.putObj_heap_other (by omega))) (e3.ofBlock (World.putObj_heap_other (by omega))) (by kernel_rfl) (by kernel_rfl) (by kernel_rfl) (by kernel_rfl), some ⟨Bs, 0, none⟩, 0, rfl,
      e7.trans (belowK_b (w := w) (Nat.le_refl _) W D _ _ (by omega) hK rfl rfl), Lib.hid (Or.inr ⟨e1.out, rfl, Bs, rfl, by omega, e5.ofBlock (World.putObj_heap_other (by omega))⟩)⟩
  case done =>
    rintro D xs W hD hS ⟨rfl, ⟨e2, e3, e4, e5⟩, e6, e7⟩ hK
    have hnil := Lib.hid (show Sh.trs aL aH lL lH wq cs = [] from hS.symm)
    have q2 := Lib.hid e2
    have q3 := Lib.hid e3
    have q7 := Lib.hid e7
    obtain ⟨l2, c2, f2'⟩ := e2
    obtain ⟨l3, c3, f3⟩ := e3
    clear hS
    gi_wp2
    have hK2 : ((W.setCell ⟨w.heap.size + 1, 0, none⟩ (.pointer none)).setCell ⟨w.heap.size + 1 + 1, 0, none⟩ (.int .i64 3)).heap[D]? = some (.deferred (some [])) := (Below.heap_setCell _ _ _ _ (by dsimp only; omega)).trans ((Below.heap_setCell _ _ _ _ (by dsimp only; omega)).trans hK)
    refine ⟨by simp, .inl ⟨_, _, rfl, run_takeDeferred hK2, ?_⟩⟩
    exact ⟨_, results_cellBB (B := w.heap.size + 1) (C := w.heap.size + 1 + 1) rfl rfl rfl (((q2.out.set 0 (by simp) _).setOther (by dsimp only; omega) _).ofBlock (World.putObj_heap_other (by omega))) (((q3.out.setOther (by dsimp only; omega) _).set 0 (by simp) _).ofBlock (World.putObj_heap_other (by omega))) (by kernel_rfl) (by kernel_rfl) (by kernel_rfl) (by kernel_rfl), none, 3, rfl,
      ((q7.out.setCell (by dsimp only; omega) _).setCell (by dsimp only; omega) _).trans (belowK_b (w := w) (Nat.le_refl _) _ D _ _ (by omega) hK2 rfl rfl), Lib.hid (Or.inl ⟨hnil.out, rfl, rfl⟩)⟩
end Go.Proofs.Ytgmhelclofnpkaa
