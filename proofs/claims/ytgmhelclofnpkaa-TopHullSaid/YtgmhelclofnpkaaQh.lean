/- Walks: open a wheel with its walks, where they are valid. -/
import Derived.Test.YtgmhelclofnpkaaQg
import Derived.Test.YtgmhelclofnpkaaUg
namespace Go.Proofs.Ytgmhelclofnpkaa
open Go.RowKit Go.Shelf

attribute [local go_sem] Oper.semAt_some
theorem wt_ne {h : Wh} {l : List Wk} (x : Wt h l) : Wl.trs h l ≠ [] := fun e => by
  have := wt_mem x
  rw [e] at this; cases this
theorem results_cellAB {P : Program} {fn : Func} {tmps : Array Value} {w : World} {a b B C t u : Nat} {vs : List Value} {x : Value} (hr : fn.results = #[.cell a t, .cell b u]) (ha : tmps.getD a undef = .pointer (some ⟨B, 0, none⟩)) (hb : tmps.getD b undef = .pointer (some ⟨C, 0, none⟩)) (ho : Own w B vs) (hp : Own w C [x])
    (hagg : (isAgg t).run P w = .ok true w) (hsz : (sizeOf t).run P w = .ok vs.length w) (hagg' : (isAgg u).run P w = .ok false w) (hsz' : (sizeOf u).run P w = .ok 1 w) : (results fn tmps).run P w = .ok (.tuple #[.agg vs.toArray, x]) w := by
  have hl := loadCells_own (P := P) ho vs.length 0 #[] (by omega)
  have ha' : tmps[a]?.getD undef = .pointer (some ⟨B, 0, none⟩) := by simpa using ha
  have hb' : tmps[b]?.getD undef = .pointer (some ⟨C, 0, none⟩) := by simpa using hb
  have hd : w.cell? ⟨C, 0, none⟩ = some x := hp.c 0
  simp [results, hr, go_sem, loadVar, hagg, hsz, hagg', hsz', loadCells, hl, ha', hb', asAddr, hd]
abbrev zeroDk : List Value := [.int .i64 0, .int .i64 0, .int .i64 0, .int .i64 0, .int .i64 0, .int .i64 0, .int .i64 0, .int .i64 0, .slice none 0 0]
abbrev set9 (W : World) (B : Nat) (h : Wh) (A : Option Addr) (n cap : Nat) : World := ((((((((W.setCell ⟨B, 0, none⟩ (.int .i64 h.full)).setCell ⟨B, 1, none⟩ (.int .i64 h.read)).setCell ⟨B, 2, none⟩ (.int .i64 h.slip)).setCell ⟨B, 3, none⟩ (.int .i64 h.skew)).setCell ⟨B, 4, none⟩ (.int .i64 h.circ)).setCell ⟨B, 5, none⟩ (.int .i64 h.lo)).setCell ⟨B, 6, none⟩ (.int .i64 h.hi)).setCell ⟨B, 7, none⟩ (.int .i64 h.wrong)).setCell ⟨B, 8, none⟩ (.slice A n cap)
theorem own_set9 {W : World} {B : Nat} (o : Own W B zeroDk) (h : Wh) (A : Option Addr) (n cap : Nat) : Own (set9 W B h A n cap) B (dkC h A n cap) := ((((((((o.set 0 (by simp) _).set 1 (by simp) _).set 2 (by simp) _).set 3 (by simp) _).set 4 (by simp) _).set 5 (by simp) _).set 6 (by simp) _).set 7 (by simp) _).set 8 (by simp) _
theorem own_set9_other {W : World} {B b : Nat} {vs : List Value} (o : Own W b vs) (hb : B ≠ b) (h : Wh) (A : Option Addr) (n cap : Nat) : Own (set9 W B h A n cap) b vs := ((((((((o.setOther (by exact hb) _).setOther (by exact hb) _).setOther (by exact hb) _).setOther (by exact hb) _).setOther (by exact hb) _).setOther (by exact hb) _).setOther (by exact hb) _).setOther (by exact hb) _).setOther (by exact hb) _
theorem below_set9 {w W : World} {m B : Nat} (k : Below m w W) (hB : m ≤ B) (h : Wh) (A : Option Addr) (n cap : Nat) : Below m w (set9 W B h A n cap) := ((((((((k.setCell (by exact hB) _).setCell (by exact hB) _).setCell (by exact hB) _).setCell (by exact hB) _).setCell (by exact hB) _).setCell (by exact hB) _).setCell (by exact hB) _).setCell (by exact hB) _).setCell (by exact hB) _
theorem heap_set9 {W : World} {B D : Nat} (hD : B ≠ D) (h : Wh) (A : Option Addr) (n cap : Nat) : (set9 W B h A n cap).heap[D]? = W.heap[D]? := ((((((((((Below.heap_setCell _ _ _ _ (by exact hD.symm)).trans (Below.heap_setCell _ _ _ _ (by exact hD.symm))).trans (Below.heap_setCell _ _ _ _ (by exact hD.symm))).trans (Below.heap_setCell _ _ _ _ (by exact hD.symm))).trans (Below.heap_setCell _ _ _ _ (by exact hD.symm))).trans (Below.heap_setCell _ _ _ _ (by exact hD.symm))).trans (Below.heap_setCell _ _ _ _ (by exact hD.symm))).trans (Below.heap_setCell _ _ _ _ (by exact hD.symm))).trans (Below.heap_setCell _ _ _ _ (by exact hD.symm))))
theorem keeps_set9 {W : World} {B : Nat} (h : Wh) (A : Option Addr) (n cap : Nat) : KeepsOthers W (set9 W B h A n cap) := (((((((((KeepsOthers.setCell _ _ _).trans (KeepsOthers.setCell _ _ _)).trans (KeepsOthers.setCell _ _ _)).trans (KeepsOthers.setCell _ _ _)).trans (KeepsOthers.setCell _ _ _)).trans (KeepsOthers.setCell _ _ _)).trans (KeepsOthers.setCell _ _ _)).trans (KeepsOthers.setCell _ _ _)).trans (KeepsOthers.setCell _ _ _))
set_option maxRecDepth 100000 in
set_option maxHeartbeats 8000000 in
theorem wopenW (h : Wh) (A : Option Addr) (ws : List Wk) (n cap : Nat) (w : World) (hA : Rd 5 w A (ws.map wkrow)) (hn : Hid (n = ws.length)) (hV : Hid (WhV h ws)) :
    Calls Try.prog 38 #[whV h, .slice A n cap, .bool true] w fun e w' => e = .returned (.tuple #[dkV h A n cap, .int .i64 (if Wl.trs h ws = [] then 3 else 0)]) ∧ Below w.heap.size w w' := by
  have HA := Lib.hid hA
  clear hA
  have hn8 : n ≤ 8 := by have := hV.out.n; have := hn.out; omega
  have HCK := Lib.hid (fun W (k : Rd 5 W A (ws.map wkrow)) => wCheckW h A ws n cap W k hn hn8 hV.out.k hV.out.l)
  obtain ⟨R, hR⟩ : ∃ R : Int, Hid (R = if Wl.trs h ws = [] then 3 else 0) := ⟨_, rfl⟩
  rw [← hR.out]
  have f1 : Fence.wide.fn 75 := trivial
  have f2 : Fence.wide.fn 89 := trivial
  refine (callsIn_wide (n := 12)).1 ?_
  refine callsIn_of_wp_marks Try.func38 rfl trivial ?_ rfl
  simp only [Try.ntmps38, List.size_toArray, List.length_cons, List.length_nil, Nat.reduceAdd, Nat.reduceSub, Array.replicate_succ, Array.replicate_zero, List.push_toArray, List.append_toArray, List.nil_append, List.cons_append]
  gi_wp2_with fail
  refine (callsIn_wide.2 (HCK.out _ (HA.out.below (by (repeat' (first | (with_reducible exact Below.refl _ _) | (with_reducible assumption) | (with_reducible refine Below.drew ?_) | (with_reducible refine below_drewN ?_ _) | (with_reducible refine Below.setCell ?_ ?_ _) | (with_reducible refine Below.alloc ?_ ?_ _) | (refine Below.trans ?_ (Below.mono (by with_reducible assumption) ?_)) | omega | (exact Below.size (by with_reducible assumption)) | (simp; done) | (simp; omega)))) (Nat.le_refl _)))).mono ?_
  rintro e w1 ⟨rfl, hb1⟩
  have hB1 : Below w.heap.size w w1 := by (repeat' (first | (with_reducible exact Below.refl _ _) | (with_reducible assumption) | (with_reducible refine Below.drew ?_) | (with_reducible refine below_drewN ?_ _) | (with_reducible refine Below.setCell ?_ ?_ _) | (with_reducible refine Below.alloc ?_ ?_ _) | (refine Below.trans ?_ (Below.mono (by with_reducible assumption) ?_)) | omega | (exact Below.size (by with_reducible assumption)) | (simp; done) | (simp; omega)))
  have p1 : Own w1 (w.heap.size + 1) zeroDk := Own.below (((Own.new' (w := w.alloc _) #[.int .i64 0, .int .i64 0, .int .i64 0, .int .i64 0, .int .i64 0, .int .i64 0, .int .i64 0, .int .i64 0, .slice none 0 0] _ (by simp) rfl).alloc _).alloc _) hb1 (by simp)
  have p2 : Own w1 (w.heap.size + 1 + 1) [.int .i64 0] := Own.below ((Own.new' (w := (w.alloc _).alloc _) #[.int .i64 0] _ (by simp) rfl).alloc _) hb1 (by simp)
  have p3 : Own w1 (w.heap.size + 1 + 1 + 1) (dkC h A n cap) := Own.below (Own.new' (w := ((w.alloc _).alloc _).alloc _) #[.int .i64 h.full, .int .i64 h.read, .int .i64 h.slip, .int .i64 h.skew, .int .i64 h.circ, .int .i64 h.lo, .int .i64 h.hi, .int .i64 h.wrong, .slice A n cap] _ (by simp) rfl) hb1 (by simp)
  clear hb1
  have P3 := Lib.hid p3
  obtain ⟨l3, c3, f3⟩ := p3
  gi_wp2
  have hz1 := hB1.size
  refine wpIn_rangeB (by omega) (gf := 89) (fst := #[dkV h A n cap]) (lb := #[]) rfl (enters_of Try.func89 (by kernel_rfl) rfl)
    (wtruthsS h A ws n cap w.heap.size (w.heap.size + 1 + 1 + 1) w1 11 (by omega) (fun W hW => HA.out.below (hB1.trans hW) (Nat.le_refl _)) hB1.size l3 hn hV)
    (fun k1 k2 => k1.trans k2) (fun W o o' ho hc hw => KpC.put (by omega) (by omega) (by have := (Array.getElem?_eq_some_iff.1 ho).1; omega) (by omega)) (fun _ => rfl)
    (fun pre W => pre = [] ∧ (Own W (w.heap.size + 1) zeroDk ∧ Own W (w.heap.size + 1 + 1) [.int .i64 0] ∧ Own W (w.heap.size + 1 + 1 + 1) (dkC h A n cap)) ∧ w1.heap.size ≤ W.heap.size ∧ Below w.heap.size w W)
    (fun c _ W => c = .ret ∧ Hid (Wl.trs h ws ≠ []) ∧ (Own W (w.heap.size + 1) (dkC h A n cap) ∧ Own W (w.heap.size + 1 + 1) [.int .i64 0]) ∧ Below w.heap.size w W)
    ?hI ?hIx ⟨rfl, ⟨p1, p2, P3.out⟩, Nat.le_refl _, hB1⟩
    (fun x a' _ => a' = { tmps := #[whV h, .slice A n cap, .bool true, .pointer (some ⟨w.heap.size, 0, none⟩), undef, undef, .pointer (some ⟨w.heap.size + 1, 0, none⟩), .pointer (some ⟨w.heap.size + 1 + 1, 0, none⟩), .pointer (some ⟨w.heap.size + 1 + 1 + 1, 0, none⟩), .int .i64 0, whV h, .slice A n cap, dkV h A n cap, whV h, .slice A n cap, .int .i64 0, .int .i64 0, .bool false, undef, undef, .bool true, .bool false, undef, dkV h A n cap, .func (.func 89) #[dkV h A n cap] #[], .agg #[.int .i64 x.1.1, .int .i64 x.1.2], undef, undef], defers := [] })
    (fun _ _ _ _ _ _ hs _ _ => hs) ?assign ?body ?done ?stop
  case hI =>
    rintro s X Y row ⟨e1, ⟨e2, e3, e4⟩, e6, e7⟩ hg hr
    have hrow : ∀ r, row = some r → w1.heap.size ≤ r := fun r e => (hr r e).1
    exact ⟨e1, ⟨e2.grown hg (fun e => by have := hrow _ e.symm; omega), e3.grown hg (fun e => by have := hrow _ e.symm; omega), e4.grown hg (fun e => by have := hrow _ e.symm; omega)⟩, Nat.le_trans e6 hg.size, e7.grown hg (by omega) (fun k e => by have := hrow k e; omega)⟩
  case hIx =>
    rintro c s X Y row ⟨e0, e1, ⟨e2, e3⟩, e7⟩ hg hr
    have hrow : ∀ r, row = some r → w1.heap.size ≤ r := fun r e => (hr r e).1
    exact ⟨e0, e1, ⟨e2.grown hg (fun e => by have := hrow _ e.symm; omega), e3.grown hg (fun e => by have := hrow _ e.symm; omega)⟩, e7.grown hg e7.size (fun k e => by have := hrow k e; omega)⟩
  case assign =>
    rintro l pre x W K hI hK
    simp only [facT]
    gi_wp2
    exact hK _ _ (KeepsFrom.refl _ _) KpC.refl hI (by simp)
  case body =>
    rintro l pre x a' W hl hr ⟨rfl, ⟨e2, e3, e4⟩, e6, e7⟩ rfl hlt
    have hne := Lib.hid (wt_ne x)
    have q2 := Lib.hid e2
    have q3 := Lib.hid e3
    obtain ⟨l2, c2, f2'⟩ := e2
    obtain ⟨l3', c3', f3'⟩ := e3
    obtain ⟨l4, c4, f4⟩ := e4
    gi_wp2
    exact ⟨((keeps_set9 h A n cap).trans (KeepsOthers.setCell _ _ _)).from _, rfl, hne.out, ⟨(own_set9 q2.out h A n cap).setOther (by dsimp only; omega) _, (own_set9_other q3.out (by omega) h A n cap).set 0 (by simp) _⟩, (below_set9 e7 (by omega) h A n cap).setCell (by dsimp only; omega) _⟩
  case stop =>
    rintro D c pre W hD ⟨rfl, e1, ⟨e2, e3⟩, e7⟩ hK
    have hR0 : R = 0 := by rw [hR.out, if_neg e1.out]
    have HR0 := Lib.hid hR0
    clear hR0
    gi_wp2
    refine ⟨by simp, .inl ⟨_, _, rfl, run_takeDeferred hK, ?_⟩⟩
    exact ⟨_, results_cellAB (B := w.heap.size + 1) (C := w.heap.size + 1 + 1) rfl rfl rfl (e2.ofBlock (World.putObj_heap_other (by omega))) (e3.ofBlock (World.putObj_heap_other (by omega))) (by kernel_rfl) (by kernel_rfl) (by kernel_rfl) (by kernel_rfl), by rw [HR0.out],
      e7.trans (belowK_b (w := w) (Nat.le_refl _) W D _ _ (by omega) hK rfl rfl)⟩
  case done =>
    rintro D xs W hD hS ⟨rfl, ⟨e2, e3, e4⟩, e6, e7⟩ hK
    have hR3 : Hid (R = 3) := by show _ = _; rw [hR.out, if_pos (show Wl.trs h ws = [] from hS.symm)]
    have q2 := Lib.hid e2
    have q3 := Lib.hid e3
    have q7 := Lib.hid e7
    obtain ⟨l2, c2, f2'⟩ := e2
    obtain ⟨l3', c3', f3'⟩ := e3
    obtain ⟨l4, c4, f4⟩ := e4
    clear hS
    gi_wp2
    have hK2 : ((set9 W (w.heap.size + 1) h A n cap).setCell ⟨w.heap.size + 1 + 1, 0, none⟩ (.int .i64 3)).heap[D]? = some (.deferred (some [])) := (Below.heap_setCell _ _ _ _ (by dsimp only; omega)).trans ((heap_set9 (by omega) h A n cap).trans hK)
    refine ⟨by simp, .inl ⟨_, _, rfl, run_takeDeferred hK2, ?_⟩⟩
    exact ⟨_, results_cellAB (B := w.heap.size + 1) (C := w.heap.size + 1 + 1) rfl rfl rfl (((own_set9 q2.out h A n cap).setOther (by dsimp only; omega) _).ofBlock (World.putObj_heap_other (by omega))) (((own_set9_other q3.out (by omega) h A n cap).set 0 (by simp) _).ofBlock (World.putObj_heap_other (by omega))) (by kernel_rfl) (by kernel_rfl) (by kernel_rfl) (by kernel_rfl), by rw [hR3.out],
      ((below_set9 q7.out (by omega) h A n cap).setCell (by dsimp only; omega) _).trans (belowK_b (w := w) (Nat.le_refl _) _ D _ _ (by omega) hK2 rfl rfl)⟩
end Go.Proofs.Ytgmhelclofnpkaa
