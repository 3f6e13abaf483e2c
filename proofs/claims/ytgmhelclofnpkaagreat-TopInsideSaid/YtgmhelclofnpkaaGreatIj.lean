/- Walks: far; the example of tracks. -/
import Derived.Test.YtgmhelclofnpkaaGreatInC
import Derived.Test.YtgmhelclofnpkaaGreatInB
import Derived.Test.YtgmhelclofnpkaaGreatQm
import Derived.Test.YtgmhelclofnpkaaGreatQc
namespace Go.Proofs.YtgmhelclofnpkaaGreat
open Go.RowKit

def farB (n m : Nat) (v : Int) : Bool := decide (40 < n) || (decide (40 < m) || (decide (v = 0) && (decide (5 < n) || decide (5 < m))))
set_option maxHeartbeats 4000000 in
theorem Far05W (A B : Option Addr) (T P : List P2) (n cap m cb : Nat) (c lo hi : Int) (w : World) (hA : Rd 2 w A (T.map ptrow)) (hB : Rd 2 w B (P.map ptrow)) (hn : Hid (n = T.length)) (hm : Hid (m = P.length)) (hlen : n ≤ 9223372036854775807) (hlen2 : m ≤ 9223372036854775807) :
    Calls Tryz.prog 4 #[tkV A n cap c lo hi, .slice B m cb] w fun e w' => e = .returned (.bool (farB n m (Tk.chk T P c lo hi))) ∧ Below w.heap.size w w' := by
  have HA := Lib.hid hA
  have HB := Lib.hid hB
  have o0 : Own (w.alloc (.cells #[.slice A n cap, .int .i64 c, .int .i64 lo, .int .i64 hi] 26)) w.heap.size (tkC A n cap c lo hi) := Own.new' _ _ rfl rfl
  have oB : Below w.heap.size w (w.alloc (.cells #[.slice A n cap, .int .i64 c, .int .i64 lo, .int .i64 hi] 26)) := by (repeat' (first | (with_reducible exact Below.refl _ _) | (with_reducible assumption) | (with_reducible refine Below.drew ?_) | (with_reducible refine below_drewN ?_ _) | (with_reducible refine Below.setCell ?_ ?_ _) | (with_reducible refine Below.alloc ?_ ?_ _) | (refine Below.trans ?_ (Below.mono (by with_reducible assumption) ?_)) | omega | (exact Below.size (by with_reducible assumption)) | (simp; done) | (simp; omega)))
  clear hA hB
  by_cases h1 : 40 < n
  · have hv : farB n m (Tk.chk T P c lo hi) = true := by unfold farB; rw [decide_eq_true h1]; rfl
    rw [hv]
    clear hv
    go_enter Tryz.func4, Tryz.ntmps4
    go_wp2
    go_ret
    exact ⟨rfl, oB⟩
  · by_cases h2 : 40 < m
    · have hv : farB n m (Tk.chk T P c lo hi) = true := by unfold farB; rw [decide_eq_true h2]; simp
      rw [hv]
      clear hv
      go_enter Tryz.func4, Tryz.ntmps4
      go_wp2
      go_ret
      exact ⟨rfl, oB⟩
    · have hC := Lib.hid (q5CheckW A B T P n cap m cb c lo hi _ (HA.out.below oB (Nat.le_refl _)) (HB.out.below oB (Nat.le_refl _)) hn hm hlen hlen2)
      have hv : farB n m (Tk.chk T P c lo hi) = (decide (Tk.chk T P c lo hi = 0) && (decide (5 < n) || decide (5 < m))) := by unfold farB; rw [decide_eq_false h1, decide_eq_false h2, Bool.false_or, Bool.false_or]
      rw [hv]
      clear hv
      generalize Tk.chk T P c lo hi = v at hC ⊢
      by_cases h0 : v = 0
      · subst h0
        have hd : decide ((0 : Int) = 0) = true := by decide
        rw [hd, Bool.true_and]
        by_cases h5 : 5 < n
        · have hd : decide (5 < n) = true := decide_eq_true h5
          rw [hd, Bool.true_or]
          clear hd
          go_enter Tryz.func4, Tryz.ntmps4
          go_wp2_with fail
          refine hC.out.mono ?_
          rintro e w1 ⟨rfl, hb1⟩
          obtain ⟨l1, c1, f1⟩ := o0.below hb1 o0.lt
          have hB1 := oB.trans (hb1.mono oB.size)
          clear hb1 o0 oB
          go_wp2
          go_ret
          exact ⟨rfl, hB1⟩
        · have hd : decide (5 < n) = false := decide_eq_false h5
          rw [hd, Bool.false_or]
          clear hd
          go_enter Tryz.func4, Tryz.ntmps4
          go_wp2_with fail
          refine hC.out.mono ?_
          rintro e w1 ⟨rfl, hb1⟩
          obtain ⟨l1, c1, f1⟩ := o0.below hb1 o0.lt
          have hB1 := oB.trans (hb1.mono oB.size)
          clear hb1 o0 oB
          go_wp2
          go_ret
          exact ⟨ret_bool (by (first | rfl | (rw [Bool.eq_iff_iff]; simp; done) | (rw [Bool.eq_iff_iff]; simp; omega))), hB1⟩
      · have hd : decide (v = 0) = false := decide_eq_false h0
        have hvb : (v == 0) = false := by simpa using h0
        rw [hd, Bool.false_and]
        clear hd h0
        go_enter Tryz.func4, Tryz.ntmps4
        go_wp2_with fail
        refine hC.out.mono ?_
        rintro e w1 ⟨rfl, hb1⟩
        go_wp2
        go_ret
        exact ⟨rfl, oB.trans (hb1.mono oB.size)⟩
def exTp : List P2 := [(0, 0), (2, 0), (2, 2), (0, 2)]
def exWp : List P2 := [(-1, -1), (3, -1), (3, 3), (-1, 3)]
def exEl : List Int := [0, 1, 2, 3]
theorem exTkD : TkD exTp exWp exEl 1 1 2 4 4 := by
  refine ⟨rfl, rfl, rfl, by omega, Tk.okT_of (by kernel_rfl), by kernel_rfl, Tk.okE_of (by kernel_rfl)⟩
theorem exSw : Tk.swp exTp exWp exEl 4 = 24 := by kernel_rfl
theorem results_ctct {P : Program} {fn : Func} {tmps : Array Value} {w : World} {a b B C t u s r : Nat} {vs xs : List Value} (hr : fn.results = #[.cell a t, .tmp s, .cell b u, .tmp r]) (ha : tmps.getD a undef = .pointer (some ⟨B, 0, none⟩)) (hb : tmps.getD b undef = .pointer (some ⟨C, 0, none⟩)) (ho : Own w B vs) (hp : Own w C xs)
    (hagg : (isAgg t).run P w = .ok true w) (hsz : (sizeOf t).run P w = .ok vs.length w) (hagg' : (isAgg u).run P w = .ok true w) (hsz' : (sizeOf u).run P w = .ok xs.length w) : (results fn tmps).run P w = .ok (.tuple #[.agg vs.toArray, tmps.getD s undef, .agg xs.toArray, tmps.getD r undef]) w := by
  have hl := loadCells_own (P := P) ho vs.length 0 #[] (by omega)
  have hl2 := loadCells_own (P := P) hp xs.length 0 #[] (by omega)
  have ha' : tmps[a]?.getD undef = .pointer (some ⟨B, 0, none⟩) := by simpa using ha
  have hb' : tmps[b]?.getD undef = .pointer (some ⟨C, 0, none⟩) := by simpa using hb
  simp [results, hr, go_sem, loadVar, hagg, hsz, hagg', hsz', loadCells, hl, hl2, ha', hb', asAddr]
/-- A store of the same cells again. -/
theorem own_same4 {W : World} {Z : Nat} {a b c d : Value} (o : Own W Z [a, b, c, d]) : Own ((((W.setCell ⟨Z, 0, none⟩ a).setCell ⟨Z, 1, none⟩ b).setCell ⟨Z, 2, none⟩ c).setCell ⟨Z, 3, none⟩ d) Z [a, b, c, d] := (((o.set 0 (by simp) _).set 1 (by simp) _).set 2 (by simp) _).set 3 (by simp) _
theorem own_other4 {W : World} {Z Y : Nat} {vs : List Value} (o : Own W Y vs) (h : Z ≠ Y) (a b c d : Value) : Own ((((W.setCell ⟨Z, 0, none⟩ a).setCell ⟨Z, 1, none⟩ b).setCell ⟨Z, 2, none⟩ c).setCell ⟨Z, 3, none⟩ d) Y vs := (((o.setOther (by exact h) _).setOther (by exact h) _).setOther (by exact h) _).setOther (by exact h) _
theorem below_4 {w W : World} {k Z : Nat} (h : Below k w W) (hZ : k ≤ Z) (a b c d : Value) : Below k w ((((W.setCell ⟨Z, 0, none⟩ a).setCell ⟨Z, 1, none⟩ b).setCell ⟨Z, 2, none⟩ c).setCell ⟨Z, 3, none⟩ d) := (((h.setCell (by exact hZ) _).setCell (by exact hZ) _).setCell (by exact hZ) _).setCell (by exact hZ) _
set_option maxRecDepth 100000 in
set_option maxHeartbeats 8000000 in
theorem ex05W (w : World) : Calls Tryz.prog 24 #[] w fun e w' => ∃ (A0 : Option Addr) (c0 : Nat) (a1 : Value) (A B : Option Addr) (ca cb : Nat), e = .returned (.tuple #[tkV A0 3 c0 0 1 13, a1, tkV A 4 ca 1 1 2, .slice B 4 cb]) ∧ Rd 2 w' A (exTp.map ptrow) ∧ Rd 2 w' B (exWp.map ptrow) ∧ Below w.heap.size w w' := by
  obtain ⟨W0, hW0⟩ : ∃ W0, W0 = (((w.alloc (.cells #[.slice (some ⟨w.heap.size + 1 + 1, 0, none⟩) 3 3, .int .i64 0, .int .i64 1, .int .i64 13] 26)).alloc (.cells #[.slice (some ⟨w.heap.size + 1 + 1 + 1, 0, none⟩) 4 4, .int .i64 1, .int .i64 1, .int .i64 2] 26)).alloc (.cells #[.int .i64 0, .int .i64 0, .int .i64 2, .int .i64 0, .int .i64 4, .int .i64 0] 52)).alloc (.cells #[.int .i64 0, .int .i64 0, .int .i64 2, .int .i64 0, .int .i64 2, .int .i64 2, .int .i64 0, .int .i64 2] 52) := ⟨_, rfl⟩
  have o0 : Own W0 w.heap.size [.slice (some ⟨w.heap.size + 1 + 1, 0, none⟩) 3 3, .int .i64 0, .int .i64 1, .int .i64 13] := by rw [hW0]; exact (((Own.new' _ _ rfl rfl).alloc _).alloc _).alloc _
  have o1 : Own W0 (w.heap.size + 1) [.slice (some ⟨w.heap.size + 1 + 1 + 1, 0, none⟩) 4 4, .int .i64 1, .int .i64 1, .int .i64 2] := by rw [hW0]; exact ((Own.new' _ _ (by simp) rfl).alloc _).alloc _
  have o3 : Own W0 (w.heap.size + 1 + 1 + 1) [.int .i64 0, .int .i64 0, .int .i64 2, .int .i64 0, .int .i64 2, .int .i64 2, .int .i64 0, .int .i64 2] := by rw [hW0]; exact Own.new' _ _ (by simp) rfl
  have oB : Below w.heap.size w W0 := by rw [hW0]; (repeat' (first | (with_reducible exact Below.refl _ _) | (with_reducible assumption) | (with_reducible refine Below.drew ?_) | (with_reducible refine below_drewN ?_ _) | (with_reducible refine Below.setCell ?_ ?_ _) | (with_reducible refine Below.alloc ?_ ?_ _) | (refine Below.trans ?_ (Below.mono (by with_reducible assumption) ?_)) | omega | (exact Below.size (by with_reducible assumption)) | (simp; done) | (simp; omega)))
  go_enter Tryz.func24, Tryz.ntmps24
  go_wp2
  rw [← hW0]
  clear hW0
  refine rg_start (fun W => Own W w.heap.size [.slice (some ⟨w.heap.size + 1 + 1, 0, none⟩) 3 3, .int .i64 0, .int .i64 1, .int .i64 13] ∧ Own W (w.heap.size + 1) [.slice (some ⟨w.heap.size + 1 + 1 + 1, 0, none⟩) 4 4, .int .i64 1, .int .i64 1, .int .i64 2]) 16 (by kernel_rfl) rfl ?_
  replace o0 := o0.drew
  replace o1 := o1.drew
  replace o3 := o3.drew
  replace oB := oB.drew
  generalize World.drew _ = R0 at o0 o1 o3 oB ⊢
  refine rg_take (fuel := 6) [0, 1, 2, 3, 4, 6, 7, 8, 9, 10] (by kernel_rfl) (by intro _ _ d _ _ h; first | (cases d <;> exact h) | (simp [Exit.then, Exit.inBlock, ownPostG] at h)) rfl (by kernel_rfl) (by kernel_rfl) ⟨o0, o1⟩ ?_; simp only [pickL, pick1, List.cons_append, List.nil_append]
  iterate 10 (refine wpTake_cons (v := ?_) (Or.inl ⟨by rfl, ?_⟩) ?_; rotate_left; (intro w' hSw; have y0 := hSw.1.c; have y1 := hSw.2.c; clear hSw; go_simp; (try with_reducible rfl)); (try simp only [Act.put, List.setIfInBounds_toArray, List.set_cons_zero, List.set_cons_succ]))
  refine wpTake_nil ?_
  -- tree
  refine rg_manyC (fuel := 5) [5, 11, 12] rfl (by simp) (by kernel_rfl) (by kernel_rfl) ?_
  intro cc hcc
  rcases (show cc = 5 ∨ cc = 11 ∨ cc = 12 by simpa using hcc) with rfl | rfl | rfl <;> clear hcc <;> simp only [pick1, wpHead]
  · intro K' hK; rw [if_pos (by rfl)]; go_simp
    have ba : Below R0.heap.size R0 (R0.alloc (.cells #[.int .i64 0, .int .i64 2, .int .i64 4, .int .i64 2, .int .i64 4, .int .i64 3, .int .i64 0, .int .i64 3] 52)) := (Below.refl _ _).alloc (Nat.le_refl _) _
    have hz1 := o1.lt
    replace o0 := o0.below ba o0.lt
    replace o1 := o1.below ba o1.lt
    replace o3 := o3.below ba o3.lt
    replace oB := oB.trans (ba.mono oB.size)
    refine hK.out _ _ ⟨o0, o1⟩ ?_
    clear hK K'; (try simp only [Act.put, List.setIfInBounds_toArray, List.set_cons_zero, List.set_cons_succ])
    clear ba
    generalize R0.alloc (.cells #[.int .i64 0, .int .i64 2, .int .i64 4, .int .i64 2, .int .i64 4, .int .i64 3, .int .i64 0, .int .i64 3] 52) = R1 at oB o0 o1 o3 ⊢
    refine rg_manyC (fuel := 4) [11, 12] rfl (by simp) (by kernel_rfl) (by kernel_rfl) ?_
    intro cc hcc
    rcases (show cc = 11 ∨ cc = 12 by simpa using hcc) with rfl | rfl <;> clear hcc <;> simp only [pick1, wpHead]
    · intro K' hK; rw [if_pos (by rfl)]; go_simp
      have ba : Below R1.heap.size R1 (R1.alloc (.cells #[.int .i64 (-1), .int .i64 (-1), .int .i64 3, .int .i64 (-1), .int .i64 3, .int .i64 3, .int .i64 (-1), .int .i64 3] 52)) := (Below.refl _ _).alloc (Nat.le_refl _) _
      have hz2 := o1.lt
      replace o0 := o0.below ba o0.lt
      replace o1 := o1.below ba o1.lt
      replace o3 := o3.below ba o3.lt
      have qb : Own (R1.alloc (.cells #[.int .i64 (-1), .int .i64 (-1), .int .i64 3, .int .i64 (-1), .int .i64 3, .int .i64 3, .int .i64 (-1), .int .i64 3] 52)) R1.heap.size [.int .i64 (-1), .int .i64 (-1), .int .i64 3, .int .i64 (-1), .int .i64 3, .int .i64 3, .int .i64 (-1), .int .i64 3] := Own.new' _ _ rfl rfl
      replace oB := oB.trans (ba.mono oB.size)
      refine hK.out _ _ ⟨o0, o1⟩ ?_
      clear hK K'; (try simp only [Act.put, List.setIfInBounds_toArray, List.set_cons_zero, List.set_cons_succ])
      clear ba
      generalize R1.alloc (.cells #[.int .i64 (-1), .int .i64 (-1), .int .i64 3, .int .i64 (-1), .int .i64 3, .int .i64 3, .int .i64 (-1), .int .i64 3] 52) = R2 at oB o0 o1 o3 qb ⊢
      refine rg_one (fuel := 3) 12 rfl (by kernel_rfl) (by kernel_rfl) ?_; simp only [pick1, wpHead]
      have ocx := o0
      obtain ⟨l0, c0, f0⟩ := ocx
      intro K' hK; rw [if_pos (by rfl)]; go_simp
      clear l0 c0 f0
      replace o1 := own_other4 o1 (Z := w.heap.size) (by omega) (.slice (some ⟨w.heap.size + 1 + 1, 0, none⟩) 3 3) (.int .i64 0) (.int .i64 1) (.int .i64 13)
      replace o3 := own_other4 o3 (Z := w.heap.size) (by omega) (.slice (some ⟨w.heap.size + 1 + 1, 0, none⟩) 3 3) (.int .i64 0) (.int .i64 1) (.int .i64 13)
      replace qb := own_other4 qb (Z := w.heap.size) (by omega) (.slice (some ⟨w.heap.size + 1 + 1, 0, none⟩) 3 3) (.int .i64 0) (.int .i64 1) (.int .i64 13)
      replace oB := below_4 oB (Z := w.heap.size) (by omega) (.slice (some ⟨w.heap.size + 1 + 1, 0, none⟩) 3 3) (.int .i64 0) (.int .i64 1) (.int .i64 13)
      replace o0 := own_same4 o0
      refine hK.out _ _ ⟨o0, o1⟩ ?_
      clear hK K'; (try simp only [Act.put, List.setIfInBounds_toArray, List.set_cons_zero, List.set_cons_succ])
      generalize World.setCell _ _ _ = R3 at oB o0 o1 o3 qb ⊢
      refine rg_one (fuel := 2) 13 rfl (by kernel_rfl) (by kernel_rfl) ?_; simp only [pick1, wpHead]
      intro K' hK; rw [if_pos (by rfl)]; go_simp
      refine hK.out _ _ ⟨o0, o1⟩ ?_
      clear hK K'; (try simp only [Act.put, List.setIfInBounds_toArray, List.set_cons_zero, List.set_cons_succ])
      refine rg_one (fuel := 1) 14 rfl (by kernel_rfl) (by kernel_rfl) ?_; simp only [pick1, wpHead]
      have ocx := o1
      obtain ⟨l0, c0, f0⟩ := ocx
      intro K' hK; rw [if_pos (by rfl)]; go_simp
      clear l0 c0 f0
      replace o0 := own_other4 o0 (Z := w.heap.size + 1) (by omega) (.slice (some ⟨w.heap.size + 1 + 1 + 1, 0, none⟩) 4 4) (.int .i64 1) (.int .i64 1) (.int .i64 2)
      replace o3 := own_other4 o3 (Z := w.heap.size + 1) (by omega) (.slice (some ⟨w.heap.size + 1 + 1 + 1, 0, none⟩) 4 4) (.int .i64 1) (.int .i64 1) (.int .i64 2)
      replace qb := own_other4 qb (Z := w.heap.size + 1) (by omega) (.slice (some ⟨w.heap.size + 1 + 1 + 1, 0, none⟩) 4 4) (.int .i64 1) (.int .i64 1) (.int .i64 2)
      replace oB := below_4 oB (Z := w.heap.size + 1) (by omega) (.slice (some ⟨w.heap.size + 1 + 1 + 1, 0, none⟩) 4 4) (.int .i64 1) (.int .i64 1) (.int .i64 2)
      replace o1 := own_same4 o1
      refine hK.out _ _ ⟨o0, o1⟩ ?_
      clear hK K'; (try simp only [Act.put, List.setIfInBounds_toArray, List.set_cons_zero, List.set_cons_succ])
      generalize World.setCell _ _ _ = R5 at oB o0 o1 o3 qb ⊢
      refine rg_one (fuel := 0) 15 rfl (by kernel_rfl) (by kernel_rfl) ?_; simp only [pick1, wpHead]
      intro K' hK; rw [if_pos (by rfl)]; go_simp
      refine hK.out _ _ ⟨o0, o1⟩ ?_
      clear hK K'; (try simp only [Act.put, List.setIfInBounds_toArray, List.set_cons_zero, List.set_cons_succ])
      refine rg_done (by kernel_rfl) ?_
      go_wp2
      refine bodyPost_ret (results_ctct (B := w.heap.size) (C := w.heap.size + 1) rfl rfl rfl o0 o1 (by kernel_rfl) (by kernel_rfl) (by kernel_rfl) (by kernel_rfl)) rfl ?_
      exact ⟨_, _, _, some ⟨w.heap.size + 1 + 1 + 1, 0, none⟩, some ⟨R1.heap.size, 0, none⟩, 4, 4, rfl, Own.rd' o3 rfl (by simp [exTp, ptrow]), Own.rd' qb rfl (by simp [exWp, ptrow]), oB⟩
    · have ocx := o0
      obtain ⟨l0, c0, f0⟩ := ocx
      intro K' hK; rw [if_pos (by rfl)]; go_simp
      clear l0 c0 f0
      replace o1 := own_other4 o1 (Z := w.heap.size) (by omega) (.slice (some ⟨w.heap.size + 1 + 1, 0, none⟩) 3 3) (.int .i64 0) (.int .i64 1) (.int .i64 13)
      replace o3 := own_other4 o3 (Z := w.heap.size) (by omega) (.slice (some ⟨w.heap.size + 1 + 1, 0, none⟩) 3 3) (.int .i64 0) (.int .i64 1) (.int .i64 13)
      replace oB := below_4 oB (Z := w.heap.size) (by omega) (.slice (some ⟨w.heap.size + 1 + 1, 0, none⟩) 3 3) (.int .i64 0) (.int .i64 1) (.int .i64 13)
      replace o0 := own_same4 o0
      refine hK.out _ _ ⟨o0, o1⟩ ?_
      clear hK K'; (try simp only [Act.put, List.setIfInBounds_toArray, List.set_cons_zero, List.set_cons_succ])
      generalize World.setCell _ _ _ = R7 at oB o0 o1 o3 ⊢
      refine rg_manyC (fuel := 3) [11, 13] rfl (by simp) (by kernel_rfl) (by kernel_rfl) ?_
      intro cc hcc
      rcases (show cc = 11 ∨ cc = 13 by simpa using hcc) with rfl | rfl <;> clear hcc <;> simp only [pick1, wpHead]
      · intro K' hK; rw [if_pos (by rfl)]; go_simp
        have ba : Below R7.heap.size R7 (R7.alloc (.cells #[.int .i64 (-1), .int .i64 (-1), .int .i64 3, .int .i64 (-1), .int .i64 3, .int .i64 3, .int .i64 (-1), .int .i64 3] 52)) := (Below.refl _ _).alloc (Nat.le_refl _) _
        have hz8 := o1.lt
        replace o0 := o0.below ba o0.lt
        replace o1 := o1.below ba o1.lt
        replace o3 := o3.below ba o3.lt
        have qb : Own (R7.alloc (.cells #[.int .i64 (-1), .int .i64 (-1), .int .i64 3, .int .i64 (-1), .int .i64 3, .int .i64 3, .int .i64 (-1), .int .i64 3] 52)) R7.heap.size [.int .i64 (-1), .int .i64 (-1), .int .i64 3, .int .i64 (-1), .int .i64 3, .int .i64 3, .int .i64 (-1), .int .i64 3] := Own.new' _ _ rfl rfl
        replace oB := oB.trans (ba.mono oB.size)
        refine hK.out _ _ ⟨o0, o1⟩ ?_
        clear hK K'; (try simp only [Act.put, List.setIfInBounds_toArray, List.set_cons_zero, List.set_cons_succ])
        clear ba
        generalize R7.alloc (.cells #[.int .i64 (-1), .int .i64 (-1), .int .i64 3, .int .i64 (-1), .int .i64 3, .int .i64 3, .int .i64 (-1), .int .i64 3] 52) = R8 at oB o0 o1 o3 qb ⊢
        refine rg_one (fuel := 2) 13 rfl (by kernel_rfl) (by kernel_rfl) ?_; simp only [pick1, wpHead]
        intro K' hK; rw [if_pos (by rfl)]; go_simp
        refine hK.out _ _ ⟨o0, o1⟩ ?_
        clear hK K'; (try simp only [Act.put, List.setIfInBounds_toArray, List.set_cons_zero, List.set_cons_succ])
        refine rg_one (fuel := 1) 14 rfl (by kernel_rfl) (by kernel_rfl) ?_; simp only [pick1, wpHead]
        have ocx := o1
        obtain ⟨l0, c0, f0⟩ := ocx
        intro K' hK; rw [if_pos (by rfl)]; go_simp
        clear l0 c0 f0
        replace o0 := own_other4 o0 (Z := w.heap.size + 1) (by omega) (.slice (some ⟨w.heap.size + 1 + 1 + 1, 0, none⟩) 4 4) (.int .i64 1) (.int .i64 1) (.int .i64 2)
        replace o3 := own_other4 o3 (Z := w.heap.size + 1) (by omega) (.slice (some ⟨w.heap.size + 1 + 1 + 1, 0, none⟩) 4 4) (.int .i64 1) (.int .i64 1) (.int .i64 2)
        replace qb := own_other4 qb (Z := w.heap.size + 1) (by omega) (.slice (some ⟨w.heap.size + 1 + 1 + 1, 0, none⟩) 4 4) (.int .i64 1) (.int .i64 1) (.int .i64 2)
        replace oB := below_4 oB (Z := w.heap.size + 1) (by omega) (.slice (some ⟨w.heap.size + 1 + 1 + 1, 0, none⟩) 4 4) (.int .i64 1) (.int .i64 1) (.int .i64 2)
        replace o1 := own_same4 o1
        refine hK.out _ _ ⟨o0, o1⟩ ?_
        clear hK K'; (try simp only [Act.put, List.setIfInBounds_toArray, List.set_cons_zero, List.set_cons_succ])
        generalize World.setCell _ _ _ = R10 at oB o0 o1 o3 qb ⊢
        refine rg_one (fuel := 0) 15 rfl (by kernel_rfl) (by kernel_rfl) ?_; simp only [pick1, wpHead]
        intro K' hK; rw [if_pos (by rfl)]; go_simp
        refine hK.out _ _ ⟨o0, o1⟩ ?_
        clear hK K'; (try simp only [Act.put, List.setIfInBounds_toArray, List.set_cons_zero, List.set_cons_succ])
        refine rg_done (by kernel_rfl) ?_
        go_wp2
        refine bodyPost_ret (results_ctct (B := w.heap.size) (C := w.heap.size + 1) rfl rfl rfl o0 o1 (by kernel_rfl) (by kernel_rfl) (by kernel_rfl) (by kernel_rfl)) rfl ?_
        exact ⟨_, _, _, some ⟨w.heap.size + 1 + 1 + 1, 0, none⟩, some ⟨R7.heap.size, 0, none⟩, 4, 4, rfl, Own.rd' o3 rfl (by simp [exTp, ptrow]), Own.rd' qb rfl (by simp [exWp, ptrow]), oB⟩
      · intro K' hK; rw [if_pos (by rfl)]; go_simp
        refine hK.out _ _ ⟨o0, o1⟩ ?_
        clear hK K'; (try simp only [Act.put, List.setIfInBounds_toArray, List.set_cons_zero, List.set_cons_succ])
        refine rg_manyC (fuel := 2) [11, 14] rfl (by simp) (by kernel_rfl) (by kernel_rfl) ?_
        intro cc hcc
        rcases (show cc = 11 ∨ cc = 14 by simpa using hcc) with rfl | rfl <;> clear hcc <;> simp only [pick1, wpHead]
        · intro K' hK; rw [if_pos (by rfl)]; go_simp
          have ba : Below R7.heap.size R7 (R7.alloc (.cells #[.int .i64 (-1), .int .i64 (-1), .int .i64 3, .int .i64 (-1), .int .i64 3, .int .i64 3, .int .i64 (-1), .int .i64 3] 52)) := (Below.refl _ _).alloc (Nat.le_refl _) _
          have hz13 := o1.lt
          replace o0 := o0.below ba o0.lt
          replace o1 := o1.below ba o1.lt
          replace o3 := o3.below ba o3.lt
          have qb : Own (R7.alloc (.cells #[.int .i64 (-1), .int .i64 (-1), .int .i64 3, .int .i64 (-1), .int .i64 3, .int .i64 3, .int .i64 (-1), .int .i64 3] 52)) R7.heap.size [.int .i64 (-1), .int .i64 (-1), .int .i64 3, .int .i64 (-1), .int .i64 3, .int .i64 3, .int .i64 (-1), .int .i64 3] := Own.new' _ _ rfl rfl
          replace oB := oB.trans (ba.mono oB.size)
          refine hK.out _ _ ⟨o0, o1⟩ ?_
          clear hK K'; (try simp only [Act.put, List.setIfInBounds_toArray, List.set_cons_zero, List.set_cons_succ])
          clear ba
          generalize R7.alloc (.cells #[.int .i64 (-1), .int .i64 (-1), .int .i64 3, .int .i64 (-1), .int .i64 3, .int .i64 3, .int .i64 (-1), .int .i64 3] 52) = R13 at oB o0 o1 o3 qb ⊢
          refine rg_one (fuel := 1) 14 rfl (by kernel_rfl) (by kernel_rfl) ?_; simp only [pick1, wpHead]
          have ocx := o1
          obtain ⟨l0, c0, f0⟩ := ocx
          intro K' hK; rw [if_pos (by rfl)]; go_simp
          clear l0 c0 f0
          replace o0 := own_other4 o0 (Z := w.heap.size + 1) (by omega) (.slice (some ⟨w.heap.size + 1 + 1 + 1, 0, none⟩) 4 4) (.int .i64 1) (.int .i64 1) (.int .i64 2)
          replace o3 := own_other4 o3 (Z := w.heap.size + 1) (by omega) (.slice (some ⟨w.heap.size + 1 + 1 + 1, 0, none⟩) 4 4) (.int .i64 1) (.int .i64 1) (.int .i64 2)
          replace qb := own_other4 qb (Z := w.heap.size + 1) (by omega) (.slice (some ⟨w.heap.size + 1 + 1 + 1, 0, none⟩) 4 4) (.int .i64 1) (.int .i64 1) (.int .i64 2)
          replace oB := below_4 oB (Z := w.heap.size + 1) (by omega) (.slice (some ⟨w.heap.size + 1 + 1 + 1, 0, none⟩) 4 4) (.int .i64 1) (.int .i64 1) (.int .i64 2)
          replace o1 := own_same4 o1
          refine hK.out _ _ ⟨o0, o1⟩ ?_
          clear hK K'; (try simp only [Act.put, List.setIfInBounds_toArray, List.set_cons_zero, List.set_cons_succ])
          generalize World.setCell _ _ _ = R14 at oB o0 o1 o3 qb ⊢
          refine rg_one (fuel := 0) 15 rfl (by kernel_rfl) (by kernel_rfl) ?_; simp only [pick1, wpHead]
          intro K' hK; rw [if_pos (by rfl)]; go_simp
          refine hK.out _ _ ⟨o0, o1⟩ ?_
          clear hK K'; (try simp only [Act.put, List.setIfInBounds_toArray, List.set_cons_zero, List.set_cons_succ])
          refine rg_done (by kernel_rfl) ?_
          go_wp2
          refine bodyPost_ret (results_ctct (B := w.heap.size) (C := w.heap.size + 1) rfl rfl rfl o0 o1 (by kernel_rfl) (by kernel_rfl) (by kernel_rfl) (by kernel_rfl)) rfl ?_
          exact ⟨_, _, _, some ⟨w.heap.size + 1 + 1 + 1, 0, none⟩, some ⟨R7.heap.size, 0, none⟩, 4, 4, rfl, Own.rd' o3 rfl (by simp [exTp, ptrow]), Own.rd' qb rfl (by simp [exWp, ptrow]), oB⟩
        · have ocx := o1
          obtain ⟨l0, c0, f0⟩ := ocx
          intro K' hK; rw [if_pos (by rfl)]; go_simp
          clear l0 c0 f0
          replace o0 := own_other4 o0 (Z := w.heap.size + 1) (by omega) (.slice (some ⟨w.heap.size + 1 + 1 + 1, 0, none⟩) 4 4) (.int .i64 1) (.int .i64 1) (.int .i64 2)
          replace o3 := own_other4 o3 (Z := w.heap.size + 1) (by omega) (.slice (some ⟨w.heap.size + 1 + 1 + 1, 0, none⟩) 4 4) (.int .i64 1) (.int .i64 1) (.int .i64 2)
          replace oB := below_4 oB (Z := w.heap.size + 1) (by omega) (.slice (some ⟨w.heap.size + 1 + 1 + 1, 0, none⟩) 4 4) (.int .i64 1) (.int .i64 1) (.int .i64 2)
          replace o1 := own_same4 o1
          refine hK.out _ _ ⟨o0, o1⟩ ?_
          clear hK K'; (try simp only [Act.put, List.setIfInBounds_toArray, List.set_cons_zero, List.set_cons_succ])
          generalize World.setCell _ _ _ = R16 at oB o0 o1 o3 ⊢
          refine rg_one (fuel := 1) 11 rfl (by kernel_rfl) (by kernel_rfl) ?_; simp only [pick1, wpHead]
          intro K' hK; rw [if_pos (by rfl)]; go_simp
          have ba : Below R16.heap.size R16 (R16.alloc (.cells #[.int .i64 (-1), .int .i64 (-1), .int .i64 3, .int .i64 (-1), .int .i64 3, .int .i64 3, .int .i64 (-1), .int .i64 3] 52)) := (Below.refl _ _).alloc (Nat.le_refl _) _
          have hz17 := o1.lt
          replace o0 := o0.below ba o0.lt
          replace o1 := o1.below ba o1.lt
          replace o3 := o3.below ba o3.lt
          have qb : Own (R16.alloc (.cells #[.int .i64 (-1), .int .i64 (-1), .int .i64 3, .int .i64 (-1), .int .i64 3, .int .i64 3, .int .i64 (-1), .int .i64 3] 52)) R16.heap.size [.int .i64 (-1), .int .i64 (-1), .int .i64 3, .int .i64 (-1), .int .i64 3, .int .i64 3, .int .i64 (-1), .int .i64 3] := Own.new' _ _ rfl rfl
          replace oB := oB.trans (ba.mono oB.size)
          refine hK.out _ _ ⟨o0, o1⟩ ?_
          clear hK K'; (try simp only [Act.put, List.setIfInBounds_toArray, List.set_cons_zero, List.set_cons_succ])
          clear ba
          generalize R16.alloc (.cells #[.int .i64 (-1), .int .i64 (-1), .int .i64 3, .int .i64 (-1), .int .i64 3, .int .i64 3, .int .i64 (-1), .int .i64 3] 52) = R17 at oB o0 o1 o3 qb ⊢
          refine rg_one (fuel := 0) 15 rfl (by kernel_rfl) (by kernel_rfl) ?_; simp only [pick1, wpHead]
          intro K' hK; rw [if_pos (by rfl)]; go_simp
          refine hK.out _ _ ⟨o0, o1⟩ ?_
          clear hK K'; (try simp only [Act.put, List.setIfInBounds_toArray, List.set_cons_zero, List.set_cons_succ])
          refine rg_done (by kernel_rfl) ?_
          go_wp2
          refine bodyPost_ret (results_ctct (B := w.heap.size) (C := w.heap.size + 1) rfl rfl rfl o0 o1 (by kernel_rfl) (by kernel_rfl) (by kernel_rfl) (by kernel_rfl)) rfl ?_
          exact ⟨_, _, _, some ⟨w.heap.size + 1 + 1 + 1, 0, none⟩, some ⟨R16.heap.size, 0, none⟩, 4, 4, rfl, Own.rd' o3 rfl (by simp [exTp, ptrow]), Own.rd' qb rfl (by simp [exWp, ptrow]), oB⟩
  · intro K' hK; rw [if_pos (by rfl)]; go_simp
    have ba : Below R0.heap.size R0 (R0.alloc (.cells #[.int .i64 (-1), .int .i64 (-1), .int .i64 3, .int .i64 (-1), .int .i64 3, .int .i64 3, .int .i64 (-1), .int .i64 3] 52)) := (Below.refl _ _).alloc (Nat.le_refl _) _
    have hz19 := o1.lt
    replace o0 := o0.below ba o0.lt
    replace o1 := o1.below ba o1.lt
    replace o3 := o3.below ba o3.lt
    have qb : Own (R0.alloc (.cells #[.int .i64 (-1), .int .i64 (-1), .int .i64 3, .int .i64 (-1), .int .i64 3, .int .i64 3, .int .i64 (-1), .int .i64 3] 52)) R0.heap.size [.int .i64 (-1), .int .i64 (-1), .int .i64 3, .int .i64 (-1), .int .i64 3, .int .i64 3, .int .i64 (-1), .int .i64 3] := Own.new' _ _ rfl rfl
    replace oB := oB.trans (ba.mono oB.size)
    refine hK.out _ _ ⟨o0, o1⟩ ?_
    clear hK K'; (try simp only [Act.put, List.setIfInBounds_toArray, List.set_cons_zero, List.set_cons_succ])
    clear ba
    generalize R0.alloc (.cells #[.int .i64 (-1), .int .i64 (-1), .int .i64 3, .int .i64 (-1), .int .i64 3, .int .i64 3, .int .i64 (-1), .int .i64 3] 52) = R19 at oB o0 o1 o3 qb ⊢
    refine rg_manyC (fuel := 4) [5, 12] rfl (by simp) (by kernel_rfl) (by kernel_rfl) ?_
    intro cc hcc
    rcases (show cc = 5 ∨ cc = 12 by simpa using hcc) with rfl | rfl <;> clear hcc <;> simp only [pick1, wpHead]
    · intro K' hK; rw [if_pos (by rfl)]; go_simp
      have ba : Below R19.heap.size R19 (R19.alloc (.cells #[.int .i64 0, .int .i64 2, .int .i64 4, .int .i64 2, .int .i64 4, .int .i64 3, .int .i64 0, .int .i64 3] 52)) := (Below.refl _ _).alloc (Nat.le_refl _) _
      have hz20 := o1.lt
      replace o0 := o0.below ba o0.lt
      replace o1 := o1.below ba o1.lt
      replace o3 := o3.below ba o3.lt
      replace qb := qb.below ba qb.lt
      replace oB := oB.trans (ba.mono oB.size)
      refine hK.out _ _ ⟨o0, o1⟩ ?_
      clear hK K'; (try simp only [Act.put, List.setIfInBounds_toArray, List.set_cons_zero, List.set_cons_succ])
      clear ba
      generalize R19.alloc (.cells #[.int .i64 0, .int .i64 2, .int .i64 4, .int .i64 2, .int .i64 4, .int .i64 3, .int .i64 0, .int .i64 3] 52) = R20 at oB o0 o1 o3 qb ⊢
      refine rg_one (fuel := 3) 12 rfl (by kernel_rfl) (by kernel_rfl) ?_; simp only [pick1, wpHead]
      have ocx := o0
      obtain ⟨l0, c0, f0⟩ := ocx
      intro K' hK; rw [if_pos (by rfl)]; go_simp
      clear l0 c0 f0
      replace o1 := own_other4 o1 (Z := w.heap.size) (by omega) (.slice (some ⟨w.heap.size + 1 + 1, 0, none⟩) 3 3) (.int .i64 0) (.int .i64 1) (.int .i64 13)
      replace o3 := own_other4 o3 (Z := w.heap.size) (by omega) (.slice (some ⟨w.heap.size + 1 + 1, 0, none⟩) 3 3) (.int .i64 0) (.int .i64 1) (.int .i64 13)
      replace qb := own_other4 qb (Z := w.heap.size) (by omega) (.slice (some ⟨w.heap.size + 1 + 1, 0, none⟩) 3 3) (.int .i64 0) (.int .i64 1) (.int .i64 13)
      replace oB := below_4 oB (Z := w.heap.size) (by omega) (.slice (some ⟨w.heap.size + 1 + 1, 0, none⟩) 3 3) (.int .i64 0) (.int .i64 1) (.int .i64 13)
      replace o0 := own_same4 o0
      refine hK.out _ _ ⟨o0, o1⟩ ?_
      clear hK K'; (try simp only [Act.put, List.setIfInBounds_toArray, List.set_cons_zero, List.set_cons_succ])
      generalize World.setCell _ _ _ = R21 at oB o0 o1 o3 qb ⊢
      refine rg_one (fuel := 2) 13 rfl (by kernel_rfl) (by kernel_rfl) ?_; simp only [pick1, wpHead]
      intro K' hK; rw [if_pos (by rfl)]; go_simp
      refine hK.out _ _ ⟨o0, o1⟩ ?_
      clear hK K'; (try simp only [Act.put, List.setIfInBounds_toArray, List.set_cons_zero, List.set_cons_succ])
      refine rg_one (fuel := 1) 14 rfl (by kernel_rfl) (by kernel_rfl) ?_; simp only [pick1, wpHead]
      have ocx := o1
      obtain ⟨l0, c0, f0⟩ := ocx
      intro K' hK; rw [if_pos (by rfl)]; go_simp
      clear l0 c0 f0
      replace o0 := own_other4 o0 (Z := w.heap.size + 1) (by omega) (.slice (some ⟨w.heap.size + 1 + 1 + 1, 0, none⟩) 4 4) (.int .i64 1) (.int .i64 1) (.int .i64 2)
      replace o3 := own_other4 o3 (Z := w.heap.size + 1) (by omega) (.slice (some ⟨w.heap.size + 1 + 1 + 1, 0, none⟩) 4 4) (.int .i64 1) (.int .i64 1) (.int .i64 2)
      replace qb := own_other4 qb (Z := w.heap.size + 1) (by omega) (.slice (some ⟨w.heap.size + 1 + 1 + 1, 0, none⟩) 4 4) (.int .i64 1) (.int .i64 1) (.int .i64 2)
      replace oB := below_4 oB (Z := w.heap.size + 1) (by omega) (.slice (some ⟨w.heap.size + 1 + 1 + 1, 0, none⟩) 4 4) (.int .i64 1) (.int .i64 1) (.int .i64 2)
      replace o1 := own_same4 o1
      refine hK.out _ _ ⟨o0, o1⟩ ?_
      clear hK K'; (try simp only [Act.put, List.setIfInBounds_toArray, List.set_cons_zero, List.set_cons_succ])
      generalize World.setCell _ _ _ = R23 at oB o0 o1 o3 qb ⊢
      refine rg_one (fuel := 0) 15 rfl (by kernel_rfl) (by kernel_rfl) ?_; simp only [pick1, wpHead]
      intro K' hK; rw [if_pos (by rfl)]; go_simp
      refine hK.out _ _ ⟨o0, o1⟩ ?_
      clear hK K'; (try simp only [Act.put, List.setIfInBounds_toArray, List.set_cons_zero, List.set_cons_succ])
      refine rg_done (by kernel_rfl) ?_
      go_wp2
      refine bodyPost_ret (results_ctct (B := w.heap.size) (C := w.heap.size + 1) rfl rfl rfl o0 o1 (by kernel_rfl) (by kernel_rfl) (by kernel_rfl) (by kernel_rfl)) rfl ?_
      exact ⟨_, _, _, some ⟨w.heap.size + 1 + 1 + 1, 0, none⟩, some ⟨R0.heap.size, 0, none⟩, 4, 4, rfl, Own.rd' o3 rfl (by simp [exTp, ptrow]), Own.rd' qb rfl (by simp [exWp, ptrow]), oB⟩
    · have ocx := o0
      obtain ⟨l0, c0, f0⟩ := ocx
      intro K' hK; rw [if_pos (by rfl)]; go_simp
      clear l0 c0 f0
      replace o1 := own_other4 o1 (Z := w.heap.size) (by omega) (.slice (some ⟨w.heap.size + 1 + 1, 0, none⟩) 3 3) (.int .i64 0) (.int .i64 1) (.int .i64 13)
      replace o3 := own_other4 o3 (Z := w.heap.size) (by omega) (.slice (some ⟨w.heap.size + 1 + 1, 0, none⟩) 3 3) (.int .i64 0) (.int .i64 1) (.int .i64 13)
      replace qb := own_other4 qb (Z := w.heap.size) (by omega) (.slice (some ⟨w.heap.size + 1 + 1, 0, none⟩) 3 3) (.int .i64 0) (.int .i64 1) (.int .i64 13)
      replace oB := below_4 oB (Z := w.heap.size) (by omega) (.slice (some ⟨w.heap.size + 1 + 1, 0, none⟩) 3 3) (.int .i64 0) (.int .i64 1) (.int .i64 13)
      replace o0 := own_same4 o0
      refine hK.out _ _ ⟨o0, o1⟩ ?_
      clear hK K'; (try simp only [Act.put, List.setIfInBounds_toArray, List.set_cons_zero, List.set_cons_succ])
      generalize World.setCell _ _ _ = R25 at oB o0 o1 o3 qb ⊢
      refine rg_one (fuel := 3) 5 rfl (by kernel_rfl) (by kernel_rfl) ?_; simp only [pick1, wpHead]
      intro K' hK; rw [if_pos (by rfl)]; go_simp
      have ba : Below R25.heap.size R25 (R25.alloc (.cells #[.int .i64 0, .int .i64 2, .int .i64 4, .int .i64 2, .int .i64 4, .int .i64 3, .int .i64 0, .int .i64 3] 52)) := (Below.refl _ _).alloc (Nat.le_refl _) _
      have hz26 := o1.lt
      replace o0 := o0.below ba o0.lt
      replace o1 := o1.below ba o1.lt
      replace o3 := o3.below ba o3.lt
      replace qb := qb.below ba qb.lt
      replace oB := oB.trans (ba.mono oB.size)
      refine hK.out _ _ ⟨o0, o1⟩ ?_
      clear hK K'; (try simp only [Act.put, List.setIfInBounds_toArray, List.set_cons_zero, List.set_cons_succ])
      clear ba
      generalize R25.alloc (.cells #[.int .i64 0, .int .i64 2, .int .i64 4, .int .i64 2, .int .i64 4, .int .i64 3, .int .i64 0, .int .i64 3] 52) = R26 at oB o0 o1 o3 qb ⊢
      refine rg_one (fuel := 2) 13 rfl (by kernel_rfl) (by kernel_rfl) ?_; simp only [pick1, wpHead]
      intro K' hK; rw [if_pos (by rfl)]; go_simp
      refine hK.out _ _ ⟨o0, o1⟩ ?_
      clear hK K'; (try simp only [Act.put, List.setIfInBounds_toArray, List.set_cons_zero, List.set_cons_succ])
      refine rg_one (fuel := 1) 14 rfl (by kernel_rfl) (by kernel_rfl) ?_; simp only [pick1, wpHead]
      have ocx := o1
      obtain ⟨l0, c0, f0⟩ := ocx
      intro K' hK; rw [if_pos (by rfl)]; go_simp
      clear l0 c0 f0
      replace o0 := own_other4 o0 (Z := w.heap.size + 1) (by omega) (.slice (some ⟨w.heap.size + 1 + 1 + 1, 0, none⟩) 4 4) (.int .i64 1) (.int .i64 1) (.int .i64 2)
      replace o3 := own_other4 o3 (Z := w.heap.size + 1) (by omega) (.slice (some ⟨w.heap.size + 1 + 1 + 1, 0, none⟩) 4 4) (.int .i64 1) (.int .i64 1) (.int .i64 2)
      replace qb := own_other4 qb (Z := w.heap.size + 1) (by omega) (.slice (some ⟨w.heap.size + 1 + 1 + 1, 0, none⟩) 4 4) (.int .i64 1) (.int .i64 1) (.int .i64 2)
      replace oB := below_4 oB (Z := w.heap.size + 1) (by omega) (.slice (some ⟨w.heap.size + 1 + 1 + 1, 0, none⟩) 4 4) (.int .i64 1) (.int .i64 1) (.int .i64 2)
      replace o1 := own_same4 o1
      refine hK.out _ _ ⟨o0, o1⟩ ?_
      clear hK K'; (try simp only [Act.put, List.setIfInBounds_toArray, List.set_cons_zero, List.set_cons_succ])
      generalize World.setCell _ _ _ = R28 at oB o0 o1 o3 qb ⊢
      refine rg_one (fuel := 0) 15 rfl (by kernel_rfl) (by kernel_rfl) ?_; simp only [pick1, wpHead]
      intro K' hK; rw [if_pos (by rfl)]; go_simp
      refine hK.out _ _ ⟨o0, o1⟩ ?_
      clear hK K'; (try simp only [Act.put, List.setIfInBounds_toArray, List.set_cons_zero, List.set_cons_succ])
      refine rg_done (by kernel_rfl) ?_
      go_wp2
      refine bodyPost_ret (results_ctct (B := w.heap.size) (C := w.heap.size + 1) rfl rfl rfl o0 o1 (by kernel_rfl) (by kernel_rfl) (by kernel_rfl) (by kernel_rfl)) rfl ?_
      exact ⟨_, _, _, some ⟨w.heap.size + 1 + 1 + 1, 0, none⟩, some ⟨R0.heap.size, 0, none⟩, 4, 4, rfl, Own.rd' o3 rfl (by simp [exTp, ptrow]), Own.rd' qb rfl (by simp [exWp, ptrow]), oB⟩
  · have ocx := o0
    obtain ⟨l0, c0, f0⟩ := ocx
    intro K' hK; rw [if_pos (by rfl)]; go_simp
    clear l0 c0 f0
    replace o1 := own_other4 o1 (Z := w.heap.size) (by omega) (.slice (some ⟨w.heap.size + 1 + 1, 0, none⟩) 3 3) (.int .i64 0) (.int .i64 1) (.int .i64 13)
    replace o3 := own_other4 o3 (Z := w.heap.size) (by omega) (.slice (some ⟨w.heap.size + 1 + 1, 0, none⟩) 3 3) (.int .i64 0) (.int .i64 1) (.int .i64 13)
    replace oB := below_4 oB (Z := w.heap.size) (by omega) (.slice (some ⟨w.heap.size + 1 + 1, 0, none⟩) 3 3) (.int .i64 0) (.int .i64 1) (.int .i64 13)
    replace o0 := own_same4 o0
    refine hK.out _ _ ⟨o0, o1⟩ ?_
    clear hK K'; (try simp only [Act.put, List.setIfInBounds_toArray, List.set_cons_zero, List.set_cons_succ])
    generalize World.setCell _ _ _ = R30 at oB o0 o1 o3 ⊢
    refine rg_manyC (fuel := 4) [5, 11] rfl (by simp) (by kernel_rfl) (by kernel_rfl) ?_
    intro cc hcc
    rcases (show cc = 5 ∨ cc = 11 by simpa using hcc) with rfl | rfl <;> clear hcc <;> simp only [pick1, wpHead]
    · intro K' hK; rw [if_pos (by rfl)]; go_simp
      have ba : Below R30.heap.size R30 (R30.alloc (.cells #[.int .i64 0, .int .i64 2, .int .i64 4, .int .i64 2, .int .i64 4, .int .i64 3, .int .i64 0, .int .i64 3] 52)) := (Below.refl _ _).alloc (Nat.le_refl _) _
      have hz31 := o1.lt
      replace o0 := o0.below ba o0.lt
      replace o1 := o1.below ba o1.lt
      replace o3 := o3.below ba o3.lt
      replace oB := oB.trans (ba.mono oB.size)
      refine hK.out _ _ ⟨o0, o1⟩ ?_
      clear hK K'; (try simp only [Act.put, List.setIfInBounds_toArray, List.set_cons_zero, List.set_cons_succ])
      clear ba
      generalize R30.alloc (.cells #[.int .i64 0, .int .i64 2, .int .i64 4, .int .i64 2, .int .i64 4, .int .i64 3, .int .i64 0, .int .i64 3] 52) = R31 at oB o0 o1 o3 ⊢
      refine rg_manyC (fuel := 3) [11, 13] rfl (by simp) (by kernel_rfl) (by kernel_rfl) ?_
      intro cc hcc
      rcases (show cc = 11 ∨ cc = 13 by simpa using hcc) with rfl | rfl <;> clear hcc <;> simp only [pick1, wpHead]
      · intro K' hK; rw [if_pos (by rfl)]; go_simp
        have ba : Below R31.heap.size R31 (R31.alloc (.cells #[.int .i64 (-1), .int .i64 (-1), .int .i64 3, .int .i64 (-1), .int .i64 3, .int .i64 3, .int .i64 (-1), .int .i64 3] 52)) := (Below.refl _ _).alloc (Nat.le_refl _) _
        have hz32 := o1.lt
        replace o0 := o0.below ba o0.lt
        replace o1 := o1.below ba o1.lt
        replace o3 := o3.below ba o3.lt
        have qb : Own (R31.alloc (.cells #[.int .i64 (-1), .int .i64 (-1), .int .i64 3, .int .i64 (-1), .int .i64 3, .int .i64 3, .int .i64 (-1), .int .i64 3] 52)) R31.heap.size [.int .i64 (-1), .int .i64 (-1), .int .i64 3, .int .i64 (-1), .int .i64 3, .int .i64 3, .int .i64 (-1), .int .i64 3] := Own.new' _ _ rfl rfl
        replace oB := oB.trans (ba.mono oB.size)
        refine hK.out _ _ ⟨o0, o1⟩ ?_
        clear hK K'; (try simp only [Act.put, List.setIfInBounds_toArray, List.set_cons_zero, List.set_cons_succ])
        clear ba
        generalize R31.alloc (.cells #[.int .i64 (-1), .int .i64 (-1), .int .i64 3, .int .i64 (-1), .int .i64 3, .int .i64 3, .int .i64 (-1), .int .i64 3] 52) = R32 at oB o0 o1 o3 qb ⊢
        refine rg_one (fuel := 2) 13 rfl (by kernel_rfl) (by kernel_rfl) ?_; simp only [pick1, wpHead]
        intro K' hK; rw [if_pos (by rfl)]; go_simp
        refine hK.out _ _ ⟨o0, o1⟩ ?_
        clear hK K'; (try simp only [Act.put, List.setIfInBounds_toArray, List.set_cons_zero, List.set_cons_succ])
        refine rg_one (fuel := 1) 14 rfl (by kernel_rfl) (by kernel_rfl) ?_; simp only [pick1, wpHead]
        have ocx := o1
        obtain ⟨l0, c0, f0⟩ := ocx
        intro K' hK; rw [if_pos (by rfl)]; go_simp
        clear l0 c0 f0
        replace o0 := own_other4 o0 (Z := w.heap.size + 1) (by omega) (.slice (some ⟨w.heap.size + 1 + 1 + 1, 0, none⟩) 4 4) (.int .i64 1) (.int .i64 1) (.int .i64 2)
        replace o3 := own_other4 o3 (Z := w.heap.size + 1) (by omega) (.slice (some ⟨w.heap.size + 1 + 1 + 1, 0, none⟩) 4 4) (.int .i64 1) (.int .i64 1) (.int .i64 2)
        replace qb := own_other4 qb (Z := w.heap.size + 1) (by omega) (.slice (some ⟨w.heap.size + 1 + 1 + 1, 0, none⟩) 4 4) (.int .i64 1) (.int .i64 1) (.int .i64 2)
        replace oB := below_4 oB (Z := w.heap.size + 1) (by omega) (.slice (some ⟨w.heap.size + 1 + 1 + 1, 0, none⟩) 4 4) (.int .i64 1) (.int .i64 1) (.int .i64 2)
        replace o1 := own_same4 o1
        refine hK.out _ _ ⟨o0, o1⟩ ?_
        clear hK K'; (try simp only [Act.put, List.setIfInBounds_toArray, List.set_cons_zero, List.set_cons_succ])
        generalize World.setCell _ _ _ = R34 at oB o0 o1 o3 qb ⊢
        refine rg_one (fuel := 0) 15 rfl (by kernel_rfl) (by kernel_rfl) ?_; simp only [pick1, wpHead]
        intro K' hK; rw [if_pos (by rfl)]; go_simp
        refine hK.out _ _ ⟨o0, o1⟩ ?_
        clear hK K'; (try simp only [Act.put, List.setIfInBounds_toArray, List.set_cons_zero, List.set_cons_succ])
        refine rg_done (by kernel_rfl) ?_
        go_wp2
        refine bodyPost_ret (results_ctct (B := w.heap.size) (C := w.heap.size + 1) rfl rfl rfl o0 o1 (by kernel_rfl) (by kernel_rfl) (by kernel_rfl) (by kernel_rfl)) rfl ?_
        exact ⟨_, _, _, some ⟨w.heap.size + 1 + 1 + 1, 0, none⟩, some ⟨R31.heap.size, 0, none⟩, 4, 4, rfl, Own.rd' o3 rfl (by simp [exTp, ptrow]), Own.rd' qb rfl (by simp [exWp, ptrow]), oB⟩
      · intro K' hK; rw [if_pos (by rfl)]; go_simp
        refine hK.out _ _ ⟨o0, o1⟩ ?_
        clear hK K'; (try simp only [Act.put, List.setIfInBounds_toArray, List.set_cons_zero, List.set_cons_succ])
        refine rg_manyC (fuel := 2) [11, 14] rfl (by simp) (by kernel_rfl) (by kernel_rfl) ?_
        intro cc hcc
        rcases (show cc = 11 ∨ cc = 14 by simpa using hcc) with rfl | rfl <;> clear hcc <;> simp only [pick1, wpHead]
        · intro K' hK; rw [if_pos (by rfl)]; go_simp
          have ba : Below R31.heap.size R31 (R31.alloc (.cells #[.int .i64 (-1), .int .i64 (-1), .int .i64 3, .int .i64 (-1), .int .i64 3, .int .i64 3, .int .i64 (-1), .int .i64 3] 52)) := (Below.refl _ _).alloc (Nat.le_refl _) _
          have hz37 := o1.lt
          replace o0 := o0.below ba o0.lt
          replace o1 := o1.below ba o1.lt
          replace o3 := o3.below ba o3.lt
          have qb : Own (R31.alloc (.cells #[.int .i64 (-1), .int .i64 (-1), .int .i64 3, .int .i64 (-1), .int .i64 3, .int .i64 3, .int .i64 (-1), .int .i64 3] 52)) R31.heap.size [.int .i64 (-1), .int .i64 (-1), .int .i64 3, .int .i64 (-1), .int .i64 3, .int .i64 3, .int .i64 (-1), .int .i64 3] := Own.new' _ _ rfl rfl
          replace oB := oB.trans (ba.mono oB.size)
          refine hK.out _ _ ⟨o0, o1⟩ ?_
          clear hK K'; (try simp only [Act.put, List.setIfInBounds_toArray, List.set_cons_zero, List.set_cons_succ])
          clear ba
          generalize R31.alloc (.cells #[.int .i64 (-1), .int .i64 (-1), .int .i64 3, .int .i64 (-1), .int .i64 3, .int .i64 3, .int .i64 (-1), .int .i64 3] 52) = R37 at oB o0 o1 o3 qb ⊢
          refine rg_one (fuel := 1) 14 rfl (by kernel_rfl) (by kernel_rfl) ?_; simp only [pick1, wpHead]
          have ocx := o1
          obtain ⟨l0, c0, f0⟩ := ocx
          intro K' hK; rw [if_pos (by rfl)]; go_simp
          clear l0 c0 f0
          replace o0 := own_other4 o0 (Z := w.heap.size + 1) (by omega) (.slice (some ⟨w.heap.size + 1 + 1 + 1, 0, none⟩) 4 4) (.int .i64 1) (.int .i64 1) (.int .i64 2)
          replace o3 := own_other4 o3 (Z := w.heap.size + 1) (by omega) (.slice (some ⟨w.heap.size + 1 + 1 + 1, 0, none⟩) 4 4) (.int .i64 1) (.int .i64 1) (.int .i64 2)
          replace qb := own_other4 qb (Z := w.heap.size + 1) (by omega) (.slice (some ⟨w.heap.size + 1 + 1 + 1, 0, none⟩) 4 4) (.int .i64 1) (.int .i64 1) (.int .i64 2)
          replace oB := below_4 oB (Z := w.heap.size + 1) (by omega) (.slice (some ⟨w.heap.size + 1 + 1 + 1, 0, none⟩) 4 4) (.int .i64 1) (.int .i64 1) (.int .i64 2)
          replace o1 := own_same4 o1
          refine hK.out _ _ ⟨o0, o1⟩ ?_
          clear hK K'; (try simp only [Act.put, List.setIfInBounds_toArray, List.set_cons_zero, List.set_cons_succ])
          generalize World.setCell _ _ _ = R38 at oB o0 o1 o3 qb ⊢
          refine rg_one (fuel := 0) 15 rfl (by kernel_rfl) (by kernel_rfl) ?_; simp only [pick1, wpHead]
          intro K' hK; rw [if_pos (by rfl)]; go_simp
          refine hK.out _ _ ⟨o0, o1⟩ ?_
          clear hK K'; (try simp only [Act.put, List.setIfInBounds_toArray, List.set_cons_zero, List.set_cons_succ])
          refine rg_done (by kernel_rfl) ?_
          go_wp2
          refine bodyPost_ret (results_ctct (B := w.heap.size) (C := w.heap.size + 1) rfl rfl rfl o0 o1 (by kernel_rfl) (by kernel_rfl) (by kernel_rfl) (by kernel_rfl)) rfl ?_
          exact ⟨_, _, _, some ⟨w.heap.size + 1 + 1 + 1, 0, none⟩, some ⟨R31.heap.size, 0, none⟩, 4, 4, rfl, Own.rd' o3 rfl (by simp [exTp, ptrow]), Own.rd' qb rfl (by simp [exWp, ptrow]), oB⟩
        · have ocx := o1
          obtain ⟨l0, c0, f0⟩ := ocx
          intro K' hK; rw [if_pos (by rfl)]; go_simp
          clear l0 c0 f0
          replace o0 := own_other4 o0 (Z := w.heap.size + 1) (by omega) (.slice (some ⟨w.heap.size + 1 + 1 + 1, 0, none⟩) 4 4) (.int .i64 1) (.int .i64 1) (.int .i64 2)
          replace o3 := own_other4 o3 (Z := w.heap.size + 1) (by omega) (.slice (some ⟨w.heap.size + 1 + 1 + 1, 0, none⟩) 4 4) (.int .i64 1) (.int .i64 1) (.int .i64 2)
          replace oB := below_4 oB (Z := w.heap.size + 1) (by omega) (.slice (some ⟨w.heap.size + 1 + 1 + 1, 0, none⟩) 4 4) (.int .i64 1) (.int .i64 1) (.int .i64 2)
          replace o1 := own_same4 o1
          refine hK.out _ _ ⟨o0, o1⟩ ?_
          clear hK K'; (try simp only [Act.put, List.setIfInBounds_toArray, List.set_cons_zero, List.set_cons_succ])
          generalize World.setCell _ _ _ = R40 at oB o0 o1 o3 ⊢
          refine rg_one (fuel := 1) 11 rfl (by kernel_rfl) (by kernel_rfl) ?_; simp only [pick1, wpHead]
          intro K' hK; rw [if_pos (by rfl)]; go_simp
          have ba : Below R40.heap.size R40 (R40.alloc (.cells #[.int .i64 (-1), .int .i64 (-1), .int .i64 3, .int .i64 (-1), .int .i64 3, .int .i64 3, .int .i64 (-1), .int .i64 3] 52)) := (Below.refl _ _).alloc (Nat.le_refl _) _
          have hz41 := o1.lt
          replace o0 := o0.below ba o0.lt
          replace o1 := o1.below ba o1.lt
          replace o3 := o3.below ba o3.lt
          have qb : Own (R40.alloc (.cells #[.int .i64 (-1), .int .i64 (-1), .int .i64 3, .int .i64 (-1), .int .i64 3, .int .i64 3, .int .i64 (-1), .int .i64 3] 52)) R40.heap.size [.int .i64 (-1), .int .i64 (-1), .int .i64 3, .int .i64 (-1), .int .i64 3, .int .i64 3, .int .i64 (-1), .int .i64 3] := Own.new' _ _ rfl rfl
          replace oB := oB.trans (ba.mono oB.size)
          refine hK.out _ _ ⟨o0, o1⟩ ?_
          clear hK K'; (try simp only [Act.put, List.setIfInBounds_toArray, List.set_cons_zero, List.set_cons_succ])
          clear ba
          generalize R40.alloc (.cells #[.int .i64 (-1), .int .i64 (-1), .int .i64 3, .int .i64 (-1), .int .i64 3, .int .i64 3, .int .i64 (-1), .int .i64 3] 52) = R41 at oB o0 o1 o3 qb ⊢
          refine rg_one (fuel := 0) 15 rfl (by kernel_rfl) (by kernel_rfl) ?_; simp only [pick1, wpHead]
          intro K' hK; rw [if_pos (by rfl)]; go_simp
          refine hK.out _ _ ⟨o0, o1⟩ ?_
          clear hK K'; (try simp only [Act.put, List.setIfInBounds_toArray, List.set_cons_zero, List.set_cons_succ])
          refine rg_done (by kernel_rfl) ?_
          go_wp2
          refine bodyPost_ret (results_ctct (B := w.heap.size) (C := w.heap.size + 1) rfl rfl rfl o0 o1 (by kernel_rfl) (by kernel_rfl) (by kernel_rfl) (by kernel_rfl)) rfl ?_
          exact ⟨_, _, _, some ⟨w.heap.size + 1 + 1 + 1, 0, none⟩, some ⟨R40.heap.size, 0, none⟩, 4, 4, rfl, Own.rd' o3 rfl (by simp [exTp, ptrow]), Own.rd' qb rfl (by simp [exWp, ptrow]), oB⟩
    · intro K' hK; rw [if_pos (by rfl)]; go_simp
      have ba : Below R30.heap.size R30 (R30.alloc (.cells #[.int .i64 (-1), .int .i64 (-1), .int .i64 3, .int .i64 (-1), .int .i64 3, .int .i64 3, .int .i64 (-1), .int .i64 3] 52)) := (Below.refl _ _).alloc (Nat.le_refl _) _
      have hz43 := o1.lt
      replace o0 := o0.below ba o0.lt
      replace o1 := o1.below ba o1.lt
      replace o3 := o3.below ba o3.lt
      have qb : Own (R30.alloc (.cells #[.int .i64 (-1), .int .i64 (-1), .int .i64 3, .int .i64 (-1), .int .i64 3, .int .i64 3, .int .i64 (-1), .int .i64 3] 52)) R30.heap.size [.int .i64 (-1), .int .i64 (-1), .int .i64 3, .int .i64 (-1), .int .i64 3, .int .i64 3, .int .i64 (-1), .int .i64 3] := Own.new' _ _ rfl rfl
      replace oB := oB.trans (ba.mono oB.size)
      refine hK.out _ _ ⟨o0, o1⟩ ?_
      clear hK K'; (try simp only [Act.put, List.setIfInBounds_toArray, List.set_cons_zero, List.set_cons_succ])
      clear ba
      generalize R30.alloc (.cells #[.int .i64 (-1), .int .i64 (-1), .int .i64 3, .int .i64 (-1), .int .i64 3, .int .i64 3, .int .i64 (-1), .int .i64 3] 52) = R43 at oB o0 o1 o3 qb ⊢
      refine rg_one (fuel := 3) 5 rfl (by kernel_rfl) (by kernel_rfl) ?_; simp only [pick1, wpHead]
      intro K' hK; rw [if_pos (by rfl)]; go_simp
      have ba : Below R43.heap.size R43 (R43.alloc (.cells #[.int .i64 0, .int .i64 2, .int .i64 4, .int .i64 2, .int .i64 4, .int .i64 3, .int .i64 0, .int .i64 3] 52)) := (Below.refl _ _).alloc (Nat.le_refl _) _
      have hz44 := o1.lt
      replace o0 := o0.below ba o0.lt
      replace o1 := o1.below ba o1.lt
      replace o3 := o3.below ba o3.lt
      replace qb := qb.below ba qb.lt
      replace oB := oB.trans (ba.mono oB.size)
      refine hK.out _ _ ⟨o0, o1⟩ ?_
      clear hK K'; (try simp only [Act.put, List.setIfInBounds_toArray, List.set_cons_zero, List.set_cons_succ])
      clear ba
      generalize R43.alloc (.cells #[.int .i64 0, .int .i64 2, .int .i64 4, .int .i64 2, .int .i64 4, .int .i64 3, .int .i64 0, .int .i64 3] 52) = R44 at oB o0 o1 o3 qb ⊢
      refine rg_one (fuel := 2) 13 rfl (by kernel_rfl) (by kernel_rfl) ?_; simp only [pick1, wpHead]
      intro K' hK; rw [if_pos (by rfl)]; go_simp
      refine hK.out _ _ ⟨o0, o1⟩ ?_
      clear hK K'; (try simp only [Act.put, List.setIfInBounds_toArray, List.set_cons_zero, List.set_cons_succ])
      refine rg_one (fuel := 1) 14 rfl (by kernel_rfl) (by kernel_rfl) ?_; simp only [pick1, wpHead]
      have ocx := o1
      obtain ⟨l0, c0, f0⟩ := ocx
      intro K' hK; rw [if_pos (by rfl)]; go_simp
      clear l0 c0 f0
      replace o0 := own_other4 o0 (Z := w.heap.size + 1) (by omega) (.slice (some ⟨w.heap.size + 1 + 1 + 1, 0, none⟩) 4 4) (.int .i64 1) (.int .i64 1) (.int .i64 2)
      replace o3 := own_other4 o3 (Z := w.heap.size + 1) (by omega) (.slice (some ⟨w.heap.size + 1 + 1 + 1, 0, none⟩) 4 4) (.int .i64 1) (.int .i64 1) (.int .i64 2)
      replace qb := own_other4 qb (Z := w.heap.size + 1) (by omega) (.slice (some ⟨w.heap.size + 1 + 1 + 1, 0, none⟩) 4 4) (.int .i64 1) (.int .i64 1) (.int .i64 2)
      replace oB := below_4 oB (Z := w.heap.size + 1) (by omega) (.slice (some ⟨w.heap.size + 1 + 1 + 1, 0, none⟩) 4 4) (.int .i64 1) (.int .i64 1) (.int .i64 2)
      replace o1 := own_same4 o1
      refine hK.out _ _ ⟨o0, o1⟩ ?_
      clear hK K'; (try simp only [Act.put, List.setIfInBounds_toArray, List.set_cons_zero, List.set_cons_succ])
      generalize World.setCell _ _ _ = R46 at oB o0 o1 o3 qb ⊢
      refine rg_one (fuel := 0) 15 rfl (by kernel_rfl) (by kernel_rfl) ?_; simp only [pick1, wpHead]
      intro K' hK; rw [if_pos (by rfl)]; go_simp
      refine hK.out _ _ ⟨o0, o1⟩ ?_
      clear hK K'; (try simp only [Act.put, List.setIfInBounds_toArray, List.set_cons_zero, List.set_cons_succ])
      refine rg_done (by kernel_rfl) ?_
      go_wp2
      refine bodyPost_ret (results_ctct (B := w.heap.size) (C := w.heap.size + 1) rfl rfl rfl o0 o1 (by kernel_rfl) (by kernel_rfl) (by kernel_rfl) (by kernel_rfl)) rfl ?_
      exact ⟨_, _, _, some ⟨w.heap.size + 1 + 1 + 1, 0, none⟩, some ⟨R30.heap.size, 0, none⟩, 4, 4, rfl, Own.rd' o3 rfl (by simp [exTp, ptrow]), Own.rd' qb rfl (by simp [exWp, ptrow]), oB⟩
end Go.Proofs.YtgmhelclofnpkaaGreat
