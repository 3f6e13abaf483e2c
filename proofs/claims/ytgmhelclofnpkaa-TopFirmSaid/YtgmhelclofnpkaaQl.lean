/- Walks: the value of the arm of the examples at 40 steps. -/
import Derived.Test.YtgmhelclofnpkaaKc
import Derived.Test.YtgmhelclofnpkaaUg
import Derived.Test.YtgmhelclofnpkaaGen
import Derived.Deep.LoopGhost
import Derived.Deep.DeepCutAuto
namespace Go.Proofs.Ytgmhelclofnpkaa
open Go.RowKit

theorem results_cell_t {P : Program} {fn : Func} {tmps : Array Value} {w : World} {a s B t : Nat} {vs : List Value} (hr : fn.results = #[.cell a t, .tmp s]) (ha : tmps.getD a undef = .pointer (some ⟨B, 0, none⟩)) (ho : Own w B vs)
    (hagg : (isAgg t).run P w = .ok true w) (hsz : (sizeOf t).run P w = .ok vs.length w) : (results fn tmps).run P w = .ok (.tuple #[.agg vs.toArray, tmps.getD s undef]) w := by
  have hl := loadCells_own (P := P) ho vs.length 0 #[] (by omega)
  have ha' : tmps[a]?.getD undef = .pointer (some ⟨B, 0, none⟩) := by simpa using ha
  simp [results, hr, go_sem, loadVar, hagg, hsz, loadCells, hl, ha', asAddr]
set_option maxHeartbeats 400000 in
theorem awithinW (n lo hi : Int) (w : World) (h1 : lo ≤ n) (h2 : n ≤ hi) :
    Calls Try.prog 112 #[.int .i64 n, .int .i64 lo, .int .i64 hi] w fun e w' => e = .returned (.bool true) ∧ w = w' := by
  go_enter Try.func112, Try.ntmps112
  go_wp2
  go_ret
  exact ⟨rfl, rfl⟩
abbrev armV : Value := .agg #[.int .i64 1, .int .i64 2, .int .i64 3, .int .i64 10, .int .i64 10, .int .i64 200]
set_option maxRecDepth 100000 in
set_option maxHeartbeats 1000000 in
theorem aisArmW (w : World) : Calls Try.prog 80 #[armV] w fun e w' => e = .returned (.bool true) ∧ Below w.heap.size w w' := by
  have o0 : Own (w.alloc (.cells #[.int .i64 1, .int .i64 2, .int .i64 3, .int .i64 10, .int .i64 10, .int .i64 200] 74)) w.heap.size [.int .i64 1, .int .i64 2, .int .i64 3, .int .i64 10, .int .i64 10, .int .i64 200] := Own.new' _ _ rfl rfl
  have oB : Below w.heap.size w (w.alloc (.cells #[.int .i64 1, .int .i64 2, .int .i64 3, .int .i64 10, .int .i64 10, .int .i64 200] 74)) := by (repeat' (first | (with_reducible exact Below.refl _ _) | (with_reducible assumption) | (with_reducible refine Below.drew ?_) | (with_reducible refine below_drewN ?_ _) | (with_reducible refine Below.setCell ?_ ?_ _) | (with_reducible refine Below.alloc ?_ ?_ _) | (refine Below.trans ?_ (Below.mono (by with_reducible assumption) ?_)) | omega | (exact Below.size (by with_reducible assumption)) | (simp; done) | (simp; omega)))
  have i0 : ∀ w, (Instr.index 171 (.agg #[.int .i64 1, .int .i64 2, .int .i64 3, .int .i64 10]) (.int .i64 0)).run Try.prog w = .ok (.int .i64 1) w := fun _ => by kernel_rfl
  have i1 : ∀ w, (Instr.index 171 (.agg #[.int .i64 1, .int .i64 2, .int .i64 3, .int .i64 10]) (.int .i64 1)).run Try.prog w = .ok (.int .i64 2) w := fun _ => by kernel_rfl
  have i2 : ∀ w, (Instr.index 171 (.agg #[.int .i64 1, .int .i64 2, .int .i64 3, .int .i64 10]) (.int .i64 2)).run Try.prog w = .ok (.int .i64 3) w := fun _ => by kernel_rfl
  have i3 : ∀ w, (Instr.index 171 (.agg #[.int .i64 1, .int .i64 2, .int .i64 3, .int .i64 10]) (.int .i64 3)).run Try.prog w = .ok (.int .i64 10) w := fun _ => by kernel_rfl
  go_enter Try.func80, Try.ntmps80
  go_wp2
  go_loopg [18] 4 (fun K y wr => ∃ k : Int, (K : Int) + k = 4 ∧ 0 ≤ k ∧ y = .int .i64 k ∧ Own wr w.heap.size [.int .i64 1, .int .i64 2, .int .i64 3, .int .i64 10, .int .i64 10, .int .i64 200] ∧ Below w.heap.size w wr)
  case atStart => exact ⟨0, rfl, by omega, rfl, o0, oB⟩
  case round =>
    clear o0 oB
    obtain ⟨k, hk, hk0, rfl, o0, hbw⟩ := hrel
    have O0 := Lib.hid o0
    obtain ⟨l0, c0, f0⟩ := o0
    rcases (show k = 0 ∨ k = 1 ∨ k = 2 ∨ k = 3 ∨ k = 4 by omega) with rfl | rfl | rfl | rfl | rfl
    · go_wp2_with fail
      refine (awithinW _ _ _ _ (by omega) (by omega)).mono ?_
      rintro e w1 ⟨rfl, rfl⟩
      go_wp2
      go_roundg (gk - 1)
      case measure => omega
      case rel => exact ⟨1, by omega, by omega, rfl, O0.out, hbw⟩
    · go_wp2_with fail
      refine (awithinW _ _ _ _ (by omega) (by omega)).mono ?_
      rintro e w1 ⟨rfl, rfl⟩
      go_wp2
      go_roundg (gk - 1)
      case measure => omega
      case rel => exact ⟨2, by omega, by omega, rfl, O0.out, hbw⟩
    · go_wp2_with fail
      refine (awithinW _ _ _ _ (by omega) (by omega)).mono ?_
      rintro e w1 ⟨rfl, rfl⟩
      go_wp2
      go_roundg (gk - 1)
      case measure => omega
      case rel => exact ⟨3, by omega, by omega, rfl, O0.out, hbw⟩
    · go_wp2_with fail
      refine (awithinW _ _ _ _ (by omega) (by omega)).mono ?_
      rintro e w1 ⟨rfl, rfl⟩
      go_wp2
      go_roundg (gk - 1)
      case measure => omega
      case rel => exact ⟨4, by omega, by omega, rfl, O0.out, hbw⟩
    · go_wp2_with fail
      refine (awithinW _ _ _ _ (by omega) (by omega)).mono ?_
      rintro e w1 ⟨rfl, rfl⟩
      go_wp2
      go_ret
      exact ⟨rfl, hbw⟩
set_option maxHeartbeats 1000000 in
theorem aisSettingW (w : World) : Calls Try.prog 81 #[armV, .int .i64 40] w fun e w' => e = .returned (.bool true) ∧ Below w.heap.size w w' := by
  go_enter Try.func81, Try.ntmps81
  go_wp2_with fail
  refine (awithinW _ _ _ _ (by omega) (by omega)).mono ?_
  rintro e w1 ⟨rfl, rfl⟩
  go_wp2
  go_ret
  exact ⟨rfl, by (repeat' (first | (with_reducible exact Below.refl _ _) | (with_reducible assumption) | (with_reducible refine Below.drew ?_) | (with_reducible refine below_drewN ?_ _) | (with_reducible refine Below.setCell ?_ ?_ _) | (with_reducible refine Below.alloc ?_ ?_ _) | (refine Below.trans ?_ (Below.mono (by with_reducible assumption) ?_)) | omega | (exact Below.size (by with_reducible assumption)) | (simp; done) | (simp; omega)))⟩
set_option maxHeartbeats 1000000 in
theorem avalueW (w : World) : Calls Try.prog 83 #[armV, .int .i64 40] w fun e w' => e = .returned (.tuple #[.int .i64 120, .int .i64 20]) ∧ Below w.heap.size w w' := by
  go_enter Try.func83, Try.ntmps83
  go_wp2
  go_quiet (fail)
  go_wp2
  go_ret2
  exact ⟨rfl, by (repeat' (first | (with_reducible exact Below.refl _ _) | (with_reducible assumption) | (with_reducible refine Below.drew ?_) | (with_reducible refine below_drewN ?_ _) | (with_reducible refine Below.setCell ?_ ?_ _) | (with_reducible refine Below.alloc ?_ ?_ _) | (refine Below.trans ?_ (Below.mono (by with_reducible assumption) ?_)) | omega | (exact Below.size (by with_reducible assumption)) | (simp; done) | (simp; omega)))⟩
section
attribute [local go_sem ↓] mn2_run mx2_run
set_option maxHeartbeats 1000000 in
theorem aabsW (w : World) : Calls Try.prog 141 #[.int .i64 120] w fun e w' => e = .returned (.int .i64 120) ∧ w = w' := by
  go_enter Try.func141, Try.ntmps141
  go_wp2
  go_ret
  exact ⟨rfl, rfl⟩
end
set_option maxHeartbeats 1000000 in
theorem aisRatioW (w : World) : Calls Try.prog 114 #[.agg #[.int .i64 6, .int .i64 1]] w fun e w' => e = .returned (.bool true) ∧ Below w.heap.size w w' := by
  go_enter Try.func114, Try.ntmps114
  go_wp2_with fail
  refine (awithinW _ _ _ _ (by omega) (by omega)).mono ?_
  rintro e w1 ⟨rfl, rfl⟩
  go_wp2_with fail
  refine (awithinW _ _ _ _ (by omega) (by omega)).mono ?_
  rintro e w1 ⟨rfl, rfl⟩
  go_wp2
  go_ret
  exact ⟨rfl, by (repeat' (first | (with_reducible exact Below.refl _ _) | (with_reducible assumption) | (with_reducible refine Below.drew ?_) | (with_reducible refine below_drewN ?_ _) | (with_reducible refine Below.setCell ?_ ?_ _) | (with_reducible refine Below.alloc ?_ ?_ _) | (refine Below.trans ?_ (Below.mono (by with_reducible assumption) ?_)) | omega | (exact Below.size (by with_reducible assumption)) | (simp; done) | (simp; omega)))⟩
set_option maxRecDepth 100000 in
set_option maxHeartbeats 1000000 in
theorem areducedW (w : World) : Calls Try.prog 113 #[.int .i64 120, .int .i64 20] w fun e w' => e = .returned (.agg #[.int .i64 6, .int .i64 1]) ∧ Below w.heap.size w w' := by
  have o0 : Own (w.alloc (.cells #[.int .i64 0, .int .i64 0] 72)) w.heap.size [.int .i64 0, .int .i64 0] := Own.new' _ _ rfl rfl
  have oB : Below w.heap.size w (w.alloc (.cells #[.int .i64 0, .int .i64 0] 72)) := by (repeat' (first | (with_reducible exact Below.refl _ _) | (with_reducible assumption) | (with_reducible refine Below.drew ?_) | (with_reducible refine below_drewN ?_ _) | (with_reducible refine Below.setCell ?_ ?_ _) | (with_reducible refine Below.alloc ?_ ?_ _) | (refine Below.trans ?_ (Below.mono (by with_reducible assumption) ?_)) | omega | (exact Below.size (by with_reducible assumption)) | (simp; done) | (simp; omega)))
  go_enter Try.func113, Try.ntmps113
  go_wp2_with fail
  refine (aabsW _).mono ?_
  rintro e w1 ⟨rfl, rfl⟩
  go_wp2
  go_loopg [5, 6] 1 (fun K x y wr => ((K = 1 ∧ x = .int .i64 120 ∧ y = .int .i64 20) ∨ (K = 0 ∧ x = .int .i64 20 ∧ y = .int .i64 0)) ∧ Own wr w.heap.size [.int .i64 0, .int .i64 0] ∧ Below w.heap.size w wr)
  case atStart => exact ⟨Or.inl ⟨rfl, rfl, rfl⟩, o0, oB⟩
  case round =>
    clear o0 oB
    obtain ⟨hc, o0, hbw⟩ := hrel
    rcases hc with ⟨rfl, rfl, rfl⟩ | ⟨rfl, rfl, rfl⟩
    · go_wp2
      go_region
      go_wp2
      go_roundg 0
      case measure => omega
      case rel => exact ⟨Or.inr ⟨rfl, rfl, rfl⟩, o0.drew, hbw.drew⟩
    · have O0 := Lib.hid o0
      have O1 := Lib.hid (O0.out.drew)
      obtain ⟨l0, c0, f0⟩ := o0.drew
      have hB := hbw.drew
      go_wp2
      refine rg_start (fun _ => True) 8 (by kernel_rfl) rfl ?_
      generalize World.drew _ = R0 at l0 c0 f0 hB O1 ⊢
      refine rg_take (fuel := 1) [0, 1, 2, 3, 4, 5, 6] (by kernel_rfl) (by intro _ _ d _ _ h; first | (cases d <;> exact h) | (simp [Exit.then, Exit.inBlock, ownPostG] at h)) rfl (by kernel_rfl) (by kernel_rfl) trivial ?_; simp only [pickL, pick1, List.cons_append, List.nil_append]
      iterate 7 (refine wpTake_cons (v := ?_) (Or.inl ⟨by rfl, ?_⟩) ?_; rotate_left; (intro w' hSw; go_simp; (try with_reducible rfl)); (try simp only [Act.put, List.setIfInBounds_toArray, List.set_cons_zero, List.set_cons_succ]))
      refine wpTake_nil ?_
      refine rg_one (fuel := 0) 7 rfl (by kernel_rfl) (by kernel_rfl) ?_; simp only [pick1, wpHead]
      intro K' hK; rw [if_pos (by rfl)]; go_simp
      refine hK.out _ _ trivial ?_
      clear hK K'
      refine rg_done (by kernel_rfl) ?_
      go_wp2
      refine bodyPost_ret (results_cell1 (B := w.heap.size) (vs := [.int .i64 6, .int .i64 1]) rfl rfl ((O1.out.set 0 (by simp) _).set 1 (by simp) _) (by kernel_rfl) (by kernel_rfl)) rfl ?_
      exact ⟨rfl, (hB.setCell (by dsimp only; omega) _).setCell (by dsimp only; omega) _⟩
set_option maxHeartbeats 2000000 in
theorem atoldW (w : World) : Calls Try.prog 82 #[.int .i64 120, .int .i64 20] w fun e w' => e = .returned (.tuple #[.agg #[.int .i64 6, .int .i64 1], .int .i64 0]) ∧ Below w.heap.size w w' := by
  have o0 : Own (w.alloc (.cells #[.int .i64 0, .int .i64 0] 72)) w.heap.size [.int .i64 0, .int .i64 0] := Own.new' _ _ rfl rfl
  have oB : Below w.heap.size w (w.alloc (.cells #[.int .i64 0, .int .i64 0] 72)) := by (repeat' (first | (with_reducible exact Below.refl _ _) | (with_reducible assumption) | (with_reducible refine Below.drew ?_) | (with_reducible refine below_drewN ?_ _) | (with_reducible refine Below.setCell ?_ ?_ _) | (with_reducible refine Below.alloc ?_ ?_ _) | (refine Below.trans ?_ (Below.mono (by with_reducible assumption) ?_)) | omega | (exact Below.size (by with_reducible assumption)) | (simp; done) | (simp; omega)))
  go_enter Try.func82, Try.ntmps82
  go_wp2_with fail
  refine (areducedW _).mono ?_
  rintro e w1 ⟨rfl, hb1⟩
  have o1 := (o0.below hb1 o0.lt).alloc (.cells #[.int .i64 6, .int .i64 1] 72)
  have hB1 := (oB.trans (hb1.mono oB.size)).alloc (by have := oB.size; have := hb1.size; omega) (.cells #[.int .i64 6, .int .i64 1] 72)
  have p1 : Own (w1.alloc (.cells #[.int .i64 6, .int .i64 1] 72)) w1.heap.size [.int .i64 6, .int .i64 1] := Own.new' _ _ rfl rfl
  clear o0 oB hb1
  go_wp2_with fail
  refine (aisRatioW _).mono ?_
  rintro e w2 ⟨rfl, hb2⟩
  have o2 := o1.below hb2 o1.lt
  have p2 := p1.below hb2 p1.lt
  have hB2 := hB1.trans (hb2.mono hB1.size)
  clear o1 p1 hB1 hb2
  have O2 := Lib.hid o2
  obtain ⟨l0, c0, f0⟩ := o2
  obtain ⟨l1, c1, f1⟩ := p2
  go_wp2
  refine bodyPost_ret (results_cell_t (B := w.heap.size) (vs := [.int .i64 6, .int .i64 1]) rfl rfl ((O2.out.set 0 (by simp) _).set 1 (by simp) _) (by kernel_rfl) (by kernel_rfl)) rfl ?_
  exact ⟨rfl, (hB2.setCell (by dsimp only; omega) _).setCell (by dsimp only; omega) _⟩
set_option maxHeartbeats 2000000 in
theorem aValueW (w : World) : Calls Try.prog 35 #[armV, .int .i64 40] w fun e w' => e = .returned (.tuple #[.agg #[.int .i64 6, .int .i64 1], .int .i64 0]) ∧ Below w.heap.size w w' := by
  have o0 : Own ((w.alloc (.cells #[.int .i64 1, .int .i64 2, .int .i64 3, .int .i64 10, .int .i64 10, .int .i64 200] 74)).alloc (.cells #[.int .i64 0, .int .i64 0] 72)) w.heap.size [.int .i64 1, .int .i64 2, .int .i64 3, .int .i64 10, .int .i64 10, .int .i64 200] := (Own.new' _ _ rfl rfl).alloc _
  have p0 : Own ((w.alloc (.cells #[.int .i64 1, .int .i64 2, .int .i64 3, .int .i64 10, .int .i64 10, .int .i64 200] 74)).alloc (.cells #[.int .i64 0, .int .i64 0] 72)) (w.heap.size + 1) [.int .i64 0, .int .i64 0] := Own.new' _ _ (by simp) rfl
  have oB : Below w.heap.size w ((w.alloc (.cells #[.int .i64 1, .int .i64 2, .int .i64 3, .int .i64 10, .int .i64 10, .int .i64 200] 74)).alloc (.cells #[.int .i64 0, .int .i64 0] 72)) := by (repeat' (first | (with_reducible exact Below.refl _ _) | (with_reducible assumption) | (with_reducible refine Below.drew ?_) | (with_reducible refine below_drewN ?_ _) | (with_reducible refine Below.setCell ?_ ?_ _) | (with_reducible refine Below.alloc ?_ ?_ _) | (refine Below.trans ?_ (Below.mono (by with_reducible assumption) ?_)) | omega | (exact Below.size (by with_reducible assumption)) | (simp; done) | (simp; omega)))
  go_enter Try.func35, Try.ntmps35
  go_wp2_with fail
  refine (aisArmW _).mono ?_
  rintro e w1 ⟨rfl, hb1⟩
  have o1 := o0.below hb1 o0.lt
  have p1 := p0.below hb1 p0.lt
  have hB1 := oB.trans (hb1.mono oB.size)
  clear o0 p0 oB hb1
  have O1 := Lib.hid o1
  have P1 := Lib.hid p1
  obtain ⟨l0, c0, f0⟩ := o1
  obtain ⟨l1, c1, f1⟩ := p1
  go_wp2_with fail
  refine (aisSettingW _).mono ?_
  rintro e w2 ⟨rfl, hb2⟩
  have o2 := O1.out.below hb2 O1.out.lt
  have p2 := P1.out.below hb2 P1.out.lt
  have hB2 := hB1.trans (hb2.mono hB1.size)
  clear O1 P1 hB1 hb2 l0 c0 f0 l1 c1 f1
  have O2 := Lib.hid o2
  have P2 := Lib.hid p2
  obtain ⟨l0, c0, f0⟩ := o2
  obtain ⟨l1, c1, f1⟩ := p2
  go_wp2_with fail
  refine (avalueW _).mono ?_
  rintro e w3 ⟨rfl, hb3⟩
  have o3 := O2.out.below hb3 O2.out.lt
  have p3 := P2.out.below hb3 P2.out.lt
  have hB3 := hB2.trans (hb3.mono hB2.size)
  clear O2 P2 hB2 hb3 l0 c0 f0 l1 c1 f1
  have O3 := Lib.hid o3
  have P3 := Lib.hid p3
  obtain ⟨l0, c0, f0⟩ := o3
  obtain ⟨l1, c1, f1⟩ := p3
  go_wp2_with fail
  refine (atoldW _).mono ?_
  rintro e w4 ⟨rfl, hb4⟩
  have o4 := O3.out.below hb4 O3.out.lt
  have p4 := P3.out.below hb4 P3.out.lt
  have hB4 := hB3.trans (hb4.mono hB3.size)
  clear O3 P3 hB3 hb4 l0 c0 f0 l1 c1 f1
  have O4 := Lib.hid o4
  have P4 := Lib.hid p4
  obtain ⟨l0, c0, f0⟩ := o4
  obtain ⟨l1, c1, f1⟩ := p4
  go_wp2
  refine bodyPost_ret (results_cell_t (B := w.heap.size + 1) (vs := [.int .i64 6, .int .i64 1]) rfl rfl ((P4.out.set 0 (by simp) _).set 1 (by simp) _) (by kernel_rfl) (by kernel_rfl)) rfl ?_
  exact ⟨rfl, (hB4.setCell (by dsimp only; omega) _).setCell (by dsimp only; omega) _⟩
end Go.Proofs.Ytgmhelclofnpkaa
