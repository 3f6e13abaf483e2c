/- Walks: Copy of the reference. -/
import Derived.Test.YtibkgnnpmidgfaaDoorCj
import Derived.Test.YtibkgnnpmidgfaaDoorAx
namespace Go.Proofs.YtibkgnnpmidgfaaDoor
open Go.RowKit

theorem info40 : (Tryd.prog.info? 40).map (fun i => (i.zero, i.size, i.bytes)) = some (some (.agg #[.int .i64 0, .int .i64 0]), 2, 16) := by kernel_rfl
theorem info33 : (Tryd.prog.info? 33).map (fun i => (i.zero, i.size, i.bytes)) = some (some (.agg #[.int .i64 0, .int .i64 0]), 2, 16) := by kernel_rfl
theorem info58 : (Tryd.prog.info? 58).map (fun i => (i.zero, i.size, i.bytes)) = some (some (.agg #[.int .i64 0, .int .i64 0, .int .i64 0, .int .i64 0]), 4, 32) := by kernel_rfl

set_option maxRecDepth 100000 in
set_option maxHeartbeats 4000000 in
theorem copy27 (A0 A1 A2 : Option Addr) (n0 n1 n2 c0 c1 c2 : Nat) (cw : Int) (B D : List Pt) (R : List Rep) (w : World) (hC : RdC w A0 A1 A2 n0 n1 n2 B D R) (m0 : n0 ≤ 1000000) (m1 : n1 ≤ 1000000) (m2 : n2 ≤ 1000000) :
    Calls Tryd.prog 27 #[.agg #[.slice A0 n0 c0, .slice A1 n1 c1, .slice A2 n2 c2, .int .i64 cw]] w fun e w' => ∃ v0 v1 v2, e = .returned (.agg #[v0, v1, v2, .int .i64 cw]) ∧ Gro w' w.heap.size 40 2 v0 (B.map prow) ∧ Gro w' w.heap.size 33 2 v1 (D.map prow) ∧ Gro w' w.heap.size 58 4 v2 (R.map rrow) ∧ Below w.heap.size w w' := by
  obtain ⟨i0, hi0, hi1, hi2, hi3⟩ := info_parts info40
  obtain ⟨j0, hj0, hj1, hj2, hj3⟩ := info_parts info33
  obtain ⟨k0, hk0, hk1, hk2, hk3⟩ := info_parts info58
  have HC := Lib.hid hC
  have oB : Below w.heap.size w ((w.alloc (.cells #[.slice A0 n0 c0, .slice A1 n1 c1, .slice A2 n2 c2, .int .i64 cw] 26)).alloc (.cells #[.slice none 0 0, .slice none 0 0, .slice none 0 0, .int .i64 0] 26)) := by (repeat' (first | (with_reducible exact Below.refl _ _) | (with_reducible assumption) | (with_reducible refine Below.drew ?_) | (with_reducible refine below_drewN ?_ _) | (with_reducible refine Below.setCell ?_ ?_ _) | (with_reducible refine Below.alloc ?_ ?_ _) | (refine Below.trans ?_ (Below.mono (by with_reducible assumption) ?_)) | omega | (exact Below.size (by with_reducible assumption)) | (simp; done) | (simp; omega)))
  have o1 : Own ((w.alloc (.cells #[.slice A0 n0 c0, .slice A1 n1 c1, .slice A2 n2 c2, .int .i64 cw] 26)).alloc (.cells #[.slice none 0 0, .slice none 0 0, .slice none 0 0, .int .i64 0] 26)) (w.heap.size + 1) [.slice none 0 0, .slice none 0 0, .slice none 0 0, .int .i64 0] := Own.new' _ _ (by simp) rfl
  have o0 : Own ((w.alloc (.cells #[.slice A0 n0 c0, .slice A1 n1 c1, .slice A2 n2 c2, .int .i64 cw] 26)).alloc (.cells #[.slice none 0 0, .slice none 0 0, .slice none 0 0, .int .i64 0] 26)) w.heap.size [.slice A0 n0 c0, .slice A1 n1 c1, .slice A2 n2 c2, .int .i64 cw] := (Own.new' _ _ rfl rfl).alloc _
  go_enter Tryd.func27, Tryd.ntmps27
  go_wp2
  refine rg_start (fun w' => Own w' w.heap.size [.slice A0 n0 c0, .slice A1 n1 c1, .slice A2 n2 c2, .int .i64 cw]) 16 (by kernel_rfl) rfl ?_
  refine rg_take (fuel := 8) [1, 2, 5, 6, 9, 10, 12, 13] (by kernel_rfl) (by intro _ _ d _ _ h; cases d <;> exact h) rfl (by kernel_rfl) (by kernel_rfl) o0.drew ?_
  simp only [pickL, pick1, List.cons_append, List.nil_append]
  (refine wpTake_cons (v := ?_) (Or.inl ⟨by rfl, ?_⟩) ?_; rotate_left; (intro w' hSw; have y0 : w'.cell? ⟨w.heap.size, 0, none⟩ = some (.slice A0 n0 c0) := hSw.c 0; have y1 : w'.cell? ⟨w.heap.size, 1, none⟩ = some (.slice A1 n1 c1) := hSw.c 1; have y2 : w'.cell? ⟨w.heap.size, 2, none⟩ = some (.slice A2 n2 c2) := hSw.c 2; have y3 : w'.cell? ⟨w.heap.size, 3, none⟩ = some (.int .i64 cw) := hSw.c 3; clear hSw; go_simp; (try with_reducible rfl)); (try simp only [Act.put, List.setIfInBounds_toArray, List.set_cons_zero, List.set_cons_succ]))
  (refine wpTake_cons (v := ?_) (Or.inl ⟨by rfl, ?_⟩) ?_; rotate_left; (intro w' hSw; have y0 : w'.cell? ⟨w.heap.size, 0, none⟩ = some (.slice A0 n0 c0) := hSw.c 0; have y1 : w'.cell? ⟨w.heap.size, 1, none⟩ = some (.slice A1 n1 c1) := hSw.c 1; have y2 : w'.cell? ⟨w.heap.size, 2, none⟩ = some (.slice A2 n2 c2) := hSw.c 2; have y3 : w'.cell? ⟨w.heap.size, 3, none⟩ = some (.int .i64 cw) := hSw.c 3; clear hSw; go_simp; (try with_reducible rfl)); (try simp only [Act.put, List.setIfInBounds_toArray, List.set_cons_zero, List.set_cons_succ]))
  (refine wpTake_cons (v := ?_) (Or.inl ⟨by rfl, ?_⟩) ?_; rotate_left; (intro w' hSw; have y0 : w'.cell? ⟨w.heap.size, 0, none⟩ = some (.slice A0 n0 c0) := hSw.c 0; have y1 : w'.cell? ⟨w.heap.size, 1, none⟩ = some (.slice A1 n1 c1) := hSw.c 1; have y2 : w'.cell? ⟨w.heap.size, 2, none⟩ = some (.slice A2 n2 c2) := hSw.c 2; have y3 : w'.cell? ⟨w.heap.size, 3, none⟩ = some (.int .i64 cw) := hSw.c 3; clear hSw; go_simp; (try with_reducible rfl)); (try simp only [Act.put, List.setIfInBounds_toArray, List.set_cons_zero, List.set_cons_succ]))
  (refine wpTake_cons (v := ?_) (Or.inl ⟨by rfl, ?_⟩) ?_; rotate_left; (intro w' hSw; have y0 : w'.cell? ⟨w.heap.size, 0, none⟩ = some (.slice A0 n0 c0) := hSw.c 0; have y1 : w'.cell? ⟨w.heap.size, 1, none⟩ = some (.slice A1 n1 c1) := hSw.c 1; have y2 : w'.cell? ⟨w.heap.size, 2, none⟩ = some (.slice A2 n2 c2) := hSw.c 2; have y3 : w'.cell? ⟨w.heap.size, 3, none⟩ = some (.int .i64 cw) := hSw.c 3; clear hSw; go_simp; (try with_reducible rfl)); (try simp only [Act.put, List.setIfInBounds_toArray, List.set_cons_zero, List.set_cons_succ]))
  (refine wpTake_cons (v := ?_) (Or.inl ⟨by rfl, ?_⟩) ?_; rotate_left; (intro w' hSw; have y0 : w'.cell? ⟨w.heap.size, 0, none⟩ = some (.slice A0 n0 c0) := hSw.c 0; have y1 : w'.cell? ⟨w.heap.size, 1, none⟩ = some (.slice A1 n1 c1) := hSw.c 1; have y2 : w'.cell? ⟨w.heap.size, 2, none⟩ = some (.slice A2 n2 c2) := hSw.c 2; have y3 : w'.cell? ⟨w.heap.size, 3, none⟩ = some (.int .i64 cw) := hSw.c 3; clear hSw; go_simp; (try with_reducible rfl)); (try simp only [Act.put, List.setIfInBounds_toArray, List.set_cons_zero, List.set_cons_succ]))
  (refine wpTake_cons (v := ?_) (Or.inl ⟨by rfl, ?_⟩) ?_; rotate_left; (intro w' hSw; have y0 : w'.cell? ⟨w.heap.size, 0, none⟩ = some (.slice A0 n0 c0) := hSw.c 0; have y1 : w'.cell? ⟨w.heap.size, 1, none⟩ = some (.slice A1 n1 c1) := hSw.c 1; have y2 : w'.cell? ⟨w.heap.size, 2, none⟩ = some (.slice A2 n2 c2) := hSw.c 2; have y3 : w'.cell? ⟨w.heap.size, 3, none⟩ = some (.int .i64 cw) := hSw.c 3; clear hSw; go_simp; (try with_reducible rfl)); (try simp only [Act.put, List.setIfInBounds_toArray, List.set_cons_zero, List.set_cons_succ]))
  (refine wpTake_cons (v := ?_) (Or.inl ⟨by rfl, ?_⟩) ?_; rotate_left; (intro w' hSw; have y0 : w'.cell? ⟨w.heap.size, 0, none⟩ = some (.slice A0 n0 c0) := hSw.c 0; have y1 : w'.cell? ⟨w.heap.size, 1, none⟩ = some (.slice A1 n1 c1) := hSw.c 1; have y2 : w'.cell? ⟨w.heap.size, 2, none⟩ = some (.slice A2 n2 c2) := hSw.c 2; have y3 : w'.cell? ⟨w.heap.size, 3, none⟩ = some (.int .i64 cw) := hSw.c 3; clear hSw; go_simp; (try with_reducible rfl)); (try simp only [Act.put, List.setIfInBounds_toArray, List.set_cons_zero, List.set_cons_succ]))
  (refine wpTake_cons (v := ?_) (Or.inl ⟨by rfl, ?_⟩) ?_; rotate_left; (intro w' hSw; have y0 : w'.cell? ⟨w.heap.size, 0, none⟩ = some (.slice A0 n0 c0) := hSw.c 0; have y1 : w'.cell? ⟨w.heap.size, 1, none⟩ = some (.slice A1 n1 c1) := hSw.c 1; have y2 : w'.cell? ⟨w.heap.size, 2, none⟩ = some (.slice A2 n2 c2) := hSw.c 2; have y3 : w'.cell? ⟨w.heap.size, 3, none⟩ = some (.int .i64 cw) := hSw.c 3; clear hSw; go_simp; (try with_reducible rfl)); (try simp only [Act.put, List.setIfInBounds_toArray, List.set_cons_zero, List.set_cons_succ]))
  refine wpTake_nil ?_
  have hB := oB.drew
  have o := o0.drew
  have p := o1.drew
  clear oB o0 o1
  generalize World.drew _ = W at hB o p ⊢
  refine rg_many (fuel := 7) [0, 4, 8] rfl (by simp) (by kernel_rfl) (by kernel_rfl) ?_
  intro c hc
  rcases (show c = 0 ∨ c = 4 ∨ c = 8 by simpa using hc) with rfl | rfl | rfl
  · intro K hK
    simp only [pick1]
    refine step_empty (K := K) rfl 22 40 2 (w.heap.size + 2) rfl (by kernel_rfl) i0 hi0 p.lt ?_
    intro g0 W' G0 hb
    replace o := o.below hb o.lt
    replace p := p.below hb p.lt
    refine hK.out _ _ o ?_
    replace hB := hB.trans (hb.mono hB.size)
    clear hb hK
    simp only [Act.put, List.setIfInBounds_toArray, List.set_cons_zero, List.set_cons_succ]
    refine rg_many (fuel := 6) [3, 4, 8] rfl (by simp) (by kernel_rfl) (by kernel_rfl) ?_
    intro c hc
    rcases (show c = 3 ∨ c = 4 ∨ c = 8 by simpa using hc) with rfl | rfl | rfl
    · intro K hK
      simp only [pick1]
      refine step_fill rfl (.tmp 3) (.tmp 5) 22 rfl (w.heap.size + 2) 40 i0 _ 2 16 (by kernel_rfl) hi0 hi1 hi2 hi3 rfl (by decide) g0 rfl G0 p.lt A0 n0 c0 (B.map prow) rfl (by rw [List.length_map]; exact HC.out.h0) (HC.out.below hB (Nat.le_refl _)).r0 (fun r hr => (by obtain ⟨q, _, rfl⟩ := List.mem_map.1 hr; rfl)) (by unfold maxLen; omega) (by omega) ?_
      intro v0 W' G0 hb
      replace o := o.below hb o.lt
      replace p := p.below hb p.lt
      refine hK.out _ _ o ?_
      replace hB := hB.trans (hb.mono hB.size)
      clear hb hK
      simp only [Act.put, List.setIfInBounds_toArray, List.set_cons_zero, List.set_cons_succ]
      refine rg_many (fuel := 5) [4, 8] rfl (by simp) (by kernel_rfl) (by kernel_rfl) ?_
      intro c hc
      rcases (show c = 4 ∨ c = 8 by simpa using hc) with rfl | rfl
      · intro K hK
        simp only [pick1]
        refine step_empty (K := K) rfl 23 33 2 (w.heap.size + 2) rfl (by kernel_rfl) j0 hj0 p.lt ?_
        intro g1 W' G1 hb
        replace o := o.below hb o.lt
        replace p := p.below hb p.lt
        refine hK.out _ _ o ?_
        replace hB := hB.trans (hb.mono hB.size)
        replace G0 := G0.below hb (Nat.le_refl _)
        clear hb hK
        simp only [Act.put, List.setIfInBounds_toArray, List.set_cons_zero, List.set_cons_succ]
        refine rg_many (fuel := 4) [7, 8] rfl (by simp) (by kernel_rfl) (by kernel_rfl) ?_
        intro c hc
        rcases (show c = 7 ∨ c = 8 by simpa using hc) with rfl | rfl
        · intro K hK
          simp only [pick1]
          refine step_fill rfl (.tmp 7) (.tmp 9) 23 rfl (w.heap.size + 2) 33 j0 _ 2 16 (by kernel_rfl) hj0 hj1 hj2 hj3 rfl (by decide) g1 rfl G1 p.lt A1 n1 c1 (D.map prow) rfl (by rw [List.length_map]; exact HC.out.h1) (HC.out.below hB (Nat.le_refl _)).r1 (fun r hr => (by obtain ⟨q, _, rfl⟩ := List.mem_map.1 hr; rfl)) (by unfold maxLen; omega) (by omega) ?_
          intro v1 W' G1 hb
          replace o := o.below hb o.lt
          replace p := p.below hb p.lt
          refine hK.out _ _ o ?_
          replace hB := hB.trans (hb.mono hB.size)
          replace G0 := G0.below hb (Nat.le_refl _)
          clear hb hK
          simp only [Act.put, List.setIfInBounds_toArray, List.set_cons_zero, List.set_cons_succ]
          refine rg_many (fuel := 3) [8] rfl (by simp) (by kernel_rfl) (by kernel_rfl) ?_
          intro c hc
          rcases (show c = 8 by simpa using hc) with rfl
          · intro K hK
            simp only [pick1]
            refine step_empty (K := K) rfl 24 58 4 (w.heap.size + 2) rfl (by kernel_rfl) k0 hk0 p.lt ?_
            intro g2 W' G2 hb
            replace o := o.below hb o.lt
            replace p := p.below hb p.lt
            refine hK.out _ _ o ?_
            replace hB := hB.trans (hb.mono hB.size)
            replace G0 := G0.below hb (Nat.le_refl _)
            replace G1 := G1.below hb (Nat.le_refl _)
            clear hb hK
            simp only [Act.put, List.setIfInBounds_toArray, List.set_cons_zero, List.set_cons_succ]
            refine rg_many (fuel := 2) [11] rfl (by simp) (by kernel_rfl) (by kernel_rfl) ?_
            intro c hc
            rcases (show c = 11 by simpa using hc) with rfl
            · intro K hK
              simp only [pick1]
              refine step_fill rfl (.tmp 11) (.tmp 13) 24 rfl (w.heap.size + 2) 58 k0 _ 4 32 (by kernel_rfl) hk0 hk1 hk2 hk3 rfl (by decide) g2 rfl G2 p.lt A2 n2 c2 (R.map rrow) rfl (by rw [List.length_map]; exact HC.out.h2) (HC.out.below hB (Nat.le_refl _)).r2 (fun r hr => (by obtain ⟨q, _, rfl⟩ := List.mem_map.1 hr; rfl)) (by unfold maxLen; omega) (by omega) ?_
              intro v2 W' G2 hb
              replace o := o.below hb o.lt
              replace p := p.below hb p.lt
              refine hK.out _ _ o ?_
              replace hB := hB.trans (hb.mono hB.size)
              replace G0 := G0.below hb (Nat.le_refl _)
              replace G1 := G1.below hb (Nat.le_refl _)
              clear hb hK
              simp only [Act.put, List.setIfInBounds_toArray, List.set_cons_zero, List.set_cons_succ]
              obtain ⟨X0, Y0, rfl, _⟩ := G0.out
              obtain ⟨X1, Y1, rfl, _⟩ := G1.out
              obtain ⟨X2, Y2, rfl, _⟩ := G2.out
              refine rg_take (fuel := 1) [14] (by kernel_rfl) (by intro _ _ d _ _ h; cases d <;> exact h) rfl (by kernel_rfl) (by kernel_rfl) o ?_
              simp only [pickL, pick1, List.cons_append, List.nil_append]
              (refine wpTake_cons (v := ?_) (Or.inl ⟨by rfl, ?_⟩) ?_; rotate_left; (intro w' hSw; clear hSw; go_simp; (try with_reducible rfl)); (try simp only [Act.put, List.setIfInBounds_toArray, List.set_cons_zero, List.set_cons_succ]))
              refine wpTake_nil ?_
              refine rg_one (fuel := 0) 15 rfl (by kernel_rfl) (by kernel_rfl) ?_
              simp only [pick1, wpHead]
              intro K hK
              rw [if_pos (by rfl)]
              have pc := p.c
              have pf := p.f
              go_simp
              refine hK.out _ _ ?_ ?_
              · exact (((o.setOther (by simp) _).setOther (by simp) _).setOther (by simp) _).setOther (by simp) _
              clear hK K
              refine rg_done (by kernel_rfl) ?_
              have F0 := (((G0.setCell (a := ⟨w.heap.size + 1, 0, none⟩) (by simp) (.slice X0 (B.map prow).length Y0)).setCell (a := ⟨w.heap.size + 1, 1, none⟩) (by simp) (.slice X1 (D.map prow).length Y1)).setCell (a := ⟨w.heap.size + 1, 2, none⟩) (by simp) (.slice X2 (R.map rrow).length Y2)).setCell (a := ⟨w.heap.size + 1, 3, none⟩) (by simp) (.int .i64 cw)
              have F1 := (((G1.setCell (a := ⟨w.heap.size + 1, 0, none⟩) (by simp) (.slice X0 (B.map prow).length Y0)).setCell (a := ⟨w.heap.size + 1, 1, none⟩) (by simp) (.slice X1 (D.map prow).length Y1)).setCell (a := ⟨w.heap.size + 1, 2, none⟩) (by simp) (.slice X2 (R.map rrow).length Y2)).setCell (a := ⟨w.heap.size + 1, 3, none⟩) (by simp) (.int .i64 cw)
              have F2 := (((G2.setCell (a := ⟨w.heap.size + 1, 0, none⟩) (by simp) (.slice X0 (B.map prow).length Y0)).setCell (a := ⟨w.heap.size + 1, 1, none⟩) (by simp) (.slice X1 (D.map prow).length Y1)).setCell (a := ⟨w.heap.size + 1, 2, none⟩) (by simp) (.slice X2 (R.map rrow).length Y2)).setCell (a := ⟨w.heap.size + 1, 3, none⟩) (by simp) (.int .i64 cw)
              have q := own_set4 p rfl (.slice X0 (B.map prow).length Y0) (.slice X1 (D.map prow).length Y1) (.slice X2 (R.map rrow).length Y2) (.int .i64 cw)
              simp only [List.length_map] at F0 F1 F2 q
              have qc0 := (q.c 0).trans (show _ = some (.slice X0 B.length Y0) from rfl)
              have qc1 := (q.c 1).trans (show _ = some (.slice X1 D.length Y1) from rfl)
              have qc2 := (q.c 2).trans (show _ = some (.slice X2 R.length Y2) from rfl)
              have qc3 := (q.c 3).trans (show _ = some (.int .i64 cw) from rfl)
              have hBB : Below w.heap.size w ((((W'.setCell ⟨w.heap.size + 1, 0, none⟩ (.slice X0 B.length Y0)).setCell ⟨w.heap.size + 1, 1, none⟩ (.slice X1 D.length Y1)).setCell ⟨w.heap.size + 1, 2, none⟩ (.slice X2 R.length Y2)).setCell ⟨w.heap.size + 1, 3, none⟩ (.int .i64 cw)) := by (repeat' (first | (with_reducible exact Below.refl _ _) | (with_reducible assumption) | (with_reducible refine Below.drew ?_) | (with_reducible refine below_drewN ?_ _) | (with_reducible refine Below.setCell ?_ ?_ _) | (with_reducible refine Below.alloc ?_ ?_ _) | (refine Below.trans ?_ (Below.mono (by with_reducible assumption) ?_)) | omega | (exact Below.size (by with_reducible assumption)) | (simp; done) | (simp; omega)))
              generalize World.setCell (World.setCell (World.setCell (World.setCell W' _ _) _ _) _ _) _ _ = Wf at F0 F1 F2 q qc0 qc1 qc2 qc3 hBB ⊢
              go_wp2
              (try simp only [Exit.inBlock, Exit.then])
              refine bodyPost_ret (v := .agg #[.slice X0 B.length Y0, .slice X1 D.length Y1, .slice X2 R.length Y2, .int .i64 cw]) (by simp [results, Tryd.results27, go_sem, qc0, qc1, qc2, qc3]) rfl ?_
              exact ⟨_, _, _, rfl, F0.base (by omega), F1.base (by omega), F2.base (by omega), hBB⟩
        · intro K hK
          simp only [pick1]
          refine step_empty (K := K) rfl 24 58 4 (w.heap.size + 2) rfl (by kernel_rfl) k0 hk0 p.lt ?_
          intro g2 W' G2 hb
          replace o := o.below hb o.lt
          replace p := p.below hb p.lt
          refine hK.out _ _ o ?_
          replace hB := hB.trans (hb.mono hB.size)
          replace G0 := G0.below hb (Nat.le_refl _)
          replace G1 := G1.below hb (Nat.le_refl _)
          clear hb hK
          simp only [Act.put, List.setIfInBounds_toArray, List.set_cons_zero, List.set_cons_succ]
          refine rg_many (fuel := 3) [7] rfl (by simp) (by kernel_rfl) (by kernel_rfl) ?_
          intro c hc
          rcases (show c = 7 by simpa using hc) with rfl
          · intro K hK
            simp only [pick1]
            refine step_fill rfl (.tmp 7) (.tmp 9) 23 rfl (w.heap.size + 2) 33 j0 _ 2 16 (by kernel_rfl) hj0 hj1 hj2 hj3 rfl (by decide) g1 rfl G1 p.lt A1 n1 c1 (D.map prow) rfl (by rw [List.length_map]; exact HC.out.h1) (HC.out.below hB (Nat.le_refl _)).r1 (fun r hr => (by obtain ⟨q, _, rfl⟩ := List.mem_map.1 hr; rfl)) (by unfold maxLen; omega) (by omega) ?_
            intro v1 W' G1 hb
            replace o := o.below hb o.lt
            replace p := p.below hb p.lt
            refine hK.out _ _ o ?_
            replace hB := hB.trans (hb.mono hB.size)
            replace G0 := G0.below hb (Nat.le_refl _)
            replace G2 := G2.below hb (Nat.le_refl _)
            clear hb hK
            simp only [Act.put, List.setIfInBounds_toArray, List.set_cons_zero, List.set_cons_succ]
            refine rg_many (fuel := 2) [11] rfl (by simp) (by kernel_rfl) (by kernel_rfl) ?_
            intro c hc
            rcases (show c = 11 by simpa using hc) with rfl
            · intro K hK
              simp only [pick1]
              refine step_fill rfl (.tmp 11) (.tmp 13) 24 rfl (w.heap.size + 2) 58 k0 _ 4 32 (by kernel_rfl) hk0 hk1 hk2 hk3 rfl (by decide) g2 rfl G2 p.lt A2 n2 c2 (R.map rrow) rfl (by rw [List.length_map]; exact HC.out.h2) (HC.out.below hB (Nat.le_refl _)).r2 (fun r hr => (by obtain ⟨q, _, rfl⟩ := List.mem_map.1 hr; rfl)) (by unfold maxLen; omega) (by omega) ?_
              intro v2 W' G2 hb
              replace o := o.below hb o.lt
              replace p := p.below hb p.lt
              refine hK.out _ _ o ?_
              replace hB := hB.trans (hb.mono hB.size)
              replace G0 := G0.below hb (Nat.le_refl _)
              replace G1 := G1.below hb (Nat.le_refl _)
              clear hb hK
              simp only [Act.put, List.setIfInBounds_toArray, List.set_cons_zero, List.set_cons_succ]
              obtain ⟨X0, Y0, rfl, _⟩ := G0.out
              obtain ⟨X1, Y1, rfl, _⟩ := G1.out
              obtain ⟨X2, Y2, rfl, _⟩ := G2.out
              refine rg_take (fuel := 1) [14] (by kernel_rfl) (by intro _ _ d _ _ h; cases d <;> exact h) rfl (by kernel_rfl) (by kernel_rfl) o ?_
              simp only [pickL, pick1, List.cons_append, List.nil_append]
              (refine wpTake_cons (v := ?_) (Or.inl ⟨by rfl, ?_⟩) ?_; rotate_left; (intro w' hSw; clear hSw; go_simp; (try with_reducible rfl)); (try simp only [Act.put, List.setIfInBounds_toArray, List.set_cons_zero, List.set_cons_succ]))
              refine wpTake_nil ?_
              refine rg_one (fuel := 0) 15 rfl (by kernel_rfl) (by kernel_rfl) ?_
              simp only [pick1, wpHead]
              intro K hK
              rw [if_pos (by rfl)]
              have pc := p.c
              have pf := p.f
              go_simp
              refine hK.out _ _ ?_ ?_
              · exact (((o.setOther (by simp) _).setOther (by simp) _).setOther (by simp) _).setOther (by simp) _
              clear hK K
              refine rg_done (by kernel_rfl) ?_
              have F0 := (((G0.setCell (a := ⟨w.heap.size + 1, 0, none⟩) (by simp) (.slice X0 (B.map prow).length Y0)).setCell (a := ⟨w.heap.size + 1, 1, none⟩) (by simp) (.slice X1 (D.map prow).length Y1)).setCell (a := ⟨w.heap.size + 1, 2, none⟩) (by simp) (.slice X2 (R.map rrow).length Y2)).setCell (a := ⟨w.heap.size + 1, 3, none⟩) (by simp) (.int .i64 cw)
              have F1 := (((G1.setCell (a := ⟨w.heap.size + 1, 0, none⟩) (by simp) (.slice X0 (B.map prow).length Y0)).setCell (a := ⟨w.heap.size + 1, 1, none⟩) (by simp) (.slice X1 (D.map prow).length Y1)).setCell (a := ⟨w.heap.size + 1, 2, none⟩) (by simp) (.slice X2 (R.map rrow).length Y2)).setCell (a := ⟨w.heap.size + 1, 3, none⟩) (by simp) (.int .i64 cw)
              have F2 := (((G2.setCell (a := ⟨w.heap.size + 1, 0, none⟩) (by simp) (.slice X0 (B.map prow).length Y0)).setCell (a := ⟨w.heap.size + 1, 1, none⟩) (by simp) (.slice X1 (D.map prow).length Y1)).setCell (a := ⟨w.heap.size + 1, 2, none⟩) (by simp) (.slice X2 (R.map rrow).length Y2)).setCell (a := ⟨w.heap.size + 1, 3, none⟩) (by simp) (.int .i64 cw)
              have q := own_set4 p rfl (.slice X0 (B.map prow).length Y0) (.slice X1 (D.map prow).length Y1) (.slice X2 (R.map rrow).length Y2) (.int .i64 cw)
              simp only [List.length_map] at F0 F1 F2 q
              have qc0 := (q.c 0).trans (show _ = some (.slice X0 B.length Y0) from rfl)
              have qc1 := (q.c 1).trans (show _ = some (.slice X1 D.length Y1) from rfl)
              have qc2 := (q.c 2).trans (show _ = some (.slice X2 R.length Y2) from rfl)
              have qc3 := (q.c 3).trans (show _ = some (.int .i64 cw) from rfl)
              have hBB : Below w.heap.size w ((((W'.setCell ⟨w.heap.size + 1, 0, none⟩ (.slice X0 B.length Y0)).setCell ⟨w.heap.size + 1, 1, none⟩ (.slice X1 D.length Y1)).setCell ⟨w.heap.size + 1, 2, none⟩ (.slice X2 R.length Y2)).setCell ⟨w.heap.size + 1, 3, none⟩ (.int .i64 cw)) := by (repeat' (first | (with_reducible exact Below.refl _ _) | (with_reducible assumption) | (with_reducible refine Below.drew ?_) | (with_reducible refine below_drewN ?_ _) | (with_reducible refine Below.setCell ?_ ?_ _) | (with_reducible refine Below.alloc ?_ ?_ _) | (refine Below.trans ?_ (Below.mono (by with_reducible assumption) ?_)) | omega | (exact Below.size (by with_reducible assumption)) | (simp; done) | (simp; omega)))
              generalize World.setCell (World.setCell (World.setCell (World.setCell W' _ _) _ _) _ _) _ _ = Wf at F0 F1 F2 q qc0 qc1 qc2 qc3 hBB ⊢
              go_wp2
              (try simp only [Exit.inBlock, Exit.then])
              refine bodyPost_ret (v := .agg #[.slice X0 B.length Y0, .slice X1 D.length Y1, .slice X2 R.length Y2, .int .i64 cw]) (by simp [results, Tryd.results27, go_sem, qc0, qc1, qc2, qc3]) rfl ?_
              exact ⟨_, _, _, rfl, F0.base (by omega), F1.base (by omega), F2.base (by omega), hBB⟩
      · intro K hK
        simp only [pick1]
        refine step_empty (K := K) rfl 24 58 4 (w.heap.size + 2) rfl (by kernel_rfl) k0 hk0 p.lt ?_
        intro g2 W' G2 hb
        replace o := o.below hb o.lt
        replace p := p.below hb p.lt
        refine hK.out _ _ o ?_
        replace hB := hB.trans (hb.mono hB.size)
        replace G0 := G0.below hb (Nat.le_refl _)
        clear hb hK
        simp only [Act.put, List.setIfInBounds_toArray, List.set_cons_zero, List.set_cons_succ]
        refine rg_many (fuel := 4) [4] rfl (by simp) (by kernel_rfl) (by kernel_rfl) ?_
        intro c hc
        rcases (show c = 4 by simpa using hc) with rfl
        · intro K hK
          simp only [pick1]
          refine step_empty (K := K) rfl 23 33 2 (w.heap.size + 2) rfl (by kernel_rfl) j0 hj0 p.lt ?_
          intro g1 W' G1 hb
          replace o := o.below hb o.lt
          replace p := p.below hb p.lt
          refine hK.out _ _ o ?_
          replace hB := hB.trans (hb.mono hB.size)
          replace G0 := G0.below hb (Nat.le_refl _)
          replace G2 := G2.below hb (Nat.le_refl _)
          clear hb hK
          simp only [Act.put, List.setIfInBounds_toArray, List.set_cons_zero, List.set_cons_succ]
          refine rg_many (fuel := 3) [7] rfl (by simp) (by kernel_rfl) (by kernel_rfl) ?_
          intro c hc
          rcases (show c = 7 by simpa using hc) with rfl
          · intro K hK
            simp only [pick1]
            refine step_fill rfl (.tmp 7) (.tmp 9) 23 rfl (w.heap.size + 2) 33 j0 _ 2 16 (by kernel_rfl) hj0 hj1 hj2 hj3 rfl (by decide) g1 rfl G1 p.lt A1 n1 c1 (D.map prow) rfl (by rw [List.length_map]; exact HC.out.h1) (HC.out.below hB (Nat.le_refl _)).r1 (fun r hr => (by obtain ⟨q, _, rfl⟩ := List.mem_map.1 hr; rfl)) (by unfold maxLen; omega) (by omega) ?_
            intro v1 W' G1 hb
            replace o := o.below hb o.lt
            replace p := p.below hb p.lt
            refine hK.out _ _ o ?_
            replace hB := hB.trans (hb.mono hB.size)
            replace G0 := G0.below hb (Nat.le_refl _)
            replace G2 := G2.below hb (Nat.le_refl _)
            clear hb hK
            simp only [Act.put, List.setIfInBounds_toArray, List.set_cons_zero, List.set_cons_succ]
            refine rg_many (fuel := 2) [11] rfl (by simp) (by kernel_rfl) (by kernel_rfl) ?_
            intro c hc
            rcases (show c = 11 by simpa using hc) with rfl
            · intro K hK
              simp only [pick1]
              refine step_fill rfl (.tmp 11) (.tmp 13) 24 rfl (w.heap.size + 2) 58 k0 _ 4 32 (by kernel_rfl) hk0 hk1 hk2 hk3 rfl (by decide) g2 rfl G2 p.lt A2 n2 c2 (R.map rrow) rfl (by rw [List.length_map]; exact HC.out.h2) (HC.out.below hB (Nat.le_refl _)).r2 (fun r hr => (by obtain ⟨q, _, rfl⟩ := List.mem_map.1 hr; rfl)) (by unfold maxLen; omega) (by omega) ?_
              intro v2 W' G2 hb
              replace o := o.below hb o.lt
              replace p := p.below hb p.lt
              refine hK.out _ _ o ?_
              replace hB := hB.trans (hb.mono hB.size)
              replace G0 := G0.below hb (Nat.le_refl _)
              replace G1 := G1.below hb (Nat.le_refl _)
              clear hb hK
              simp only [Act.put, List.setIfInBounds_toArray, List.set_cons_zero, List.set_cons_succ]
              obtain ⟨X0, Y0, rfl, _⟩ := G0.out
              obtain ⟨X1, Y1, rfl, _⟩ := G1.out
              obtain ⟨X2, Y2, rfl, _⟩ := G2.out
              refine rg_take (fuel := 1) [14] (by kernel_rfl) (by intro _ _ d _ _ h; cases d <;> exact h) rfl (by kernel_rfl) (by kernel_rfl) o ?_
              simp only [pickL, pick1, List.cons_append, List.nil_append]
              (refine wpTake_cons (v := ?_) (Or.inl ⟨by rfl, ?_⟩) ?_; rotate_left; (intro w' hSw; clear hSw; go_simp; (try with_reducible rfl)); (try simp only [Act.put, List.setIfInBounds_toArray, List.set_cons_zero, List.set_cons_succ]))
              refine wpTake_nil ?_
              refine rg_one (fuel := 0) 15 rfl (by kernel_rfl) (by kernel_rfl) ?_
              simp only [pick1, wpHead]
              intro K hK
              rw [if_pos (by rfl)]
              have pc := p.c
              have pf := p.f
              go_simp
              refine hK.out _ _ ?_ ?_
              · exact (((o.setOther (by simp) _).setOther (by simp) _).setOther (by simp) _).setOther (by simp) _
              clear hK K
              refine rg_done (by kernel_rfl) ?_
              have F0 := (((G0.setCell (a := ⟨w.heap.size + 1, 0, none⟩) (by simp) (.slice X0 (B.map prow).length Y0)).setCell (a := ⟨w.heap.size + 1, 1, none⟩) (by simp) (.slice X1 (D.map prow).length Y1)).setCell (a := ⟨w.heap.size + 1, 2, none⟩) (by simp) (.slice X2 (R.map rrow).length Y2)).setCell (a := ⟨w.heap.size + 1, 3, none⟩) (by simp) (.int .i64 cw)
              have F1 := (((G1.setCell (a := ⟨w.heap.size + 1, 0, none⟩) (by simp) (.slice X0 (B.map prow).length Y0)).setCell (a := ⟨w.heap.size + 1, 1, none⟩) (by simp) (.slice X1 (D.map prow).length Y1)).setCell (a := ⟨w.heap.size + 1, 2, none⟩) (by simp) (.slice X2 (R.map rrow).length Y2)).setCell (a := ⟨w.heap.size + 1, 3, none⟩) (by simp) (.int .i64 cw)
              have F2 := (((G2.setCell (a := ⟨w.heap.size + 1, 0, none⟩) (by simp) (.slice X0 (B.map prow).length Y0)).setCell (a := ⟨w.heap.size + 1, 1, none⟩) (by simp) (.slice X1 (D.map prow).length Y1)).setCell (a := ⟨w.heap.size + 1, 2, none⟩) (by simp) (.slice X2 (R.map rrow).length Y2)).setCell (a := ⟨w.heap.size + 1, 3, none⟩) (by simp) (.int .i64 cw)
              have q := own_set4 p rfl (.slice X0 (B.map prow).length Y0) (.slice X1 (D.map prow).length Y1) (.slice X2 (R.map rrow).length Y2) (.int .i64 cw)
              simp only [List.length_map] at F0 F1 F2 q
              have qc0 := (q.c 0).trans (show _ = some (.slice X0 B.length Y0) from rfl)
              have qc1 := (q.c 1).trans (show _ = some (.slice X1 D.length Y1) from rfl)
              have qc2 := (q.c 2).trans (show _ = some (.slice X2 R.length Y2) from rfl)
              have qc3 := (q.c 3).trans (show _ = some (.int .i64 cw) from rfl)
              have hBB : Below w.heap.size w ((((W'.setCell ⟨w.heap.size + 1, 0, none⟩ (.slice X0 B.length Y0)).setCell ⟨w.heap.size + 1, 1, none⟩ (.slice X1 D.length Y1)).setCell ⟨w.heap.size + 1, 2, none⟩ (.slice X2 R.length Y2)).setCell ⟨w.heap.size + 1, 3, none⟩ (.int .i64 cw)) := by (repeat' (first | (with_reducible exact Below.refl _ _) | (with_reducible assumption) | (with_reducible refine Below.drew ?_) | (with_reducible refine below_drewN ?_ _) | (with_reducible refine Below.setCell ?_ ?_ _) | (with_reducible refine Below.alloc ?_ ?_ _) | (refine Below.trans ?_ (Below.mono (by with_reducible assumption) ?_)) | omega | (exact Below.size (by with_reducible assumption)) | (simp; done) | (simp; omega)))
              generalize World.setCell (World.setCell (World.setCell (World.setCell W' _ _) _ _) _ _) _ _ = Wf at F0 F1 F2 q qc0 qc1 qc2 qc3 hBB ⊢
              go_wp2
              (try simp only [Exit.inBlock, Exit.then])
              refine bodyPost_ret (v := .agg #[.slice X0 B.length Y0, .slice X1 D.length Y1, .slice X2 R.length Y2, .int .i64 cw]) (by simp [results, Tryd.results27, go_sem, qc0, qc1, qc2, qc3]) rfl ?_
              exact ⟨_, _, _, rfl, F0.base (by omega), F1.base (by omega), F2.base (by omega), hBB⟩
    · intro K hK
      simp only [pick1]
      refine step_empty (K := K) rfl 23 33 2 (w.heap.size + 2) rfl (by kernel_rfl) j0 hj0 p.lt ?_
      intro g1 W' G1 hb
      replace o := o.below hb o.lt
      replace p := p.below hb p.lt
      refine hK.out _ _ o ?_
      replace hB := hB.trans (hb.mono hB.size)
      replace G0 := G0.below hb (Nat.le_refl _)
      clear hb hK
      simp only [Act.put, List.setIfInBounds_toArray, List.set_cons_zero, List.set_cons_succ]
      refine rg_many (fuel := 5) [3, 8] rfl (by simp) (by kernel_rfl) (by kernel_rfl) ?_
      intro c hc
      rcases (show c = 3 ∨ c = 8 by simpa using hc) with rfl | rfl
      · intro K hK
        simp only [pick1]
        refine step_fill rfl (.tmp 3) (.tmp 5) 22 rfl (w.heap.size + 2) 40 i0 _ 2 16 (by kernel_rfl) hi0 hi1 hi2 hi3 rfl (by decide) g0 rfl G0 p.lt A0 n0 c0 (B.map prow) rfl (by rw [List.length_map]; exact HC.out.h0) (HC.out.below hB (Nat.le_refl _)).r0 (fun r hr => (by obtain ⟨q, _, rfl⟩ := List.mem_map.1 hr; rfl)) (by unfold maxLen; omega) (by omega) ?_
        intro v0 W' G0 hb
        replace o := o.below hb o.lt
        replace p := p.below hb p.lt
        refine hK.out _ _ o ?_
        replace hB := hB.trans (hb.mono hB.size)
        replace G1 := G1.below hb (Nat.le_refl _)
        clear hb hK
        simp only [Act.put, List.setIfInBounds_toArray, List.set_cons_zero, List.set_cons_succ]
        refine rg_many (fuel := 4) [7, 8] rfl (by simp) (by kernel_rfl) (by kernel_rfl) ?_
        intro c hc
        rcases (show c = 7 ∨ c = 8 by simpa using hc) with rfl | rfl
        · intro K hK
          simp only [pick1]
          refine step_fill rfl (.tmp 7) (.tmp 9) 23 rfl (w.heap.size + 2) 33 j0 _ 2 16 (by kernel_rfl) hj0 hj1 hj2 hj3 rfl (by decide) g1 rfl G1 p.lt A1 n1 c1 (D.map prow) rfl (by rw [List.length_map]; exact HC.out.h1) (HC.out.below hB (Nat.le_refl _)).r1 (fun r hr => (by obtain ⟨q, _, rfl⟩ := List.mem_map.1 hr; rfl)) (by unfold maxLen; omega) (by omega) ?_
          intro v1 W' G1 hb
          replace o := o.below hb o.lt
          replace p := p.below hb p.lt
          refine hK.out _ _ o ?_
          replace hB := hB.trans (hb.mono hB.size)
          replace G0 := G0.below hb (Nat.le_refl _)
          clear hb hK
          simp only [Act.put, List.setIfInBounds_toArray, List.set_cons_zero, List.set_cons_succ]
          refine rg_many (fuel := 3) [8] rfl (by simp) (by kernel_rfl) (by kernel_rfl) ?_
          intro c hc
          rcases (show c = 8 by simpa using hc) with rfl
          · intro K hK
            simp only [pick1]
            refine step_empty (K := K) rfl 24 58 4 (w.heap.size + 2) rfl (by kernel_rfl) k0 hk0 p.lt ?_
            intro g2 W' G2 hb
            replace o := o.below hb o.lt
            replace p := p.below hb p.lt
            refine hK.out _ _ o ?_
            replace hB := hB.trans (hb.mono hB.size)
            replace G0 := G0.below hb (Nat.le_refl _)
            replace G1 := G1.below hb (Nat.le_refl _)
            clear hb hK
            simp only [Act.put, List.setIfInBounds_toArray, List.set_cons_zero, List.set_cons_succ]
            refine rg_many (fuel := 2) [11] rfl (by simp) (by kernel_rfl) (by kernel_rfl) ?_
            intro c hc
            rcases (show c = 11 by simpa using hc) with rfl
            · intro K hK
              simp only [pick1]
              refine step_fill rfl (.tmp 11) (.tmp 13) 24 rfl (w.heap.size + 2) 58 k0 _ 4 32 (by kernel_rfl) hk0 hk1 hk2 hk3 rfl (by decide) g2 rfl G2 p.lt A2 n2 c2 (R.map rrow) rfl (by rw [List.length_map]; exact HC.out.h2) (HC.out.below hB (Nat.le_refl _)).r2 (fun r hr => (by obtain ⟨q, _, rfl⟩ := List.mem_map.1 hr; rfl)) (by unfold maxLen; omega) (by omega) ?_
              intro v2 W' G2 hb
              replace o := o.below hb o.lt
              replace p := p.below hb p.lt
              refine hK.out _ _ o ?_
              replace hB := hB.trans (hb.mono hB.size)
              replace G0 := G0.below hb (Nat.le_refl _)
              replace G1 := G1.below hb (Nat.le_refl _)
              clear hb hK
              simp only [Act.put, List.setIfInBounds_toArray, List.set_cons_zero, List.set_cons_succ]
              obtain ⟨X0, Y0, rfl, _⟩ := G0.out
              obtain ⟨X1, Y1, rfl, _⟩ := G1.out
              obtain ⟨X2, Y2, rfl, _⟩ := G2.out
              refine rg_take (fuel := 1) [14] (by kernel_rfl) (by intro _ _ d _ _ h; cases d <;> exact h) rfl (by kernel_rfl) (by kernel_rfl) o ?_
              simp only [pickL, pick1, List.cons_append, List.nil_append]
              (refine wpTake_cons (v := ?_) (Or.inl ⟨by rfl, ?_⟩) ?_; rotate_left; (intro w' hSw; clear hSw; go_simp; (try with_reducible rfl)); (try simp only [Act.put, List.setIfInBounds_toArray, List.set_cons_zero, List.set_cons_succ]))
              refine wpTake_nil ?_
              refine rg_one (fuel := 0) 15 rfl (by kernel_rfl) (by kernel_rfl) ?_
              simp only [pick1, wpHead]
              intro K hK
              rw [if_pos (by rfl)]
              have pc := p.c
              have pf := p.f
              go_simp
              refine hK.out _ _ ?_ ?_
              · exact (((o.setOther (by simp) _).setOther (by simp) _).setOther (by simp) _).setOther (by simp) _
              clear hK K
              refine rg_done (by kernel_rfl) ?_
              have F0 := (((G0.setCell (a := ⟨w.heap.size + 1, 0, none⟩) (by simp) (.slice X0 (B.map prow).length Y0)).setCell (a := ⟨w.heap.size + 1, 1, none⟩) (by simp) (.slice X1 (D.map prow).length Y1)).setCell (a := ⟨w.heap.size + 1, 2, none⟩) (by simp) (.slice X2 (R.map rrow).length Y2)).setCell (a := ⟨w.heap.size + 1, 3, none⟩) (by simp) (.int .i64 cw)
              have F1 := (((G1.setCell (a := ⟨w.heap.size + 1, 0, none⟩) (by simp) (.slice X0 (B.map prow).length Y0)).setCell (a := ⟨w.heap.size + 1, 1, none⟩) (by simp) (.slice X1 (D.map prow).length Y1)).setCell (a := ⟨w.heap.size + 1, 2, none⟩) (by simp) (.slice X2 (R.map rrow).length Y2)).setCell (a := ⟨w.heap.size + 1, 3, none⟩) (by simp) (.int .i64 cw)
              have F2 := (((G2.setCell (a := ⟨w.heap.size + 1, 0, none⟩) (by simp) (.slice X0 (B.map prow).length Y0)).setCell (a := ⟨w.heap.size + 1, 1, none⟩) (by simp) (.slice X1 (D.map prow).length Y1)).setCell (a := ⟨w.heap.size + 1, 2, none⟩) (by simp) (.slice X2 (R.map rrow).length Y2)).setCell (a := ⟨w.heap.size + 1, 3, none⟩) (by simp) (.int .i64 cw)
              have q := own_set4 p rfl (.slice X0 (B.map prow).length Y0) (.slice X1 (D.map prow).length Y1) (.slice X2 (R.map rrow).length Y2) (.int .i64 cw)
              simp only [List.length_map] at F0 F1 F2 q
              have qc0 := (q.c 0).trans (show _ = some (.slice X0 B.length Y0) from rfl)
              have qc1 := (q.c 1).trans (show _ = some (.slice X1 D.length Y1) from rfl)
              have qc2 := (q.c 2).trans (show _ = some (.slice X2 R.length Y2) from rfl)
              have qc3 := (q.c 3).trans (show _ = some (.int .i64 cw) from rfl)
              have hBB : Below w.heap.size w ((((W'.setCell ⟨w.heap.size + 1, 0, none⟩ (.slice X0 B.length Y0)).setCell ⟨w.heap.size + 1, 1, none⟩ (.slice X1 D.length Y1)).setCell ⟨w.heap.size + 1, 2, none⟩ (.slice X2 R.length Y2)).setCell ⟨w.heap.size + 1, 3, none⟩ (.int .i64 cw)) := by (repeat' (first | (with_reducible exact Below.refl _ _) | (with_reducible assumption) | (with_reducible refine Below.drew ?_) | (with_reducible refine below_drewN ?_ _) | (with_reducible refine Below.setCell ?_ ?_ _) | (with_reducible refine Below.alloc ?_ ?_ _) | (refine Below.trans ?_ (Below.mono (by with_reducible assumption) ?_)) | omega | (exact Below.size (by with_reducible assumption)) | (simp; done) | (simp; omega)))
              generalize World.setCell (World.setCell (World.setCell (World.setCell W' _ _) _ _) _ _) _ _ = Wf at F0 F1 F2 q qc0 qc1 qc2 qc3 hBB ⊢
              go_wp2
              (try simp only [Exit.inBlock, Exit.then])
              refine bodyPost_ret (v := .agg #[.slice X0 B.length Y0, .slice X1 D.length Y1, .slice X2 R.length Y2, .int .i64 cw]) (by simp [results, Tryd.results27, go_sem, qc0, qc1, qc2, qc3]) rfl ?_
              exact ⟨_, _, _, rfl, F0.base (by omega), F1.base (by omega), F2.base (by omega), hBB⟩
        · intro K hK
          simp only [pick1]
          refine step_empty (K := K) rfl 24 58 4 (w.heap.size + 2) rfl (by kernel_rfl) k0 hk0 p.lt ?_
          intro g2 W' G2 hb
          replace o := o.below hb o.lt
          replace p := p.below hb p.lt
          refine hK.out _ _ o ?_
          replace hB := hB.trans (hb.mono hB.size)
          replace G0 := G0.below hb (Nat.le_refl _)
          replace G1 := G1.below hb (Nat.le_refl _)
          clear hb hK
          simp only [Act.put, List.setIfInBounds_toArray, List.set_cons_zero, List.set_cons_succ]
          refine rg_many (fuel := 3) [7] rfl (by simp) (by kernel_rfl) (by kernel_rfl) ?_
          intro c hc
          rcases (show c = 7 by simpa using hc) with rfl
          · intro K hK
            simp only [pick1]
            refine step_fill rfl (.tmp 7) (.tmp 9) 23 rfl (w.heap.size + 2) 33 j0 _ 2 16 (by kernel_rfl) hj0 hj1 hj2 hj3 rfl (by decide) g1 rfl G1 p.lt A1 n1 c1 (D.map prow) rfl (by rw [List.length_map]; exact HC.out.h1) (HC.out.below hB (Nat.le_refl _)).r1 (fun r hr => (by obtain ⟨q, _, rfl⟩ := List.mem_map.1 hr; rfl)) (by unfold maxLen; omega) (by omega) ?_
            intro v1 W' G1 hb
            replace o := o.below hb o.lt
            replace p := p.below hb p.lt
            refine hK.out _ _ o ?_
            replace hB := hB.trans (hb.mono hB.size)
            replace G0 := G0.below hb (Nat.le_refl _)
            replace G2 := G2.below hb (Nat.le_refl _)
            clear hb hK
            simp only [Act.put, List.setIfInBounds_toArray, List.set_cons_zero, List.set_cons_succ]
            refine rg_many (fuel := 2) [11] rfl (by simp) (by kernel_rfl) (by kernel_rfl) ?_
            intro c hc
            rcases (show c = 11 by simpa using hc) with rfl
            · intro K hK
              simp only [pick1]
              refine step_fill rfl (.tmp 11) (.tmp 13) 24 rfl (w.heap.size + 2) 58 k0 _ 4 32 (by kernel_rfl) hk0 hk1 hk2 hk3 rfl (by decide) g2 rfl G2 p.lt A2 n2 c2 (R.map rrow) rfl (by rw [List.length_map]; exact HC.out.h2) (HC.out.below hB (Nat.le_refl _)).r2 (fun r hr => (by obtain ⟨q, _, rfl⟩ := List.mem_map.1 hr; rfl)) (by unfold maxLen; omega) (by omega) ?_
              intro v2 W' G2 hb
              replace o := o.below hb o.lt
              replace p := p.below hb p.lt
              refine hK.out _ _ o ?_
              replace hB := hB.trans (hb.mono hB.size)
              replace G0 := G0.below hb (Nat.le_refl _)
              replace G1 := G1.below hb (Nat.le_refl _)
              clear hb hK
              simp only [Act.put, List.setIfInBounds_toArray, List.set_cons_zero, List.set_cons_succ]
              obtain ⟨X0, Y0, rfl, _⟩ := G0.out
              obtain ⟨X1, Y1, rfl, _⟩ := G1.out
              obtain ⟨X2, Y2, rfl, _⟩ := G2.out
              refine rg_take (fuel := 1) [14] (by kernel_rfl) (by intro _ _ d _ _ h; cases d <;> exact h) rfl (by kernel_rfl) (by kernel_rfl) o ?_
              simp only [pickL, pick1, List.cons_append, List.nil_append]
              (refine wpTake_cons (v := ?_) (Or.inl ⟨by rfl, ?_⟩) ?_; rotate_left; (intro w' hSw; clear hSw; go_simp; (try with_reducible rfl)); (try simp only [Act.put, List.setIfInBounds_toArray, List.set_cons_zero, List.set_cons_succ]))
              refine wpTake_nil ?_
              refine rg_one (fuel := 0) 15 rfl (by kernel_rfl) (by kernel_rfl) ?_
              simp only [pick1, wpHead]
              intro K hK
              rw [if_pos (by rfl)]
              have pc := p.c
              have pf := p.f
              go_simp
              refine hK.out _ _ ?_ ?_
              · exact (((o.setOther (by simp) _).setOther (by simp) _).setOther (by simp) _).setOther (by simp) _
              clear hK K
              refine rg_done (by kernel_rfl) ?_
              have F0 := (((G0.setCell (a := ⟨w.heap.size + 1, 0, none⟩) (by simp) (.slice X0 (B.map prow).length Y0)).setCell (a := ⟨w.heap.size + 1, 1, none⟩) (by simp) (.slice X1 (D.map prow).length Y1)).setCell (a := ⟨w.heap.size + 1, 2, none⟩) (by simp) (.slice X2 (R.map rrow).length Y2)).setCell (a := ⟨w.heap.size + 1, 3, none⟩) (by simp) (.int .i64 cw)
              have F1 := (((G1.setCell (a := ⟨w.heap.size + 1, 0, none⟩) (by simp) (.slice X0 (B.map prow).length Y0)).setCell (a := ⟨w.heap.size + 1, 1, none⟩) (by simp) (.slice X1 (D.map prow).length Y1)).setCell (a := ⟨w.heap.size + 1, 2, none⟩) (by simp) (.slice X2 (R.map rrow).length Y2)).setCell (a := ⟨w.heap.size + 1, 3, none⟩) (by simp) (.int .i64 cw)
              have F2 := (((G2.setCell (a := ⟨w.heap.size + 1, 0, none⟩) (by simp) (.slice X0 (B.map prow).length Y0)).setCell (a := ⟨w.heap.size + 1, 1, none⟩) (by simp) (.slice X1 (D.map prow).length Y1)).setCell (a := ⟨w.heap.size + 1, 2, none⟩) (by simp) (.slice X2 (R.map rrow).length Y2)).setCell (a := ⟨w.heap.size + 1, 3, none⟩) (by simp) (.int .i64 cw)
              have q := own_set4 p rfl (.slice X0 (B.map prow).length Y0) (.slice X1 (D.map prow).length Y1) (.slice X2 (R.map rrow).length Y2) (.int .i64 cw)
              simp only [List.length_map] at F0 F1 F2 q
              have qc0 := (q.c 0).trans (show _ = some (.slice X0 B.length Y0) from rfl)
              have qc1 := (q.c 1).trans (show _ = some (.slice X1 D.length Y1) from rfl)
              have qc2 := (q.c 2).trans (show _ = some (.slice X2 R.length Y2) from rfl)
              have qc3 := (q.c 3).trans (show _ = some (.int .i64 cw) from rfl)
              have hBB : Below w.heap.size w ((((W'.setCell ⟨w.heap.size + 1, 0, none⟩ (.slice X0 B.length Y0)).setCell ⟨w.heap.size + 1, 1, none⟩ (.slice X1 D.length Y1)).setCell ⟨w.heap.size + 1, 2, none⟩ (.slice X2 R.length Y2)).setCell ⟨w.heap.size + 1, 3, none⟩ (.int .i64 cw)) := by (repeat' (first | (with_reducible exact Below.refl _ _) | (with_reducible assumption) | (with_reducible refine Below.drew ?_) | (with_reducible refine below_drewN ?_ _) | (with_reducible refine Below.setCell ?_ ?_ _) | (with_reducible refine Below.alloc ?_ ?_ _) | (refine Below.trans ?_ (Below.mono (by with_reducible assumption) ?_)) | omega | (exact Below.size (by with_reducible assumption)) | (simp; done) | (simp; omega)))
              generalize World.setCell (World.setCell (World.setCell (World.setCell W' _ _) _ _) _ _) _ _ = Wf at F0 F1 F2 q qc0 qc1 qc2 qc3 hBB ⊢
              go_wp2
              (try simp only [Exit.inBlock, Exit.then])
              refine bodyPost_ret (v := .agg #[.slice X0 B.length Y0, .slice X1 D.length Y1, .slice X2 R.length Y2, .int .i64 cw]) (by simp [results, Tryd.results27, go_sem, qc0, qc1, qc2, qc3]) rfl ?_
              exact ⟨_, _, _, rfl, F0.base (by omega), F1.base (by omega), F2.base (by omega), hBB⟩
      · intro K hK
        simp only [pick1]
        refine step_empty (K := K) rfl 24 58 4 (w.heap.size + 2) rfl (by kernel_rfl) k0 hk0 p.lt ?_
        intro g2 W' G2 hb
        replace o := o.below hb o.lt
        replace p := p.below hb p.lt
        refine hK.out _ _ o ?_
        replace hB := hB.trans (hb.mono hB.size)
        replace G0 := G0.below hb (Nat.le_refl _)
        replace G1 := G1.below hb (Nat.le_refl _)
        clear hb hK
        simp only [Act.put, List.setIfInBounds_toArray, List.set_cons_zero, List.set_cons_succ]
        refine rg_many (fuel := 4) [3] rfl (by simp) (by kernel_rfl) (by kernel_rfl) ?_
        intro c hc
        rcases (show c = 3 by simpa using hc) with rfl
        · intro K hK
          simp only [pick1]
          refine step_fill rfl (.tmp 3) (.tmp 5) 22 rfl (w.heap.size + 2) 40 i0 _ 2 16 (by kernel_rfl) hi0 hi1 hi2 hi3 rfl (by decide) g0 rfl G0 p.lt A0 n0 c0 (B.map prow) rfl (by rw [List.length_map]; exact HC.out.h0) (HC.out.below hB (Nat.le_refl _)).r0 (fun r hr => (by obtain ⟨q, _, rfl⟩ := List.mem_map.1 hr; rfl)) (by unfold maxLen; omega) (by omega) ?_
          intro v0 W' G0 hb
          replace o := o.below hb o.lt
          replace p := p.below hb p.lt
          refine hK.out _ _ o ?_
          replace hB := hB.trans (hb.mono hB.size)
          replace G1 := G1.below hb (Nat.le_refl _)
          replace G2 := G2.below hb (Nat.le_refl _)
          clear hb hK
          simp only [Act.put, List.setIfInBounds_toArray, List.set_cons_zero, List.set_cons_succ]
          refine rg_many (fuel := 3) [7] rfl (by simp) (by kernel_rfl) (by kernel_rfl) ?_
          intro c hc
          rcases (show c = 7 by simpa using hc) with rfl
          · intro K hK
            simp only [pick1]
            refine step_fill rfl (.tmp 7) (.tmp 9) 23 rfl (w.heap.size + 2) 33 j0 _ 2 16 (by kernel_rfl) hj0 hj1 hj2 hj3 rfl (by decide) g1 rfl G1 p.lt A1 n1 c1 (D.map prow) rfl (by rw [List.length_map]; exact HC.out.h1) (HC.out.below hB (Nat.le_refl _)).r1 (fun r hr => (by obtain ⟨q, _, rfl⟩ := List.mem_map.1 hr; rfl)) (by unfold maxLen; omega) (by omega) ?_
            intro v1 W' G1 hb
            replace o := o.below hb o.lt
            replace p := p.below hb p.lt
            refine hK.out _ _ o ?_
            replace hB := hB.trans (hb.mono hB.size)
            replace G0 := G0.below hb (Nat.le_refl _)
            replace G2 := G2.below hb (Nat.le_refl _)
            clear hb hK
            simp only [Act.put, List.setIfInBounds_toArray, List.set_cons_zero, List.set_cons_succ]
            refine rg_many (fuel := 2) [11] rfl (by simp) (by kernel_rfl) (by kernel_rfl) ?_
            intro c hc
            rcases (show c = 11 by simpa using hc) with rfl
            · intro K hK
              simp only [pick1]
              refine step_fill rfl (.tmp 11) (.tmp 13) 24 rfl (w.heap.size + 2) 58 k0 _ 4 32 (by kernel_rfl) hk0 hk1 hk2 hk3 rfl (by decide) g2 rfl G2 p.lt A2 n2 c2 (R.map rrow) rfl (by rw [List.length_map]; exact HC.out.h2) (HC.out.below hB (Nat.le_refl _)).r2 (fun r hr => (by obtain ⟨q, _, rfl⟩ := List.mem_map.1 hr; rfl)) (by unfold maxLen; omega) (by omega) ?_
              intro v2 W' G2 hb
              replace o := o.below hb o.lt
              replace p := p.below hb p.lt
              refine hK.out _ _ o ?_
              replace hB := hB.trans (hb.mono hB.size)
              replace G0 := G0.below hb (Nat.le_refl _)
              replace G1 := G1.below hb (Nat.le_refl _)
              clear hb hK
              simp only [Act.put, List.setIfInBounds_toArray, List.set_cons_zero, List.set_cons_succ]
              obtain ⟨X0, Y0, rfl, _⟩ := G0.out
              obtain ⟨X1, Y1, rfl, _⟩ := G1.out
              obtain ⟨X2, Y2, rfl, _⟩ := G2.out
              refine rg_take (fuel := 1) [14] (by kernel_rfl) (by intro _ _ d _ _ h; cases d <;> exact h) rfl (by kernel_rfl) (by kernel_rfl) o ?_
              simp only [pickL, pick1, List.cons_append, List.nil_append]
              (refine wpTake_cons (v := ?_) (Or.inl ⟨by rfl, ?_⟩) ?_; rotate_left; (intro w' hSw; clear hSw; go_simp; (try with_reducible rfl)); (try simp only [Act.put, List.setIfInBounds_toArray, List.set_cons_zero, List.set_cons_succ]))
              refine wpTake_nil ?_
              refine rg_one (fuel := 0) 15 rfl (by kernel_rfl) (by kernel_rfl) ?_
              simp only [pick1, wpHead]
              intro K hK
              rw [if_pos (by rfl)]
              have pc := p.c
              have pf := p.f
              go_simp
              refine hK.out _ _ ?_ ?_
              · exact (((o.setOther (by simp) _).setOther (by simp) _).setOther (by simp) _).setOther (by simp) _
              clear hK K
              refine rg_done (by kernel_rfl) ?_
              have F0 := (((G0.setCell (a := ⟨w.heap.size + 1, 0, none⟩) (by simp) (.slice X0 (B.map prow).length Y0)).setCell (a := ⟨w.heap.size + 1, 1, none⟩) (by simp) (.slice X1 (D.map prow).length Y1)).setCell (a := ⟨w.heap.size + 1, 2, none⟩) (by simp) (.slice X2 (R.map rrow).length Y2)).setCell (a := ⟨w.heap.size + 1, 3, none⟩) (by simp) (.int .i64 cw)
              have F1 := (((G1.setCell (a := ⟨w.heap.size + 1, 0, none⟩) (by simp) (.slice X0 (B.map prow).length Y0)).setCell (a := ⟨w.heap.size + 1, 1, none⟩) (by simp) (.slice X1 (D.map prow).length Y1)).setCell (a := ⟨w.heap.size + 1, 2, none⟩) (by simp) (.slice X2 (R.map rrow).length Y2)).setCell (a := ⟨w.heap.size + 1, 3, none⟩) (by simp) (.int .i64 cw)
              have F2 := (((G2.setCell (a := ⟨w.heap.size + 1, 0, none⟩) (by simp) (.slice X0 (B.map prow).length Y0)).setCell (a := ⟨w.heap.size + 1, 1, none⟩) (by simp) (.slice X1 (D.map prow).length Y1)).setCell (a := ⟨w.heap.size + 1, 2, none⟩) (by simp) (.slice X2 (R.map rrow).length Y2)).setCell (a := ⟨w.heap.size + 1, 3, none⟩) (by simp) (.int .i64 cw)
              have q := own_set4 p rfl (.slice X0 (B.map prow).length Y0) (.slice X1 (D.map prow).length Y1) (.slice X2 (R.map rrow).length Y2) (.int .i64 cw)
              simp only [List.length_map] at F0 F1 F2 q
              have qc0 := (q.c 0).trans (show _ = some (.slice X0 B.length Y0) from rfl)
              have qc1 := (q.c 1).trans (show _ = some (.slice X1 D.length Y1) from rfl)
              have qc2 := (q.c 2).trans (show _ = some (.slice X2 R.length Y2) from rfl)
              have qc3 := (q.c 3).trans (show _ = some (.int .i64 cw) from rfl)
              have hBB : Below w.heap.size w ((((W'.setCell ⟨w.heap.size + 1, 0, none⟩ (.slice X0 B.length Y0)).setCell ⟨w.heap.size + 1, 1, none⟩ (.slice X1 D.length Y1)).setCell ⟨w.heap.size + 1, 2, none⟩ (.slice X2 R.length Y2)).setCell ⟨w.heap.size + 1, 3, none⟩ (.int .i64 cw)) := by (repeat' (first | (with_reducible exact Below.refl _ _) | (with_reducible assumption) | (with_reducible refine Below.drew ?_) | (with_reducible refine below_drewN ?_ _) | (with_reducible refine Below.setCell ?_ ?_ _) | (with_reducible refine Below.alloc ?_ ?_ _) | (refine Below.trans ?_ (Below.mono (by with_reducible assumption) ?_)) | omega | (exact Below.size (by with_reducible assumption)) | (simp; done) | (simp; omega)))
              generalize World.setCell (World.setCell (World.setCell (World.setCell W' _ _) _ _) _ _) _ _ = Wf at F0 F1 F2 q qc0 qc1 qc2 qc3 hBB ⊢
              go_wp2
              (try simp only [Exit.inBlock, Exit.then])
              refine bodyPost_ret (v := .agg #[.slice X0 B.length Y0, .slice X1 D.length Y1, .slice X2 R.length Y2, .int .i64 cw]) (by simp [results, Tryd.results27, go_sem, qc0, qc1, qc2, qc3]) rfl ?_
              exact ⟨_, _, _, rfl, F0.base (by omega), F1.base (by omega), F2.base (by omega), hBB⟩
    · intro K hK
      simp only [pick1]
      refine step_empty (K := K) rfl 24 58 4 (w.heap.size + 2) rfl (by kernel_rfl) k0 hk0 p.lt ?_
      intro g2 W' G2 hb
      replace o := o.below hb o.lt
      replace p := p.below hb p.lt
      refine hK.out _ _ o ?_
      replace hB := hB.trans (hb.mono hB.size)
      replace G0 := G0.below hb (Nat.le_refl _)
      clear hb hK
      simp only [Act.put, List.setIfInBounds_toArray, List.set_cons_zero, List.set_cons_succ]
      refine rg_many (fuel := 5) [3, 4] rfl (by simp) (by kernel_rfl) (by kernel_rfl) ?_
      intro c hc
      rcases (show c = 3 ∨ c = 4 by simpa using hc) with rfl | rfl
      · intro K hK
        simp only [pick1]
        refine step_fill rfl (.tmp 3) (.tmp 5) 22 rfl (w.heap.size + 2) 40 i0 _ 2 16 (by kernel_rfl) hi0 hi1 hi2 hi3 rfl (by decide) g0 rfl G0 p.lt A0 n0 c0 (B.map prow) rfl (by rw [List.length_map]; exact HC.out.h0) (HC.out.below hB (Nat.le_refl _)).r0 (fun r hr => (by obtain ⟨q, _, rfl⟩ := List.mem_map.1 hr; rfl)) (by unfold maxLen; omega) (by omega) ?_
        intro v0 W' G0 hb
        replace o := o.below hb o.lt
        replace p := p.below hb p.lt
        refine hK.out _ _ o ?_
        replace hB := hB.trans (hb.mono hB.size)
        replace G2 := G2.below hb (Nat.le_refl _)
        clear hb hK
        simp only [Act.put, List.setIfInBounds_toArray, List.set_cons_zero, List.set_cons_succ]
        refine rg_many (fuel := 4) [4] rfl (by simp) (by kernel_rfl) (by kernel_rfl) ?_
        intro c hc
        rcases (show c = 4 by simpa using hc) with rfl
        · intro K hK
          simp only [pick1]
          refine step_empty (K := K) rfl 23 33 2 (w.heap.size + 2) rfl (by kernel_rfl) j0 hj0 p.lt ?_
          intro g1 W' G1 hb
          replace o := o.below hb o.lt
          replace p := p.below hb p.lt
          refine hK.out _ _ o ?_
          replace hB := hB.trans (hb.mono hB.size)
          replace G0 := G0.below hb (Nat.le_refl _)
          replace G2 := G2.below hb (Nat.le_refl _)
          clear hb hK
          simp only [Act.put, List.setIfInBounds_toArray, List.set_cons_zero, List.set_cons_succ]
          refine rg_many (fuel := 3) [7] rfl (by simp) (by kernel_rfl) (by kernel_rfl) ?_
          intro c hc
          rcases (show c = 7 by simpa using hc) with rfl
          · intro K hK
            simp only [pick1]
            refine step_fill rfl (.tmp 7) (.tmp 9) 23 rfl (w.heap.size + 2) 33 j0 _ 2 16 (by kernel_rfl) hj0 hj1 hj2 hj3 rfl (by decide) g1 rfl G1 p.lt A1 n1 c1 (D.map prow) rfl (by rw [List.length_map]; exact HC.out.h1) (HC.out.below hB (Nat.le_refl _)).r1 (fun r hr => (by obtain ⟨q, _, rfl⟩ := List.mem_map.1 hr; rfl)) (by unfold maxLen; omega) (by omega) ?_
            intro v1 W' G1 hb
            replace o := o.below hb o.lt
            replace p := p.below hb p.lt
            refine hK.out _ _ o ?_
            replace hB := hB.trans (hb.mono hB.size)
            replace G0 := G0.below hb (Nat.le_refl _)
            replace G2 := G2.below hb (Nat.le_refl _)
            clear hb hK
            simp only [Act.put, List.setIfInBounds_toArray, List.set_cons_zero, List.set_cons_succ]
            refine rg_many (fuel := 2) [11] rfl (by simp) (by kernel_rfl) (by kernel_rfl) ?_
            intro c hc
            rcases (show c = 11 by simpa using hc) with rfl
            · intro K hK
              simp only [pick1]
              refine step_fill rfl (.tmp 11) (.tmp 13) 24 rfl (w.heap.size + 2) 58 k0 _ 4 32 (by kernel_rfl) hk0 hk1 hk2 hk3 rfl (by decide) g2 rfl G2 p.lt A2 n2 c2 (R.map rrow) rfl (by rw [List.length_map]; exact HC.out.h2) (HC.out.below hB (Nat.le_refl _)).r2 (fun r hr => (by obtain ⟨q, _, rfl⟩ := List.mem_map.1 hr; rfl)) (by unfold maxLen; omega) (by omega) ?_
              intro v2 W' G2 hb
              replace o := o.below hb o.lt
              replace p := p.below hb p.lt
              refine hK.out _ _ o ?_
              replace hB := hB.trans (hb.mono hB.size)
              replace G0 := G0.below hb (Nat.le_refl _)
              replace G1 := G1.below hb (Nat.le_refl _)
              clear hb hK
              simp only [Act.put, List.setIfInBounds_toArray, List.set_cons_zero, List.set_cons_succ]
              obtain ⟨X0, Y0, rfl, _⟩ := G0.out
              obtain ⟨X1, Y1, rfl, _⟩ := G1.out
              obtain ⟨X2, Y2, rfl, _⟩ := G2.out
              refine rg_take (fuel := 1) [14] (by kernel_rfl) (by intro _ _ d _ _ h; cases d <;> exact h) rfl (by kernel_rfl) (by kernel_rfl) o ?_
              simp only [pickL, pick1, List.cons_append, List.nil_append]
              (refine wpTake_cons (v := ?_) (Or.inl ⟨by rfl, ?_⟩) ?_; rotate_left; (intro w' hSw; clear hSw; go_simp; (try with_reducible rfl)); (try simp only [Act.put, List.setIfInBounds_toArray, List.set_cons_zero, List.set_cons_succ]))
              refine wpTake_nil ?_
              refine rg_one (fuel := 0) 15 rfl (by kernel_rfl) (by kernel_rfl) ?_
              simp only [pick1, wpHead]
              intro K hK
              rw [if_pos (by rfl)]
              have pc := p.c
              have pf := p.f
              go_simp
              refine hK.out _ _ ?_ ?_
              · exact (((o.setOther (by simp) _).setOther (by simp) _).setOther (by simp) _).setOther (by simp) _
              clear hK K
              refine rg_done (by kernel_rfl) ?_
              have F0 := (((G0.setCell (a := ⟨w.heap.size + 1, 0, none⟩) (by simp) (.slice X0 (B.map prow).length Y0)).setCell (a := ⟨w.heap.size + 1, 1, none⟩) (by simp) (.slice X1 (D.map prow).length Y1)).setCell (a := ⟨w.heap.size + 1, 2, none⟩) (by simp) (.slice X2 (R.map rrow).length Y2)).setCell (a := ⟨w.heap.size + 1, 3, none⟩) (by simp) (.int .i64 cw)
              have F1 := (((G1.setCell (a := ⟨w.heap.size + 1, 0, none⟩) (by simp) (.slice X0 (B.map prow).length Y0)).setCell (a := ⟨w.heap.size + 1, 1, none⟩) (by simp) (.slice X1 (D.map prow).length Y1)).setCell (a := ⟨w.heap.size + 1, 2, none⟩) (by simp) (.slice X2 (R.map rrow).length Y2)).setCell (a := ⟨w.heap.size + 1, 3, none⟩) (by simp) (.int .i64 cw)
              have F2 := (((G2.setCell (a := ⟨w.heap.size + 1, 0, none⟩) (by simp) (.slice X0 (B.map prow).length Y0)).setCell (a := ⟨w.heap.size + 1, 1, none⟩) (by simp) (.slice X1 (D.map prow).length Y1)).setCell (a := ⟨w.heap.size + 1, 2, none⟩) (by simp) (.slice X2 (R.map rrow).length Y2)).setCell (a := ⟨w.heap.size + 1, 3, none⟩) (by simp) (.int .i64 cw)
              have q := own_set4 p rfl (.slice X0 (B.map prow).length Y0) (.slice X1 (D.map prow).length Y1) (.slice X2 (R.map rrow).length Y2) (.int .i64 cw)
              simp only [List.length_map] at F0 F1 F2 q
              have qc0 := (q.c 0).trans (show _ = some (.slice X0 B.length Y0) from rfl)
              have qc1 := (q.c 1).trans (show _ = some (.slice X1 D.length Y1) from rfl)
              have qc2 := (q.c 2).trans (show _ = some (.slice X2 R.length Y2) from rfl)
              have qc3 := (q.c 3).trans (show _ = some (.int .i64 cw) from rfl)
              have hBB : Below w.heap.size w ((((W'.setCell ⟨w.heap.size + 1, 0, none⟩ (.slice X0 B.length Y0)).setCell ⟨w.heap.size + 1, 1, none⟩ (.slice X1 D.length Y1)).setCell ⟨w.heap.size + 1, 2, none⟩ (.slice X2 R.length Y2)).setCell ⟨w.heap.size + 1, 3, none⟩ (.int .i64 cw)) := by (repeat' (first | (with_reducible exact Below.refl _ _) | (with_reducible assumption) | (with_reducible refine Below.drew ?_) | (with_reducible refine below_drewN ?_ _) | (with_reducible refine Below.setCell ?_ ?_ _) | (with_reducible refine Below.alloc ?_ ?_ _) | (refine Below.trans ?_ (Below.mono (by with_reducible assumption) ?_)) | omega | (exact Below.size (by with_reducible assumption)) | (simp; done) | (simp; omega)))
              generalize World.setCell (World.setCell (World.setCell (World.setCell W' _ _) _ _) _ _) _ _ = Wf at F0 F1 F2 q qc0 qc1 qc2 qc3 hBB ⊢
              go_wp2
              (try simp only [Exit.inBlock, Exit.then])
              refine bodyPost_ret (v := .agg #[.slice X0 B.length Y0, .slice X1 D.length Y1, .slice X2 R.length Y2, .int .i64 cw]) (by simp [results, Tryd.results27, go_sem, qc0, qc1, qc2, qc3]) rfl ?_
              exact ⟨_, _, _, rfl, F0.base (by omega), F1.base (by omega), F2.base (by omega), hBB⟩
      · intro K hK
        simp only [pick1]
        refine step_empty (K := K) rfl 23 33 2 (w.heap.size + 2) rfl (by kernel_rfl) j0 hj0 p.lt ?_
        intro g1 W' G1 hb
        replace o := o.below hb o.lt
        replace p := p.below hb p.lt
        refine hK.out _ _ o ?_
        replace hB := hB.trans (hb.mono hB.size)
        replace G0 := G0.below hb (Nat.le_refl _)
        replace G2 := G2.below hb (Nat.le_refl _)
        clear hb hK
        simp only [Act.put, List.setIfInBounds_toArray, List.set_cons_zero, List.set_cons_succ]
        refine rg_many (fuel := 4) [3] rfl (by simp) (by kernel_rfl) (by kernel_rfl) ?_
        intro c hc
        rcases (show c = 3 by simpa using hc) with rfl
        · intro K hK
          simp only [pick1]
          refine step_fill rfl (.tmp 3) (.tmp 5) 22 rfl (w.heap.size + 2) 40 i0 _ 2 16 (by kernel_rfl) hi0 hi1 hi2 hi3 rfl (by decide) g0 rfl G0 p.lt A0 n0 c0 (B.map prow) rfl (by rw [List.length_map]; exact HC.out.h0) (HC.out.below hB (Nat.le_refl _)).r0 (fun r hr => (by obtain ⟨q, _, rfl⟩ := List.mem_map.1 hr; rfl)) (by unfold maxLen; omega) (by omega) ?_
          intro v0 W' G0 hb
          replace o := o.below hb o.lt
          replace p := p.below hb p.lt
          refine hK.out _ _ o ?_
          replace hB := hB.trans (hb.mono hB.size)
          replace G1 := G1.below hb (Nat.le_refl _)
          replace G2 := G2.below hb (Nat.le_refl _)
          clear hb hK
          simp only [Act.put, List.setIfInBounds_toArray, List.set_cons_zero, List.set_cons_succ]
          refine rg_many (fuel := 3) [7] rfl (by simp) (by kernel_rfl) (by kernel_rfl) ?_
          intro c hc
          rcases (show c = 7 by simpa using hc) with rfl
          · intro K hK
            simp only [pick1]
            refine step_fill rfl (.tmp 7) (.tmp 9) 23 rfl (w.heap.size + 2) 33 j0 _ 2 16 (by kernel_rfl) hj0 hj1 hj2 hj3 rfl (by decide) g1 rfl G1 p.lt A1 n1 c1 (D.map prow) rfl (by rw [List.length_map]; exact HC.out.h1) (HC.out.below hB (Nat.le_refl _)).r1 (fun r hr => (by obtain ⟨q, _, rfl⟩ := List.mem_map.1 hr; rfl)) (by unfold maxLen; omega) (by omega) ?_
            intro v1 W' G1 hb
            replace o := o.below hb o.lt
            replace p := p.below hb p.lt
            refine hK.out _ _ o ?_
            replace hB := hB.trans (hb.mono hB.size)
            replace G0 := G0.below hb (Nat.le_refl _)
            replace G2 := G2.below hb (Nat.le_refl _)
            clear hb hK
            simp only [Act.put, List.setIfInBounds_toArray, List.set_cons_zero, List.set_cons_succ]
            refine rg_many (fuel := 2) [11] rfl (by simp) (by kernel_rfl) (by kernel_rfl) ?_
            intro c hc
            rcases (show c = 11 by simpa using hc) with rfl
            · intro K hK
              simp only [pick1]
              refine step_fill rfl (.tmp 11) (.tmp 13) 24 rfl (w.heap.size + 2) 58 k0 _ 4 32 (by kernel_rfl) hk0 hk1 hk2 hk3 rfl (by decide) g2 rfl G2 p.lt A2 n2 c2 (R.map rrow) rfl (by rw [List.length_map]; exact HC.out.h2) (HC.out.below hB (Nat.le_refl _)).r2 (fun r hr => (by obtain ⟨q, _, rfl⟩ := List.mem_map.1 hr; rfl)) (by unfold maxLen; omega) (by omega) ?_
              intro v2 W' G2 hb
              replace o := o.below hb o.lt
              replace p := p.below hb p.lt
              refine hK.out _ _ o ?_
              replace hB := hB.trans (hb.mono hB.size)
              replace G0 := G0.below hb (Nat.le_refl _)
              replace G1 := G1.below hb (Nat.le_refl _)
              clear hb hK
              simp only [Act.put, List.setIfInBounds_toArray, List.set_cons_zero, List.set_cons_succ]
              obtain ⟨X0, Y0, rfl, _⟩ := G0.out
              obtain ⟨X1, Y1, rfl, _⟩ := G1.out
              obtain ⟨X2, Y2, rfl, _⟩ := G2.out
              refine rg_take (fuel := 1) [14] (by kernel_rfl) (by intro _ _ d _ _ h; cases d <;> exact h) rfl (by kernel_rfl) (by kernel_rfl) o ?_
              simp only [pickL, pick1, List.cons_append, List.nil_append]
              (refine wpTake_cons (v := ?_) (Or.inl ⟨by rfl, ?_⟩) ?_; rotate_left; (intro w' hSw; clear hSw; go_simp; (try with_reducible rfl)); (try simp only [Act.put, List.setIfInBounds_toArray, List.set_cons_zero, List.set_cons_succ]))
              refine wpTake_nil ?_
              refine rg_one (fuel := 0) 15 rfl (by kernel_rfl) (by kernel_rfl) ?_
              simp only [pick1, wpHead]
              intro K hK
              rw [if_pos (by rfl)]
              have pc := p.c
              have pf := p.f
              go_simp
              refine hK.out _ _ ?_ ?_
              · exact (((o.setOther (by simp) _).setOther (by simp) _).setOther (by simp) _).setOther (by simp) _
              clear hK K
              refine rg_done (by kernel_rfl) ?_
              have F0 := (((G0.setCell (a := ⟨w.heap.size + 1, 0, none⟩) (by simp) (.slice X0 (B.map prow).length Y0)).setCell (a := ⟨w.heap.size + 1, 1, none⟩) (by simp) (.slice X1 (D.map prow).length Y1)).setCell (a := ⟨w.heap.size + 1, 2, none⟩) (by simp) (.slice X2 (R.map rrow).length Y2)).setCell (a := ⟨w.heap.size + 1, 3, none⟩) (by simp) (.int .i64 cw)
              have F1 := (((G1.setCell (a := ⟨w.heap.size + 1, 0, none⟩) (by simp) (.slice X0 (B.map prow).length Y0)).setCell (a := ⟨w.heap.size + 1, 1, none⟩) (by simp) (.slice X1 (D.map prow).length Y1)).setCell (a := ⟨w.heap.size + 1, 2, none⟩) (by simp) (.slice X2 (R.map rrow).length Y2)).setCell (a := ⟨w.heap.size + 1, 3, none⟩) (by simp) (.int .i64 cw)
              have F2 := (((G2.setCell (a := ⟨w.heap.size + 1, 0, none⟩) (by simp) (.slice X0 (B.map prow).length Y0)).setCell (a := ⟨w.heap.size + 1, 1, none⟩) (by simp) (.slice X1 (D.map prow).length Y1)).setCell (a := ⟨w.heap.size + 1, 2, none⟩) (by simp) (.slice X2 (R.map rrow).length Y2)).setCell (a := ⟨w.heap.size + 1, 3, none⟩) (by simp) (.int .i64 cw)
              have q := own_set4 p rfl (.slice X0 (B.map prow).length Y0) (.slice X1 (D.map prow).length Y1) (.slice X2 (R.map rrow).length Y2) (.int .i64 cw)
              simp only [List.length_map] at F0 F1 F2 q
              have qc0 := (q.c 0).trans (show _ = some (.slice X0 B.length Y0) from rfl)
              have qc1 := (q.c 1).trans (show _ = some (.slice X1 D.length Y1) from rfl)
              have qc2 := (q.c 2).trans (show _ = some (.slice X2 R.length Y2) from rfl)
              have qc3 := (q.c 3).trans (show _ = some (.int .i64 cw) from rfl)
              have hBB : Below w.heap.size w ((((W'.setCell ⟨w.heap.size + 1, 0, none⟩ (.slice X0 B.length Y0)).setCell ⟨w.heap.size + 1, 1, none⟩ (.slice X1 D.length Y1)).setCell ⟨w.heap.size + 1, 2, none⟩ (.slice X2 R.length Y2)).setCell ⟨w.heap.size + 1, 3, none⟩ (.int .i64 cw)) := by (repeat' (first | (with_reducible exact Below.refl _ _) | (with_reducible assumption) | (with_reducible refine Below.drew ?_) | (with_reducible refine below_drewN ?_ _) | (with_reducible refine Below.setCell ?_ ?_ _) | (with_reducible refine Below.alloc ?_ ?_ _) | (refine Below.trans ?_ (Below.mono (by with_reducible assumption) ?_)) | omega | (exact Below.size (by with_reducible assumption)) | (simp; done) | (simp; omega)))
              generalize World.setCell (World.setCell (World.setCell (World.setCell W' _ _) _ _) _ _) _ _ = Wf at F0 F1 F2 q qc0 qc1 qc2 qc3 hBB ⊢
              go_wp2
              (try simp only [Exit.inBlock, Exit.then])
              refine bodyPost_ret (v := .agg #[.slice X0 B.length Y0, .slice X1 D.length Y1, .slice X2 R.length Y2, .int .i64 cw]) (by simp [results, Tryd.results27, go_sem, qc0, qc1, qc2, qc3]) rfl ?_
              exact ⟨_, _, _, rfl, F0.base (by omega), F1.base (by omega), F2.base (by omega), hBB⟩
  · intro K hK
    simp only [pick1]
    refine step_empty (K := K) rfl 23 33 2 (w.heap.size + 2) rfl (by kernel_rfl) j0 hj0 p.lt ?_
    intro g1 W' G1 hb
    replace o := o.below hb o.lt
    replace p := p.below hb p.lt
    refine hK.out _ _ o ?_
    replace hB := hB.trans (hb.mono hB.size)
    clear hb hK
    simp only [Act.put, List.setIfInBounds_toArray, List.set_cons_zero, List.set_cons_succ]
    refine rg_many (fuel := 6) [0, 8] rfl (by simp) (by kernel_rfl) (by kernel_rfl) ?_
    intro c hc
    rcases (show c = 0 ∨ c = 8 by simpa using hc) with rfl | rfl
    · intro K hK
      simp only [pick1]
      refine step_empty (K := K) rfl 22 40 2 (w.heap.size + 2) rfl (by kernel_rfl) i0 hi0 p.lt ?_
      intro g0 W' G0 hb
      replace o := o.below hb o.lt
      replace p := p.below hb p.lt
      refine hK.out _ _ o ?_
      replace hB := hB.trans (hb.mono hB.size)
      replace G1 := G1.below hb (Nat.le_refl _)
      clear hb hK
      simp only [Act.put, List.setIfInBounds_toArray, List.set_cons_zero, List.set_cons_succ]
      refine rg_many (fuel := 5) [3, 8] rfl (by simp) (by kernel_rfl) (by kernel_rfl) ?_
      intro c hc
      rcases (show c = 3 ∨ c = 8 by simpa using hc) with rfl | rfl
      · intro K hK
        simp only [pick1]
        refine step_fill rfl (.tmp 3) (.tmp 5) 22 rfl (w.heap.size + 2) 40 i0 _ 2 16 (by kernel_rfl) hi0 hi1 hi2 hi3 rfl (by decide) g0 rfl G0 p.lt A0 n0 c0 (B.map prow) rfl (by rw [List.length_map]; exact HC.out.h0) (HC.out.below hB (Nat.le_refl _)).r0 (fun r hr => (by obtain ⟨q, _, rfl⟩ := List.mem_map.1 hr; rfl)) (by unfold maxLen; omega) (by omega) ?_
        intro v0 W' G0 hb
        replace o := o.below hb o.lt
        replace p := p.below hb p.lt
        refine hK.out _ _ o ?_
        replace hB := hB.trans (hb.mono hB.size)
        replace G1 := G1.below hb (Nat.le_refl _)
        clear hb hK
        simp only [Act.put, List.setIfInBounds_toArray, List.set_cons_zero, List.set_cons_succ]
        refine rg_many (fuel := 4) [7, 8] rfl (by simp) (by kernel_rfl) (by kernel_rfl) ?_
        intro c hc
        rcases (show c = 7 ∨ c = 8 by simpa using hc) with rfl | rfl
        · intro K hK
          simp only [pick1]
          refine step_fill rfl (.tmp 7) (.tmp 9) 23 rfl (w.heap.size + 2) 33 j0 _ 2 16 (by kernel_rfl) hj0 hj1 hj2 hj3 rfl (by decide) g1 rfl G1 p.lt A1 n1 c1 (D.map prow) rfl (by rw [List.length_map]; exact HC.out.h1) (HC.out.below hB (Nat.le_refl _)).r1 (fun r hr => (by obtain ⟨q, _, rfl⟩ := List.mem_map.1 hr; rfl)) (by unfold maxLen; omega) (by omega) ?_
          intro v1 W' G1 hb
          replace o := o.below hb o.lt
          replace p := p.below hb p.lt
          refine hK.out _ _ o ?_
          replace hB := hB.trans (hb.mono hB.size)
          replace G0 := G0.below hb (Nat.le_refl _)
          clear hb hK
          simp only [Act.put, List.setIfInBounds_toArray, List.set_cons_zero, List.set_cons_succ]
          refine rg_many (fuel := 3) [8] rfl (by simp) (by kernel_rfl) (by kernel_rfl) ?_
          intro c hc
          rcases (show c = 8 by simpa using hc) with rfl
          · intro K hK
            simp only [pick1]
            refine step_empty (K := K) rfl 24 58 4 (w.heap.size + 2) rfl (by kernel_rfl) k0 hk0 p.lt ?_
            intro g2 W' G2 hb
            replace o := o.below hb o.lt
            replace p := p.below hb p.lt
            refine hK.out _ _ o ?_
            replace hB := hB.trans (hb.mono hB.size)
            replace G0 := G0.below hb (Nat.le_refl _)
            replace G1 := G1.below hb (Nat.le_refl _)
            clear hb hK
            simp only [Act.put, List.setIfInBounds_toArray, List.set_cons_zero, List.set_cons_succ]
            refine rg_many (fuel := 2) [11] rfl (by simp) (by kernel_rfl) (by kernel_rfl) ?_
            intro c hc
            rcases (show c = 11 by simpa using hc) with rfl
            · intro K hK
              simp only [pick1]
              refine step_fill rfl (.tmp 11) (.tmp 13) 24 rfl (w.heap.size + 2) 58 k0 _ 4 32 (by kernel_rfl) hk0 hk1 hk2 hk3 rfl (by decide) g2 rfl G2 p.lt A2 n2 c2 (R.map rrow) rfl (by rw [List.length_map]; exact HC.out.h2) (HC.out.below hB (Nat.le_refl _)).r2 (fun r hr => (by obtain ⟨q, _, rfl⟩ := List.mem_map.1 hr; rfl)) (by unfold maxLen; omega) (by omega) ?_
              intro v2 W' G2 hb
              replace o := o.below hb o.lt
              replace p := p.below hb p.lt
              refine hK.out _ _ o ?_
              replace hB := hB.trans (hb.mono hB.size)
              replace G0 := G0.below hb (Nat.le_refl _)
              replace G1 := G1.below hb (Nat.le_refl _)
              clear hb hK
              simp only [Act.put, List.setIfInBounds_toArray, List.set_cons_zero, List.set_cons_succ]
              obtain ⟨X0, Y0, rfl, _⟩ := G0.out
              obtain ⟨X1, Y1, rfl, _⟩ := G1.out
              obtain ⟨X2, Y2, rfl, _⟩ := G2.out
              refine rg_take (fuel := 1) [14] (by kernel_rfl) (by intro _ _ d _ _ h; cases d <;> exact h) rfl (by kernel_rfl) (by kernel_rfl) o ?_
              simp only [pickL, pick1, List.cons_append, List.nil_append]
              (refine wpTake_cons (v := ?_) (Or.inl ⟨by rfl, ?_⟩) ?_; rotate_left; (intro w' hSw; clear hSw; go_simp; (try with_reducible rfl)); (try simp only [Act.put, List.setIfInBounds_toArray, List.set_cons_zero, List.set_cons_succ]))
              refine wpTake_nil ?_
              refine rg_one (fuel := 0) 15 rfl (by kernel_rfl) (by kernel_rfl) ?_
              simp only [pick1, wpHead]
              intro K hK
              rw [if_pos (by rfl)]
              have pc := p.c
              have pf := p.f
              go_simp
              refine hK.out _ _ ?_ ?_
              · exact (((o.setOther (by simp) _).setOther (by simp) _).setOther (by simp) _).setOther (by simp) _
              clear hK K
              refine rg_done (by kernel_rfl) ?_
              have F0 := (((G0.setCell (a := ⟨w.heap.size + 1, 0, none⟩) (by simp) (.slice X0 (B.map prow).length Y0)).setCell (a := ⟨w.heap.size + 1, 1, none⟩) (by simp) (.slice X1 (D.map prow).length Y1)).setCell (a := ⟨w.heap.size + 1, 2, none⟩) (by simp) (.slice X2 (R.map rrow).length Y2)).setCell (a := ⟨w.heap.size + 1, 3, none⟩) (by simp) (.int .i64 cw)
              have F1 := (((G1.setCell (a := ⟨w.heap.size + 1, 0, none⟩) (by simp) (.slice X0 (B.map prow).length Y0)).setCell (a := ⟨w.heap.size + 1, 1, none⟩) (by simp) (.slice X1 (D.map prow).length Y1)).setCell (a := ⟨w.heap.size + 1, 2, none⟩) (by simp) (.slice X2 (R.map rrow).length Y2)).setCell (a := ⟨w.heap.size + 1, 3, none⟩) (by simp) (.int .i64 cw)
              have F2 := (((G2.setCell (a := ⟨w.heap.size + 1, 0, none⟩) (by simp) (.slice X0 (B.map prow).length Y0)).setCell (a := ⟨w.heap.size + 1, 1, none⟩) (by simp) (.slice X1 (D.map prow).length Y1)).setCell (a := ⟨w.heap.size + 1, 2, none⟩) (by simp) (.slice X2 (R.map rrow).length Y2)).setCell (a := ⟨w.heap.size + 1, 3, none⟩) (by simp) (.int .i64 cw)
              have q := own_set4 p rfl (.slice X0 (B.map prow).length Y0) (.slice X1 (D.map prow).length Y1) (.slice X2 (R.map rrow).length Y2) (.int .i64 cw)
              simp only [List.length_map] at F0 F1 F2 q
              have qc0 := (q.c 0).trans (show _ = some (.slice X0 B.length Y0) from rfl)
              have qc1 := (q.c 1).trans (show _ = some (.slice X1 D.length Y1) from rfl)
              have qc2 := (q.c 2).trans (show _ = some (.slice X2 R.length Y2) from rfl)
              have qc3 := (q.c 3).trans (show _ = some (.int .i64 cw) from rfl)
              have hBB : Below w.heap.size w ((((W'.setCell ⟨w.heap.size + 1, 0, none⟩ (.slice X0 B.length Y0)).setCell ⟨w.heap.size + 1, 1, none⟩ (.slice X1 D.length Y1)).setCell ⟨w.heap.size + 1, 2, none⟩ (.slice X2 R.length Y2)).setCell ⟨w.heap.size + 1, 3, none⟩ (.int .i64 cw)) := by (repeat' (first | (with_reducible exact Below.refl _ _) | (with_reducible assumption) | (with_reducible refine Below.drew ?_) | (with_reducible refine below_drewN ?_ _) | (with_reducible refine Below.setCell ?_ ?_ _) | (with_reducible refine Below.alloc ?_ ?_ _) | (refine Below.trans ?_ (Below.mono (by with_reducible assumption) ?_)) | omega | (exact Below.size (by with_reducible assumption)) | (simp; done) | (simp; omega)))
              generalize World.setCell (World.setCell (World.setCell (World.setCell W' _ _) _ _) _ _) _ _ = Wf at F0 F1 F2 q qc0 qc1 qc2 qc3 hBB ⊢
              go_wp2
              (try simp only [Exit.inBlock, Exit.then])
              refine bodyPost_ret (v := .agg #[.slice X0 B.length Y0, .slice X1 D.length Y1, .slice X2 R.length Y2, .int .i64 cw]) (by simp [results, Tryd.results27, go_sem, qc0, qc1, qc2, qc3]) rfl ?_
              exact ⟨_, _, _, rfl, F0.base (by omega), F1.base (by omega), F2.base (by omega), hBB⟩
        · intro K hK
          simp only [pick1]
          refine step_empty (K := K) rfl 24 58 4 (w.heap.size + 2) rfl (by kernel_rfl) k0 hk0 p.lt ?_
          intro g2 W' G2 hb
          replace o := o.below hb o.lt
          replace p := p.below hb p.lt
          refine hK.out _ _ o ?_
          replace hB := hB.trans (hb.mono hB.size)
          replace G0 := G0.below hb (Nat.le_refl _)
          replace G1 := G1.below hb (Nat.le_refl _)
          clear hb hK
          simp only [Act.put, List.setIfInBounds_toArray, List.set_cons_zero, List.set_cons_succ]
          refine rg_many (fuel := 3) [7] rfl (by simp) (by kernel_rfl) (by kernel_rfl) ?_
          intro c hc
          rcases (show c = 7 by simpa using hc) with rfl
          · intro K hK
            simp only [pick1]
            refine step_fill rfl (.tmp 7) (.tmp 9) 23 rfl (w.heap.size + 2) 33 j0 _ 2 16 (by kernel_rfl) hj0 hj1 hj2 hj3 rfl (by decide) g1 rfl G1 p.lt A1 n1 c1 (D.map prow) rfl (by rw [List.length_map]; exact HC.out.h1) (HC.out.below hB (Nat.le_refl _)).r1 (fun r hr => (by obtain ⟨q, _, rfl⟩ := List.mem_map.1 hr; rfl)) (by unfold maxLen; omega) (by omega) ?_
            intro v1 W' G1 hb
            replace o := o.below hb o.lt
            replace p := p.below hb p.lt
            refine hK.out _ _ o ?_
            replace hB := hB.trans (hb.mono hB.size)
            replace G0 := G0.below hb (Nat.le_refl _)
            replace G2 := G2.below hb (Nat.le_refl _)
            clear hb hK
            simp only [Act.put, List.setIfInBounds_toArray, List.set_cons_zero, List.set_cons_succ]
            refine rg_many (fuel := 2) [11] rfl (by simp) (by kernel_rfl) (by kernel_rfl) ?_
            intro c hc
            rcases (show c = 11 by simpa using hc) with rfl
            · intro K hK
              simp only [pick1]
              refine step_fill rfl (.tmp 11) (.tmp 13) 24 rfl (w.heap.size + 2) 58 k0 _ 4 32 (by kernel_rfl) hk0 hk1 hk2 hk3 rfl (by decide) g2 rfl G2 p.lt A2 n2 c2 (R.map rrow) rfl (by rw [List.length_map]; exact HC.out.h2) (HC.out.below hB (Nat.le_refl _)).r2 (fun r hr => (by obtain ⟨q, _, rfl⟩ := List.mem_map.1 hr; rfl)) (by unfold maxLen; omega) (by omega) ?_
              intro v2 W' G2 hb
              replace o := o.below hb o.lt
              replace p := p.below hb p.lt
              refine hK.out _ _ o ?_
              replace hB := hB.trans (hb.mono hB.size)
              replace G0 := G0.below hb (Nat.le_refl _)
              replace G1 := G1.below hb (Nat.le_refl _)
              clear hb hK
              simp only [Act.put, List.setIfInBounds_toArray, List.set_cons_zero, List.set_cons_succ]
              obtain ⟨X0, Y0, rfl, _⟩ := G0.out
              obtain ⟨X1, Y1, rfl, _⟩ := G1.out
              obtain ⟨X2, Y2, rfl, _⟩ := G2.out
              refine rg_take (fuel := 1) [14] (by kernel_rfl) (by intro _ _ d _ _ h; cases d <;> exact h) rfl (by kernel_rfl) (by kernel_rfl) o ?_
              simp only [pickL, pick1, List.cons_append, List.nil_append]
              (refine wpTake_cons (v := ?_) (Or.inl ⟨by rfl, ?_⟩) ?_; rotate_left; (intro w' hSw; clear hSw; go_simp; (try with_reducible rfl)); (try simp only [Act.put, List.setIfInBounds_toArray, List.set_cons_zero, List.set_cons_succ]))
              refine wpTake_nil ?_
              refine rg_one (fuel := 0) 15 rfl (by kernel_rfl) (by kernel_rfl) ?_
              simp only [pick1, wpHead]
              intro K hK
              rw [if_pos (by rfl)]
              have pc := p.c
              have pf := p.f
              go_simp
              refine hK.out _ _ ?_ ?_
              · exact (((o.setOther (by simp) _).setOther (by simp) _).setOther (by simp) _).setOther (by simp) _
              clear hK K
              refine rg_done (by kernel_rfl) ?_
              have F0 := (((G0.setCell (a := ⟨w.heap.size + 1, 0, none⟩) (by simp) (.slice X0 (B.map prow).length Y0)).setCell (a := ⟨w.heap.size + 1, 1, none⟩) (by simp) (.slice X1 (D.map prow).length Y1)).setCell (a := ⟨w.heap.size + 1, 2, none⟩) (by simp) (.slice X2 (R.map rrow).length Y2)).setCell (a := ⟨w.heap.size + 1, 3, none⟩) (by simp) (.int .i64 cw)
              have F1 := (((G1.setCell (a := ⟨w.heap.size + 1, 0, none⟩) (by simp) (.slice X0 (B.map prow).length Y0)).setCell (a := ⟨w.heap.size + 1, 1, none⟩) (by simp) (.slice X1 (D.map prow).length Y1)).setCell (a := ⟨w.heap.size + 1, 2, none⟩) (by simp) (.slice X2 (R.map rrow).length Y2)).setCell (a := ⟨w.heap.size + 1, 3, none⟩) (by simp) (.int .i64 cw)
              have F2 := (((G2.setCell (a := ⟨w.heap.size + 1, 0, none⟩) (by simp) (.slice X0 (B.map prow).length Y0)).setCell (a := ⟨w.heap.size + 1, 1, none⟩) (by simp) (.slice X1 (D.map prow).length Y1)).setCell (a := ⟨w.heap.size + 1, 2, none⟩) (by simp) (.slice X2 (R.map rrow).length Y2)).setCell (a := ⟨w.heap.size + 1, 3, none⟩) (by simp) (.int .i64 cw)
              have q := own_set4 p rfl (.slice X0 (B.map prow).length Y0) (.slice X1 (D.map prow).length Y1) (.slice X2 (R.map rrow).length Y2) (.int .i64 cw)
              simp only [List.length_map] at F0 F1 F2 q
              have qc0 := (q.c 0).trans (show _ = some (.slice X0 B.length Y0) from rfl)
              have qc1 := (q.c 1).trans (show _ = some (.slice X1 D.length Y1) from rfl)
              have qc2 := (q.c 2).trans (show _ = some (.slice X2 R.length Y2) from rfl)
              have qc3 := (q.c 3).trans (show _ = some (.int .i64 cw) from rfl)
              have hBB : Below w.heap.size w ((((W'.setCell ⟨w.heap.size + 1, 0, none⟩ (.slice X0 B.length Y0)).setCell ⟨w.heap.size + 1, 1, none⟩ (.slice X1 D.length Y1)).setCell ⟨w.heap.size + 1, 2, none⟩ (.slice X2 R.length Y2)).setCell ⟨w.heap.size + 1, 3, none⟩ (.int .i64 cw)) := by (repeat' (first | (with_reducible exact Below.refl _ _) | (with_reducible assumption) | (with_reducible refine Below.drew ?_) | (with_reducible refine below_drewN ?_ _) | (with_reducible refine Below.setCell ?_ ?_ _) | (with_reducible refine Below.alloc ?_ ?_ _) | (refine Below.trans ?_ (Below.mono (by with_reducible assumption) ?_)) | omega | (exact Below.size (by with_reducible assumption)) | (simp; done) | (simp; omega)))
              generalize World.setCell (World.setCell (World.setCell (World.setCell W' _ _) _ _) _ _) _ _ = Wf at F0 F1 F2 q qc0 qc1 qc2 qc3 hBB ⊢
              go_wp2
              (try simp only [Exit.inBlock, Exit.then])
              refine bodyPost_ret (v := .agg #[.slice X0 B.length Y0, .slice X1 D.length Y1, .slice X2 R.length Y2, .int .i64 cw]) (by simp [results, Tryd.results27, go_sem, qc0, qc1, qc2, qc3]) rfl ?_
              exact ⟨_, _, _, rfl, F0.base (by omega), F1.base (by omega), F2.base (by omega), hBB⟩
      · intro K hK
        simp only [pick1]
        refine step_empty (K := K) rfl 24 58 4 (w.heap.size + 2) rfl (by kernel_rfl) k0 hk0 p.lt ?_
        intro g2 W' G2 hb
        replace o := o.below hb o.lt
        replace p := p.below hb p.lt
        refine hK.out _ _ o ?_
        replace hB := hB.trans (hb.mono hB.size)
        replace G0 := G0.below hb (Nat.le_refl _)
        replace G1 := G1.below hb (Nat.le_refl _)
        clear hb hK
        simp only [Act.put, List.setIfInBounds_toArray, List.set_cons_zero, List.set_cons_succ]
        refine rg_many (fuel := 4) [3] rfl (by simp) (by kernel_rfl) (by kernel_rfl) ?_
        intro c hc
        rcases (show c = 3 by simpa using hc) with rfl
        · intro K hK
          simp only [pick1]
          refine step_fill rfl (.tmp 3) (.tmp 5) 22 rfl (w.heap.size + 2) 40 i0 _ 2 16 (by kernel_rfl) hi0 hi1 hi2 hi3 rfl (by decide) g0 rfl G0 p.lt A0 n0 c0 (B.map prow) rfl (by rw [List.length_map]; exact HC.out.h0) (HC.out.below hB (Nat.le_refl _)).r0 (fun r hr => (by obtain ⟨q, _, rfl⟩ := List.mem_map.1 hr; rfl)) (by unfold maxLen; omega) (by omega) ?_
          intro v0 W' G0 hb
          replace o := o.below hb o.lt
          replace p := p.below hb p.lt
          refine hK.out _ _ o ?_
          replace hB := hB.trans (hb.mono hB.size)
          replace G1 := G1.below hb (Nat.le_refl _)
          replace G2 := G2.below hb (Nat.le_refl _)
          clear hb hK
          simp only [Act.put, List.setIfInBounds_toArray, List.set_cons_zero, List.set_cons_succ]
          refine rg_many (fuel := 3) [7] rfl (by simp) (by kernel_rfl) (by kernel_rfl) ?_
          intro c hc
          rcases (show c = 7 by simpa using hc) with rfl
          · intro K hK
            simp only [pick1]
            refine step_fill rfl (.tmp 7) (.tmp 9) 23 rfl (w.heap.size + 2) 33 j0 _ 2 16 (by kernel_rfl) hj0 hj1 hj2 hj3 rfl (by decide) g1 rfl G1 p.lt A1 n1 c1 (D.map prow) rfl (by rw [List.length_map]; exact HC.out.h1) (HC.out.below hB (Nat.le_refl _)).r1 (fun r hr => (by obtain ⟨q, _, rfl⟩ := List.mem_map.1 hr; rfl)) (by unfold maxLen; omega) (by omega) ?_
            intro v1 W' G1 hb
            replace o := o.below hb o.lt
            replace p := p.below hb p.lt
            refine hK.out _ _ o ?_
            replace hB := hB.trans (hb.mono hB.size)
            replace G0 := G0.below hb (Nat.le_refl _)
            replace G2 := G2.below hb (Nat.le_refl _)
            clear hb hK
            simp only [Act.put, List.setIfInBounds_toArray, List.set_cons_zero, List.set_cons_succ]
            refine rg_many (fuel := 2) [11] rfl (by simp) (by kernel_rfl) (by kernel_rfl) ?_
            intro c hc
            rcases (show c = 11 by simpa using hc) with rfl
            · intro K hK
              simp only [pick1]
              refine step_fill rfl (.tmp 11) (.tmp 13) 24 rfl (w.heap.size + 2) 58 k0 _ 4 32 (by kernel_rfl) hk0 hk1 hk2 hk3 rfl (by decide) g2 rfl G2 p.lt A2 n2 c2 (R.map rrow) rfl (by rw [List.length_map]; exact HC.out.h2) (HC.out.below hB (Nat.le_refl _)).r2 (fun r hr => (by obtain ⟨q, _, rfl⟩ := List.mem_map.1 hr; rfl)) (by unfold maxLen; omega) (by omega) ?_
              intro v2 W' G2 hb
              replace o := o.below hb o.lt
              replace p := p.below hb p.lt
              refine hK.out _ _ o ?_
              replace hB := hB.trans (hb.mono hB.size)
              replace G0 := G0.below hb (Nat.le_refl _)
              replace G1 := G1.below hb (Nat.le_refl _)
              clear hb hK
              simp only [Act.put, List.setIfInBounds_toArray, List.set_cons_zero, List.set_cons_succ]
              obtain ⟨X0, Y0, rfl, _⟩ := G0.out
              obtain ⟨X1, Y1, rfl, _⟩ := G1.out
              obtain ⟨X2, Y2, rfl, _⟩ := G2.out
              refine rg_take (fuel := 1) [14] (by kernel_rfl) (by intro _ _ d _ _ h; cases d <;> exact h) rfl (by kernel_rfl) (by kernel_rfl) o ?_
              simp only [pickL, pick1, List.cons_append, List.nil_append]
              (refine wpTake_cons (v := ?_) (Or.inl ⟨by rfl, ?_⟩) ?_; rotate_left; (intro w' hSw; clear hSw; go_simp; (try with_reducible rfl)); (try simp only [Act.put, List.setIfInBounds_toArray, List.set_cons_zero, List.set_cons_succ]))
              refine wpTake_nil ?_
              refine rg_one (fuel := 0) 15 rfl (by kernel_rfl) (by kernel_rfl) ?_
              simp only [pick1, wpHead]
              intro K hK
              rw [if_pos (by rfl)]
              have pc := p.c
              have pf := p.f
              go_simp
              refine hK.out _ _ ?_ ?_
              · exact (((o.setOther (by simp) _).setOther (by simp) _).setOther (by simp) _).setOther (by simp) _
              clear hK K
              refine rg_done (by kernel_rfl) ?_
              have F0 := (((G0.setCell (a := ⟨w.heap.size + 1, 0, none⟩) (by simp) (.slice X0 (B.map prow).length Y0)).setCell (a := ⟨w.heap.size + 1, 1, none⟩) (by simp) (.slice X1 (D.map prow).length Y1)).setCell (a := ⟨w.heap.size + 1, 2, none⟩) (by simp) (.slice X2 (R.map rrow).length Y2)).setCell (a := ⟨w.heap.size + 1, 3, none⟩) (by simp) (.int .i64 cw)
              have F1 := (((G1.setCell (a := ⟨w.heap.size + 1, 0, none⟩) (by simp) (.slice X0 (B.map prow).length Y0)).setCell (a := ⟨w.heap.size + 1, 1, none⟩) (by simp) (.slice X1 (D.map prow).length Y1)).setCell (a := ⟨w.heap.size + 1, 2, none⟩) (by simp) (.slice X2 (R.map rrow).length Y2)).setCell (a := ⟨w.heap.size + 1, 3, none⟩) (by simp) (.int .i64 cw)
              have F2 := (((G2.setCell (a := ⟨w.heap.size + 1, 0, none⟩) (by simp) (.slice X0 (B.map prow).length Y0)).setCell (a := ⟨w.heap.size + 1, 1, none⟩) (by simp) (.slice X1 (D.map prow).length Y1)).setCell (a := ⟨w.heap.size + 1, 2, none⟩) (by simp) (.slice X2 (R.map rrow).length Y2)).setCell (a := ⟨w.heap.size + 1, 3, none⟩) (by simp) (.int .i64 cw)
              have q := own_set4 p rfl (.slice X0 (B.map prow).length Y0) (.slice X1 (D.map prow).length Y1) (.slice X2 (R.map rrow).length Y2) (.int .i64 cw)
              simp only [List.length_map] at F0 F1 F2 q
              have qc0 := (q.c 0).trans (show _ = some (.slice X0 B.length Y0) from rfl)
              have qc1 := (q.c 1).trans (show _ = some (.slice X1 D.length Y1) from rfl)
              have qc2 := (q.c 2).trans (show _ = some (.slice X2 R.length Y2) from rfl)
              have qc3 := (q.c 3).trans (show _ = some (.int .i64 cw) from rfl)
              have hBB : Below w.heap.size w ((((W'.setCell ⟨w.heap.size + 1, 0, none⟩ (.slice X0 B.length Y0)).setCell ⟨w.heap.size + 1, 1, none⟩ (.slice X1 D.length Y1)).setCell ⟨w.heap.size + 1, 2, none⟩ (.slice X2 R.length Y2)).setCell ⟨w.heap.size + 1, 3, none⟩ (.int .i64 cw)) := by (repeat' (first | (with_reducible exact Below.refl _ _) | (with_reducible assumption) | (with_reducible refine Below.drew ?_) | (with_reducible refine below_drewN ?_ _) | (with_reducible refine Below.setCell ?_ ?_ _) | (with_reducible refine Below.alloc ?_ ?_ _) | (refine Below.trans ?_ (Below.mono (by with_reducible assumption) ?_)) | omega | (exact Below.size (by with_reducible assumption)) | (simp; done) | (simp; omega)))
              generalize World.setCell (World.setCell (World.setCell (World.setCell W' _ _) _ _) _ _) _ _ = Wf at F0 F1 F2 q qc0 qc1 qc2 qc3 hBB ⊢
              go_wp2
              (try simp only [Exit.inBlock, Exit.then])
              refine bodyPost_ret (v := .agg #[.slice X0 B.length Y0, .slice X1 D.length Y1, .slice X2 R.length Y2, .int .i64 cw]) (by simp [results, Tryd.results27, go_sem, qc0, qc1, qc2, qc3]) rfl ?_
              exact ⟨_, _, _, rfl, F0.base (by omega), F1.base (by omega), F2.base (by omega), hBB⟩
    · intro K hK
      simp only [pick1]
      refine step_empty (K := K) rfl 24 58 4 (w.heap.size + 2) rfl (by kernel_rfl) k0 hk0 p.lt ?_
      intro g2 W' G2 hb
      replace o := o.below hb o.lt
      replace p := p.below hb p.lt
      refine hK.out _ _ o ?_
      replace hB := hB.trans (hb.mono hB.size)
      replace G1 := G1.below hb (Nat.le_refl _)
      clear hb hK
      simp only [Act.put, List.setIfInBounds_toArray, List.set_cons_zero, List.set_cons_succ]
      refine rg_many (fuel := 5) [0] rfl (by simp) (by kernel_rfl) (by kernel_rfl) ?_
      intro c hc
      rcases (show c = 0 by simpa using hc) with rfl
      · intro K hK
        simp only [pick1]
        refine step_empty (K := K) rfl 22 40 2 (w.heap.size + 2) rfl (by kernel_rfl) i0 hi0 p.lt ?_
        intro g0 W' G0 hb
        replace o := o.below hb o.lt
        replace p := p.below hb p.lt
        refine hK.out _ _ o ?_
        replace hB := hB.trans (hb.mono hB.size)
        replace G1 := G1.below hb (Nat.le_refl _)
        replace G2 := G2.below hb (Nat.le_refl _)
        clear hb hK
        simp only [Act.put, List.setIfInBounds_toArray, List.set_cons_zero, List.set_cons_succ]
        refine rg_many (fuel := 4) [3] rfl (by simp) (by kernel_rfl) (by kernel_rfl) ?_
        intro c hc
        rcases (show c = 3 by simpa using hc) with rfl
        · intro K hK
          simp only [pick1]
          refine step_fill rfl (.tmp 3) (.tmp 5) 22 rfl (w.heap.size + 2) 40 i0 _ 2 16 (by kernel_rfl) hi0 hi1 hi2 hi3 rfl (by decide) g0 rfl G0 p.lt A0 n0 c0 (B.map prow) rfl (by rw [List.length_map]; exact HC.out.h0) (HC.out.below hB (Nat.le_refl _)).r0 (fun r hr => (by obtain ⟨q, _, rfl⟩ := List.mem_map.1 hr; rfl)) (by unfold maxLen; omega) (by omega) ?_
          intro v0 W' G0 hb
          replace o := o.below hb o.lt
          replace p := p.below hb p.lt
          refine hK.out _ _ o ?_
          replace hB := hB.trans (hb.mono hB.size)
          replace G1 := G1.below hb (Nat.le_refl _)
          replace G2 := G2.below hb (Nat.le_refl _)
          clear hb hK
          simp only [Act.put, List.setIfInBounds_toArray, List.set_cons_zero, List.set_cons_succ]
          refine rg_many (fuel := 3) [7] rfl (by simp) (by kernel_rfl) (by kernel_rfl) ?_
          intro c hc
          rcases (show c = 7 by simpa using hc) with rfl
          · intro K hK
            simp only [pick1]
            refine step_fill rfl (.tmp 7) (.tmp 9) 23 rfl (w.heap.size + 2) 33 j0 _ 2 16 (by kernel_rfl) hj0 hj1 hj2 hj3 rfl (by decide) g1 rfl G1 p.lt A1 n1 c1 (D.map prow) rfl (by rw [List.length_map]; exact HC.out.h1) (HC.out.below hB (Nat.le_refl _)).r1 (fun r hr => (by obtain ⟨q, _, rfl⟩ := List.mem_map.1 hr; rfl)) (by unfold maxLen; omega) (by omega) ?_
            intro v1 W' G1 hb
            replace o := o.below hb o.lt
            replace p := p.below hb p.lt
            refine hK.out _ _ o ?_
            replace hB := hB.trans (hb.mono hB.size)
            replace G0 := G0.below hb (Nat.le_refl _)
            replace G2 := G2.below hb (Nat.le_refl _)
            clear hb hK
            simp only [Act.put, List.setIfInBounds_toArray, List.set_cons_zero, List.set_cons_succ]
            refine rg_many (fuel := 2) [11] rfl (by simp) (by kernel_rfl) (by kernel_rfl) ?_
            intro c hc
            rcases (show c = 11 by simpa using hc) with rfl
            · intro K hK
              simp only [pick1]
              refine step_fill rfl (.tmp 11) (.tmp 13) 24 rfl (w.heap.size + 2) 58 k0 _ 4 32 (by kernel_rfl) hk0 hk1 hk2 hk3 rfl (by decide) g2 rfl G2 p.lt A2 n2 c2 (R.map rrow) rfl (by rw [List.length_map]; exact HC.out.h2) (HC.out.below hB (Nat.le_refl _)).r2 (fun r hr => (by obtain ⟨q, _, rfl⟩ := List.mem_map.1 hr; rfl)) (by unfold maxLen; omega) (by omega) ?_
              intro v2 W' G2 hb
              replace o := o.below hb o.lt
              replace p := p.below hb p.lt
              refine hK.out _ _ o ?_
              replace hB := hB.trans (hb.mono hB.size)
              replace G0 := G0.below hb (Nat.le_refl _)
              replace G1 := G1.below hb (Nat.le_refl _)
              clear hb hK
              simp only [Act.put, List.setIfInBounds_toArray, List.set_cons_zero, List.set_cons_succ]
              obtain ⟨X0, Y0, rfl, _⟩ := G0.out
              obtain ⟨X1, Y1, rfl, _⟩ := G1.out
              obtain ⟨X2, Y2, rfl, _⟩ := G2.out
              refine rg_take (fuel := 1) [14] (by kernel_rfl) (by intro _ _ d _ _ h; cases d <;> exact h) rfl (by kernel_rfl) (by kernel_rfl) o ?_
              simp only [pickL, pick1, List.cons_append, List.nil_append]
              (refine wpTake_cons (v := ?_) (Or.inl ⟨by rfl, ?_⟩) ?_; rotate_left; (intro w' hSw; clear hSw; go_simp; (try with_reducible rfl)); (try simp only [Act.put, List.setIfInBounds_toArray, List.set_cons_zero, List.set_cons_succ]))
              refine wpTake_nil ?_
              refine rg_one (fuel := 0) 15 rfl (by kernel_rfl) (by kernel_rfl) ?_
              simp only [pick1, wpHead]
              intro K hK
              rw [if_pos (by rfl)]
              have pc := p.c
              have pf := p.f
              go_simp
              refine hK.out _ _ ?_ ?_
              · exact (((o.setOther (by simp) _).setOther (by simp) _).setOther (by simp) _).setOther (by simp) _
              clear hK K
              refine rg_done (by kernel_rfl) ?_
              have F0 := (((G0.setCell (a := ⟨w.heap.size + 1, 0, none⟩) (by simp) (.slice X0 (B.map prow).length Y0)).setCell (a := ⟨w.heap.size + 1, 1, none⟩) (by simp) (.slice X1 (D.map prow).length Y1)).setCell (a := ⟨w.heap.size + 1, 2, none⟩) (by simp) (.slice X2 (R.map rrow).length Y2)).setCell (a := ⟨w.heap.size + 1, 3, none⟩) (by simp) (.int .i64 cw)
              have F1 := (((G1.setCell (a := ⟨w.heap.size + 1, 0, none⟩) (by simp) (.slice X0 (B.map prow).length Y0)).setCell (a := ⟨w.heap.size + 1, 1, none⟩) (by simp) (.slice X1 (D.map prow).length Y1)).setCell (a := ⟨w.heap.size + 1, 2, none⟩) (by simp) (.slice X2 (R.map rrow).length Y2)).setCell (a := ⟨w.heap.size + 1, 3, none⟩) (by simp) (.int .i64 cw)
              have F2 := (((G2.setCell (a := ⟨w.heap.size + 1, 0, none⟩) (by simp) (.slice X0 (B.map prow).length Y0)).setCell (a := ⟨w.heap.size + 1, 1, none⟩) (by simp) (.slice X1 (D.map prow).length Y1)).setCell (a := ⟨w.heap.size + 1, 2, none⟩) (by simp) (.slice X2 (R.map rrow).length Y2)).setCell (a := ⟨w.heap.size + 1, 3, none⟩) (by simp) (.int .i64 cw)
              have q := own_set4 p rfl (.slice X0 (B.map prow).length Y0) (.slice X1 (D.map prow).length Y1) (.slice X2 (R.map rrow).length Y2) (.int .i64 cw)
              simp only [List.length_map] at F0 F1 F2 q
              have qc0 := (q.c 0).trans (show _ = some (.slice X0 B.length Y0) from rfl)
              have qc1 := (q.c 1).trans (show _ = some (.slice X1 D.length Y1) from rfl)
              have qc2 := (q.c 2).trans (show _ = some (.slice X2 R.length Y2) from rfl)
              have qc3 := (q.c 3).trans (show _ = some (.int .i64 cw) from rfl)
              have hBB : Below w.heap.size w ((((W'.setCell ⟨w.heap.size + 1, 0, none⟩ (.slice X0 B.length Y0)).setCell ⟨w.heap.size + 1, 1, none⟩ (.slice X1 D.length Y1)).setCell ⟨w.heap.size + 1, 2, none⟩ (.slice X2 R.length Y2)).setCell ⟨w.heap.size + 1, 3, none⟩ (.int .i64 cw)) := by (repeat' (first | (with_reducible exact Below.refl _ _) | (with_reducible assumption) | (with_reducible refine Below.drew ?_) | (with_reducible refine below_drewN ?_ _) | (with_reducible refine Below.setCell ?_ ?_ _) | (with_reducible refine Below.alloc ?_ ?_ _) | (refine Below.trans ?_ (Below.mono (by with_reducible assumption) ?_)) | omega | (exact Below.size (by with_reducible assumption)) | (simp; done) | (simp; omega)))
              generalize World.setCell (World.setCell (World.setCell (World.setCell W' _ _) _ _) _ _) _ _ = Wf at F0 F1 F2 q qc0 qc1 qc2 qc3 hBB ⊢
              go_wp2
              (try simp only [Exit.inBlock, Exit.then])
              refine bodyPost_ret (v := .agg #[.slice X0 B.length Y0, .slice X1 D.length Y1, .slice X2 R.length Y2, .int .i64 cw]) (by simp [results, Tryd.results27, go_sem, qc0, qc1, qc2, qc3]) rfl ?_
              exact ⟨_, _, _, rfl, F0.base (by omega), F1.base (by omega), F2.base (by omega), hBB⟩
  · intro K hK
    simp only [pick1]
    refine step_empty (K := K) rfl 24 58 4 (w.heap.size + 2) rfl (by kernel_rfl) k0 hk0 p.lt ?_
    intro g2 W' G2 hb
    replace o := o.below hb o.lt
    replace p := p.below hb p.lt
    refine hK.out _ _ o ?_
    replace hB := hB.trans (hb.mono hB.size)
    clear hb hK
    simp only [Act.put, List.setIfInBounds_toArray, List.set_cons_zero, List.set_cons_succ]
    refine rg_many (fuel := 6) [0, 4] rfl (by simp) (by kernel_rfl) (by kernel_rfl) ?_
    intro c hc
    rcases (show c = 0 ∨ c = 4 by simpa using hc) with rfl | rfl
    · intro K hK
      simp only [pick1]
      refine step_empty (K := K) rfl 22 40 2 (w.heap.size + 2) rfl (by kernel_rfl) i0 hi0 p.lt ?_
      intro g0 W' G0 hb
      replace o := o.below hb o.lt
      replace p := p.below hb p.lt
      refine hK.out _ _ o ?_
      replace hB := hB.trans (hb.mono hB.size)
      replace G2 := G2.below hb (Nat.le_refl _)
      clear hb hK
      simp only [Act.put, List.setIfInBounds_toArray, List.set_cons_zero, List.set_cons_succ]
      refine rg_many (fuel := 5) [3, 4] rfl (by simp) (by kernel_rfl) (by kernel_rfl) ?_
      intro c hc
      rcases (show c = 3 ∨ c = 4 by simpa using hc) with rfl | rfl
      · intro K hK
        simp only [pick1]
        refine step_fill rfl (.tmp 3) (.tmp 5) 22 rfl (w.heap.size + 2) 40 i0 _ 2 16 (by kernel_rfl) hi0 hi1 hi2 hi3 rfl (by decide) g0 rfl G0 p.lt A0 n0 c0 (B.map prow) rfl (by rw [List.length_map]; exact HC.out.h0) (HC.out.below hB (Nat.le_refl _)).r0 (fun r hr => (by obtain ⟨q, _, rfl⟩ := List.mem_map.1 hr; rfl)) (by unfold maxLen; omega) (by omega) ?_
        intro v0 W' G0 hb
        replace o := o.below hb o.lt
        replace p := p.below hb p.lt
        refine hK.out _ _ o ?_
        replace hB := hB.trans (hb.mono hB.size)
        replace G2 := G2.below hb (Nat.le_refl _)
        clear hb hK
        simp only [Act.put, List.setIfInBounds_toArray, List.set_cons_zero, List.set_cons_succ]
        refine rg_many (fuel := 4) [4] rfl (by simp) (by kernel_rfl) (by kernel_rfl) ?_
        intro c hc
        rcases (show c = 4 by simpa using hc) with rfl
        · intro K hK
          simp only [pick1]
          refine step_empty (K := K) rfl 23 33 2 (w.heap.size + 2) rfl (by kernel_rfl) j0 hj0 p.lt ?_
          intro g1 W' G1 hb
          replace o := o.below hb o.lt
          replace p := p.below hb p.lt
          refine hK.out _ _ o ?_
          replace hB := hB.trans (hb.mono hB.size)
          replace G0 := G0.below hb (Nat.le_refl _)
          replace G2 := G2.below hb (Nat.le_refl _)
          clear hb hK
          simp only [Act.put, List.setIfInBounds_toArray, List.set_cons_zero, List.set_cons_succ]
          refine rg_many (fuel := 3) [7] rfl (by simp) (by kernel_rfl) (by kernel_rfl) ?_
          intro c hc
          rcases (show c = 7 by simpa using hc) with rfl
          · intro K hK
            simp only [pick1]
            refine step_fill rfl (.tmp 7) (.tmp 9) 23 rfl (w.heap.size + 2) 33 j0 _ 2 16 (by kernel_rfl) hj0 hj1 hj2 hj3 rfl (by decide) g1 rfl G1 p.lt A1 n1 c1 (D.map prow) rfl (by rw [List.length_map]; exact HC.out.h1) (HC.out.below hB (Nat.le_refl _)).r1 (fun r hr => (by obtain ⟨q, _, rfl⟩ := List.mem_map.1 hr; rfl)) (by unfold maxLen; omega) (by omega) ?_
            intro v1 W' G1 hb
            replace o := o.below hb o.lt
            replace p := p.below hb p.lt
            refine hK.out _ _ o ?_
            replace hB := hB.trans (hb.mono hB.size)
            replace G0 := G0.below hb (Nat.le_refl _)
            replace G2 := G2.below hb (Nat.le_refl _)
            clear hb hK
            simp only [Act.put, List.setIfInBounds_toArray, List.set_cons_zero, List.set_cons_succ]
            refine rg_many (fuel := 2) [11] rfl (by simp) (by kernel_rfl) (by kernel_rfl) ?_
            intro c hc
            rcases (show c = 11 by simpa using hc) with rfl
            · intro K hK
              simp only [pick1]
              refine step_fill rfl (.tmp 11) (.tmp 13) 24 rfl (w.heap.size + 2) 58 k0 _ 4 32 (by kernel_rfl) hk0 hk1 hk2 hk3 rfl (by decide) g2 rfl G2 p.lt A2 n2 c2 (R.map rrow) rfl (by rw [List.length_map]; exact HC.out.h2) (HC.out.below hB (Nat.le_refl _)).r2 (fun r hr => (by obtain ⟨q, _, rfl⟩ := List.mem_map.1 hr; rfl)) (by unfold maxLen; omega) (by omega) ?_
              intro v2 W' G2 hb
              replace o := o.below hb o.lt
              replace p := p.below hb p.lt
              refine hK.out _ _ o ?_
              replace hB := hB.trans (hb.mono hB.size)
              replace G0 := G0.below hb (Nat.le_refl _)
              replace G1 := G1.below hb (Nat.le_refl _)
              clear hb hK
              simp only [Act.put, List.setIfInBounds_toArray, List.set_cons_zero, List.set_cons_succ]
              obtain ⟨X0, Y0, rfl, _⟩ := G0.out
              obtain ⟨X1, Y1, rfl, _⟩ := G1.out
              obtain ⟨X2, Y2, rfl, _⟩ := G2.out
              refine rg_take (fuel := 1) [14] (by kernel_rfl) (by intro _ _ d _ _ h; cases d <;> exact h) rfl (by kernel_rfl) (by kernel_rfl) o ?_
              simp only [pickL, pick1, List.cons_append, List.nil_append]
              (refine wpTake_cons (v := ?_) (Or.inl ⟨by rfl, ?_⟩) ?_; rotate_left; (intro w' hSw; clear hSw; go_simp; (try with_reducible rfl)); (try simp only [Act.put, List.setIfInBounds_toArray, List.set_cons_zero, List.set_cons_succ]))
              refine wpTake_nil ?_
              refine rg_one (fuel := 0) 15 rfl (by kernel_rfl) (by kernel_rfl) ?_
              simp only [pick1, wpHead]
              intro K hK
              rw [if_pos (by rfl)]
              have pc := p.c
              have pf := p.f
              go_simp
              refine hK.out _ _ ?_ ?_
              · exact (((o.setOther (by simp) _).setOther (by simp) _).setOther (by simp) _).setOther (by simp) _
              clear hK K
              refine rg_done (by kernel_rfl) ?_
              have F0 := (((G0.setCell (a := ⟨w.heap.size + 1, 0, none⟩) (by simp) (.slice X0 (B.map prow).length Y0)).setCell (a := ⟨w.heap.size + 1, 1, none⟩) (by simp) (.slice X1 (D.map prow).length Y1)).setCell (a := ⟨w.heap.size + 1, 2, none⟩) (by simp) (.slice X2 (R.map rrow).length Y2)).setCell (a := ⟨w.heap.size + 1, 3, none⟩) (by simp) (.int .i64 cw)
              have F1 := (((G1.setCell (a := ⟨w.heap.size + 1, 0, none⟩) (by simp) (.slice X0 (B.map prow).length Y0)).setCell (a := ⟨w.heap.size + 1, 1, none⟩) (by simp) (.slice X1 (D.map prow).length Y1)).setCell (a := ⟨w.heap.size + 1, 2, none⟩) (by simp) (.slice X2 (R.map rrow).length Y2)).setCell (a := ⟨w.heap.size + 1, 3, none⟩) (by simp) (.int .i64 cw)
              have F2 := (((G2.setCell (a := ⟨w.heap.size + 1, 0, none⟩) (by simp) (.slice X0 (B.map prow).length Y0)).setCell (a := ⟨w.heap.size + 1, 1, none⟩) (by simp) (.slice X1 (D.map prow).length Y1)).setCell (a := ⟨w.heap.size + 1, 2, none⟩) (by simp) (.slice X2 (R.map rrow).length Y2)).setCell (a := ⟨w.heap.size + 1, 3, none⟩) (by simp) (.int .i64 cw)
              have q := own_set4 p rfl (.slice X0 (B.map prow).length Y0) (.slice X1 (D.map prow).length Y1) (.slice X2 (R.map rrow).length Y2) (.int .i64 cw)
              simp only [List.length_map] at F0 F1 F2 q
              have qc0 := (q.c 0).trans (show _ = some (.slice X0 B.length Y0) from rfl)
              have qc1 := (q.c 1).trans (show _ = some (.slice X1 D.length Y1) from rfl)
              have qc2 := (q.c 2).trans (show _ = some (.slice X2 R.length Y2) from rfl)
              have qc3 := (q.c 3).trans (show _ = some (.int .i64 cw) from rfl)
              have hBB : Below w.heap.size w ((((W'.setCell ⟨w.heap.size + 1, 0, none⟩ (.slice X0 B.length Y0)).setCell ⟨w.heap.size + 1, 1, none⟩ (.slice X1 D.length Y1)).setCell ⟨w.heap.size + 1, 2, none⟩ (.slice X2 R.length Y2)).setCell ⟨w.heap.size + 1, 3, none⟩ (.int .i64 cw)) := by (repeat' (first | (with_reducible exact Below.refl _ _) | (with_reducible assumption) | (with_reducible refine Below.drew ?_) | (with_reducible refine below_drewN ?_ _) | (with_reducible refine Below.setCell ?_ ?_ _) | (with_reducible refine Below.alloc ?_ ?_ _) | (refine Below.trans ?_ (Below.mono (by with_reducible assumption) ?_)) | omega | (exact Below.size (by with_reducible assumption)) | (simp; done) | (simp; omega)))
              generalize World.setCell (World.setCell (World.setCell (World.setCell W' _ _) _ _) _ _) _ _ = Wf at F0 F1 F2 q qc0 qc1 qc2 qc3 hBB ⊢
              go_wp2
              (try simp only [Exit.inBlock, Exit.then])
              refine bodyPost_ret (v := .agg #[.slice X0 B.length Y0, .slice X1 D.length Y1, .slice X2 R.length Y2, .int .i64 cw]) (by simp [results, Tryd.results27, go_sem, qc0, qc1, qc2, qc3]) rfl ?_
              exact ⟨_, _, _, rfl, F0.base (by omega), F1.base (by omega), F2.base (by omega), hBB⟩
      · intro K hK
        simp only [pick1]
        refine step_empty (K := K) rfl 23 33 2 (w.heap.size + 2) rfl (by kernel_rfl) j0 hj0 p.lt ?_
        intro g1 W' G1 hb
        replace o := o.below hb o.lt
        replace p := p.below hb p.lt
        refine hK.out _ _ o ?_
        replace hB := hB.trans (hb.mono hB.size)
        replace G0 := G0.below hb (Nat.le_refl _)
        replace G2 := G2.below hb (Nat.le_refl _)
        clear hb hK
        simp only [Act.put, List.setIfInBounds_toArray, List.set_cons_zero, List.set_cons_succ]
        refine rg_many (fuel := 4) [3] rfl (by simp) (by kernel_rfl) (by kernel_rfl) ?_
        intro c hc
        rcases (show c = 3 by simpa using hc) with rfl
        · intro K hK
          simp only [pick1]
          refine step_fill rfl (.tmp 3) (.tmp 5) 22 rfl (w.heap.size + 2) 40 i0 _ 2 16 (by kernel_rfl) hi0 hi1 hi2 hi3 rfl (by decide) g0 rfl G0 p.lt A0 n0 c0 (B.map prow) rfl (by rw [List.length_map]; exact HC.out.h0) (HC.out.below hB (Nat.le_refl _)).r0 (fun r hr => (by obtain ⟨q, _, rfl⟩ := List.mem_map.1 hr; rfl)) (by unfold maxLen; omega) (by omega) ?_
          intro v0 W' G0 hb
          replace o := o.below hb o.lt
          replace p := p.below hb p.lt
          refine hK.out _ _ o ?_
          replace hB := hB.trans (hb.mono hB.size)
          replace G1 := G1.below hb (Nat.le_refl _)
          replace G2 := G2.below hb (Nat.le_refl _)
          clear hb hK
          simp only [Act.put, List.setIfInBounds_toArray, List.set_cons_zero, List.set_cons_succ]
          refine rg_many (fuel := 3) [7] rfl (by simp) (by kernel_rfl) (by kernel_rfl) ?_
          intro c hc
          rcases (show c = 7 by simpa using hc) with rfl
          · intro K hK
            simp only [pick1]
            refine step_fill rfl (.tmp 7) (.tmp 9) 23 rfl (w.heap.size + 2) 33 j0 _ 2 16 (by kernel_rfl) hj0 hj1 hj2 hj3 rfl (by decide) g1 rfl G1 p.lt A1 n1 c1 (D.map prow) rfl (by rw [List.length_map]; exact HC.out.h1) (HC.out.below hB (Nat.le_refl _)).r1 (fun r hr => (by obtain ⟨q, _, rfl⟩ := List.mem_map.1 hr; rfl)) (by unfold maxLen; omega) (by omega) ?_
            intro v1 W' G1 hb
            replace o := o.below hb o.lt
            replace p := p.below hb p.lt
            refine hK.out _ _ o ?_
            replace hB := hB.trans (hb.mono hB.size)
            replace G0 := G0.below hb (Nat.le_refl _)
            replace G2 := G2.below hb (Nat.le_refl _)
            clear hb hK
            simp only [Act.put, List.setIfInBounds_toArray, List.set_cons_zero, List.set_cons_succ]
            refine rg_many (fuel := 2) [11] rfl (by simp) (by kernel_rfl) (by kernel_rfl) ?_
            intro c hc
            rcases (show c = 11 by simpa using hc) with rfl
            · intro K hK
              simp only [pick1]
              refine step_fill rfl (.tmp 11) (.tmp 13) 24 rfl (w.heap.size + 2) 58 k0 _ 4 32 (by kernel_rfl) hk0 hk1 hk2 hk3 rfl (by decide) g2 rfl G2 p.lt A2 n2 c2 (R.map rrow) rfl (by rw [List.length_map]; exact HC.out.h2) (HC.out.below hB (Nat.le_refl _)).r2 (fun r hr => (by obtain ⟨q, _, rfl⟩ := List.mem_map.1 hr; rfl)) (by unfold maxLen; omega) (by omega) ?_
              intro v2 W' G2 hb
              replace o := o.below hb o.lt
              replace p := p.below hb p.lt
              refine hK.out _ _ o ?_
              replace hB := hB.trans (hb.mono hB.size)
              replace G0 := G0.below hb (Nat.le_refl _)
              replace G1 := G1.below hb (Nat.le_refl _)
              clear hb hK
              simp only [Act.put, List.setIfInBounds_toArray, List.set_cons_zero, List.set_cons_succ]
              obtain ⟨X0, Y0, rfl, _⟩ := G0.out
              obtain ⟨X1, Y1, rfl, _⟩ := G1.out
              obtain ⟨X2, Y2, rfl, _⟩ := G2.out
              refine rg_take (fuel := 1) [14] (by kernel_rfl) (by intro _ _ d _ _ h; cases d <;> exact h) rfl (by kernel_rfl) (by kernel_rfl) o ?_
              simp only [pickL, pick1, List.cons_append, List.nil_append]
              (refine wpTake_cons (v := ?_) (Or.inl ⟨by rfl, ?_⟩) ?_; rotate_left; (intro w' hSw; clear hSw; go_simp; (try with_reducible rfl)); (try simp only [Act.put, List.setIfInBounds_toArray, List.set_cons_zero, List.set_cons_succ]))
              refine wpTake_nil ?_
              refine rg_one (fuel := 0) 15 rfl (by kernel_rfl) (by kernel_rfl) ?_
              simp only [pick1, wpHead]
              intro K hK
              rw [if_pos (by rfl)]
              have pc := p.c
              have pf := p.f
              go_simp
              refine hK.out _ _ ?_ ?_
              · exact (((o.setOther (by simp) _).setOther (by simp) _).setOther (by simp) _).setOther (by simp) _
              clear hK K
              refine rg_done (by kernel_rfl) ?_
              have F0 := (((G0.setCell (a := ⟨w.heap.size + 1, 0, none⟩) (by simp) (.slice X0 (B.map prow).length Y0)).setCell (a := ⟨w.heap.size + 1, 1, none⟩) (by simp) (.slice X1 (D.map prow).length Y1)).setCell (a := ⟨w.heap.size + 1, 2, none⟩) (by simp) (.slice X2 (R.map rrow).length Y2)).setCell (a := ⟨w.heap.size + 1, 3, none⟩) (by simp) (.int .i64 cw)
              have F1 := (((G1.setCell (a := ⟨w.heap.size + 1, 0, none⟩) (by simp) (.slice X0 (B.map prow).length Y0)).setCell (a := ⟨w.heap.size + 1, 1, none⟩) (by simp) (.slice X1 (D.map prow).length Y1)).setCell (a := ⟨w.heap.size + 1, 2, none⟩) (by simp) (.slice X2 (R.map rrow).length Y2)).setCell (a := ⟨w.heap.size + 1, 3, none⟩) (by simp) (.int .i64 cw)
              have F2 := (((G2.setCell (a := ⟨w.heap.size + 1, 0, none⟩) (by simp) (.slice X0 (B.map prow).length Y0)).setCell (a := ⟨w.heap.size + 1, 1, none⟩) (by simp) (.slice X1 (D.map prow).length Y1)).setCell (a := ⟨w.heap.size + 1, 2, none⟩) (by simp) (.slice X2 (R.map rrow).length Y2)).setCell (a := ⟨w.heap.size + 1, 3, none⟩) (by simp) (.int .i64 cw)
              have q := own_set4 p rfl (.slice X0 (B.map prow).length Y0) (.slice X1 (D.map prow).length Y1) (.slice X2 (R.map rrow).length Y2) (.int .i64 cw)
              simp only [List.length_map] at F0 F1 F2 q
              have qc0 := (q.c 0).trans (show _ = some (.slice X0 B.length Y0) from rfl)
              have qc1 := (q.c 1).trans (show _ = some (.slice X1 D.length Y1) from rfl)
              have qc2 := (q.c 2).trans (show _ = some (.slice X2 R.length Y2) from rfl)
              have qc3 := (q.c 3).trans (show _ = some (.int .i64 cw) from rfl)
              have hBB : Below w.heap.size w ((((W'.setCell ⟨w.heap.size + 1, 0, none⟩ (.slice X0 B.length Y0)).setCell ⟨w.heap.size + 1, 1, none⟩ (.slice X1 D.length Y1)).setCell ⟨w.heap.size + 1, 2, none⟩ (.slice X2 R.length Y2)).setCell ⟨w.heap.size + 1, 3, none⟩ (.int .i64 cw)) := by (repeat' (first | (with_reducible exact Below.refl _ _) | (with_reducible assumption) | (with_reducible refine Below.drew ?_) | (with_reducible refine below_drewN ?_ _) | (with_reducible refine Below.setCell ?_ ?_ _) | (with_reducible refine Below.alloc ?_ ?_ _) | (refine Below.trans ?_ (Below.mono (by with_reducible assumption) ?_)) | omega | (exact Below.size (by with_reducible assumption)) | (simp; done) | (simp; omega)))
              generalize World.setCell (World.setCell (World.setCell (World.setCell W' _ _) _ _) _ _) _ _ = Wf at F0 F1 F2 q qc0 qc1 qc2 qc3 hBB ⊢
              go_wp2
              (try simp only [Exit.inBlock, Exit.then])
              refine bodyPost_ret (v := .agg #[.slice X0 B.length Y0, .slice X1 D.length Y1, .slice X2 R.length Y2, .int .i64 cw]) (by simp [results, Tryd.results27, go_sem, qc0, qc1, qc2, qc3]) rfl ?_
              exact ⟨_, _, _, rfl, F0.base (by omega), F1.base (by omega), F2.base (by omega), hBB⟩
    · intro K hK
      simp only [pick1]
      refine step_empty (K := K) rfl 23 33 2 (w.heap.size + 2) rfl (by kernel_rfl) j0 hj0 p.lt ?_
      intro g1 W' G1 hb
      replace o := o.below hb o.lt
      replace p := p.below hb p.lt
      refine hK.out _ _ o ?_
      replace hB := hB.trans (hb.mono hB.size)
      replace G2 := G2.below hb (Nat.le_refl _)
      clear hb hK
      simp only [Act.put, List.setIfInBounds_toArray, List.set_cons_zero, List.set_cons_succ]
      refine rg_many (fuel := 5) [0] rfl (by simp) (by kernel_rfl) (by kernel_rfl) ?_
      intro c hc
      rcases (show c = 0 by simpa using hc) with rfl
      · intro K hK
        simp only [pick1]
        refine step_empty (K := K) rfl 22 40 2 (w.heap.size + 2) rfl (by kernel_rfl) i0 hi0 p.lt ?_
        intro g0 W' G0 hb
        replace o := o.below hb o.lt
        replace p := p.below hb p.lt
        refine hK.out _ _ o ?_
        replace hB := hB.trans (hb.mono hB.size)
        replace G1 := G1.below hb (Nat.le_refl _)
        replace G2 := G2.below hb (Nat.le_refl _)
        clear hb hK
        simp only [Act.put, List.setIfInBounds_toArray, List.set_cons_zero, List.set_cons_succ]
        refine rg_many (fuel := 4) [3] rfl (by simp) (by kernel_rfl) (by kernel_rfl) ?_
        intro c hc
        rcases (show c = 3 by simpa using hc) with rfl
        · intro K hK
          simp only [pick1]
          refine step_fill rfl (.tmp 3) (.tmp 5) 22 rfl (w.heap.size + 2) 40 i0 _ 2 16 (by kernel_rfl) hi0 hi1 hi2 hi3 rfl (by decide) g0 rfl G0 p.lt A0 n0 c0 (B.map prow) rfl (by rw [List.length_map]; exact HC.out.h0) (HC.out.below hB (Nat.le_refl _)).r0 (fun r hr => (by obtain ⟨q, _, rfl⟩ := List.mem_map.1 hr; rfl)) (by unfold maxLen; omega) (by omega) ?_
          intro v0 W' G0 hb
          replace o := o.below hb o.lt
          replace p := p.below hb p.lt
          refine hK.out _ _ o ?_
          replace hB := hB.trans (hb.mono hB.size)
          replace G1 := G1.below hb (Nat.le_refl _)
          replace G2 := G2.below hb (Nat.le_refl _)
          clear hb hK
          simp only [Act.put, List.setIfInBounds_toArray, List.set_cons_zero, List.set_cons_succ]
          refine rg_many (fuel := 3) [7] rfl (by simp) (by kernel_rfl) (by kernel_rfl) ?_
          intro c hc
          rcases (show c = 7 by simpa using hc) with rfl
          · intro K hK
            simp only [pick1]
            refine step_fill rfl (.tmp 7) (.tmp 9) 23 rfl (w.heap.size + 2) 33 j0 _ 2 16 (by kernel_rfl) hj0 hj1 hj2 hj3 rfl (by decide) g1 rfl G1 p.lt A1 n1 c1 (D.map prow) rfl (by rw [List.length_map]; exact HC.out.h1) (HC.out.below hB (Nat.le_refl _)).r1 (fun r hr => (by obtain ⟨q, _, rfl⟩ := List.mem_map.1 hr; rfl)) (by unfold maxLen; omega) (by omega) ?_
            intro v1 W' G1 hb
            replace o := o.below hb o.lt
            replace p := p.below hb p.lt
            refine hK.out _ _ o ?_
            replace hB := hB.trans (hb.mono hB.size)
            replace G0 := G0.below hb (Nat.le_refl _)
            replace G2 := G2.below hb (Nat.le_refl _)
            clear hb hK
            simp only [Act.put, List.setIfInBounds_toArray, List.set_cons_zero, List.set_cons_succ]
            refine rg_many (fuel := 2) [11] rfl (by simp) (by kernel_rfl) (by kernel_rfl) ?_
            intro c hc
            rcases (show c = 11 by simpa using hc) with rfl
            · intro K hK
              simp only [pick1]
              refine step_fill rfl (.tmp 11) (.tmp 13) 24 rfl (w.heap.size + 2) 58 k0 _ 4 32 (by kernel_rfl) hk0 hk1 hk2 hk3 rfl (by decide) g2 rfl G2 p.lt A2 n2 c2 (R.map rrow) rfl (by rw [List.length_map]; exact HC.out.h2) (HC.out.below hB (Nat.le_refl _)).r2 (fun r hr => (by obtain ⟨q, _, rfl⟩ := List.mem_map.1 hr; rfl)) (by unfold maxLen; omega) (by omega) ?_
              intro v2 W' G2 hb
              replace o := o.below hb o.lt
              replace p := p.below hb p.lt
              refine hK.out _ _ o ?_
              replace hB := hB.trans (hb.mono hB.size)
              replace G0 := G0.below hb (Nat.le_refl _)
              replace G1 := G1.below hb (Nat.le_refl _)
              clear hb hK
              simp only [Act.put, List.setIfInBounds_toArray, List.set_cons_zero, List.set_cons_succ]
              obtain ⟨X0, Y0, rfl, _⟩ := G0.out
              obtain ⟨X1, Y1, rfl, _⟩ := G1.out
              obtain ⟨X2, Y2, rfl, _⟩ := G2.out
              refine rg_take (fuel := 1) [14] (by kernel_rfl) (by intro _ _ d _ _ h; cases d <;> exact h) rfl (by kernel_rfl) (by kernel_rfl) o ?_
              simp only [pickL, pick1, List.cons_append, List.nil_append]
              (refine wpTake_cons (v := ?_) (Or.inl ⟨by rfl, ?_⟩) ?_; rotate_left; (intro w' hSw; clear hSw; go_simp; (try with_reducible rfl)); (try simp only [Act.put, List.setIfInBounds_toArray, List.set_cons_zero, List.set_cons_succ]))
              refine wpTake_nil ?_
              refine rg_one (fuel := 0) 15 rfl (by kernel_rfl) (by kernel_rfl) ?_
              simp only [pick1, wpHead]
              intro K hK
              rw [if_pos (by rfl)]
              have pc := p.c
              have pf := p.f
              go_simp
              refine hK.out _ _ ?_ ?_
              · exact (((o.setOther (by simp) _).setOther (by simp) _).setOther (by simp) _).setOther (by simp) _
              clear hK K
              refine rg_done (by kernel_rfl) ?_
              have F0 := (((G0.setCell (a := ⟨w.heap.size + 1, 0, none⟩) (by simp) (.slice X0 (B.map prow).length Y0)).setCell (a := ⟨w.heap.size + 1, 1, none⟩) (by simp) (.slice X1 (D.map prow).length Y1)).setCell (a := ⟨w.heap.size + 1, 2, none⟩) (by simp) (.slice X2 (R.map rrow).length Y2)).setCell (a := ⟨w.heap.size + 1, 3, none⟩) (by simp) (.int .i64 cw)
              have F1 := (((G1.setCell (a := ⟨w.heap.size + 1, 0, none⟩) (by simp) (.slice X0 (B.map prow).length Y0)).setCell (a := ⟨w.heap.size + 1, 1, none⟩) (by simp) (.slice X1 (D.map prow).length Y1)).setCell (a := ⟨w.heap.size + 1, 2, none⟩) (by simp) (.slice X2 (R.map rrow).length Y2)).setCell (a := ⟨w.heap.size + 1, 3, none⟩) (by simp) (.int .i64 cw)
              have F2 := (((G2.setCell (a := ⟨w.heap.size + 1, 0, none⟩) (by simp) (.slice X0 (B.map prow).length Y0)).setCell (a := ⟨w.heap.size + 1, 1, none⟩) (by simp) (.slice X1 (D.map prow).length Y1)).setCell (a := ⟨w.heap.size + 1, 2, none⟩) (by simp) (.slice X2 (R.map rrow).length Y2)).setCell (a := ⟨w.heap.size + 1, 3, none⟩) (by simp) (.int .i64 cw)
              have q := own_set4 p rfl (.slice X0 (B.map prow).length Y0) (.slice X1 (D.map prow).length Y1) (.slice X2 (R.map rrow).length Y2) (.int .i64 cw)
              simp only [List.length_map] at F0 F1 F2 q
              have qc0 := (q.c 0).trans (show _ = some (.slice X0 B.length Y0) from rfl)
              have qc1 := (q.c 1).trans (show _ = some (.slice X1 D.length Y1) from rfl)
              have qc2 := (q.c 2).trans (show _ = some (.slice X2 R.length Y2) from rfl)
              have qc3 := (q.c 3).trans (show _ = some (.int .i64 cw) from rfl)
              have hBB : Below w.heap.size w ((((W'.setCell ⟨w.heap.size + 1, 0, none⟩ (.slice X0 B.length Y0)).setCell ⟨w.heap.size + 1, 1, none⟩ (.slice X1 D.length Y1)).setCell ⟨w.heap.size + 1, 2, none⟩ (.slice X2 R.length Y2)).setCell ⟨w.heap.size + 1, 3, none⟩ (.int .i64 cw)) := by (repeat' (first | (with_reducible exact Below.refl _ _) | (with_reducible assumption) | (with_reducible refine Below.drew ?_) | (with_reducible refine below_drewN ?_ _) | (with_reducible refine Below.setCell ?_ ?_ _) | (with_reducible refine Below.alloc ?_ ?_ _) | (refine Below.trans ?_ (Below.mono (by with_reducible assumption) ?_)) | omega | (exact Below.size (by with_reducible assumption)) | (simp; done) | (simp; omega)))
              generalize World.setCell (World.setCell (World.setCell (World.setCell W' _ _) _ _) _ _) _ _ = Wf at F0 F1 F2 q qc0 qc1 qc2 qc3 hBB ⊢
              go_wp2
              (try simp only [Exit.inBlock, Exit.then])
              refine bodyPost_ret (v := .agg #[.slice X0 B.length Y0, .slice X1 D.length Y1, .slice X2 R.length Y2, .int .i64 cw]) (by simp [results, Tryd.results27, go_sem, qc0, qc1, qc2, qc3]) rfl ?_
              exact ⟨_, _, _, rfl, F0.base (by omega), F1.base (by omega), F2.base (by omega), hBB⟩

end Go.Proofs.YtibkgnnpmidgfaaDoor

