/- Walks: all of the reference: all rows of heights. -/
import Derived.Test.YtphcpphmoeiioaaAlP
import Derived.Test.YtphcpphmoeiioaaSlS
namespace Go.Proofs.Ytphcpphmoeiioaa
open Go.RowKit

theorem info3 : (Try.prog.info? 3).map (fun i => (i.zero, i.size, i.bytes)) = some (some (.int .i64 0), 1, 8) := by kernel_rfl
theorem info44 : (Try.prog.info? 44).map (fun i => (i.zero, i.size, i.bytes)) = some (some (.slice none 0 0), 1, 24) := by kernel_rfl
set_option maxRecDepth 100000 in
set_option maxHeartbeats 8000000 in
theorem all74 (L sl rl rh wg : Int) (S : Value) (hL : 1 ≤ L ∧ L ≤ 12) (hs : 0 ≤ sl ∧ sl ≤ 20) (hr : -100 ≤ rl ∧ rl ≤ rh ∧ rh ≤ 100) (hbd : Hid ((rh - rl + 1).toNat * chN sl rl rh ^ L.toNat ≤ 1500)) : ∀ (n : Nat) (fs : List Int) (A : Option Addr) (c : Nat) (w : World), fs.length ≤ L.toNat + 1 → L.toNat + 1 - fs.length < n → n ≤ 14 → RdI w A fs → TyB w A 3 →
    Calls Try.prog 74 #[.agg #[.int .i64 L, .int .i64 sl, .int .i64 rl, .int .i64 rh, S, .int .i64 wg], .slice A fs.length c] w fun e w' => ∃ (A' : Option Addr) (c' : Nat), e = .returned (.slice A' (allF L.toNat sl rl rh n fs).length c') ∧ RdLL w' A' (allF L.toNat sl rl rh n fs) ∧ Below w.heap.size w w'
  | 0, fs, A, c, w, h1, h2, h3, h6, h7 => by omega
  | n + 1, fs, A, c, w, h1, h2, h3, h6, h7 => by
    obtain ⟨i0, hi0, hi1, hi2, hi3⟩ := info_parts info3
    obtain ⟨j0, hj0, hj1, hj2, hj3⟩ := info_parts info44
    have HF := Lib.hid h6
    have HT := Lib.hid h7
    have hr1 := hr.1
    have hr2 := hr.2.1
    have hr3 := hr.2.2
    have hs1 := hs.1
    have hs2 := hs.2
    have hL1 := hL.1
    have hL2 := hL.2
    have HRec := Lib.hid (all74 L sl rl rh wg S hL hs hr hbd n)
    have hwl := IntWalk.i64_in (L + 1) (by omega)
    clear h6 h7 all74
    go_enter Try.func74, Try.ntmps74
    go_wp2_with fail
    refine (isSo77 L sl rl rh wg S A fs.length c fs _ (HF.out.below (B := w.heap.size) (by (repeat' (first | (with_reducible exact Below.refl _ _) | (with_reducible assumption) | (with_reducible refine Below.drew ?_) | (with_reducible refine below_drewN ?_ _) | (with_reducible refine Below.setCell ?_ ?_ _) | (with_reducible refine Below.alloc ?_ ?_ _) | (refine Below.trans ?_ (Below.mono (by with_reducible assumption) ?_)) | omega | (exact Below.size (by with_reducible assumption)) | (simp; done) | (simp; omega)))) (Nat.le_refl _)) (Lib.hid rfl) (by omega) hr1 hr3 hs1 hs2).mono ?_
    rintro e w1 ⟨v, rfl, hv, hb1⟩
    have o0 : Own w1 w.heap.size [.int .i64 L, .int .i64 sl, .int .i64 rl, .int .i64 rh, S, .int .i64 wg] := (Own.new' _ _ rfl rfl).below hb1 (by simp)
    have oB : Below w.heap.size w w1 := by (repeat' (first | (with_reducible exact Below.refl _ _) | (with_reducible assumption) | (with_reducible refine Below.drew ?_) | (with_reducible refine below_drewN ?_ _) | (with_reducible refine Below.setCell ?_ ?_ _) | (with_reducible refine Below.alloc ?_ ?_ _) | (refine Below.trans ?_ (Below.mono (by with_reducible assumption) ?_)) | omega | (exact Below.size (by with_reducible assumption)) | (simp; done) | (simp; omega)))
    clear hb1
    have hz1 := o0.lt
    rcases hv.out with ⟨rfl, hso⟩ | ⟨rfl, hso⟩
    rotate_left
    · have HW : Hid (allF L.toNat sl rl rh (n + 1) fs = []) := allF_no hso
      have HB := Lib.hid oB
      clear hso hv
      go_wp2
      go_ret
      rw [HW.out]
      exact ⟨none, 0, rfl, ⟨[], Rd.nil _ _ _, InLs.nil _⟩, HB.out⟩
    have HSO := Lib.hid hso
    clear hv hso
    obtain ⟨l0, k0, f0⟩ := o0
    have o0 := Own.mk l0 k0 f0
    by_cases hnt : fs.length = L.toNat + 1
    · have HW : Hid (allF L.toNat sl rl rh (n + 1) fs = [fs]) := allF_at HSO.out hnt
      have t1 : OwnT (w1.alloc (.cells #[.slice A fs.length c] 44)) w1.heap.size 44 [.slice A fs.length c] := OwnT.new w1 #[.slice A fs.length c] 44
      have hB2 : Below w.heap.size w (w1.alloc (.cells #[.slice A fs.length c] 44)) := oB.alloc oB.size _
      have HLL : Hid (RdLL (w1.alloc (.cells #[.slice A fs.length c] 44)) (some ⟨w1.heap.size, 0, none⟩) [fs]) :=
        ⟨[(A, fs.length, c)], t1.rdSl, InLs.one rfl (HF.out.below hB2 (Nat.le_refl _)) (HT.out.below hB2 (Nat.le_refl _))⟩
      have heq : (((fs.length : Nat) : Int) == L + 1) = true := by simp; omega
      have HB2 := Lib.hid hB2
      clear t1 hnt hB2
      go_wp2
      go_ret
      rw [HW.out]
      exact ⟨_, _, rfl, HLL.out, HB2.out⟩
    · have hne : (((fs.length : Nat) : Int) == L + 1) = false := by simp; omega
      have HW : Hid (allF L.toNat sl rl rh (n + 1) fs = allJ L.toNat sl rl rh n fs (rh - rl + 1).toNat) := allF_on HSO.out hnt
      have hlt : fs.length < L.toNat + 1 := by omega
      obtain ⟨wd, hwd⟩ : ∃ x : Nat, x = (rh - rl + 1).toNat := ⟨_, rfl⟩
      have hwd2 : (wd : Int) = rh - rl + 1 := by omega
      rw [← hwd] at HW
      have hWD := Lib.hid hwd
      clear hwd hnt
      go_wp2
      go_loopg [5, 6] wd (fun K v y wr => ∃ (k : Nat) (xs : List Sl), K + k = wd ∧ y = .int .i64 (rl + (k : Int)) ∧ Own wr w.heap.size [.int .i64 L, .int .i64 sl, .int .i64 rl, .int .i64 rh, S, .int .i64 wg] ∧ Gro wr (w.heap.size + 1) 44 1 v (xs.map slrow) ∧ InLs wr xs (allJ L.toNat sl rl rh n fs k) ∧ Below w.heap.size w wr)
      case atStart => exact ⟨0, [], by omega, (by simp), o0, Gro.nil _ _ _ _, InLs.nil _, oB⟩
      case round =>
        clear o0 oB hz1 l0 k0 f0
        obtain ⟨k, xs, hk, rfl, q0, hg, hin, hbw⟩ := hrel
        obtain ⟨wo, rfl⟩ : ∃ wo : World, wo = wr := ⟨_, rfl⟩
        obtain ⟨PA, pc, rfl, hrd⟩ := hg.out
        have hxl := Lib.hid hin.len
        rw [List.length_map]
        rw [List.length_map] at hg
        obtain ⟨l0, k0, f0⟩ := q0
        have q0 := Own.mk l0 k0 f0
        by_cases hkt : k < wd
        · have HJ : Hid (allJ L.toNat sl rl rh n fs (k + 1) = allJ L.toNat sl rl rh n fs k ++ allF L.toNat sl rl rh n (fs ++ [rl + (k : Int)])) := allJ_succ n fs k
          have p0 := q0
          have g4 := hg
          have i4 := hin
          have hB4 := hbw
          obtain ⟨w4, rfl⟩ : ∃ x : World, x = wo := ⟨_, rfl⟩
          have HWJ : Hid ((allJ L.toNat sl rl rh n fs k).length ≤ 1500) := Nat.le_trans (allJ_bd hs1 hr2 HSO.out (by have := hWD.out; omega)) hbd.out
          have HWF : Hid ((allF L.toNat sl rl rh n (fs ++ [rl + (k : Int)])).length ≤ 1500) := Nat.le_trans (allF_bd hs1 hr2) hbd.out
          clear hrd
          go_wp2
          clear q0 hg hin hbw l0 k0 f0
          replace p0 := p0.drew
          replace hB4 := hB4.drew
          replace g4 : Gro w4.drew _ _ _ _ _ := g4
          replace i4 := i4.below (Below.refl w4.heap.size w4).drew (Nat.le_refl _)
          refine rg_start (fun w' => Own w' w.heap.size [.int .i64 L, .int .i64 sl, .int .i64 rl, .int .i64 rh, S, .int .i64 wg]) 11 (by kernel_rfl) rfl ?_
          refine rg_take (fuel := 7) [0, 1, 3, 5] (by kernel_rfl) (by intro _ _ d _ _ h; cases d <;> exact h) rfl (by kernel_rfl) (by kernel_rfl) p0 ?_
          simp only [pickL, pick1, List.cons_append, List.nil_append]
          (refine wpTake_cons (v := ?_) (Or.inl ⟨by rfl, ?_⟩) ?_; rotate_left; (intro w' hSw; have yc := hSw.c; clear hSw; go_simp; (try with_reducible rfl)); (try simp only [Act.put, List.setIfInBounds_toArray, List.set_cons_zero, List.set_cons_succ]))
          (refine wpTake_cons (v := ?_) (Or.inl ⟨by rfl, ?_⟩) ?_; rotate_left; (intro w' hSw; have yc := hSw.c; clear hSw; go_simp; (try with_reducible rfl)); (try simp only [Act.put, List.setIfInBounds_toArray, List.set_cons_zero, List.set_cons_succ]))
          (refine wpTake_cons (v := ?_) (Or.inl ⟨by rfl, ?_⟩) ?_; rotate_left; (intro w' hSw; have yc := hSw.c; clear hSw; go_simp; (try with_reducible rfl)); (try simp only [Act.put, List.setIfInBounds_toArray, List.set_cons_zero, List.set_cons_succ]))
          (refine wpTake_cons (v := ?_) (Or.inl ⟨by rfl, ?_⟩) ?_; rotate_left; (intro w' hSw; have yc := hSw.c; clear hSw; go_simp; (try with_reducible rfl)); (try simp only [Act.put, List.setIfInBounds_toArray, List.set_cons_zero, List.set_cons_succ]))
          refine wpTake_nil ?_
          generalize World.drew _ = w4 at p0 hB4 g4 i4 ⊢
          have hN := Below.refl w4.heap.size w4
          have ow := p0
          have hBw := hB4
          refine rg_many (fuel := 6) [2, 6] rfl (by simp) (by kernel_rfl) (by kernel_rfl) ?_
          intro cc hcc
          rcases (show cc = 2 ∨ cc = 6 by simpa using hcc) with rfl | rfl
          · intro K hK
            simp only [pick1]
            refine step_empty (K := K) rfl 44 3 1 w4.heap.size rfl (by kernel_rfl) i0 hi0 hN.size ?_
            intro g4x W' G4 hb
            replace hN := hN.trans (hb.mono hN.size)
            have ow := p0.below hN p0.lt
            have hBw := hB4.trans (hN.mono hB4.size)
            refine hK.out _ _ ow ?_
            clear hb hK
            (try simp only [Act.put, List.setIfInBounds_toArray, List.set_cons_zero, List.set_cons_succ])
            refine rg_many (fuel := 5) [4, 6] rfl (by simp) (by kernel_rfl) (by kernel_rfl) ?_
            intro cc hcc
            rcases (show cc = 4 ∨ cc = 6 by simpa using hcc) with rfl | rfl
            · intro K hK
              simp only [pick1]
              refine step_fill (K := K) rfl (.tmp 31) (.tmp 32) 44 rfl w4.heap.size 3 i0 (.int .i64 0) 1 8 (by kernel_rfl) hi0 hi1 hi2 hi3 rfl (by decide) g4x rfl G4 hN.size A fs.length c (fs.map irow) rfl (List.length_map _).symm (HF.out.below hBw (Nat.le_refl _)) irow_len (by unfold maxLen; omega) (by omega) ?_
              intro v6 W' G6 hb
              replace hN := hN.trans (hb.mono hN.size)
              have ow := p0.below hN p0.lt
              have hBw := hB4.trans (hN.mono hB4.size)
              refine hK.out _ _ ow ?_
              clear hb hK
              (try simp only [Act.put, List.setIfInBounds_toArray, List.set_cons_zero, List.set_cons_succ])
              refine rg_many (fuel := 4) [6] rfl (by simp) (by kernel_rfl) (by kernel_rfl) ?_
              intro cc hcc
              rcases (show cc = 6 by simpa using hcc) with rfl
              · intro K hK
                simp only [pick1, wpHead]
                rw [if_pos (by rfl)]
                go_simp
                have T8 := (OwnT.new W' #[.int .i64 (rl + (k : Int))] 3).rdI
                have hb := (Below.refl W'.heap.size W').alloc (Nat.le_refl _) (.cells #[.int .i64 (rl + (k : Int))] 3)
                replace hN := hN.trans (hb.mono hN.size)
                generalize hg8 : W'.heap.size = g8 at T8 ⊢
                generalize hWe : World.alloc W' _ = W' at hb hN T8 ⊢
                clear hWe hg8
                have ow := p0.below hN p0.lt
                have hBw := hB4.trans (hN.mono hB4.size)
                replace G6 := G6.below hb (Nat.le_refl _)
                refine hK.out _ _ ow ?_
                clear hb hK
                (try simp only [Act.put, List.setIfInBounds_toArray, List.set_cons_zero, List.set_cons_succ])
                refine rg_many (fuel := 3) [7] rfl (by simp) (by kernel_rfl) (by kernel_rfl) ?_
                intro cc hcc
                rcases (show cc = 7 by simpa using hcc) with rfl
                · intro K hK
                  simp only [pick1]
                  refine step_app (K := K) rfl (.tmp 33) (.tmp 35) 44 rfl w4.heap.size 3 i0 (.int .i64 0) 1 8 (by kernel_rfl) hi0 hi1 hi2 hi3 rfl (by decide) v6 (fs.map irow) rfl G6 hN.size (some ⟨g8, 0, none⟩) 1 1 ([rl + (k : Int)].map irow) rfl rfl T8 irow_len irow_one (by rw [List.length_map]; unfold maxLen; omega) (by rw [List.length_map]; omega) ?_
                  intro v9 W' G9 hgr
                  replace hN := G6.room hN hgr hN.size
                  rw [← List.map_append] at G9
                  obtain ⟨A9, c9, rfl, hr9⟩ := G9.out
                  have hty9 := G9.ty
                  rw [List.length_map]
                  clear G6 G9 hgr
                  have ow := p0.below hN p0.lt
                  have hBw := hB4.trans (hN.mono hB4.size)
                  refine hK.out _ _ ow ?_
                  clear hK
                  (try simp only [Act.put, List.setIfInBounds_toArray, List.set_cons_zero, List.set_cons_succ])
                  refine rg_many (fuel := 2) [8] rfl (by simp) (by kernel_rfl) (by kernel_rfl) ?_
                  intro cc hcc
                  rcases (show cc = 8 by simpa using hcc) with rfl
                  · intro K hK
                    simp only [pick1, wpHead]
                    rw [if_pos (by rfl)]
                    go_simp
                    have hcall := HRec.out (fs ++ [rl + (k : Int)]) A9 c9 W' (by rw [List.length_append, List.length_singleton]; omega) (by rw [List.length_append, List.length_singleton]; omega) (by omega) hr9 hty9
                    rw [List.length_append, List.length_singleton] at hcall
                    refine hcall.mono ?_
                    clear hcall
                    rintro e W' ⟨A10, c10, rfl, ⟨ys, hr10, i10⟩, hb⟩
                    replace hN := hN.trans (hb.mono hN.size)
                    go_wp2_with fail
                    have ow := p0.below hN p0.lt
                    have hBw := hB4.trans (hN.mono hB4.size)
                    refine hK.out _ _ ow ?_
                    clear hb hK
                    (try simp only [Act.put, List.setIfInBounds_toArray, List.set_cons_zero, List.set_cons_succ])
                    refine rg_many (fuel := 1) [9] rfl (by simp) (by kernel_rfl) (by kernel_rfl) ?_
                    intro cc hcc
                    rcases (show cc = 9 by simpa using hcc) with rfl
                    · intro K hK
                      simp only [pick1]
                      have hz10 : w.heap.size + 1 ≤ w4.heap.size := p0.lt
                      have GO := g4.below hN (Nat.le_refl _)
                      have IO := i4.below hN (Nat.le_refl _)
                      have hzn := hN.size
                      refine step_app (K := K) rfl (.tmp 29) (.tmp 37) 77 rfl (w.heap.size + 1) 44 j0 (.slice none 0 0) 1 24 (by kernel_rfl) hj0 hj1 hj2 hj3 rfl (by decide) _ (xs.map slrow) rfl GO (by omega) A10 _ c10 (ys.map slrow) rfl (by rw [List.length_map]; exact i10.len.symm) hr10 slrow_len slrow_one (by have := HWJ.out; have := HWF.out; rw [List.length_map, hxl.out]; unfold maxLen; omega) (by have := HWJ.out; have := HWF.out; rw [List.length_map, hxl.out]; omega) ?_
                      intro v11 W' G11 hgr
                      have i11 := (IO.append i10).keptBy hgr GO (by decide)
                      rw [← List.map_append] at G11
                      have hBw := (hB4.trans (hN.mono hB4.size)).grown hgr (by omega) (fun i hi => by have := (GO.2.lt i hi).1; omega)
                      have ow := (p0.below hN p0.lt).keptBy hgr (fun e => by have := (GO.2.lt _ e.symm).1; omega)
                      clear GO IO hgr hr10 i10 hN
                      refine hK.out _ _ ow ?_
                      clear hK
                      (try simp only [Act.put, List.setIfInBounds_toArray, List.set_cons_zero, List.set_cons_succ])
                      refine rg_many (fuel := 0) [10] rfl (by simp) (by kernel_rfl) (by kernel_rfl) ?_
                      intro cc hcc
                      rcases (show cc = 10 by simpa using hcc) with rfl
                      · intro K hK
                        simp only [pick1, wpHead]
                        rw [if_pos (by rfl)]
                        go_simp
                        refine hK.out _ _ ow ?_
                        clear hK
                        (try simp only [Act.put, List.setIfInBounds_toArray, List.set_cons_zero, List.set_cons_succ])
                        refine rg_done (by kernel_rfl) ?_
                        go_wp2
                        go_roundg (wd - (k + 1))
                        case measure => omega
                        case rel => exact ⟨k + 1, xs ++ ys, by omega, (by go_num), ow, G11, (by rw [HJ.out]; exact i11), hBw⟩
            · intro K hK
              simp only [pick1, wpHead]
              rw [if_pos (by rfl)]
              go_simp
              have T8 := (OwnT.new W' #[.int .i64 (rl + (k : Int))] 3).rdI
              have hb := (Below.refl W'.heap.size W').alloc (Nat.le_refl _) (.cells #[.int .i64 (rl + (k : Int))] 3)
              replace hN := hN.trans (hb.mono hN.size)
              generalize hg8 : W'.heap.size = g8 at T8 ⊢
              generalize hWe : World.alloc W' _ = W' at hb hN T8 ⊢
              clear hWe hg8
              have ow := p0.below hN p0.lt
              have hBw := hB4.trans (hN.mono hB4.size)
              replace G4 := G4.below hb (Nat.le_refl _)
              refine hK.out _ _ ow ?_
              clear hb hK
              (try simp only [Act.put, List.setIfInBounds_toArray, List.set_cons_zero, List.set_cons_succ])
              refine rg_many (fuel := 4) [4] rfl (by simp) (by kernel_rfl) (by kernel_rfl) ?_
              intro cc hcc
              rcases (show cc = 4 by simpa using hcc) with rfl
              · intro K hK
                simp only [pick1]
                refine step_fill (K := K) rfl (.tmp 31) (.tmp 32) 44 rfl w4.heap.size 3 i0 (.int .i64 0) 1 8 (by kernel_rfl) hi0 hi1 hi2 hi3 rfl (by decide) g4x rfl G4 hN.size A fs.length c (fs.map irow) rfl (List.length_map _).symm (HF.out.below hBw (Nat.le_refl _)) irow_len (by unfold maxLen; omega) (by omega) ?_
                intro v6 W' G6 hb
                replace hN := hN.trans (hb.mono hN.size)
                have ow := p0.below hN p0.lt
                have hBw := hB4.trans (hN.mono hB4.size)
                replace T8 := T8.below hb (Nat.le_refl _)
                refine hK.out _ _ ow ?_
                clear hb hK
                (try simp only [Act.put, List.setIfInBounds_toArray, List.set_cons_zero, List.set_cons_succ])
                refine rg_many (fuel := 3) [7] rfl (by simp) (by kernel_rfl) (by kernel_rfl) ?_
                intro cc hcc
                rcases (show cc = 7 by simpa using hcc) with rfl
                · intro K hK
                  simp only [pick1]
                  refine step_app (K := K) rfl (.tmp 33) (.tmp 35) 44 rfl w4.heap.size 3 i0 (.int .i64 0) 1 8 (by kernel_rfl) hi0 hi1 hi2 hi3 rfl (by decide) v6 (fs.map irow) rfl G6 hN.size (some ⟨g8, 0, none⟩) 1 1 ([rl + (k : Int)].map irow) rfl rfl T8 irow_len irow_one (by rw [List.length_map]; unfold maxLen; omega) (by rw [List.length_map]; omega) ?_
                  intro v9 W' G9 hgr
                  replace hN := G6.room hN hgr hN.size
                  rw [← List.map_append] at G9
                  obtain ⟨A9, c9, rfl, hr9⟩ := G9.out
                  have hty9 := G9.ty
                  rw [List.length_map]
                  clear G6 G9 hgr
                  have ow := p0.below hN p0.lt
                  have hBw := hB4.trans (hN.mono hB4.size)
                  refine hK.out _ _ ow ?_
                  clear hK
                  (try simp only [Act.put, List.setIfInBounds_toArray, List.set_cons_zero, List.set_cons_succ])
                  refine rg_many (fuel := 2) [8] rfl (by simp) (by kernel_rfl) (by kernel_rfl) ?_
                  intro cc hcc
                  rcases (show cc = 8 by simpa using hcc) with rfl
                  · intro K hK
                    simp only [pick1, wpHead]
                    rw [if_pos (by rfl)]
                    go_simp
                    have hcall := HRec.out (fs ++ [rl + (k : Int)]) A9 c9 W' (by rw [List.length_append, List.length_singleton]; omega) (by rw [List.length_append, List.length_singleton]; omega) (by omega) hr9 hty9
                    rw [List.length_append, List.length_singleton] at hcall
                    refine hcall.mono ?_
                    clear hcall
                    rintro e W' ⟨A10, c10, rfl, ⟨ys, hr10, i10⟩, hb⟩
                    replace hN := hN.trans (hb.mono hN.size)
                    go_wp2_with fail
                    have ow := p0.below hN p0.lt
                    have hBw := hB4.trans (hN.mono hB4.size)
                    refine hK.out _ _ ow ?_
                    clear hb hK
                    (try simp only [Act.put, List.setIfInBounds_toArray, List.set_cons_zero, List.set_cons_succ])
                    refine rg_many (fuel := 1) [9] rfl (by simp) (by kernel_rfl) (by kernel_rfl) ?_
                    intro cc hcc
                    rcases (show cc = 9 by simpa using hcc) with rfl
                    · intro K hK
                      simp only [pick1]
                      have hz10 : w.heap.size + 1 ≤ w4.heap.size := p0.lt
                      have GO := g4.below hN (Nat.le_refl _)
                      have IO := i4.below hN (Nat.le_refl _)
                      have hzn := hN.size
                      refine step_app (K := K) rfl (.tmp 29) (.tmp 37) 77 rfl (w.heap.size + 1) 44 j0 (.slice none 0 0) 1 24 (by kernel_rfl) hj0 hj1 hj2 hj3 rfl (by decide) _ (xs.map slrow) rfl GO (by omega) A10 _ c10 (ys.map slrow) rfl (by rw [List.length_map]; exact i10.len.symm) hr10 slrow_len slrow_one (by have := HWJ.out; have := HWF.out; rw [List.length_map, hxl.out]; unfold maxLen; omega) (by have := HWJ.out; have := HWF.out; rw [List.length_map, hxl.out]; omega) ?_
                      intro v11 W' G11 hgr
                      have i11 := (IO.append i10).keptBy hgr GO (by decide)
                      rw [← List.map_append] at G11
                      have hBw := (hB4.trans (hN.mono hB4.size)).grown hgr (by omega) (fun i hi => by have := (GO.2.lt i hi).1; omega)
                      have ow := (p0.below hN p0.lt).keptBy hgr (fun e => by have := (GO.2.lt _ e.symm).1; omega)
                      clear GO IO hgr hr10 i10 hN
                      refine hK.out _ _ ow ?_
                      clear hK
                      (try simp only [Act.put, List.setIfInBounds_toArray, List.set_cons_zero, List.set_cons_succ])
                      refine rg_many (fuel := 0) [10] rfl (by simp) (by kernel_rfl) (by kernel_rfl) ?_
                      intro cc hcc
                      rcases (show cc = 10 by simpa using hcc) with rfl
                      · intro K hK
                        simp only [pick1, wpHead]
                        rw [if_pos (by rfl)]
                        go_simp
                        refine hK.out _ _ ow ?_
                        clear hK
                        (try simp only [Act.put, List.setIfInBounds_toArray, List.set_cons_zero, List.set_cons_succ])
                        refine rg_done (by kernel_rfl) ?_
                        go_wp2
                        go_roundg (wd - (k + 1))
                        case measure => omega
                        case rel => exact ⟨k + 1, xs ++ ys, by omega, (by go_num), ow, G11, (by rw [HJ.out]; exact i11), hBw⟩
          · intro K hK
            simp only [pick1, wpHead]
            rw [if_pos (by rfl)]
            go_simp
            have T8 := (OwnT.new w4 #[.int .i64 (rl + (k : Int))] 3).rdI
            have hb := (Below.refl w4.heap.size w4).alloc (Nat.le_refl _) (.cells #[.int .i64 (rl + (k : Int))] 3)
            replace hN := hN.trans (hb.mono hN.size)
            generalize hg8 : w4.heap.size = g8 at T8 ⊢
            generalize hWe : World.alloc w4 _ = W' at hb hN T8 ⊢
            clear hWe hg8
            have ow := p0.below hN p0.lt
            have hBw := hB4.trans (hN.mono hB4.size)
            refine hK.out _ _ ow ?_
            clear hb hK
            (try simp only [Act.put, List.setIfInBounds_toArray, List.set_cons_zero, List.set_cons_succ])
            refine rg_many (fuel := 5) [2] rfl (by simp) (by kernel_rfl) (by kernel_rfl) ?_
            intro cc hcc
            rcases (show cc = 2 by simpa using hcc) with rfl
            · intro K hK
              simp only [pick1]
              refine step_empty (K := K) rfl 44 3 1 w4.heap.size rfl (by kernel_rfl) i0 hi0 hN.size ?_
              intro g4x W' G4 hb
              replace hN := hN.trans (hb.mono hN.size)
              have ow := p0.below hN p0.lt
              have hBw := hB4.trans (hN.mono hB4.size)
              replace T8 := T8.below hb (Nat.le_refl _)
              refine hK.out _ _ ow ?_
              clear hb hK
              (try simp only [Act.put, List.setIfInBounds_toArray, List.set_cons_zero, List.set_cons_succ])
              refine rg_many (fuel := 4) [4] rfl (by simp) (by kernel_rfl) (by kernel_rfl) ?_
              intro cc hcc
              rcases (show cc = 4 by simpa using hcc) with rfl
              · intro K hK
                simp only [pick1]
                refine step_fill (K := K) rfl (.tmp 31) (.tmp 32) 44 rfl w4.heap.size 3 i0 (.int .i64 0) 1 8 (by kernel_rfl) hi0 hi1 hi2 hi3 rfl (by decide) g4x rfl G4 hN.size A fs.length c (fs.map irow) rfl (List.length_map _).symm (HF.out.below hBw (Nat.le_refl _)) irow_len (by unfold maxLen; omega) (by omega) ?_
                intro v6 W' G6 hb
                replace hN := hN.trans (hb.mono hN.size)
                have ow := p0.below hN p0.lt
                have hBw := hB4.trans (hN.mono hB4.size)
                replace T8 := T8.below hb (Nat.le_refl _)
                refine hK.out _ _ ow ?_
                clear hb hK
                (try simp only [Act.put, List.setIfInBounds_toArray, List.set_cons_zero, List.set_cons_succ])
                refine rg_many (fuel := 3) [7] rfl (by simp) (by kernel_rfl) (by kernel_rfl) ?_
                intro cc hcc
                rcases (show cc = 7 by simpa using hcc) with rfl
                · intro K hK
                  simp only [pick1]
                  refine step_app (K := K) rfl (.tmp 33) (.tmp 35) 44 rfl w4.heap.size 3 i0 (.int .i64 0) 1 8 (by kernel_rfl) hi0 hi1 hi2 hi3 rfl (by decide) v6 (fs.map irow) rfl G6 hN.size (some ⟨g8, 0, none⟩) 1 1 ([rl + (k : Int)].map irow) rfl rfl T8 irow_len irow_one (by rw [List.length_map]; unfold maxLen; omega) (by rw [List.length_map]; omega) ?_
                  intro v9 W' G9 hgr
                  replace hN := G6.room hN hgr hN.size
                  rw [← List.map_append] at G9
                  obtain ⟨A9, c9, rfl, hr9⟩ := G9.out
                  have hty9 := G9.ty
                  rw [List.length_map]
                  clear G6 G9 hgr
                  have ow := p0.below hN p0.lt
                  have hBw := hB4.trans (hN.mono hB4.size)
                  refine hK.out _ _ ow ?_
                  clear hK
                  (try simp only [Act.put, List.setIfInBounds_toArray, List.set_cons_zero, List.set_cons_succ])
                  refine rg_many (fuel := 2) [8] rfl (by simp) (by kernel_rfl) (by kernel_rfl) ?_
                  intro cc hcc
                  rcases (show cc = 8 by simpa using hcc) with rfl
                  · intro K hK
                    simp only [pick1, wpHead]
                    rw [if_pos (by rfl)]
                    go_simp
                    have hcall := HRec.out (fs ++ [rl + (k : Int)]) A9 c9 W' (by rw [List.length_append, List.length_singleton]; omega) (by rw [List.length_append, List.length_singleton]; omega) (by omega) hr9 hty9
                    rw [List.length_append, List.length_singleton] at hcall
                    refine hcall.mono ?_
                    clear hcall
                    rintro e W' ⟨A10, c10, rfl, ⟨ys, hr10, i10⟩, hb⟩
                    replace hN := hN.trans (hb.mono hN.size)
                    go_wp2_with fail
                    have ow := p0.below hN p0.lt
                    have hBw := hB4.trans (hN.mono hB4.size)
                    refine hK.out _ _ ow ?_
                    clear hb hK
                    (try simp only [Act.put, List.setIfInBounds_toArray, List.set_cons_zero, List.set_cons_succ])
                    refine rg_many (fuel := 1) [9] rfl (by simp) (by kernel_rfl) (by kernel_rfl) ?_
                    intro cc hcc
                    rcases (show cc = 9 by simpa using hcc) with rfl
                    · intro K hK
                      simp only [pick1]
                      have hz10 : w.heap.size + 1 ≤ w4.heap.size := p0.lt
                      have GO := g4.below hN (Nat.le_refl _)
                      have IO := i4.below hN (Nat.le_refl _)
                      have hzn := hN.size
                      refine step_app (K := K) rfl (.tmp 29) (.tmp 37) 77 rfl (w.heap.size + 1) 44 j0 (.slice none 0 0) 1 24 (by kernel_rfl) hj0 hj1 hj2 hj3 rfl (by decide) _ (xs.map slrow) rfl GO (by omega) A10 _ c10 (ys.map slrow) rfl (by rw [List.length_map]; exact i10.len.symm) hr10 slrow_len slrow_one (by have := HWJ.out; have := HWF.out; rw [List.length_map, hxl.out]; unfold maxLen; omega) (by have := HWJ.out; have := HWF.out; rw [List.length_map, hxl.out]; omega) ?_
                      intro v11 W' G11 hgr
                      have i11 := (IO.append i10).keptBy hgr GO (by decide)
                      rw [← List.map_append] at G11
                      have hBw := (hB4.trans (hN.mono hB4.size)).grown hgr (by omega) (fun i hi => by have := (GO.2.lt i hi).1; omega)
                      have ow := (p0.below hN p0.lt).keptBy hgr (fun e => by have := (GO.2.lt _ e.symm).1; omega)
                      clear GO IO hgr hr10 i10 hN
                      refine hK.out _ _ ow ?_
                      clear hK
                      (try simp only [Act.put, List.setIfInBounds_toArray, List.set_cons_zero, List.set_cons_succ])
                      refine rg_many (fuel := 0) [10] rfl (by simp) (by kernel_rfl) (by kernel_rfl) ?_
                      intro cc hcc
                      rcases (show cc = 10 by simpa using hcc) with rfl
                      · intro K hK
                        simp only [pick1, wpHead]
                        rw [if_pos (by rfl)]
                        go_simp
                        refine hK.out _ _ ow ?_
                        clear hK
                        (try simp only [Act.put, List.setIfInBounds_toArray, List.set_cons_zero, List.set_cons_succ])
                        refine rg_done (by kernel_rfl) ?_
                        go_wp2
                        go_roundg (wd - (k + 1))
                        case measure => omega
                        case rel => exact ⟨k + 1, xs ++ ys, by omega, (by go_num), ow, G11, (by rw [HJ.out]; exact i11), hBw⟩
        · have hkn : k = wd := by omega
          have e : Hid (allF L.toNat sl rl rh (n + 1) fs = allJ L.toNat sl rl rh n fs k) := by show _ = _; rw [HW.out, hkn]
          obtain ⟨PA', pc', hv', hll⟩ := hg.rdLL hin
          go_wp2
          go_ret
          rw [e.out]
          refine ⟨PA', pc', ?_, hll, hbw⟩
          rw [← hv']; rfl
end Go.Proofs.Ytphcpphmoeiioaa
