/- Walks: doubt of the reference. -/
import Derived.Test.YtphcpphmoeiioaaRhW
namespace Go.Proofs.Ytphcpphmoeiioaa
open Go.RowKit Go.Maps

theorem sUp_bd9 {h : Nat → Int} {N : Nat} (hb : ∀ i, i ≤ N → -100 ≤ h i ∧ h i ≤ 100) (hN : N ≤ 12) : -2600 ≤ sUp h 0 N (N + 1) ∧ sUp h 0 N (N + 1) ≤ 2600 := by
  have key : ∀ k : Nat, k ≤ N → -200 * (k : Int) ≤ sUp h 0 N k ∧ sUp h 0 N k ≤ 200 * (k : Int) := by
    intro k
    induction k with
    | zero => intro _; show -200 * (0 : Int) ≤ 0 ∧ (0 : Int) ≤ 200 * 0; omega
    | succ k ih =>
      intro hk
      have h1 := ih (by omega)
      have h2 := hb k (by omega)
      have h3 := hb (k + 1) hk
      have h4 : sUp h 0 N (k + 1) = sUp h 0 N k + (h k + h (k + 1)) := by
        show sUp h 0 N k + _ = _
        rw [if_pos (by omega)]
      rw [h4]
      push_cast
      omega
  rw [sUp_cut' h 0 N N (Int.le_refl _)]
  have := key N (Nat.le_refl _)
  omega
where
  sUp_cut' (h : Nat → Int) (a b : Int) (k : Nat) (hb : b ≤ k) : sUp h a b (k + 1) = sUp h a b k := by
    show sUp h a b k + _ = _
    rw [if_neg (by omega)]; omega
set_option maxRecDepth 100000 in
set_option maxHeartbeats 8000000 in
theorem doubt80 (L sl rl rh wg : Int) (A0 : Option Addr) (n0 c0 : Nat) (A : Option Addr) (c : Nat) (ls : List (List Int)) (w : World) (hll : RdLL w A ls) (hL0 : 1 ≤ L) (hL9 : L ≤ 12) (hl15 : ls.length ≤ 1500) (hmem : Hid (∀ l ∈ ls, (l.length : Int) = L + 1 ∧ ∀ x ∈ l, -100 ≤ x ∧ x ≤ 100)) :
    Calls Try.prog 80 #[.agg #[.int .i64 L, .int .i64 sl, .int .i64 rl, .int .i64 rh, .slice A0 n0 c0, .int .i64 wg], .slice A ls.length c] w fun e w' => ∃ lo hi : Int, e = .returned (.int .i64 (hi - lo)) ∧ Hid (SpK (fun l => sUp (fnL l) 0 L (L.toNat + 1)) ls ls.length lo hi) ∧ (-2600 ≤ lo ∧ lo ≤ 2600 ∧ -2600 ≤ hi ∧ hi ≤ 2600) ∧ Below w.heap.size w w' := by
  obtain ⟨N, rfl⟩ : ∃ N : Nat, L = (N : Int) := ⟨L.toNat, by omega⟩
  have HLL := Lib.hid hll
  clear hll
  go_enter Try.func80, Try.ntmps80
  go_wp2
  go_loopg [6] ls.length (fun K z w5 => ∃ (k : Nat) (lo hi : Int), K + k = ls.length ∧ z = .int .i64 k ∧ Hid (Own w5 w.heap.size [.int .i64 (N : Int), .int .i64 sl, .int .i64 rl, .int .i64 rh, .slice A0 n0 c0, .int .i64 wg]) ∧ Hid (Own w5 (w.heap.size + 1) [.int .i64 lo, .int .i64 hi]) ∧ Hid (Below w.heap.size w w5) ∧ Hid (SpK (fun l => sUp (fnL l) 0 N (N + 1)) ls k lo hi))
  case atStart => exact ⟨0, 0, 0, rfl, rfl, Lib.hid ((Own.new' _ _ rfl rfl).alloc _), Lib.hid (Own.new' _ _ (by simp) rfl), Lib.hid (by (repeat' (first | (with_reducible exact Below.refl _ _) | (with_reducible assumption) | (with_reducible refine Below.drew ?_) | (with_reducible refine below_drewN ?_ _) | (with_reducible refine Below.setCell ?_ ?_ _) | (with_reducible refine Below.alloc ?_ ?_ _) | (refine Below.trans ?_ (Below.mono (by with_reducible assumption) ?_)) | omega | (exact Below.size (by with_reducible assumption)) | (simp; done) | (simp; omega)))), Lib.hid (SpK.zero _ _)⟩
  case round =>
    obtain ⟨k, lo, hi, hK9, rfl, hoc, hos, hbw, hsp⟩ := hrel
    by_cases hlt : k < ls.length
    · obtain ⟨l, hl⟩ : ∃ l, Hid (ls[k]? = some l) := ⟨ls[k], by simp [Hid]⟩
      obtain ⟨hml, hvl⟩ := hmem.out l (List.mem_of_getElem? hl.out)
      obtain ⟨b, off, A', c', hAe, hb0, hcell, hrl⟩ := HLL.out.elem hl.out
      have hAE := Lib.hid hAe
      have hAA := hAE.out
      subst hAA
      have hsn := Lib.hid (hsp.out.next hl.out)
      have hk0 : decide (k = 0) = ((k : Int) == 0) := by
        by_cases e : k = 0
        · subst e; rfl
        · rw [decide_eq_false e]; symm; rw [beq_eq_false_iff_ne]; omega
      rw [hk0] at hsn
      have y0 : (k : Int) < (ls.length : Int) := by omega
      have HML := Lib.hid (show l.length = N + 1 by omega)
      have HVL := Lib.hid hvl
      have HRL := Lib.hid hrl
      have hS := Lib.hid (show OpI w w.heap.size w.heap.size [.int .i64 (N : Int), .int .i64 sl, .int .i64 rl, .int .i64 rh, .slice A0 n0 c0, .int .i64 wg] [.int .i64 (N : Int), .int .i64 sl, .int .i64 rl, .int .i64 rh, .slice A0 n0 c0, .int .i64 wg] wr from ⟨hoc.out, hoc.out, hbw.out⟩)
      have hn12 := hbw.out.size
      have hlc := hoc.out.lt
      have hl40 : l.length ≤ 40 := by omega
      have hc46 : ∀ W, Below w.heap.size w W → Calls Try.prog 46 #[.slice A' l.length c', .int .i64 0, .int .i64 (N : Int)] W fun e w' => e = .returned (.int .i64 (sUp (fnL l) 0 N (N + 1))) ∧ Below W.heap.size W w' := fun W hW => by
        have h := sum46 A' l.length c' l 0 N W (HRL.out.below hW (Nat.le_refl _)) (Lib.hid rfl) hl40 (Nat.zero_le _) (by have := HML.out; omega) HVL
        rw [HML.out] at h
        simpa [HML.out] using h
      clear hml hvl hAe hAE hrl hoc hbw hsp hk0
      generalize hx : sUp (fnL l) 0 N (N + 1) = x at *
      have HX := Lib.hid hx
      clear hx
      obtain ⟨lc, kc, fc⟩ := hS.out.c
      go_wp2
      refine wp_nor ?_
      refine rg_start (OpI w w.heap.size w.heap.size [.int .i64 (N : Int), .int .i64 sl, .int .i64 rl, .int .i64 rh, .slice A0 n0 c0, .int .i64 wg] [.int .i64 (N : Int), .int .i64 sl, .int .i64 rl, .int .i64 rh, .slice A0 n0 c0, .int .i64 wg]) 12 (by kernel_rfl) rfl ?_
      replace hS := hS.out.drew
      have hs9 := hos.out.drew
      clear lc kc fc hos
      generalize World.drew _ = W at hS hs9 ⊢
      refine rg_take (fuel := 4) [1, 2, 3, 4, 5, 6, 8, 9] (by kernel_rfl) (by intro _ _ d _ _ h; first | (cases d <;> exact h) | cases h.1) rfl (by kernel_rfl) (by kernel_rfl) hS ?_
      simp only [pickL, pick1, List.cons_append, List.nil_append]
      (refine wpTake_cons (v := ?_) (Or.inl ⟨by rfl, ?_⟩) ?_; rotate_left; (intro w' hSw; have yc := hSw.c.c; have e1 := ((bcell hSw.b).1 _ (off + k) hb0).trans hcell; clear hSw; go_simp; (try with_reducible rfl)); (try simp only [Act.put, List.setIfInBounds_toArray, List.set_cons_zero, List.set_cons_succ]))
      (refine wpTake_cons (v := ?_) (Or.inl ⟨by rfl, ?_⟩) ?_; rotate_left; (intro w' hSw; have yc := hSw.c.c; have e1 := ((bcell hSw.b).1 _ (off + k) hb0).trans hcell; clear hSw; go_simp; (try with_reducible rfl)); (try simp only [Act.put, List.setIfInBounds_toArray, List.set_cons_zero, List.set_cons_succ]))
      (refine wpTake_cons (v := ?_) (Or.inl ⟨by rfl, ?_⟩) ?_; rotate_left; (intro w' hSw; have yc := hSw.c.c; have e1 := ((bcell hSw.b).1 _ (off + k) hb0).trans hcell; clear hSw; go_simp; (try with_reducible rfl)); (try simp only [Act.put, List.setIfInBounds_toArray, List.set_cons_zero, List.set_cons_succ]))
      (refine wpTake_cons (v := ?_) (Or.inl ⟨by rfl, ?_⟩) ?_; rotate_left; (intro w' hSw; have yc := hSw.c.c; have e1 := ((bcell hSw.b).1 _ (off + k) hb0).trans hcell; clear hSw; go_simp; (try with_reducible rfl)); (try simp only [Act.put, List.setIfInBounds_toArray, List.set_cons_zero, List.set_cons_succ]))
      (refine wpTake_cons (v := ?_) (Or.inl ⟨by rfl, ?_⟩) ?_; rotate_left; (intro w' hSw; have yc := hSw.c.c; have e1 := ((bcell hSw.b).1 _ (off + k) hb0).trans hcell; clear hSw; go_simp; (try with_reducible rfl)); (try simp only [Act.put, List.setIfInBounds_toArray, List.set_cons_zero, List.set_cons_succ]))
      (refine wpTake_cons (v := ?_) (Or.inl ⟨by rfl, ?_⟩) ?_; rotate_left; (intro w' hSw; have yc := hSw.c.c; have e1 := ((bcell hSw.b).1 _ (off + k) hb0).trans hcell; clear hSw; go_simp; (try with_reducible rfl)); (try simp only [Act.put, List.setIfInBounds_toArray, List.set_cons_zero, List.set_cons_succ]))
      (refine wpTake_cons (v := ?_) (Or.inl ⟨by rfl, ?_⟩) ?_; rotate_left; (intro w' hSw; have yc := hSw.c.c; have e1 := ((bcell hSw.b).1 _ (off + k) hb0).trans hcell; clear hSw; go_simp; (try with_reducible rfl)); (try simp only [Act.put, List.setIfInBounds_toArray, List.set_cons_zero, List.set_cons_succ]))
      (refine wpTake_cons (v := ?_) (Or.inl ⟨by rfl, ?_⟩) ?_; rotate_left; (intro w' hSw; have yc := hSw.c.c; have e1 := ((bcell hSw.b).1 _ (off + k) hb0).trans hcell; clear hSw; go_simp; (try with_reducible rfl)); (try simp only [Act.put, List.setIfInBounds_toArray, List.set_cons_zero, List.set_cons_succ]))
      refine wpTake_nil ?_
      refine rg_two (fuel := 3) 0 7 rfl (by kernel_rfl) (by kernel_rfl) ?_ ?_ <;> simp only [pick1, wpHead]
      · intro K' hK
        (first | rw [if_pos (by rfl)] | rw [if_neg (by intro h; cases h)] | skip)
        obtain ⟨lz, kz, fz⟩ := hs9
        have hs9 := Own.mk lz kz fz
        go_simp
        refine hK.out _ _ hS ?_
        clear hK lz kz fz
        (try simp only [Act.put, List.setIfInBounds_toArray, List.set_cons_zero, List.set_cons_succ])
        refine rg_one (fuel := 2) 7 rfl (by kernel_rfl) (by kernel_rfl) ?_
        simp only [pick1, wpHead]
        intro K' hK
        (first | rw [if_pos (by rfl)] | rw [if_neg (by intro h; cases h)] | skip)
        go_simp
        refine (hc46 _ hS.b).mono ?_
        rintro e W7 ⟨rfl, hb⟩
        go_simp
        replace hs9 := hs9.below hb hs9.lt
        replace hS := hS.below hb
        refine hK.out _ _ hS ?_
        clear hK hb
        (try simp only [Act.put, List.setIfInBounds_toArray, List.set_cons_zero, List.set_cons_succ])
        refine rg_one (fuel := 1) 10 rfl (by kernel_rfl) (by kernel_rfl) ?_
        simp only [pick1, wpHead]
        intro K' hK
        (first | rw [if_pos (by rfl)] | rw [if_neg (by intro h; cases h)] | skip)
        go_simp
        refine (wider59 lo hi x _ _).mono ?_
        rintro e W' ⟨rfl, hb⟩
        go_simp
        replace hs9 := hs9.below hb hs9.lt
        replace hS := hS.below hb
        refine hK.out _ _ hS ?_
        clear hK hb
        (try simp only [Act.put, List.setIfInBounds_toArray, List.set_cons_zero, List.set_cons_succ])
        refine rg_one (fuel := 0) 11 rfl (by kernel_rfl) (by kernel_rfl) ?_
        simp only [pick1, wpHead]
        intro K' hK
        (first | rw [if_pos (by rfl)] | rw [if_neg (by intro h; cases h)] | skip)
        obtain ⟨lz, kz, fz⟩ := hs9
        have hs9 := Own.mk lz kz fz
        go_simp
        have hs10 := own_set2 hs9 rfl (.int .i64 (wdL lo x ((k : Int) == 0))) (.int .i64 (wdH hi x ((k : Int) == 0)))
        replace hS := (hS.set (g := w.heap.size + 1) (by omega) 0 (.int .i64 (wdL lo x ((k : Int) == 0)))).set (g := w.heap.size + 1) (by omega) 1 (.int .i64 (wdH hi x ((k : Int) == 0)))
        refine hK.out _ _ hS ?_
        clear hK lz kz fz hs9
        (try simp only [Act.put, List.setIfInBounds_toArray, List.set_cons_zero, List.set_cons_succ])
        refine rg_done (by kernel_rfl) ?_
        refine ⟨rfl, ?_⟩
        have r1 := Lib.hid hS.c
        have r3 := Lib.hid hs10
        have r4 := Lib.hid hS.b
        clear hS hs10
        (try simp only [Exit.then, Exit.inBlock])
        go_wp2
        go_roundg (ls.length - (k + 1))
        case measure => omega
        case rel => exact ⟨k + 1, _, _, by omega, by go_num, r1, r3, r4, hsn⟩
      · intro K' hK
        (first | rw [if_pos (by rfl)] | rw [if_neg (by intro h; cases h)] | skip)
        go_simp
        refine (hc46 _ hS.b).mono ?_
        rintro e W7 ⟨rfl, hb⟩
        go_simp
        replace hs9 := hs9.below hb hs9.lt
        replace hS := hS.below hb
        refine hK.out _ _ hS ?_
        clear hK hb
        (try simp only [Act.put, List.setIfInBounds_toArray, List.set_cons_zero, List.set_cons_succ])
        refine rg_one (fuel := 2) 0 rfl (by kernel_rfl) (by kernel_rfl) ?_
        simp only [pick1, wpHead]
        intro K' hK
        (first | rw [if_pos (by rfl)] | rw [if_neg (by intro h; cases h)] | skip)
        obtain ⟨lz, kz, fz⟩ := hs9
        have hs9 := Own.mk lz kz fz
        go_simp
        refine hK.out _ _ hS ?_
        clear hK lz kz fz
        (try simp only [Act.put, List.setIfInBounds_toArray, List.set_cons_zero, List.set_cons_succ])
        refine rg_one (fuel := 1) 10 rfl (by kernel_rfl) (by kernel_rfl) ?_
        simp only [pick1, wpHead]
        intro K' hK
        (first | rw [if_pos (by rfl)] | rw [if_neg (by intro h; cases h)] | skip)
        go_simp
        refine (wider59 lo hi x _ _).mono ?_
        rintro e W' ⟨rfl, hb⟩
        go_simp
        replace hs9 := hs9.below hb hs9.lt
        replace hS := hS.below hb
        refine hK.out _ _ hS ?_
        clear hK hb
        (try simp only [Act.put, List.setIfInBounds_toArray, List.set_cons_zero, List.set_cons_succ])
        refine rg_one (fuel := 0) 11 rfl (by kernel_rfl) (by kernel_rfl) ?_
        simp only [pick1, wpHead]
        intro K' hK
        (first | rw [if_pos (by rfl)] | rw [if_neg (by intro h; cases h)] | skip)
        obtain ⟨lz, kz, fz⟩ := hs9
        have hs9 := Own.mk lz kz fz
        go_simp
        have hs10 := own_set2 hs9 rfl (.int .i64 (wdL lo x ((k : Int) == 0))) (.int .i64 (wdH hi x ((k : Int) == 0)))
        replace hS := (hS.set (g := w.heap.size + 1) (by omega) 0 (.int .i64 (wdL lo x ((k : Int) == 0)))).set (g := w.heap.size + 1) (by omega) 1 (.int .i64 (wdH hi x ((k : Int) == 0)))
        refine hK.out _ _ hS ?_
        clear hK lz kz fz hs9
        (try simp only [Act.put, List.setIfInBounds_toArray, List.set_cons_zero, List.set_cons_succ])
        refine rg_done (by kernel_rfl) ?_
        refine ⟨rfl, ?_⟩
        have r1 := Lib.hid hS.c
        have r3 := Lib.hid hs10
        have r4 := Lib.hid hS.b
        clear hS hs10
        (try simp only [Exit.then, Exit.inBlock])
        go_wp2
        go_roundg (ls.length - (k + 1))
        case measure => omega
        case rel => exact ⟨k + 1, _, _, by omega, by go_num, r1, r3, r4, hsn⟩
    · obtain rfl : k = ls.length := by omega
      have hres := Lib.hid hsp.out
      have hbd := hsp.out.bd (B := 2600) (by omega) (fun l hl => by
        have hm := hmem.out l hl
        exact sUp_bd9 (fun i hi => by
          have h1 := fnL_at (l := l) (i := i) (by omega)
          exact hm.2 _ (List.mem_of_getElem? h1)) (by omega))
      obtain ⟨lz, kz, fz⟩ := hos.out
      clear hoc hsp hmem
      go_wp2
      go_ret
      exact ⟨lo, hi, rfl, hres, by omega, hbw.out⟩
end Go.Proofs.Ytphcpphmoeiioaa
