/- Walks: Level where open falls (merged) -/
import Derived.Test.YtphcpphmoeiioaaLvW
namespace Go.Proofs.Ytphcpphmoeiioaa
open Go.RowKit Go.Maps

set_option maxRecDepth 100000 in
set_option maxHeartbeats 8000000 in
theorem level42n3 (L sl rl rh wg : Int) (A : Option Addr) (n cap : Nat) (ks : List Kn) (lv a b : Int) (w : World) (hA : Rd 3 w A (ks.map krow)) (hn : Hid (n = ks.length)) (hlen : n ≤ 9223372036854775807) (CL : Hid (btw lv (-100) 100 = true)) (CA : Hid (btw a 0 L = true)) (CB : Hid (btw b 0 L = false)) :
    Calls Try.prog 42 #[.agg #[.int .i64 L, .int .i64 sl, .int .i64 rl, .int .i64 rh, .slice A n cap, .int .i64 wg], .int .i64 lv, .int .i64 a, .int .i64 b] w fun e w' => ∃ er : Int, e = .returned (.tuple #[.int .i64 0, .int .i64 er]) ∧ Hid (er ≠ 0 ∧ OpenR L sl rl rh wg ks false er) ∧ Below w.heap.size w w' := by
  have HA := Lib.hid hA
  clear hA
  go_enter Try.func42, Try.ntmps42
  go_wp2
  have hS0 : OpI w w.heap.size w.heap.size [.int .i64 L, .int .i64 sl, .int .i64 rl, .int .i64 rh, .slice A n cap, .int .i64 wg] [.int .i64 L, .int .i64 sl, .int .i64 rl, .int .i64 rh, .slice A n cap, .int .i64 wg] (w.alloc (.cells #[.int .i64 L, .int .i64 sl, .int .i64 rl, .int .i64 rh, .slice A n cap, .int .i64 wg] 26)) := ⟨Own.new' _ _ rfl rfl, Own.new' _ _ rfl rfl, by (repeat' (first | (with_reducible exact Below.refl _ _) | (with_reducible assumption) | (with_reducible refine Below.drew ?_) | (with_reducible refine below_drewN ?_ _) | (with_reducible refine Below.setCell ?_ ?_ _) | (with_reducible refine Below.alloc ?_ ?_ _) | (refine Below.trans ?_ (Below.mono (by with_reducible assumption) ?_)) | omega | (exact Below.size (by with_reducible assumption)) | (simp; done) | (simp; omega)))⟩
  refine Code.wp_mono (Q := fun e a' w' => e = .normal ∧ ∃ (g : Nat) (er : Int) (u12 u13 u14 u15 u16 u17 u18 u19 u20 u21 u22 u23 u24 u25 u26 u27 u28 u29 u30 u31 u32 u33 : Value), Hid (OpenR L sl rl rh wg ks false er) ∧ OpI w w.heap.size w.heap.size [.int .i64 L, .int .i64 sl, .int .i64 rl, .int .i64 rh, .slice A n cap, .int .i64 wg] [.int .i64 L, .int .i64 sl, .int .i64 rl, .int .i64 rh, .slice A n cap, .int .i64 wg] w' ∧ Own w' g [.int .i64 L, .int .i64 sl, .int .i64 rl, .int .i64 rh, .slice A n cap, .int .i64 wg, .map none] ∧ (w.heap.size ≤ g ∧ w.heap.size ≠ g ∧ w.heap.size ≠ g) ∧ a' = { tmps := #[.agg #[.int .i64 L, .int .i64 sl, .int .i64 rl, .int .i64 rh, .slice A n cap, .int .i64 wg], .int .i64 lv, .int .i64 a, .int .i64 b, .pointer (some ⟨w.heap.size, 0, none⟩), undef, undef, undef, .int .i64 0, .int .i64 0, .pointer (some ⟨g, 0, none⟩), .int .i64 er, u12, u13, u14, u15, u16, u17, u18, u19, u20, u21, u22, u23, u24, u25, u26, u27, u28, u29, u30, u31, u32, u33, undef, undef, undef, undef, undef, undef, undef, undef, undef, undef, undef, undef, undef, undef, undef, undef, undef, undef], defers := [] }) ?_ ?_
  rotate_left
  · have hS := hS0.drew
    refine rg_start (fun w' => OpI w w.heap.size w.heap.size [.int .i64 L, .int .i64 sl, .int .i64 rl, .int .i64 rh, .slice A n cap, .int .i64 wg] [.int .i64 L, .int .i64 sl, .int .i64 rl, .int .i64 rh, .slice A n cap, .int .i64 wg] w') 25 (by kernel_rfl) rfl ?_
    clear hS0
    generalize World.drew _ = W at hS ⊢
    refine rg_take (fuel := 23) [0, 1] (by kernel_rfl) (by intro _ _ _ _ _ h; cases h.1) rfl (by kernel_rfl) (by kernel_rfl) hS ?_
    simp only [pickL, pick1, List.cons_append, List.nil_append]
    (refine wpTake_cons (v := ?_) (Or.inl ⟨by rfl, ?_⟩) ?_; rotate_left; (intro w' hSw; have yc := hSw.c.c; have yd := hSw.d.c; clear hSw; go_simp; (try with_reducible rfl)); (try simp only [Act.put, List.setIfInBounds_toArray, List.set_cons_zero, List.set_cons_succ]))
    (refine wpTake_cons (v := ?_) (Or.inl ⟨by rfl, ?_⟩) ?_; rotate_left; (intro w' hSw; have yc := hSw.c.c; have yd := hSw.d.c; clear hSw; go_simp; (try with_reducible rfl)); (try simp only [Act.put, List.setIfInBounds_toArray, List.set_cons_zero, List.set_cons_succ]))
    refine wpTake_nil ?_
    refine rg_two (fuel := 22) 2 22 rfl (by kernel_rfl) (by kernel_rfl) ?_ ?_ <;> simp only [pick1, wpHead]
    · intro K' hK
      (first | rw [if_pos (by rfl)] | rw [if_neg (by intro h; cases h)] | skip)
      go_simp
      refine (within66c _ _ _ _).mono ?_
      rw [CL.out]
      rintro e W1 ⟨rfl, hb⟩
      go_simp
      replace hS := hS.below hb
      refine hK.out _ _ hS ?_
      clear hK hb
      (try simp only [Act.put, List.setIfInBounds_toArray, List.set_cons_zero, List.set_cons_succ])
      clear W
      refine rg_take (fuel := 19) [3, 4, 5] (by kernel_rfl) (by intro _ _ _ _ _ h; cases h.1) rfl (by kernel_rfl) (by kernel_rfl) hS ?_
      simp only [pickL, pick1, List.cons_append, List.nil_append]
      (refine wpTake_cons (v := ?_) (Or.inl ⟨by rfl, ?_⟩) ?_; rotate_left; (intro w' hSw; have yc := hSw.c.c; have yd := hSw.d.c; clear hSw; go_simp; (try with_reducible rfl)); (try simp only [Act.put, List.setIfInBounds_toArray, List.set_cons_zero, List.set_cons_succ]))
      (refine wpTake_cons (v := ?_) (Or.inl ⟨by rfl, ?_⟩) ?_; rotate_left; (intro w' hSw; have yc := hSw.c.c; have yd := hSw.d.c; clear hSw; go_simp; (try with_reducible rfl)); (try simp only [Act.put, List.setIfInBounds_toArray, List.set_cons_zero, List.set_cons_succ]))
      (refine wpTake_cons (v := ?_) (Or.inl ⟨by rfl, ?_⟩) ?_; rotate_left; (intro w' hSw; have yc := hSw.c.c; have yd := hSw.d.c; clear hSw; go_simp; (try with_reducible rfl)); (try simp only [Act.put, List.setIfInBounds_toArray, List.set_cons_zero, List.set_cons_succ]))
      refine wpTake_nil ?_
      refine rg_two (fuel := 18) 6 22 rfl (by kernel_rfl) (by kernel_rfl) ?_ ?_ <;> simp only [pick1, wpHead]
      · intro K' hK
        (first | rw [if_pos (by rfl)] | rw [if_neg (by intro h; cases h)] | skip)
        go_simp
        refine (isPlace56 _ _ _ _ _ _ _ _).mono ?_
        rw [CA.out]
        rintro e W2 ⟨rfl, hb⟩
        go_simp
        replace hS := hS.below hb
        refine hK.out _ _ hS ?_
        clear hK hb
        (try simp only [Act.put, List.setIfInBounds_toArray, List.set_cons_zero, List.set_cons_succ])
        clear W1
        refine rg_take (fuel := 14) [7, 8, 9, 10] (by kernel_rfl) (by intro _ _ _ _ _ h; cases h.1) rfl (by kernel_rfl) (by kernel_rfl) hS ?_
        simp only [pickL, pick1, List.cons_append, List.nil_append]
        (refine wpTake_cons (v := ?_) (Or.inl ⟨by rfl, ?_⟩) ?_; rotate_left; (intro w' hSw; have yc := hSw.c.c; have yd := hSw.d.c; clear hSw; go_simp; (try with_reducible rfl)); (try simp only [Act.put, List.setIfInBounds_toArray, List.set_cons_zero, List.set_cons_succ]))
        (refine wpTake_cons (v := ?_) (Or.inl ⟨by rfl, ?_⟩) ?_; rotate_left; (intro w' hSw; have yc := hSw.c.c; have yd := hSw.d.c; clear hSw; go_simp; (try with_reducible rfl)); (try simp only [Act.put, List.setIfInBounds_toArray, List.set_cons_zero, List.set_cons_succ]))
        (refine wpTake_cons (v := ?_) (Or.inl ⟨by rfl, ?_⟩) ?_; rotate_left; (intro w' hSw; have yc := hSw.c.c; have yd := hSw.d.c; clear hSw; go_simp; (try with_reducible rfl)); (try simp only [Act.put, List.setIfInBounds_toArray, List.set_cons_zero, List.set_cons_succ]))
        (refine wpTake_cons (v := ?_) (Or.inl ⟨by rfl, ?_⟩) ?_; rotate_left; (intro w' hSw; have yc := hSw.c.c; have yd := hSw.d.c; clear hSw; go_simp; (try with_reducible rfl)); (try simp only [Act.put, List.setIfInBounds_toArray, List.set_cons_zero, List.set_cons_succ]))
        refine wpTake_nil ?_
        refine rg_two (fuel := 13) 11 22 rfl (by kernel_rfl) (by kernel_rfl) ?_ ?_ <;> simp only [pick1, wpHead]
        · intro K' hK
          (first | rw [if_pos (by rfl)] | rw [if_neg (by intro h; cases h)] | skip)
          go_simp
          refine (isPlace56 _ _ _ _ _ _ _ _).mono ?_
          rw [CB.out]
          rintro e W3 ⟨rfl, hb⟩
          go_simp
          replace hS := hS.below hb
          refine hK.out _ _ hS ?_
          clear hK hb
          (try simp only [Act.put, List.setIfInBounds_toArray, List.set_cons_zero, List.set_cons_succ])
          clear W2
          refine rg_take (fuel := 7) [12, 13, 14, 15, 16, 17] (by kernel_rfl) (by intro _ _ _ _ _ h; cases h.1) rfl (by kernel_rfl) (by kernel_rfl) hS ?_
          simp only [pickL, pick1, List.cons_append, List.nil_append]
          (refine wpTake_cons (v := ?_) (Or.inl ⟨by rfl, ?_⟩) ?_; rotate_left; (intro w' hSw; have yc := hSw.c.c; have yd := hSw.d.c; clear hSw; go_simp; (try with_reducible rfl)); (try simp only [Act.put, List.setIfInBounds_toArray, List.set_cons_zero, List.set_cons_succ]))
          (refine wpTake_cons (v := ?_) (Or.inl ⟨by rfl, ?_⟩) ?_; rotate_left; (intro w' hSw; have yc := hSw.c.c; have yd := hSw.d.c; clear hSw; go_simp; (try with_reducible rfl)); (try simp only [Act.put, List.setIfInBounds_toArray, List.set_cons_zero, List.set_cons_succ]))
          (refine wpTake_cons (v := undef) (Or.inr ⟨by rfl, rfl⟩) ?_; (try simp only [Act.put, List.setIfInBounds_toArray, List.set_cons_zero, List.set_cons_succ]))
          (refine wpTake_cons (v := undef) (Or.inr ⟨by rfl, rfl⟩) ?_; (try simp only [Act.put, List.setIfInBounds_toArray, List.set_cons_zero, List.set_cons_succ]))
          (refine wpTake_cons (v := undef) (Or.inr ⟨by rfl, rfl⟩) ?_; (try simp only [Act.put, List.setIfInBounds_toArray, List.set_cons_zero, List.set_cons_succ]))
          (refine wpTake_cons (v := ?_) (Or.inl ⟨by rfl, ?_⟩) ?_; rotate_left; (intro w' hSw; have yc := hSw.c.c; have yd := hSw.d.c; clear hSw; go_simp; (try with_reducible rfl)); (try simp only [Act.put, List.setIfInBounds_toArray, List.set_cons_zero, List.set_cons_succ]))
          refine wpTake_nil ?_
          refine rg_two (fuel := 6) 18 22 rfl (by kernel_rfl) (by kernel_rfl) ?_ ?_ <;> simp only [pick1, wpHead]
          · intro K' hK
            (first | rw [if_pos (by rfl)] | rw [if_neg (by intro h; cases h)] | skip)
            go_simp
            refine (open50 L sl rl rh wg A n cap ks _ _ (HA.out.below hS.b (Nat.le_refl _)) hn hlen).mono ?_
            rintro e W4 ⟨er, rfl, hO, hb⟩
            go_simp
            replace hS := hS.below hb
            refine hK.out _ _ hS ?_
            clear hK hb
            (try simp only [Act.put, List.setIfInBounds_toArray, List.set_cons_zero, List.set_cons_succ])
            clear W3
            refine rg_take (fuel := 3) [19, 20, 21] (by kernel_rfl) (by intro _ _ _ _ _ h; cases h.1) rfl (by kernel_rfl) (by kernel_rfl) hS ?_
            simp only [pickL, pick1, List.cons_append, List.nil_append]
            (refine wpTake_cons (v := ?_) (Or.inl ⟨by rfl, ?_⟩) ?_; rotate_left; (intro w' hSw; have yc := hSw.c.c; have yd := hSw.d.c; clear hSw; go_simp; (try with_reducible rfl)); (try simp only [Act.put, List.setIfInBounds_toArray, List.set_cons_zero, List.set_cons_succ]))
            (refine wpTake_cons (v := ?_) (Or.inl ⟨by rfl, ?_⟩) ?_; rotate_left; (intro w' hSw; have yc := hSw.c.c; have yd := hSw.d.c; clear hSw; go_simp; (try with_reducible rfl)); (try simp only [Act.put, List.setIfInBounds_toArray, List.set_cons_zero, List.set_cons_succ]))
            (refine wpTake_cons (v := ?_) (Or.inl ⟨by rfl, ?_⟩) ?_; rotate_left; (intro w' hSw; have yc := hSw.c.c; have yd := hSw.d.c; clear hSw; go_simp; (try with_reducible rfl)); (try simp only [Act.put, List.setIfInBounds_toArray, List.set_cons_zero, List.set_cons_succ]))
            refine wpTake_nil ?_
            refine rg_one (fuel := 2) 22 rfl (by kernel_rfl) (by kernel_rfl) ?_
            simp only [pick1, wpHead]
            intro K' hK
            (first | rw [if_pos (by rfl)] | rw [if_neg (by intro h; cases h)] | skip)
            go_simp
            have oB := Own.new (w := W4) #[.int .i64 0, .int .i64 0, .int .i64 0, .int .i64 0, .slice none 0 0, .int .i64 0, .map none] 70
            have hb : Below W4.heap.size W4 (W4.alloc (.cells #[.int .i64 0, .int .i64 0, .int .i64 0, .int .i64 0, .slice none 0 0, .int .i64 0, .map none] 70)) := (Below.refl _ _).alloc (Nat.le_refl _) _
            have hg := hS.fresh
            replace hS := hS.below hb
            refine hK.out _ _ hS ?_
            clear hK hb
            (try simp only [Act.put, List.setIfInBounds_toArray, List.set_cons_zero, List.set_cons_succ])
            generalize World.alloc W4 _ = W5 at hS oB ⊢
            generalize W4.heap.size = g at hg oB ⊢
            clear W4
            refine rg_one (fuel := 1) 23 rfl (by kernel_rfl) (by kernel_rfl) ?_
            simp only [pick1, wpHead]
            intro K' hK
            (first | rw [if_pos (by rfl)] | rw [if_neg (by intro h; cases h)] | skip)
            obtain ⟨lB, kB, fB⟩ := oB
            have oB := Own.mk lB kB fB
            go_simp
            clear lB kB fB
            have oB2 := own_set7 oB rfl (.int .i64 L) (.int .i64 sl) (.int .i64 rl) (.int .i64 rh) (.slice A n cap) (.int .i64 wg) (.map none)
            replace hS := hS.set7 hg (.int .i64 L) (.int .i64 sl) (.int .i64 rl) (.int .i64 rh) (.slice A n cap) (.int .i64 wg) (.map none)
            refine hK.out _ _ hS ?_
            clear hK oB
            (try simp only [Act.put, List.setIfInBounds_toArray, List.set_cons_zero, List.set_cons_succ])
            refine rg_one (fuel := 0) 24 rfl (by kernel_rfl) (by kernel_rfl) ?_
            simp only [pick1, wpHead]
            intro K' hK
            (first | rw [if_pos (by rfl)] | rw [if_neg (by intro h; cases h)] | skip)
            go_simp
            refine hK.out _ _ hS ?_
            clear hK
            (try simp only [Act.put, List.setIfInBounds_toArray, List.set_cons_zero, List.set_cons_succ])
            refine rg_done (by kernel_rfl) ?_
            exact ⟨rfl, _, er, _, _, _, _, _, _, _, _, _, _, _, _, _, _, _, _, _, _, _, _, _, _, hO, hS, oB2, hg, rfl⟩
          · intro K' hK
            (first | rw [if_pos (by rfl)] | rw [if_neg (by intro h; cases h)] | skip)
            go_simp
            have oB := Own.new (w := W3) #[.int .i64 0, .int .i64 0, .int .i64 0, .int .i64 0, .slice none 0 0, .int .i64 0, .map none] 70
            have hb : Below W3.heap.size W3 (W3.alloc (.cells #[.int .i64 0, .int .i64 0, .int .i64 0, .int .i64 0, .slice none 0 0, .int .i64 0, .map none] 70)) := (Below.refl _ _).alloc (Nat.le_refl _) _
            have hg := hS.fresh
            replace hS := hS.below hb
            refine hK.out _ _ hS ?_
            clear hK hb
            (try simp only [Act.put, List.setIfInBounds_toArray, List.set_cons_zero, List.set_cons_succ])
            generalize World.alloc W3 _ = W6 at hS oB ⊢
            generalize W3.heap.size = g at hg oB ⊢
            clear W3
            refine rg_one (fuel := 5) 18 rfl (by kernel_rfl) (by kernel_rfl) ?_
            simp only [pick1, wpHead]
            intro K' hK
            (first | rw [if_pos (by rfl)] | rw [if_neg (by intro h; cases h)] | skip)
            go_simp
            refine (open50 L sl rl rh wg A n cap ks _ _ (HA.out.below hS.b (Nat.le_refl _)) hn hlen).mono ?_
            rintro e W7 ⟨er, rfl, hO, hb⟩
            go_simp
            replace oB := oB.below hb oB.lt
            replace hS := hS.below hb
            refine hK.out _ _ hS ?_
            clear hK hb
            (try simp only [Act.put, List.setIfInBounds_toArray, List.set_cons_zero, List.set_cons_succ])
            clear W6
            refine rg_take (fuel := 2) [19, 20, 21] (by kernel_rfl) (by intro _ _ _ _ _ h; cases h.1) rfl (by kernel_rfl) (by kernel_rfl) hS ?_
            simp only [pickL, pick1, List.cons_append, List.nil_append]
            (refine wpTake_cons (v := ?_) (Or.inl ⟨by rfl, ?_⟩) ?_; rotate_left; (intro w' hSw; have yc := hSw.c.c; have yd := hSw.d.c; clear hSw; go_simp; (try with_reducible rfl)); (try simp only [Act.put, List.setIfInBounds_toArray, List.set_cons_zero, List.set_cons_succ]))
            (refine wpTake_cons (v := ?_) (Or.inl ⟨by rfl, ?_⟩) ?_; rotate_left; (intro w' hSw; have yc := hSw.c.c; have yd := hSw.d.c; clear hSw; go_simp; (try with_reducible rfl)); (try simp only [Act.put, List.setIfInBounds_toArray, List.set_cons_zero, List.set_cons_succ]))
            (refine wpTake_cons (v := ?_) (Or.inl ⟨by rfl, ?_⟩) ?_; rotate_left; (intro w' hSw; have yc := hSw.c.c; have yd := hSw.d.c; clear hSw; go_simp; (try with_reducible rfl)); (try simp only [Act.put, List.setIfInBounds_toArray, List.set_cons_zero, List.set_cons_succ]))
            refine wpTake_nil ?_
            refine rg_one (fuel := 1) 23 rfl (by kernel_rfl) (by kernel_rfl) ?_
            simp only [pick1, wpHead]
            intro K' hK
            (first | rw [if_pos (by rfl)] | rw [if_neg (by intro h; cases h)] | skip)
            obtain ⟨lB, kB, fB⟩ := oB
            have oB := Own.mk lB kB fB
            go_simp
            clear lB kB fB
            have oB2 := own_set7 oB rfl (.int .i64 L) (.int .i64 sl) (.int .i64 rl) (.int .i64 rh) (.slice A n cap) (.int .i64 wg) (.map none)
            replace hS := hS.set7 hg (.int .i64 L) (.int .i64 sl) (.int .i64 rl) (.int .i64 rh) (.slice A n cap) (.int .i64 wg) (.map none)
            refine hK.out _ _ hS ?_
            clear hK oB
            (try simp only [Act.put, List.setIfInBounds_toArray, List.set_cons_zero, List.set_cons_succ])
            refine rg_one (fuel := 0) 24 rfl (by kernel_rfl) (by kernel_rfl) ?_
            simp only [pick1, wpHead]
            intro K' hK
            (first | rw [if_pos (by rfl)] | rw [if_neg (by intro h; cases h)] | skip)
            go_simp
            refine hK.out _ _ hS ?_
            clear hK
            (try simp only [Act.put, List.setIfInBounds_toArray, List.set_cons_zero, List.set_cons_succ])
            refine rg_done (by kernel_rfl) ?_
            exact ⟨rfl, _, er, _, _, _, _, _, _, _, _, _, _, _, _, _, _, _, _, _, _, _, _, _, _, hO, hS, oB2, hg, rfl⟩
        · intro K' hK
          (first | rw [if_pos (by rfl)] | rw [if_neg (by intro h; cases h)] | skip)
          go_simp
          have oB := Own.new (w := W2) #[.int .i64 0, .int .i64 0, .int .i64 0, .int .i64 0, .slice none 0 0, .int .i64 0, .map none] 70
          have hb : Below W2.heap.size W2 (W2.alloc (.cells #[.int .i64 0, .int .i64 0, .int .i64 0, .int .i64 0, .slice none 0 0, .int .i64 0, .map none] 70)) := (Below.refl _ _).alloc (Nat.le_refl _) _
          have hg := hS.fresh
          replace hS := hS.below hb
          refine hK.out _ _ hS ?_
          clear hK hb
          (try simp only [Act.put, List.setIfInBounds_toArray, List.set_cons_zero, List.set_cons_succ])
          generalize World.alloc W2 _ = W8 at hS oB ⊢
          generalize W2.heap.size = g at hg oB ⊢
          clear W2
          refine rg_one (fuel := 12) 11 rfl (by kernel_rfl) (by kernel_rfl) ?_
          simp only [pick1, wpHead]
          intro K' hK
          (first | rw [if_pos (by rfl)] | rw [if_neg (by intro h; cases h)] | skip)
          go_simp
          refine (isPlace56 _ _ _ _ _ _ _ _).mono ?_
          rw [CB.out]
          rintro e W9 ⟨rfl, hb⟩
          go_simp
          replace oB := oB.below hb oB.lt
          replace hS := hS.below hb
          refine hK.out _ _ hS ?_
          clear hK hb
          (try simp only [Act.put, List.setIfInBounds_toArray, List.set_cons_zero, List.set_cons_succ])
          clear W8
          refine rg_take (fuel := 6) [12, 13, 14, 15, 16, 17] (by kernel_rfl) (by intro _ _ _ _ _ h; cases h.1) rfl (by kernel_rfl) (by kernel_rfl) hS ?_
          simp only [pickL, pick1, List.cons_append, List.nil_append]
          (refine wpTake_cons (v := ?_) (Or.inl ⟨by rfl, ?_⟩) ?_; rotate_left; (intro w' hSw; have yc := hSw.c.c; have yd := hSw.d.c; clear hSw; go_simp; (try with_reducible rfl)); (try simp only [Act.put, List.setIfInBounds_toArray, List.set_cons_zero, List.set_cons_succ]))
          (refine wpTake_cons (v := ?_) (Or.inl ⟨by rfl, ?_⟩) ?_; rotate_left; (intro w' hSw; have yc := hSw.c.c; have yd := hSw.d.c; clear hSw; go_simp; (try with_reducible rfl)); (try simp only [Act.put, List.setIfInBounds_toArray, List.set_cons_zero, List.set_cons_succ]))
          (refine wpTake_cons (v := undef) (Or.inr ⟨by rfl, rfl⟩) ?_; (try simp only [Act.put, List.setIfInBounds_toArray, List.set_cons_zero, List.set_cons_succ]))
          (refine wpTake_cons (v := undef) (Or.inr ⟨by rfl, rfl⟩) ?_; (try simp only [Act.put, List.setIfInBounds_toArray, List.set_cons_zero, List.set_cons_succ]))
          (refine wpTake_cons (v := undef) (Or.inr ⟨by rfl, rfl⟩) ?_; (try simp only [Act.put, List.setIfInBounds_toArray, List.set_cons_zero, List.set_cons_succ]))
          (refine wpTake_cons (v := ?_) (Or.inl ⟨by rfl, ?_⟩) ?_; rotate_left; (intro w' hSw; have yc := hSw.c.c; have yd := hSw.d.c; clear hSw; go_simp; (try with_reducible rfl)); (try simp only [Act.put, List.setIfInBounds_toArray, List.set_cons_zero, List.set_cons_succ]))
          refine wpTake_nil ?_
          refine rg_one (fuel := 5) 18 rfl (by kernel_rfl) (by kernel_rfl) ?_
          simp only [pick1, wpHead]
          intro K' hK
          (first | rw [if_pos (by rfl)] | rw [if_neg (by intro h; cases h)] | skip)
          go_simp
          refine (open50 L sl rl rh wg A n cap ks _ _ (HA.out.below hS.b (Nat.le_refl _)) hn hlen).mono ?_
          rintro e W10 ⟨er, rfl, hO, hb⟩
          go_simp
          replace oB := oB.below hb oB.lt
          replace hS := hS.below hb
          refine hK.out _ _ hS ?_
          clear hK hb
          (try simp only [Act.put, List.setIfInBounds_toArray, List.set_cons_zero, List.set_cons_succ])
          clear W9
          refine rg_take (fuel := 2) [19, 20, 21] (by kernel_rfl) (by intro _ _ _ _ _ h; cases h.1) rfl (by kernel_rfl) (by kernel_rfl) hS ?_
          simp only [pickL, pick1, List.cons_append, List.nil_append]
          (refine wpTake_cons (v := ?_) (Or.inl ⟨by rfl, ?_⟩) ?_; rotate_left; (intro w' hSw; have yc := hSw.c.c; have yd := hSw.d.c; clear hSw; go_simp; (try with_reducible rfl)); (try simp only [Act.put, List.setIfInBounds_toArray, List.set_cons_zero, List.set_cons_succ]))
          (refine wpTake_cons (v := ?_) (Or.inl ⟨by rfl, ?_⟩) ?_; rotate_left; (intro w' hSw; have yc := hSw.c.c; have yd := hSw.d.c; clear hSw; go_simp; (try with_reducible rfl)); (try simp only [Act.put, List.setIfInBounds_toArray, List.set_cons_zero, List.set_cons_succ]))
          (refine wpTake_cons (v := ?_) (Or.inl ⟨by rfl, ?_⟩) ?_; rotate_left; (intro w' hSw; have yc := hSw.c.c; have yd := hSw.d.c; clear hSw; go_simp; (try with_reducible rfl)); (try simp only [Act.put, List.setIfInBounds_toArray, List.set_cons_zero, List.set_cons_succ]))
          refine wpTake_nil ?_
          refine rg_one (fuel := 1) 23 rfl (by kernel_rfl) (by kernel_rfl) ?_
          simp only [pick1, wpHead]
          intro K' hK
          (first | rw [if_pos (by rfl)] | rw [if_neg (by intro h; cases h)] | skip)
          obtain ⟨lB, kB, fB⟩ := oB
          have oB := Own.mk lB kB fB
          go_simp
          clear lB kB fB
          have oB2 := own_set7 oB rfl (.int .i64 L) (.int .i64 sl) (.int .i64 rl) (.int .i64 rh) (.slice A n cap) (.int .i64 wg) (.map none)
          replace hS := hS.set7 hg (.int .i64 L) (.int .i64 sl) (.int .i64 rl) (.int .i64 rh) (.slice A n cap) (.int .i64 wg) (.map none)
          refine hK.out _ _ hS ?_
          clear hK oB
          (try simp only [Act.put, List.setIfInBounds_toArray, List.set_cons_zero, List.set_cons_succ])
          refine rg_one (fuel := 0) 24 rfl (by kernel_rfl) (by kernel_rfl) ?_
          simp only [pick1, wpHead]
          intro K' hK
          (first | rw [if_pos (by rfl)] | rw [if_neg (by intro h; cases h)] | skip)
          go_simp
          refine hK.out _ _ hS ?_
          clear hK
          (try simp only [Act.put, List.setIfInBounds_toArray, List.set_cons_zero, List.set_cons_succ])
          refine rg_done (by kernel_rfl) ?_
          exact ⟨rfl, _, er, _, _, _, _, _, _, _, _, _, _, _, _, _, _, _, _, _, _, _, _, _, _, hO, hS, oB2, hg, rfl⟩
      · intro K' hK
        (first | rw [if_pos (by rfl)] | rw [if_neg (by intro h; cases h)] | skip)
        go_simp
        have oB := Own.new (w := W1) #[.int .i64 0, .int .i64 0, .int .i64 0, .int .i64 0, .slice none 0 0, .int .i64 0, .map none] 70
        have hb : Below W1.heap.size W1 (W1.alloc (.cells #[.int .i64 0, .int .i64 0, .int .i64 0, .int .i64 0, .slice none 0 0, .int .i64 0, .map none] 70)) := (Below.refl _ _).alloc (Nat.le_refl _) _
        have hg := hS.fresh
        replace hS := hS.below hb
        refine hK.out _ _ hS ?_
        clear hK hb
        (try simp only [Act.put, List.setIfInBounds_toArray, List.set_cons_zero, List.set_cons_succ])
        generalize World.alloc W1 _ = W11 at hS oB ⊢
        generalize W1.heap.size = g at hg oB ⊢
        clear W1
        refine rg_one (fuel := 17) 6 rfl (by kernel_rfl) (by kernel_rfl) ?_
        simp only [pick1, wpHead]
        intro K' hK
        (first | rw [if_pos (by rfl)] | rw [if_neg (by intro h; cases h)] | skip)
        go_simp
        refine (isPlace56 _ _ _ _ _ _ _ _).mono ?_
        rw [CA.out]
        rintro e W12 ⟨rfl, hb⟩
        go_simp
        replace oB := oB.below hb oB.lt
        replace hS := hS.below hb
        refine hK.out _ _ hS ?_
        clear hK hb
        (try simp only [Act.put, List.setIfInBounds_toArray, List.set_cons_zero, List.set_cons_succ])
        clear W11
        refine rg_take (fuel := 13) [7, 8, 9, 10] (by kernel_rfl) (by intro _ _ _ _ _ h; cases h.1) rfl (by kernel_rfl) (by kernel_rfl) hS ?_
        simp only [pickL, pick1, List.cons_append, List.nil_append]
        (refine wpTake_cons (v := ?_) (Or.inl ⟨by rfl, ?_⟩) ?_; rotate_left; (intro w' hSw; have yc := hSw.c.c; have yd := hSw.d.c; clear hSw; go_simp; (try with_reducible rfl)); (try simp only [Act.put, List.setIfInBounds_toArray, List.set_cons_zero, List.set_cons_succ]))
        (refine wpTake_cons (v := ?_) (Or.inl ⟨by rfl, ?_⟩) ?_; rotate_left; (intro w' hSw; have yc := hSw.c.c; have yd := hSw.d.c; clear hSw; go_simp; (try with_reducible rfl)); (try simp only [Act.put, List.setIfInBounds_toArray, List.set_cons_zero, List.set_cons_succ]))
        (refine wpTake_cons (v := ?_) (Or.inl ⟨by rfl, ?_⟩) ?_; rotate_left; (intro w' hSw; have yc := hSw.c.c; have yd := hSw.d.c; clear hSw; go_simp; (try with_reducible rfl)); (try simp only [Act.put, List.setIfInBounds_toArray, List.set_cons_zero, List.set_cons_succ]))
        (refine wpTake_cons (v := ?_) (Or.inl ⟨by rfl, ?_⟩) ?_; rotate_left; (intro w' hSw; have yc := hSw.c.c; have yd := hSw.d.c; clear hSw; go_simp; (try with_reducible rfl)); (try simp only [Act.put, List.setIfInBounds_toArray, List.set_cons_zero, List.set_cons_succ]))
        refine wpTake_nil ?_
        refine rg_one (fuel := 12) 11 rfl (by kernel_rfl) (by kernel_rfl) ?_
        simp only [pick1, wpHead]
        intro K' hK
        (first | rw [if_pos (by rfl)] | rw [if_neg (by intro h; cases h)] | skip)
        go_simp
        refine (isPlace56 _ _ _ _ _ _ _ _).mono ?_
        rw [CB.out]
        rintro e W13 ⟨rfl, hb⟩
        go_simp
        replace oB := oB.below hb oB.lt
        replace hS := hS.below hb
        refine hK.out _ _ hS ?_
        clear hK hb
        (try simp only [Act.put, List.setIfInBounds_toArray, List.set_cons_zero, List.set_cons_succ])
        clear W12
        refine rg_take (fuel := 6) [12, 13, 14, 15, 16, 17] (by kernel_rfl) (by intro _ _ _ _ _ h; cases h.1) rfl (by kernel_rfl) (by kernel_rfl) hS ?_
        simp only [pickL, pick1, List.cons_append, List.nil_append]
        (refine wpTake_cons (v := ?_) (Or.inl ⟨by rfl, ?_⟩) ?_; rotate_left; (intro w' hSw; have yc := hSw.c.c; have yd := hSw.d.c; clear hSw; go_simp; (try with_reducible rfl)); (try simp only [Act.put, List.setIfInBounds_toArray, List.set_cons_zero, List.set_cons_succ]))
        (refine wpTake_cons (v := ?_) (Or.inl ⟨by rfl, ?_⟩) ?_; rotate_left; (intro w' hSw; have yc := hSw.c.c; have yd := hSw.d.c; clear hSw; go_simp; (try with_reducible rfl)); (try simp only [Act.put, List.setIfInBounds_toArray, List.set_cons_zero, List.set_cons_succ]))
        (refine wpTake_cons (v := undef) (Or.inr ⟨by rfl, rfl⟩) ?_; (try simp only [Act.put, List.setIfInBounds_toArray, List.set_cons_zero, List.set_cons_succ]))
        (refine wpTake_cons (v := undef) (Or.inr ⟨by rfl, rfl⟩) ?_; (try simp only [Act.put, List.setIfInBounds_toArray, List.set_cons_zero, List.set_cons_succ]))
        (refine wpTake_cons (v := undef) (Or.inr ⟨by rfl, rfl⟩) ?_; (try simp only [Act.put, List.setIfInBounds_toArray, List.set_cons_zero, List.set_cons_succ]))
        (refine wpTake_cons (v := ?_) (Or.inl ⟨by rfl, ?_⟩) ?_; rotate_left; (intro w' hSw; have yc := hSw.c.c; have yd := hSw.d.c; clear hSw; go_simp; (try with_reducible rfl)); (try simp only [Act.put, List.setIfInBounds_toArray, List.set_cons_zero, List.set_cons_succ]))
        refine wpTake_nil ?_
        refine rg_one (fuel := 5) 18 rfl (by kernel_rfl) (by kernel_rfl) ?_
        simp only [pick1, wpHead]
        intro K' hK
        (first | rw [if_pos (by rfl)] | rw [if_neg (by intro h; cases h)] | skip)
        go_simp
        refine (open50 L sl rl rh wg A n cap ks _ _ (HA.out.below hS.b (Nat.le_refl _)) hn hlen).mono ?_
        rintro e W14 ⟨er, rfl, hO, hb⟩
        go_simp
        replace oB := oB.below hb oB.lt
        replace hS := hS.below hb
        refine hK.out _ _ hS ?_
        clear hK hb
        (try simp only [Act.put, List.setIfInBounds_toArray, List.set_cons_zero, List.set_cons_succ])
        clear W13
        refine rg_take (fuel := 2) [19, 20, 21] (by kernel_rfl) (by intro _ _ _ _ _ h; cases h.1) rfl (by kernel_rfl) (by kernel_rfl) hS ?_
        simp only [pickL, pick1, List.cons_append, List.nil_append]
        (refine wpTake_cons (v := ?_) (Or.inl ⟨by rfl, ?_⟩) ?_; rotate_left; (intro w' hSw; have yc := hSw.c.c; have yd := hSw.d.c; clear hSw; go_simp; (try with_reducible rfl)); (try simp only [Act.put, List.setIfInBounds_toArray, List.set_cons_zero, List.set_cons_succ]))
        (refine wpTake_cons (v := ?_) (Or.inl ⟨by rfl, ?_⟩) ?_; rotate_left; (intro w' hSw; have yc := hSw.c.c; have yd := hSw.d.c; clear hSw; go_simp; (try with_reducible rfl)); (try simp only [Act.put, List.setIfInBounds_toArray, List.set_cons_zero, List.set_cons_succ]))
        (refine wpTake_cons (v := ?_) (Or.inl ⟨by rfl, ?_⟩) ?_; rotate_left; (intro w' hSw; have yc := hSw.c.c; have yd := hSw.d.c; clear hSw; go_simp; (try with_reducible rfl)); (try simp only [Act.put, List.setIfInBounds_toArray, List.set_cons_zero, List.set_cons_succ]))
        refine wpTake_nil ?_
        refine rg_one (fuel := 1) 23 rfl (by kernel_rfl) (by kernel_rfl) ?_
        simp only [pick1, wpHead]
        intro K' hK
        (first | rw [if_pos (by rfl)] | rw [if_neg (by intro h; cases h)] | skip)
        obtain ⟨lB, kB, fB⟩ := oB
        have oB := Own.mk lB kB fB
        go_simp
        clear lB kB fB
        have oB2 := own_set7 oB rfl (.int .i64 L) (.int .i64 sl) (.int .i64 rl) (.int .i64 rh) (.slice A n cap) (.int .i64 wg) (.map none)
        replace hS := hS.set7 hg (.int .i64 L) (.int .i64 sl) (.int .i64 rl) (.int .i64 rh) (.slice A n cap) (.int .i64 wg) (.map none)
        refine hK.out _ _ hS ?_
        clear hK oB
        (try simp only [Act.put, List.setIfInBounds_toArray, List.set_cons_zero, List.set_cons_succ])
        refine rg_one (fuel := 0) 24 rfl (by kernel_rfl) (by kernel_rfl) ?_
        simp only [pick1, wpHead]
        intro K' hK
        (first | rw [if_pos (by rfl)] | rw [if_neg (by intro h; cases h)] | skip)
        go_simp
        refine hK.out _ _ hS ?_
        clear hK
        (try simp only [Act.put, List.setIfInBounds_toArray, List.set_cons_zero, List.set_cons_succ])
        refine rg_done (by kernel_rfl) ?_
        exact ⟨rfl, _, er, _, _, _, _, _, _, _, _, _, _, _, _, _, _, _, _, _, _, _, _, _, _, hO, hS, oB2, hg, rfl⟩
    · intro K' hK
      (first | rw [if_pos (by rfl)] | rw [if_neg (by intro h; cases h)] | skip)
      go_simp
      have oB := Own.new (w := W) #[.int .i64 0, .int .i64 0, .int .i64 0, .int .i64 0, .slice none 0 0, .int .i64 0, .map none] 70
      have hb : Below W.heap.size W (W.alloc (.cells #[.int .i64 0, .int .i64 0, .int .i64 0, .int .i64 0, .slice none 0 0, .int .i64 0, .map none] 70)) := (Below.refl _ _).alloc (Nat.le_refl _) _
      have hg := hS.fresh
      replace hS := hS.below hb
      refine hK.out _ _ hS ?_
      clear hK hb
      (try simp only [Act.put, List.setIfInBounds_toArray, List.set_cons_zero, List.set_cons_succ])
      generalize World.alloc W _ = W15 at hS oB ⊢
      generalize W.heap.size = g at hg oB ⊢
      clear W
      refine rg_one (fuel := 21) 2 rfl (by kernel_rfl) (by kernel_rfl) ?_
      simp only [pick1, wpHead]
      intro K' hK
      (first | rw [if_pos (by rfl)] | rw [if_neg (by intro h; cases h)] | skip)
      go_simp
      refine (within66c _ _ _ _).mono ?_
      rw [CL.out]
      rintro e W16 ⟨rfl, hb⟩
      go_simp
      replace oB := oB.below hb oB.lt
      replace hS := hS.below hb
      refine hK.out _ _ hS ?_
      clear hK hb
      (try simp only [Act.put, List.setIfInBounds_toArray, List.set_cons_zero, List.set_cons_succ])
      clear W15
      refine rg_take (fuel := 18) [3, 4, 5] (by kernel_rfl) (by intro _ _ _ _ _ h; cases h.1) rfl (by kernel_rfl) (by kernel_rfl) hS ?_
      simp only [pickL, pick1, List.cons_append, List.nil_append]
      (refine wpTake_cons (v := ?_) (Or.inl ⟨by rfl, ?_⟩) ?_; rotate_left; (intro w' hSw; have yc := hSw.c.c; have yd := hSw.d.c; clear hSw; go_simp; (try with_reducible rfl)); (try simp only [Act.put, List.setIfInBounds_toArray, List.set_cons_zero, List.set_cons_succ]))
      (refine wpTake_cons (v := ?_) (Or.inl ⟨by rfl, ?_⟩) ?_; rotate_left; (intro w' hSw; have yc := hSw.c.c; have yd := hSw.d.c; clear hSw; go_simp; (try with_reducible rfl)); (try simp only [Act.put, List.setIfInBounds_toArray, List.set_cons_zero, List.set_cons_succ]))
      (refine wpTake_cons (v := ?_) (Or.inl ⟨by rfl, ?_⟩) ?_; rotate_left; (intro w' hSw; have yc := hSw.c.c; have yd := hSw.d.c; clear hSw; go_simp; (try with_reducible rfl)); (try simp only [Act.put, List.setIfInBounds_toArray, List.set_cons_zero, List.set_cons_succ]))
      refine wpTake_nil ?_
      refine rg_one (fuel := 17) 6 rfl (by kernel_rfl) (by kernel_rfl) ?_
      simp only [pick1, wpHead]
      intro K' hK
      (first | rw [if_pos (by rfl)] | rw [if_neg (by intro h; cases h)] | skip)
      go_simp
      refine (isPlace56 _ _ _ _ _ _ _ _).mono ?_
      rw [CA.out]
      rintro e W17 ⟨rfl, hb⟩
      go_simp
      replace oB := oB.below hb oB.lt
      replace hS := hS.below hb
      refine hK.out _ _ hS ?_
      clear hK hb
      (try simp only [Act.put, List.setIfInBounds_toArray, List.set_cons_zero, List.set_cons_succ])
      clear W16
      refine rg_take (fuel := 13) [7, 8, 9, 10] (by kernel_rfl) (by intro _ _ _ _ _ h; cases h.1) rfl (by kernel_rfl) (by kernel_rfl) hS ?_
      simp only [pickL, pick1, List.cons_append, List.nil_append]
      (refine wpTake_cons (v := ?_) (Or.inl ⟨by rfl, ?_⟩) ?_; rotate_left; (intro w' hSw; have yc := hSw.c.c; have yd := hSw.d.c; clear hSw; go_simp; (try with_reducible rfl)); (try simp only [Act.put, List.setIfInBounds_toArray, List.set_cons_zero, List.set_cons_succ]))
      (refine wpTake_cons (v := ?_) (Or.inl ⟨by rfl, ?_⟩) ?_; rotate_left; (intro w' hSw; have yc := hSw.c.c; have yd := hSw.d.c; clear hSw; go_simp; (try with_reducible rfl)); (try simp only [Act.put, List.setIfInBounds_toArray, List.set_cons_zero, List.set_cons_succ]))
      (refine wpTake_cons (v := ?_) (Or.inl ⟨by rfl, ?_⟩) ?_; rotate_left; (intro w' hSw; have yc := hSw.c.c; have yd := hSw.d.c; clear hSw; go_simp; (try with_reducible rfl)); (try simp only [Act.put, List.setIfInBounds_toArray, List.set_cons_zero, List.set_cons_succ]))
      (refine wpTake_cons (v := ?_) (Or.inl ⟨by rfl, ?_⟩) ?_; rotate_left; (intro w' hSw; have yc := hSw.c.c; have yd := hSw.d.c; clear hSw; go_simp; (try with_reducible rfl)); (try simp only [Act.put, List.setIfInBounds_toArray, List.set_cons_zero, List.set_cons_succ]))
      refine wpTake_nil ?_
      refine rg_one (fuel := 12) 11 rfl (by kernel_rfl) (by kernel_rfl) ?_
      simp only [pick1, wpHead]
      intro K' hK
      (first | rw [if_pos (by rfl)] | rw [if_neg (by intro h; cases h)] | skip)
      go_simp
      refine (isPlace56 _ _ _ _ _ _ _ _).mono ?_
      rw [CB.out]
      rintro e W18 ⟨rfl, hb⟩
      go_simp
      replace oB := oB.below hb oB.lt
      replace hS := hS.below hb
      refine hK.out _ _ hS ?_
      clear hK hb
      (try simp only [Act.put, List.setIfInBounds_toArray, List.set_cons_zero, List.set_cons_succ])
      clear W17
      refine rg_take (fuel := 6) [12, 13, 14, 15, 16, 17] (by kernel_rfl) (by intro _ _ _ _ _ h; cases h.1) rfl (by kernel_rfl) (by kernel_rfl) hS ?_
      simp only [pickL, pick1, List.cons_append, List.nil_append]
      (refine wpTake_cons (v := ?_) (Or.inl ⟨by rfl, ?_⟩) ?_; rotate_left; (intro w' hSw; have yc := hSw.c.c; have yd := hSw.d.c; clear hSw; go_simp; (try with_reducible rfl)); (try simp only [Act.put, List.setIfInBounds_toArray, List.set_cons_zero, List.set_cons_succ]))
      (refine wpTake_cons (v := ?_) (Or.inl ⟨by rfl, ?_⟩) ?_; rotate_left; (intro w' hSw; have yc := hSw.c.c; have yd := hSw.d.c; clear hSw; go_simp; (try with_reducible rfl)); (try simp only [Act.put, List.setIfInBounds_toArray, List.set_cons_zero, List.set_cons_succ]))
      (refine wpTake_cons (v := undef) (Or.inr ⟨by rfl, rfl⟩) ?_; (try simp only [Act.put, List.setIfInBounds_toArray, List.set_cons_zero, List.set_cons_succ]))
      (refine wpTake_cons (v := undef) (Or.inr ⟨by rfl, rfl⟩) ?_; (try simp only [Act.put, List.setIfInBounds_toArray, List.set_cons_zero, List.set_cons_succ]))
      (refine wpTake_cons (v := undef) (Or.inr ⟨by rfl, rfl⟩) ?_; (try simp only [Act.put, List.setIfInBounds_toArray, List.set_cons_zero, List.set_cons_succ]))
      (refine wpTake_cons (v := ?_) (Or.inl ⟨by rfl, ?_⟩) ?_; rotate_left; (intro w' hSw; have yc := hSw.c.c; have yd := hSw.d.c; clear hSw; go_simp; (try with_reducible rfl)); (try simp only [Act.put, List.setIfInBounds_toArray, List.set_cons_zero, List.set_cons_succ]))
      refine wpTake_nil ?_
      refine rg_one (fuel := 5) 18 rfl (by kernel_rfl) (by kernel_rfl) ?_
      simp only [pick1, wpHead]
      intro K' hK
      (first | rw [if_pos (by rfl)] | rw [if_neg (by intro h; cases h)] | skip)
      go_simp
      refine (open50 L sl rl rh wg A n cap ks _ _ (HA.out.below hS.b (Nat.le_refl _)) hn hlen).mono ?_
      rintro e W19 ⟨er, rfl, hO, hb⟩
      go_simp
      replace oB := oB.below hb oB.lt
      replace hS := hS.below hb
      refine hK.out _ _ hS ?_
      clear hK hb
      (try simp only [Act.put, List.setIfInBounds_toArray, List.set_cons_zero, List.set_cons_succ])
      clear W18
      refine rg_take (fuel := 2) [19, 20, 21] (by kernel_rfl) (by intro _ _ _ _ _ h; cases h.1) rfl (by kernel_rfl) (by kernel_rfl) hS ?_
      simp only [pickL, pick1, List.cons_append, List.nil_append]
      (refine wpTake_cons (v := ?_) (Or.inl ⟨by rfl, ?_⟩) ?_; rotate_left; (intro w' hSw; have yc := hSw.c.c; have yd := hSw.d.c; clear hSw; go_simp; (try with_reducible rfl)); (try simp only [Act.put, List.setIfInBounds_toArray, List.set_cons_zero, List.set_cons_succ]))
      (refine wpTake_cons (v := ?_) (Or.inl ⟨by rfl, ?_⟩) ?_; rotate_left; (intro w' hSw; have yc := hSw.c.c; have yd := hSw.d.c; clear hSw; go_simp; (try with_reducible rfl)); (try simp only [Act.put, List.setIfInBounds_toArray, List.set_cons_zero, List.set_cons_succ]))
      (refine wpTake_cons (v := ?_) (Or.inl ⟨by rfl, ?_⟩) ?_; rotate_left; (intro w' hSw; have yc := hSw.c.c; have yd := hSw.d.c; clear hSw; go_simp; (try with_reducible rfl)); (try simp only [Act.put, List.setIfInBounds_toArray, List.set_cons_zero, List.set_cons_succ]))
      refine wpTake_nil ?_
      refine rg_one (fuel := 1) 23 rfl (by kernel_rfl) (by kernel_rfl) ?_
      simp only [pick1, wpHead]
      intro K' hK
      (first | rw [if_pos (by rfl)] | rw [if_neg (by intro h; cases h)] | skip)
      obtain ⟨lB, kB, fB⟩ := oB
      have oB := Own.mk lB kB fB
      go_simp
      clear lB kB fB
      have oB2 := own_set7 oB rfl (.int .i64 L) (.int .i64 sl) (.int .i64 rl) (.int .i64 rh) (.slice A n cap) (.int .i64 wg) (.map none)
      replace hS := hS.set7 hg (.int .i64 L) (.int .i64 sl) (.int .i64 rl) (.int .i64 rh) (.slice A n cap) (.int .i64 wg) (.map none)
      refine hK.out _ _ hS ?_
      clear hK oB
      (try simp only [Act.put, List.setIfInBounds_toArray, List.set_cons_zero, List.set_cons_succ])
      refine rg_one (fuel := 0) 24 rfl (by kernel_rfl) (by kernel_rfl) ?_
      simp only [pick1, wpHead]
      intro K' hK
      (first | rw [if_pos (by rfl)] | rw [if_neg (by intro h; cases h)] | skip)
      go_simp
      refine hK.out _ _ hS ?_
      clear hK
      (try simp only [Act.put, List.setIfInBounds_toArray, List.set_cons_zero, List.set_cons_succ])
      refine rg_done (by kernel_rfl) ?_
      exact ⟨rfl, _, er, _, _, _, _, _, _, _, _, _, _, _, _, _, _, _, _, _, _, _, _, _, _, hO, hS, oB2, hg, rfl⟩
  · rintro e a' w1 ⟨rfl, g, er, u12, u13, u14, u15, u16, u17, u18, u19, u20, u21, u22, u23, u24, u25, u26, u27, u28, u29, u30, u31, u32, u33, hO, hI, oG, hg, rfl⟩
    (try simp only [Exit.then])
    have hne : er ≠ 0 := fun h => by have := (openR_zero hO.out h).2.1; cases this
    have hres := Lib.hid (show er ≠ 0 ∧ OpenR L sl rl rh wg ks false er from ⟨hne, hO.out⟩)
    have hB1 := hI.b
    obtain ⟨lg, kg, fg⟩ := oG
    clear hI
    go_wp2
    go_ret2
    exact ⟨er, rfl, hres, hB1⟩
end Go.Proofs.Ytphcpphmoeiioaa
namespace Go.Proofs.Ytphcpphmoeiioaa
open Go.RowKit Go.Maps

set_option maxRecDepth 100000 in
set_option maxHeartbeats 8000000 in
theorem level42n4 (L sl rl rh wg : Int) (A : Option Addr) (n cap : Nat) (ks : List Kn) (lv a b : Int) (w : World) (hA : Rd 3 w A (ks.map krow)) (hn : Hid (n = ks.length)) (hlen : n ≤ 9223372036854775807) (CL : Hid (btw lv (-100) 100 = true)) (CA : Hid (btw a 0 L = true)) (CB : Hid (btw b 0 L = true)) (HN : Hid (∀ er, OpenR L sl rl rh wg ks (decide (a ≤ b)) er → er ≠ 0)) :
    Calls Try.prog 42 #[.agg #[.int .i64 L, .int .i64 sl, .int .i64 rl, .int .i64 rh, .slice A n cap, .int .i64 wg], .int .i64 lv, .int .i64 a, .int .i64 b] w fun e w' => ∃ er : Int, e = .returned (.tuple #[.int .i64 0, .int .i64 er]) ∧ Hid (er ≠ 0 ∧ OpenR L sl rl rh wg ks (decide (a ≤ b)) er) ∧ Below w.heap.size w w' := by
  have HA := Lib.hid hA
  clear hA
  go_enter Try.func42, Try.ntmps42
  go_wp2
  have hS0 : OpI w w.heap.size w.heap.size [.int .i64 L, .int .i64 sl, .int .i64 rl, .int .i64 rh, .slice A n cap, .int .i64 wg] [.int .i64 L, .int .i64 sl, .int .i64 rl, .int .i64 rh, .slice A n cap, .int .i64 wg] (w.alloc (.cells #[.int .i64 L, .int .i64 sl, .int .i64 rl, .int .i64 rh, .slice A n cap, .int .i64 wg] 26)) := ⟨Own.new' _ _ rfl rfl, Own.new' _ _ rfl rfl, by (repeat' (first | (with_reducible exact Below.refl _ _) | (with_reducible assumption) | (with_reducible refine Below.drew ?_) | (with_reducible refine below_drewN ?_ _) | (with_reducible refine Below.setCell ?_ ?_ _) | (with_reducible refine Below.alloc ?_ ?_ _) | (refine Below.trans ?_ (Below.mono (by with_reducible assumption) ?_)) | omega | (exact Below.size (by with_reducible assumption)) | (simp; done) | (simp; omega)))⟩
  refine Code.wp_mono (Q := fun e a' w' => e = .normal ∧ ∃ (g : Nat) (er : Int) (u12 u13 u14 u15 u16 u17 u18 u19 u20 u21 u22 u23 u24 u25 u26 u27 u28 u29 u30 u31 u32 u33 : Value), Hid (OpenR L sl rl rh wg ks (decide (a ≤ b)) er) ∧ OpI w w.heap.size w.heap.size [.int .i64 L, .int .i64 sl, .int .i64 rl, .int .i64 rh, .slice A n cap, .int .i64 wg] [.int .i64 L, .int .i64 sl, .int .i64 rl, .int .i64 rh, .slice A n cap, .int .i64 wg] w' ∧ Own w' g [.int .i64 L, .int .i64 sl, .int .i64 rl, .int .i64 rh, .slice A n cap, .int .i64 wg, .map none] ∧ (w.heap.size ≤ g ∧ w.heap.size ≠ g ∧ w.heap.size ≠ g) ∧ a' = { tmps := #[.agg #[.int .i64 L, .int .i64 sl, .int .i64 rl, .int .i64 rh, .slice A n cap, .int .i64 wg], .int .i64 lv, .int .i64 a, .int .i64 b, .pointer (some ⟨w.heap.size, 0, none⟩), undef, undef, undef, .int .i64 0, .int .i64 0, .pointer (some ⟨g, 0, none⟩), .int .i64 er, u12, u13, u14, u15, u16, u17, u18, u19, u20, u21, u22, u23, u24, u25, u26, u27, u28, u29, u30, u31, u32, u33, undef, undef, undef, undef, undef, undef, undef, undef, undef, undef, undef, undef, undef, undef, undef, undef, undef, undef], defers := [] }) ?_ ?_
  rotate_left
  · have hS := hS0.drew
    refine rg_start (fun w' => OpI w w.heap.size w.heap.size [.int .i64 L, .int .i64 sl, .int .i64 rl, .int .i64 rh, .slice A n cap, .int .i64 wg] [.int .i64 L, .int .i64 sl, .int .i64 rl, .int .i64 rh, .slice A n cap, .int .i64 wg] w') 25 (by kernel_rfl) rfl ?_
    clear hS0
    generalize World.drew _ = W at hS ⊢
    refine rg_take (fuel := 23) [0, 1] (by kernel_rfl) (by intro _ _ _ _ _ h; cases h.1) rfl (by kernel_rfl) (by kernel_rfl) hS ?_
    simp only [pickL, pick1, List.cons_append, List.nil_append]
    (refine wpTake_cons (v := ?_) (Or.inl ⟨by rfl, ?_⟩) ?_; rotate_left; (intro w' hSw; have yc := hSw.c.c; have yd := hSw.d.c; clear hSw; go_simp; (try with_reducible rfl)); (try simp only [Act.put, List.setIfInBounds_toArray, List.set_cons_zero, List.set_cons_succ]))
    (refine wpTake_cons (v := ?_) (Or.inl ⟨by rfl, ?_⟩) ?_; rotate_left; (intro w' hSw; have yc := hSw.c.c; have yd := hSw.d.c; clear hSw; go_simp; (try with_reducible rfl)); (try simp only [Act.put, List.setIfInBounds_toArray, List.set_cons_zero, List.set_cons_succ]))
    refine wpTake_nil ?_
    refine rg_two (fuel := 22) 2 22 rfl (by kernel_rfl) (by kernel_rfl) ?_ ?_ <;> simp only [pick1, wpHead]
    · intro K' hK
      (first | rw [if_pos (by rfl)] | rw [if_neg (by intro h; cases h)] | skip)
      go_simp
      refine (within66c _ _ _ _).mono ?_
      rw [CL.out]
      rintro e W1 ⟨rfl, hb⟩
      go_simp
      replace hS := hS.below hb
      refine hK.out _ _ hS ?_
      clear hK hb
      (try simp only [Act.put, List.setIfInBounds_toArray, List.set_cons_zero, List.set_cons_succ])
      clear W
      refine rg_take (fuel := 19) [3, 4, 5] (by kernel_rfl) (by intro _ _ _ _ _ h; cases h.1) rfl (by kernel_rfl) (by kernel_rfl) hS ?_
      simp only [pickL, pick1, List.cons_append, List.nil_append]
      (refine wpTake_cons (v := ?_) (Or.inl ⟨by rfl, ?_⟩) ?_; rotate_left; (intro w' hSw; have yc := hSw.c.c; have yd := hSw.d.c; clear hSw; go_simp; (try with_reducible rfl)); (try simp only [Act.put, List.setIfInBounds_toArray, List.set_cons_zero, List.set_cons_succ]))
      (refine wpTake_cons (v := ?_) (Or.inl ⟨by rfl, ?_⟩) ?_; rotate_left; (intro w' hSw; have yc := hSw.c.c; have yd := hSw.d.c; clear hSw; go_simp; (try with_reducible rfl)); (try simp only [Act.put, List.setIfInBounds_toArray, List.set_cons_zero, List.set_cons_succ]))
      (refine wpTake_cons (v := ?_) (Or.inl ⟨by rfl, ?_⟩) ?_; rotate_left; (intro w' hSw; have yc := hSw.c.c; have yd := hSw.d.c; clear hSw; go_simp; (try with_reducible rfl)); (try simp only [Act.put, List.setIfInBounds_toArray, List.set_cons_zero, List.set_cons_succ]))
      refine wpTake_nil ?_
      refine rg_two (fuel := 18) 6 22 rfl (by kernel_rfl) (by kernel_rfl) ?_ ?_ <;> simp only [pick1, wpHead]
      · intro K' hK
        (first | rw [if_pos (by rfl)] | rw [if_neg (by intro h; cases h)] | skip)
        go_simp
        refine (isPlace56 _ _ _ _ _ _ _ _).mono ?_
        rw [CA.out]
        rintro e W2 ⟨rfl, hb⟩
        go_simp
        replace hS := hS.below hb
        refine hK.out _ _ hS ?_
        clear hK hb
        (try simp only [Act.put, List.setIfInBounds_toArray, List.set_cons_zero, List.set_cons_succ])
        clear W1
        refine rg_take (fuel := 14) [7, 8, 9, 10] (by kernel_rfl) (by intro _ _ _ _ _ h; cases h.1) rfl (by kernel_rfl) (by kernel_rfl) hS ?_
        simp only [pickL, pick1, List.cons_append, List.nil_append]
        (refine wpTake_cons (v := ?_) (Or.inl ⟨by rfl, ?_⟩) ?_; rotate_left; (intro w' hSw; have yc := hSw.c.c; have yd := hSw.d.c; clear hSw; go_simp; (try with_reducible rfl)); (try simp only [Act.put, List.setIfInBounds_toArray, List.set_cons_zero, List.set_cons_succ]))
        (refine wpTake_cons (v := ?_) (Or.inl ⟨by rfl, ?_⟩) ?_; rotate_left; (intro w' hSw; have yc := hSw.c.c; have yd := hSw.d.c; clear hSw; go_simp; (try with_reducible rfl)); (try simp only [Act.put, List.setIfInBounds_toArray, List.set_cons_zero, List.set_cons_succ]))
        (refine wpTake_cons (v := ?_) (Or.inl ⟨by rfl, ?_⟩) ?_; rotate_left; (intro w' hSw; have yc := hSw.c.c; have yd := hSw.d.c; clear hSw; go_simp; (try with_reducible rfl)); (try simp only [Act.put, List.setIfInBounds_toArray, List.set_cons_zero, List.set_cons_succ]))
        (refine wpTake_cons (v := ?_) (Or.inl ⟨by rfl, ?_⟩) ?_; rotate_left; (intro w' hSw; have yc := hSw.c.c; have yd := hSw.d.c; clear hSw; go_simp; (try with_reducible rfl)); (try simp only [Act.put, List.setIfInBounds_toArray, List.set_cons_zero, List.set_cons_succ]))
        refine wpTake_nil ?_
        refine rg_two (fuel := 13) 11 22 rfl (by kernel_rfl) (by kernel_rfl) ?_ ?_ <;> simp only [pick1, wpHead]
        · intro K' hK
          (first | rw [if_pos (by rfl)] | rw [if_neg (by intro h; cases h)] | skip)
          go_simp
          refine (isPlace56 _ _ _ _ _ _ _ _).mono ?_
          rw [CB.out]
          rintro e W3 ⟨rfl, hb⟩
          go_simp
          replace hS := hS.below hb
          refine hK.out _ _ hS ?_
          clear hK hb
          (try simp only [Act.put, List.setIfInBounds_toArray, List.set_cons_zero, List.set_cons_succ])
          clear W2
          refine rg_take (fuel := 7) [12, 13, 14, 15, 16, 17] (by kernel_rfl) (by intro _ _ _ _ _ h; cases h.1) rfl (by kernel_rfl) (by kernel_rfl) hS ?_
          simp only [pickL, pick1, List.cons_append, List.nil_append]
          (refine wpTake_cons (v := ?_) (Or.inl ⟨by rfl, ?_⟩) ?_; rotate_left; (intro w' hSw; have yc := hSw.c.c; have yd := hSw.d.c; clear hSw; go_simp; (try with_reducible rfl)); (try simp only [Act.put, List.setIfInBounds_toArray, List.set_cons_zero, List.set_cons_succ]))
          (refine wpTake_cons (v := ?_) (Or.inl ⟨by rfl, ?_⟩) ?_; rotate_left; (intro w' hSw; have yc := hSw.c.c; have yd := hSw.d.c; clear hSw; go_simp; (try with_reducible rfl)); (try simp only [Act.put, List.setIfInBounds_toArray, List.set_cons_zero, List.set_cons_succ]))
          (refine wpTake_cons (v := ?_) (Or.inl ⟨by rfl, ?_⟩) ?_; rotate_left; (intro w' hSw; have yc := hSw.c.c; have yd := hSw.d.c; clear hSw; go_simp; (try with_reducible rfl)); (try simp only [Act.put, List.setIfInBounds_toArray, List.set_cons_zero, List.set_cons_succ]))
          (refine wpTake_cons (v := ?_) (Or.inl ⟨by rfl, ?_⟩) ?_; rotate_left; (intro w' hSw; have yc := hSw.c.c; have yd := hSw.d.c; clear hSw; go_simp; (try with_reducible rfl)); (try simp only [Act.put, List.setIfInBounds_toArray, List.set_cons_zero, List.set_cons_succ]))
          (refine wpTake_cons (v := ?_) (Or.inl ⟨by rfl, ?_⟩) ?_; rotate_left; (intro w' hSw; have yc := hSw.c.c; have yd := hSw.d.c; clear hSw; go_simp; (try with_reducible rfl)); (try simp only [Act.put, List.setIfInBounds_toArray, List.set_cons_zero, List.set_cons_succ]))
          (refine wpTake_cons (v := ?_) (Or.inl ⟨by rfl, ?_⟩) ?_; rotate_left; (intro w' hSw; have yc := hSw.c.c; have yd := hSw.d.c; clear hSw; go_simp; (try with_reducible rfl)); (try simp only [Act.put, List.setIfInBounds_toArray, List.set_cons_zero, List.set_cons_succ]))
          refine wpTake_nil ?_
          refine rg_two (fuel := 6) 18 22 rfl (by kernel_rfl) (by kernel_rfl) ?_ ?_ <;> simp only [pick1, wpHead]
          · intro K' hK
            (first | rw [if_pos (by rfl)] | rw [if_neg (by intro h; cases h)] | skip)
            go_simp
            refine (open50 L sl rl rh wg A n cap ks _ _ (HA.out.below hS.b (Nat.le_refl _)) hn hlen).mono ?_
            rintro e W4 ⟨er, rfl, hO, hb⟩
            go_simp
            replace hS := hS.below hb
            refine hK.out _ _ hS ?_
            clear hK hb
            (try simp only [Act.put, List.setIfInBounds_toArray, List.set_cons_zero, List.set_cons_succ])
            clear W3
            refine rg_take (fuel := 3) [19, 20, 21] (by kernel_rfl) (by intro _ _ _ _ _ h; cases h.1) rfl (by kernel_rfl) (by kernel_rfl) hS ?_
            simp only [pickL, pick1, List.cons_append, List.nil_append]
            (refine wpTake_cons (v := ?_) (Or.inl ⟨by rfl, ?_⟩) ?_; rotate_left; (intro w' hSw; have yc := hSw.c.c; have yd := hSw.d.c; clear hSw; go_simp; (try with_reducible rfl)); (try simp only [Act.put, List.setIfInBounds_toArray, List.set_cons_zero, List.set_cons_succ]))
            (refine wpTake_cons (v := ?_) (Or.inl ⟨by rfl, ?_⟩) ?_; rotate_left; (intro w' hSw; have yc := hSw.c.c; have yd := hSw.d.c; clear hSw; go_simp; (try with_reducible rfl)); (try simp only [Act.put, List.setIfInBounds_toArray, List.set_cons_zero, List.set_cons_succ]))
            (refine wpTake_cons (v := ?_) (Or.inl ⟨by rfl, ?_⟩) ?_; rotate_left; (intro w' hSw; have yc := hSw.c.c; have yd := hSw.d.c; clear hSw; go_simp; (try with_reducible rfl)); (try simp only [Act.put, List.setIfInBounds_toArray, List.set_cons_zero, List.set_cons_succ]))
            refine wpTake_nil ?_
            refine rg_one (fuel := 2) 22 rfl (by kernel_rfl) (by kernel_rfl) ?_
            simp only [pick1, wpHead]
            intro K' hK
            (first | rw [if_pos (by rfl)] | rw [if_neg (by intro h; cases h)] | skip)
            go_simp
            have oB := Own.new (w := W4) #[.int .i64 0, .int .i64 0, .int .i64 0, .int .i64 0, .slice none 0 0, .int .i64 0, .map none] 70
            have hb : Below W4.heap.size W4 (W4.alloc (.cells #[.int .i64 0, .int .i64 0, .int .i64 0, .int .i64 0, .slice none 0 0, .int .i64 0, .map none] 70)) := (Below.refl _ _).alloc (Nat.le_refl _) _
            have hg := hS.fresh
            replace hS := hS.below hb
            refine hK.out _ _ hS ?_
            clear hK hb
            (try simp only [Act.put, List.setIfInBounds_toArray, List.set_cons_zero, List.set_cons_succ])
            generalize World.alloc W4 _ = W5 at hS oB ⊢
            generalize W4.heap.size = g at hg oB ⊢
            clear W4
            refine rg_one (fuel := 1) 23 rfl (by kernel_rfl) (by kernel_rfl) ?_
            simp only [pick1, wpHead]
            intro K' hK
            (first | rw [if_pos (by rfl)] | rw [if_neg (by intro h; cases h)] | skip)
            obtain ⟨lB, kB, fB⟩ := oB
            have oB := Own.mk lB kB fB
            go_simp
            clear lB kB fB
            have oB2 := own_set7 oB rfl (.int .i64 L) (.int .i64 sl) (.int .i64 rl) (.int .i64 rh) (.slice A n cap) (.int .i64 wg) (.map none)
            replace hS := hS.set7 hg (.int .i64 L) (.int .i64 sl) (.int .i64 rl) (.int .i64 rh) (.slice A n cap) (.int .i64 wg) (.map none)
            refine hK.out _ _ hS ?_
            clear hK oB
            (try simp only [Act.put, List.setIfInBounds_toArray, List.set_cons_zero, List.set_cons_succ])
            refine rg_one (fuel := 0) 24 rfl (by kernel_rfl) (by kernel_rfl) ?_
            simp only [pick1, wpHead]
            intro K' hK
            (first | rw [if_pos (by rfl)] | rw [if_neg (by intro h; cases h)] | skip)
            go_simp
            refine hK.out _ _ hS ?_
            clear hK
            (try simp only [Act.put, List.setIfInBounds_toArray, List.set_cons_zero, List.set_cons_succ])
            refine rg_done (by kernel_rfl) ?_
            exact ⟨rfl, _, er, _, _, _, _, _, _, _, _, _, _, _, _, _, _, _, _, _, _, _, _, _, _, hO, hS, oB2, hg, rfl⟩
          · intro K' hK
            (first | rw [if_pos (by rfl)] | rw [if_neg (by intro h; cases h)] | skip)
            go_simp
            have oB := Own.new (w := W3) #[.int .i64 0, .int .i64 0, .int .i64 0, .int .i64 0, .slice none 0 0, .int .i64 0, .map none] 70
            have hb : Below W3.heap.size W3 (W3.alloc (.cells #[.int .i64 0, .int .i64 0, .int .i64 0, .int .i64 0, .slice none 0 0, .int .i64 0, .map none] 70)) := (Below.refl _ _).alloc (Nat.le_refl _) _
            have hg := hS.fresh
            replace hS := hS.below hb
            refine hK.out _ _ hS ?_
            clear hK hb
            (try simp only [Act.put, List.setIfInBounds_toArray, List.set_cons_zero, List.set_cons_succ])
            generalize World.alloc W3 _ = W6 at hS oB ⊢
            generalize W3.heap.size = g at hg oB ⊢
            clear W3
            refine rg_one (fuel := 5) 18 rfl (by kernel_rfl) (by kernel_rfl) ?_
            simp only [pick1, wpHead]
            intro K' hK
            (first | rw [if_pos (by rfl)] | rw [if_neg (by intro h; cases h)] | skip)
            go_simp
            refine (open50 L sl rl rh wg A n cap ks _ _ (HA.out.below hS.b (Nat.le_refl _)) hn hlen).mono ?_
            rintro e W7 ⟨er, rfl, hO, hb⟩
            go_simp
            replace oB := oB.below hb oB.lt
            replace hS := hS.below hb
            refine hK.out _ _ hS ?_
            clear hK hb
            (try simp only [Act.put, List.setIfInBounds_toArray, List.set_cons_zero, List.set_cons_succ])
            clear W6
            refine rg_take (fuel := 2) [19, 20, 21] (by kernel_rfl) (by intro _ _ _ _ _ h; cases h.1) rfl (by kernel_rfl) (by kernel_rfl) hS ?_
            simp only [pickL, pick1, List.cons_append, List.nil_append]
            (refine wpTake_cons (v := ?_) (Or.inl ⟨by rfl, ?_⟩) ?_; rotate_left; (intro w' hSw; have yc := hSw.c.c; have yd := hSw.d.c; clear hSw; go_simp; (try with_reducible rfl)); (try simp only [Act.put, List.setIfInBounds_toArray, List.set_cons_zero, List.set_cons_succ]))
            (refine wpTake_cons (v := ?_) (Or.inl ⟨by rfl, ?_⟩) ?_; rotate_left; (intro w' hSw; have yc := hSw.c.c; have yd := hSw.d.c; clear hSw; go_simp; (try with_reducible rfl)); (try simp only [Act.put, List.setIfInBounds_toArray, List.set_cons_zero, List.set_cons_succ]))
            (refine wpTake_cons (v := ?_) (Or.inl ⟨by rfl, ?_⟩) ?_; rotate_left; (intro w' hSw; have yc := hSw.c.c; have yd := hSw.d.c; clear hSw; go_simp; (try with_reducible rfl)); (try simp only [Act.put, List.setIfInBounds_toArray, List.set_cons_zero, List.set_cons_succ]))
            refine wpTake_nil ?_
            refine rg_one (fuel := 1) 23 rfl (by kernel_rfl) (by kernel_rfl) ?_
            simp only [pick1, wpHead]
            intro K' hK
            (first | rw [if_pos (by rfl)] | rw [if_neg (by intro h; cases h)] | skip)
            obtain ⟨lB, kB, fB⟩ := oB
            have oB := Own.mk lB kB fB
            go_simp
            clear lB kB fB
            have oB2 := own_set7 oB rfl (.int .i64 L) (.int .i64 sl) (.int .i64 rl) (.int .i64 rh) (.slice A n cap) (.int .i64 wg) (.map none)
            replace hS := hS.set7 hg (.int .i64 L) (.int .i64 sl) (.int .i64 rl) (.int .i64 rh) (.slice A n cap) (.int .i64 wg) (.map none)
            refine hK.out _ _ hS ?_
            clear hK oB
            (try simp only [Act.put, List.setIfInBounds_toArray, List.set_cons_zero, List.set_cons_succ])
            refine rg_one (fuel := 0) 24 rfl (by kernel_rfl) (by kernel_rfl) ?_
            simp only [pick1, wpHead]
            intro K' hK
            (first | rw [if_pos (by rfl)] | rw [if_neg (by intro h; cases h)] | skip)
            go_simp
            refine hK.out _ _ hS ?_
            clear hK
            (try simp only [Act.put, List.setIfInBounds_toArray, List.set_cons_zero, List.set_cons_succ])
            refine rg_done (by kernel_rfl) ?_
            exact ⟨rfl, _, er, _, _, _, _, _, _, _, _, _, _, _, _, _, _, _, _, _, _, _, _, _, _, hO, hS, oB2, hg, rfl⟩
        · intro K' hK
          (first | rw [if_pos (by rfl)] | rw [if_neg (by intro h; cases h)] | skip)
          go_simp
          have oB := Own.new (w := W2) #[.int .i64 0, .int .i64 0, .int .i64 0, .int .i64 0, .slice none 0 0, .int .i64 0, .map none] 70
          have hb : Below W2.heap.size W2 (W2.alloc (.cells #[.int .i64 0, .int .i64 0, .int .i64 0, .int .i64 0, .slice none 0 0, .int .i64 0, .map none] 70)) := (Below.refl _ _).alloc (Nat.le_refl _) _
          have hg := hS.fresh
          replace hS := hS.below hb
          refine hK.out _ _ hS ?_
          clear hK hb
          (try simp only [Act.put, List.setIfInBounds_toArray, List.set_cons_zero, List.set_cons_succ])
          generalize World.alloc W2 _ = W8 at hS oB ⊢
          generalize W2.heap.size = g at hg oB ⊢
          clear W2
          refine rg_one (fuel := 12) 11 rfl (by kernel_rfl) (by kernel_rfl) ?_
          simp only [pick1, wpHead]
          intro K' hK
          (first | rw [if_pos (by rfl)] | rw [if_neg (by intro h; cases h)] | skip)
          go_simp
          refine (isPlace56 _ _ _ _ _ _ _ _).mono ?_
          rw [CB.out]
          rintro e W9 ⟨rfl, hb⟩
          go_simp
          replace oB := oB.below hb oB.lt
          replace hS := hS.below hb
          refine hK.out _ _ hS ?_
          clear hK hb
          (try simp only [Act.put, List.setIfInBounds_toArray, List.set_cons_zero, List.set_cons_succ])
          clear W8
          refine rg_take (fuel := 6) [12, 13, 14, 15, 16, 17] (by kernel_rfl) (by intro _ _ _ _ _ h; cases h.1) rfl (by kernel_rfl) (by kernel_rfl) hS ?_
          simp only [pickL, pick1, List.cons_append, List.nil_append]
          (refine wpTake_cons (v := ?_) (Or.inl ⟨by rfl, ?_⟩) ?_; rotate_left; (intro w' hSw; have yc := hSw.c.c; have yd := hSw.d.c; clear hSw; go_simp; (try with_reducible rfl)); (try simp only [Act.put, List.setIfInBounds_toArray, List.set_cons_zero, List.set_cons_succ]))
          (refine wpTake_cons (v := ?_) (Or.inl ⟨by rfl, ?_⟩) ?_; rotate_left; (intro w' hSw; have yc := hSw.c.c; have yd := hSw.d.c; clear hSw; go_simp; (try with_reducible rfl)); (try simp only [Act.put, List.setIfInBounds_toArray, List.set_cons_zero, List.set_cons_succ]))
          (refine wpTake_cons (v := ?_) (Or.inl ⟨by rfl, ?_⟩) ?_; rotate_left; (intro w' hSw; have yc := hSw.c.c; have yd := hSw.d.c; clear hSw; go_simp; (try with_reducible rfl)); (try simp only [Act.put, List.setIfInBounds_toArray, List.set_cons_zero, List.set_cons_succ]))
          (refine wpTake_cons (v := ?_) (Or.inl ⟨by rfl, ?_⟩) ?_; rotate_left; (intro w' hSw; have yc := hSw.c.c; have yd := hSw.d.c; clear hSw; go_simp; (try with_reducible rfl)); (try simp only [Act.put, List.setIfInBounds_toArray, List.set_cons_zero, List.set_cons_succ]))
          (refine wpTake_cons (v := ?_) (Or.inl ⟨by rfl, ?_⟩) ?_; rotate_left; (intro w' hSw; have yc := hSw.c.c; have yd := hSw.d.c; clear hSw; go_simp; (try with_reducible rfl)); (try simp only [Act.put, List.setIfInBounds_toArray, List.set_cons_zero, List.set_cons_succ]))
          (refine wpTake_cons (v := ?_) (Or.inl ⟨by rfl, ?_⟩) ?_; rotate_left; (intro w' hSw; have yc := hSw.c.c; have yd := hSw.d.c; clear hSw; go_simp; (try with_reducible rfl)); (try simp only [Act.put, List.setIfInBounds_toArray, List.set_cons_zero, List.set_cons_succ]))
          refine wpTake_nil ?_
          refine rg_one (fuel := 5) 18 rfl (by kernel_rfl) (by kernel_rfl) ?_
          simp only [pick1, wpHead]
          intro K' hK
          (first | rw [if_pos (by rfl)] | rw [if_neg (by intro h; cases h)] | skip)
          go_simp
          refine (open50 L sl rl rh wg A n cap ks _ _ (HA.out.below hS.b (Nat.le_refl _)) hn hlen).mono ?_
          rintro e W10 ⟨er, rfl, hO, hb⟩
          go_simp
          replace oB := oB.below hb oB.lt
          replace hS := hS.below hb
          refine hK.out _ _ hS ?_
          clear hK hb
          (try simp only [Act.put, List.setIfInBounds_toArray, List.set_cons_zero, List.set_cons_succ])
          clear W9
          refine rg_take (fuel := 2) [19, 20, 21] (by kernel_rfl) (by intro _ _ _ _ _ h; cases h.1) rfl (by kernel_rfl) (by kernel_rfl) hS ?_
          simp only [pickL, pick1, List.cons_append, List.nil_append]
          (refine wpTake_cons (v := ?_) (Or.inl ⟨by rfl, ?_⟩) ?_; rotate_left; (intro w' hSw; have yc := hSw.c.c; have yd := hSw.d.c; clear hSw; go_simp; (try with_reducible rfl)); (try simp only [Act.put, List.setIfInBounds_toArray, List.set_cons_zero, List.set_cons_succ]))
          (refine wpTake_cons (v := ?_) (Or.inl ⟨by rfl, ?_⟩) ?_; rotate_left; (intro w' hSw; have yc := hSw.c.c; have yd := hSw.d.c; clear hSw; go_simp; (try with_reducible rfl)); (try simp only [Act.put, List.setIfInBounds_toArray, List.set_cons_zero, List.set_cons_succ]))
          (refine wpTake_cons (v := ?_) (Or.inl ⟨by rfl, ?_⟩) ?_; rotate_left; (intro w' hSw; have yc := hSw.c.c; have yd := hSw.d.c; clear hSw; go_simp; (try with_reducible rfl)); (try simp only [Act.put, List.setIfInBounds_toArray, List.set_cons_zero, List.set_cons_succ]))
          refine wpTake_nil ?_
          refine rg_one (fuel := 1) 23 rfl (by kernel_rfl) (by kernel_rfl) ?_
          simp only [pick1, wpHead]
          intro K' hK
          (first | rw [if_pos (by rfl)] | rw [if_neg (by intro h; cases h)] | skip)
          obtain ⟨lB, kB, fB⟩ := oB
          have oB := Own.mk lB kB fB
          go_simp
          clear lB kB fB
          have oB2 := own_set7 oB rfl (.int .i64 L) (.int .i64 sl) (.int .i64 rl) (.int .i64 rh) (.slice A n cap) (.int .i64 wg) (.map none)
          replace hS := hS.set7 hg (.int .i64 L) (.int .i64 sl) (.int .i64 rl) (.int .i64 rh) (.slice A n cap) (.int .i64 wg) (.map none)
          refine hK.out _ _ hS ?_
          clear hK oB
          (try simp only [Act.put, List.setIfInBounds_toArray, List.set_cons_zero, List.set_cons_succ])
          refine rg_one (fuel := 0) 24 rfl (by kernel_rfl) (by kernel_rfl) ?_
          simp only [pick1, wpHead]
          intro K' hK
          (first | rw [if_pos (by rfl)] | rw [if_neg (by intro h; cases h)] | skip)
          go_simp
          refine hK.out _ _ hS ?_
          clear hK
          (try simp only [Act.put, List.setIfInBounds_toArray, List.set_cons_zero, List.set_cons_succ])
          refine rg_done (by kernel_rfl) ?_
          exact ⟨rfl, _, er, _, _, _, _, _, _, _, _, _, _, _, _, _, _, _, _, _, _, _, _, _, _, hO, hS, oB2, hg, rfl⟩
      · intro K' hK
        (first | rw [if_pos (by rfl)] | rw [if_neg (by intro h; cases h)] | skip)
        go_simp
        have oB := Own.new (w := W1) #[.int .i64 0, .int .i64 0, .int .i64 0, .int .i64 0, .slice none 0 0, .int .i64 0, .map none] 70
        have hb : Below W1.heap.size W1 (W1.alloc (.cells #[.int .i64 0, .int .i64 0, .int .i64 0, .int .i64 0, .slice none 0 0, .int .i64 0, .map none] 70)) := (Below.refl _ _).alloc (Nat.le_refl _) _
        have hg := hS.fresh
        replace hS := hS.below hb
        refine hK.out _ _ hS ?_
        clear hK hb
        (try simp only [Act.put, List.setIfInBounds_toArray, List.set_cons_zero, List.set_cons_succ])
        generalize World.alloc W1 _ = W11 at hS oB ⊢
        generalize W1.heap.size = g at hg oB ⊢
        clear W1
        refine rg_one (fuel := 17) 6 rfl (by kernel_rfl) (by kernel_rfl) ?_
        simp only [pick1, wpHead]
        intro K' hK
        (first | rw [if_pos (by rfl)] | rw [if_neg (by intro h; cases h)] | skip)
        go_simp
        refine (isPlace56 _ _ _ _ _ _ _ _).mono ?_
        rw [CA.out]
        rintro e W12 ⟨rfl, hb⟩
        go_simp
        replace oB := oB.below hb oB.lt
        replace hS := hS.below hb
        refine hK.out _ _ hS ?_
        clear hK hb
        (try simp only [Act.put, List.setIfInBounds_toArray, List.set_cons_zero, List.set_cons_succ])
        clear W11
        refine rg_take (fuel := 13) [7, 8, 9, 10] (by kernel_rfl) (by intro _ _ _ _ _ h; cases h.1) rfl (by kernel_rfl) (by kernel_rfl) hS ?_
        simp only [pickL, pick1, List.cons_append, List.nil_append]
        (refine wpTake_cons (v := ?_) (Or.inl ⟨by rfl, ?_⟩) ?_; rotate_left; (intro w' hSw; have yc := hSw.c.c; have yd := hSw.d.c; clear hSw; go_simp; (try with_reducible rfl)); (try simp only [Act.put, List.setIfInBounds_toArray, List.set_cons_zero, List.set_cons_succ]))
        (refine wpTake_cons (v := ?_) (Or.inl ⟨by rfl, ?_⟩) ?_; rotate_left; (intro w' hSw; have yc := hSw.c.c; have yd := hSw.d.c; clear hSw; go_simp; (try with_reducible rfl)); (try simp only [Act.put, List.setIfInBounds_toArray, List.set_cons_zero, List.set_cons_succ]))
        (refine wpTake_cons (v := ?_) (Or.inl ⟨by rfl, ?_⟩) ?_; rotate_left; (intro w' hSw; have yc := hSw.c.c; have yd := hSw.d.c; clear hSw; go_simp; (try with_reducible rfl)); (try simp only [Act.put, List.setIfInBounds_toArray, List.set_cons_zero, List.set_cons_succ]))
        (refine wpTake_cons (v := ?_) (Or.inl ⟨by rfl, ?_⟩) ?_; rotate_left; (intro w' hSw; have yc := hSw.c.c; have yd := hSw.d.c; clear hSw; go_simp; (try with_reducible rfl)); (try simp only [Act.put, List.setIfInBounds_toArray, List.set_cons_zero, List.set_cons_succ]))
        refine wpTake_nil ?_
        refine rg_one (fuel := 12) 11 rfl (by kernel_rfl) (by kernel_rfl) ?_
        simp only [pick1, wpHead]
        intro K' hK
        (first | rw [if_pos (by rfl)] | rw [if_neg (by intro h; cases h)] | skip)
        go_simp
        refine (isPlace56 _ _ _ _ _ _ _ _).mono ?_
        rw [CB.out]
        rintro e W13 ⟨rfl, hb⟩
        go_simp
        replace oB := oB.below hb oB.lt
        replace hS := hS.below hb
        refine hK.out _ _ hS ?_
        clear hK hb
        (try simp only [Act.put, List.setIfInBounds_toArray, List.set_cons_zero, List.set_cons_succ])
        clear W12
        refine rg_take (fuel := 6) [12, 13, 14, 15, 16, 17] (by kernel_rfl) (by intro _ _ _ _ _ h; cases h.1) rfl (by kernel_rfl) (by kernel_rfl) hS ?_
        simp only [pickL, pick1, List.cons_append, List.nil_append]
        (refine wpTake_cons (v := ?_) (Or.inl ⟨by rfl, ?_⟩) ?_; rotate_left; (intro w' hSw; have yc := hSw.c.c; have yd := hSw.d.c; clear hSw; go_simp; (try with_reducible rfl)); (try simp only [Act.put, List.setIfInBounds_toArray, List.set_cons_zero, List.set_cons_succ]))
        (refine wpTake_cons (v := ?_) (Or.inl ⟨by rfl, ?_⟩) ?_; rotate_left; (intro w' hSw; have yc := hSw.c.c; have yd := hSw.d.c; clear hSw; go_simp; (try with_reducible rfl)); (try simp only [Act.put, List.setIfInBounds_toArray, List.set_cons_zero, List.set_cons_succ]))
        (refine wpTake_cons (v := ?_) (Or.inl ⟨by rfl, ?_⟩) ?_; rotate_left; (intro w' hSw; have yc := hSw.c.c; have yd := hSw.d.c; clear hSw; go_simp; (try with_reducible rfl)); (try simp only [Act.put, List.setIfInBounds_toArray, List.set_cons_zero, List.set_cons_succ]))
        (refine wpTake_cons (v := ?_) (Or.inl ⟨by rfl, ?_⟩) ?_; rotate_left; (intro w' hSw; have yc := hSw.c.c; have yd := hSw.d.c; clear hSw; go_simp; (try with_reducible rfl)); (try simp only [Act.put, List.setIfInBounds_toArray, List.set_cons_zero, List.set_cons_succ]))
        (refine wpTake_cons (v := ?_) (Or.inl ⟨by rfl, ?_⟩) ?_; rotate_left; (intro w' hSw; have yc := hSw.c.c; have yd := hSw.d.c; clear hSw; go_simp; (try with_reducible rfl)); (try simp only [Act.put, List.setIfInBounds_toArray, List.set_cons_zero, List.set_cons_succ]))
        (refine wpTake_cons (v := ?_) (Or.inl ⟨by rfl, ?_⟩) ?_; rotate_left; (intro w' hSw; have yc := hSw.c.c; have yd := hSw.d.c; clear hSw; go_simp; (try with_reducible rfl)); (try simp only [Act.put, List.setIfInBounds_toArray, List.set_cons_zero, List.set_cons_succ]))
        refine wpTake_nil ?_
        refine rg_one (fuel := 5) 18 rfl (by kernel_rfl) (by kernel_rfl) ?_
        simp only [pick1, wpHead]
        intro K' hK
        (first | rw [if_pos (by rfl)] | rw [if_neg (by intro h; cases h)] | skip)
        go_simp
        refine (open50 L sl rl rh wg A n cap ks _ _ (HA.out.below hS.b (Nat.le_refl _)) hn hlen).mono ?_
        rintro e W14 ⟨er, rfl, hO, hb⟩
        go_simp
        replace oB := oB.below hb oB.lt
        replace hS := hS.below hb
        refine hK.out _ _ hS ?_
        clear hK hb
        (try simp only [Act.put, List.setIfInBounds_toArray, List.set_cons_zero, List.set_cons_succ])
        clear W13
        refine rg_take (fuel := 2) [19, 20, 21] (by kernel_rfl) (by intro _ _ _ _ _ h; cases h.1) rfl (by kernel_rfl) (by kernel_rfl) hS ?_
        simp only [pickL, pick1, List.cons_append, List.nil_append]
        (refine wpTake_cons (v := ?_) (Or.inl ⟨by rfl, ?_⟩) ?_; rotate_left; (intro w' hSw; have yc := hSw.c.c; have yd := hSw.d.c; clear hSw; go_simp; (try with_reducible rfl)); (try simp only [Act.put, List.setIfInBounds_toArray, List.set_cons_zero, List.set_cons_succ]))
        (refine wpTake_cons (v := ?_) (Or.inl ⟨by rfl, ?_⟩) ?_; rotate_left; (intro w' hSw; have yc := hSw.c.c; have yd := hSw.d.c; clear hSw; go_simp; (try with_reducible rfl)); (try simp only [Act.put, List.setIfInBounds_toArray, List.set_cons_zero, List.set_cons_succ]))
        (refine wpTake_cons (v := ?_) (Or.inl ⟨by rfl, ?_⟩) ?_; rotate_left; (intro w' hSw; have yc := hSw.c.c; have yd := hSw.d.c; clear hSw; go_simp; (try with_reducible rfl)); (try simp only [Act.put, List.setIfInBounds_toArray, List.set_cons_zero, List.set_cons_succ]))
        refine wpTake_nil ?_
        refine rg_one (fuel := 1) 23 rfl (by kernel_rfl) (by kernel_rfl) ?_
        simp only [pick1, wpHead]
        intro K' hK
        (first | rw [if_pos (by rfl)] | rw [if_neg (by intro h; cases h)] | skip)
        obtain ⟨lB, kB, fB⟩ := oB
        have oB := Own.mk lB kB fB
        go_simp
        clear lB kB fB
        have oB2 := own_set7 oB rfl (.int .i64 L) (.int .i64 sl) (.int .i64 rl) (.int .i64 rh) (.slice A n cap) (.int .i64 wg) (.map none)
        replace hS := hS.set7 hg (.int .i64 L) (.int .i64 sl) (.int .i64 rl) (.int .i64 rh) (.slice A n cap) (.int .i64 wg) (.map none)
        refine hK.out _ _ hS ?_
        clear hK oB
        (try simp only [Act.put, List.setIfInBounds_toArray, List.set_cons_zero, List.set_cons_succ])
        refine rg_one (fuel := 0) 24 rfl (by kernel_rfl) (by kernel_rfl) ?_
        simp only [pick1, wpHead]
        intro K' hK
        (first | rw [if_pos (by rfl)] | rw [if_neg (by intro h; cases h)] | skip)
        go_simp
        refine hK.out _ _ hS ?_
        clear hK
        (try simp only [Act.put, List.setIfInBounds_toArray, List.set_cons_zero, List.set_cons_succ])
        refine rg_done (by kernel_rfl) ?_
        exact ⟨rfl, _, er, _, _, _, _, _, _, _, _, _, _, _, _, _, _, _, _, _, _, _, _, _, _, hO, hS, oB2, hg, rfl⟩
    · intro K' hK
      (first | rw [if_pos (by rfl)] | rw [if_neg (by intro h; cases h)] | skip)
      go_simp
      have oB := Own.new (w := W) #[.int .i64 0, .int .i64 0, .int .i64 0, .int .i64 0, .slice none 0 0, .int .i64 0, .map none] 70
      have hb : Below W.heap.size W (W.alloc (.cells #[.int .i64 0, .int .i64 0, .int .i64 0, .int .i64 0, .slice none 0 0, .int .i64 0, .map none] 70)) := (Below.refl _ _).alloc (Nat.le_refl _) _
      have hg := hS.fresh
      replace hS := hS.below hb
      refine hK.out _ _ hS ?_
      clear hK hb
      (try simp only [Act.put, List.setIfInBounds_toArray, List.set_cons_zero, List.set_cons_succ])
      generalize World.alloc W _ = W15 at hS oB ⊢
      generalize W.heap.size = g at hg oB ⊢
      clear W
      refine rg_one (fuel := 21) 2 rfl (by kernel_rfl) (by kernel_rfl) ?_
      simp only [pick1, wpHead]
      intro K' hK
      (first | rw [if_pos (by rfl)] | rw [if_neg (by intro h; cases h)] | skip)
      go_simp
      refine (within66c _ _ _ _).mono ?_
      rw [CL.out]
      rintro e W16 ⟨rfl, hb⟩
      go_simp
      replace oB := oB.below hb oB.lt
      replace hS := hS.below hb
      refine hK.out _ _ hS ?_
      clear hK hb
      (try simp only [Act.put, List.setIfInBounds_toArray, List.set_cons_zero, List.set_cons_succ])
      clear W15
      refine rg_take (fuel := 18) [3, 4, 5] (by kernel_rfl) (by intro _ _ _ _ _ h; cases h.1) rfl (by kernel_rfl) (by kernel_rfl) hS ?_
      simp only [pickL, pick1, List.cons_append, List.nil_append]
      (refine wpTake_cons (v := ?_) (Or.inl ⟨by rfl, ?_⟩) ?_; rotate_left; (intro w' hSw; have yc := hSw.c.c; have yd := hSw.d.c; clear hSw; go_simp; (try with_reducible rfl)); (try simp only [Act.put, List.setIfInBounds_toArray, List.set_cons_zero, List.set_cons_succ]))
      (refine wpTake_cons (v := ?_) (Or.inl ⟨by rfl, ?_⟩) ?_; rotate_left; (intro w' hSw; have yc := hSw.c.c; have yd := hSw.d.c; clear hSw; go_simp; (try with_reducible rfl)); (try simp only [Act.put, List.setIfInBounds_toArray, List.set_cons_zero, List.set_cons_succ]))
      (refine wpTake_cons (v := ?_) (Or.inl ⟨by rfl, ?_⟩) ?_; rotate_left; (intro w' hSw; have yc := hSw.c.c; have yd := hSw.d.c; clear hSw; go_simp; (try with_reducible rfl)); (try simp only [Act.put, List.setIfInBounds_toArray, List.set_cons_zero, List.set_cons_succ]))
      refine wpTake_nil ?_
      refine rg_one (fuel := 17) 6 rfl (by kernel_rfl) (by kernel_rfl) ?_
      simp only [pick1, wpHead]
      intro K' hK
      (first | rw [if_pos (by rfl)] | rw [if_neg (by intro h; cases h)] | skip)
      go_simp
      refine (isPlace56 _ _ _ _ _ _ _ _).mono ?_
      rw [CA.out]
      rintro e W17 ⟨rfl, hb⟩
      go_simp
      replace oB := oB.below hb oB.lt
      replace hS := hS.below hb
      refine hK.out _ _ hS ?_
      clear hK hb
      (try simp only [Act.put, List.setIfInBounds_toArray, List.set_cons_zero, List.set_cons_succ])
      clear W16
      refine rg_take (fuel := 13) [7, 8, 9, 10] (by kernel_rfl) (by intro _ _ _ _ _ h; cases h.1) rfl (by kernel_rfl) (by kernel_rfl) hS ?_
      simp only [pickL, pick1, List.cons_append, List.nil_append]
      (refine wpTake_cons (v := ?_) (Or.inl ⟨by rfl, ?_⟩) ?_; rotate_left; (intro w' hSw; have yc := hSw.c.c; have yd := hSw.d.c; clear hSw; go_simp; (try with_reducible rfl)); (try simp only [Act.put, List.setIfInBounds_toArray, List.set_cons_zero, List.set_cons_succ]))
      (refine wpTake_cons (v := ?_) (Or.inl ⟨by rfl, ?_⟩) ?_; rotate_left; (intro w' hSw; have yc := hSw.c.c; have yd := hSw.d.c; clear hSw; go_simp; (try with_reducible rfl)); (try simp only [Act.put, List.setIfInBounds_toArray, List.set_cons_zero, List.set_cons_succ]))
      (refine wpTake_cons (v := ?_) (Or.inl ⟨by rfl, ?_⟩) ?_; rotate_left; (intro w' hSw; have yc := hSw.c.c; have yd := hSw.d.c; clear hSw; go_simp; (try with_reducible rfl)); (try simp only [Act.put, List.setIfInBounds_toArray, List.set_cons_zero, List.set_cons_succ]))
      (refine wpTake_cons (v := ?_) (Or.inl ⟨by rfl, ?_⟩) ?_; rotate_left; (intro w' hSw; have yc := hSw.c.c; have yd := hSw.d.c; clear hSw; go_simp; (try with_reducible rfl)); (try simp only [Act.put, List.setIfInBounds_toArray, List.set_cons_zero, List.set_cons_succ]))
      refine wpTake_nil ?_
      refine rg_one (fuel := 12) 11 rfl (by kernel_rfl) (by kernel_rfl) ?_
      simp only [pick1, wpHead]
      intro K' hK
      (first | rw [if_pos (by rfl)] | rw [if_neg (by intro h; cases h)] | skip)
      go_simp
      refine (isPlace56 _ _ _ _ _ _ _ _).mono ?_
      rw [CB.out]
      rintro e W18 ⟨rfl, hb⟩
      go_simp
      replace oB := oB.below hb oB.lt
      replace hS := hS.below hb
      refine hK.out _ _ hS ?_
      clear hK hb
      (try simp only [Act.put, List.setIfInBounds_toArray, List.set_cons_zero, List.set_cons_succ])
      clear W17
      refine rg_take (fuel := 6) [12, 13, 14, 15, 16, 17] (by kernel_rfl) (by intro _ _ _ _ _ h; cases h.1) rfl (by kernel_rfl) (by kernel_rfl) hS ?_
      simp only [pickL, pick1, List.cons_append, List.nil_append]
      (refine wpTake_cons (v := ?_) (Or.inl ⟨by rfl, ?_⟩) ?_; rotate_left; (intro w' hSw; have yc := hSw.c.c; have yd := hSw.d.c; clear hSw; go_simp; (try with_reducible rfl)); (try simp only [Act.put, List.setIfInBounds_toArray, List.set_cons_zero, List.set_cons_succ]))
      (refine wpTake_cons (v := ?_) (Or.inl ⟨by rfl, ?_⟩) ?_; rotate_left; (intro w' hSw; have yc := hSw.c.c; have yd := hSw.d.c; clear hSw; go_simp; (try with_reducible rfl)); (try simp only [Act.put, List.setIfInBounds_toArray, List.set_cons_zero, List.set_cons_succ]))
      (refine wpTake_cons (v := ?_) (Or.inl ⟨by rfl, ?_⟩) ?_; rotate_left; (intro w' hSw; have yc := hSw.c.c; have yd := hSw.d.c; clear hSw; go_simp; (try with_reducible rfl)); (try simp only [Act.put, List.setIfInBounds_toArray, List.set_cons_zero, List.set_cons_succ]))
      (refine wpTake_cons (v := ?_) (Or.inl ⟨by rfl, ?_⟩) ?_; rotate_left; (intro w' hSw; have yc := hSw.c.c; have yd := hSw.d.c; clear hSw; go_simp; (try with_reducible rfl)); (try simp only [Act.put, List.setIfInBounds_toArray, List.set_cons_zero, List.set_cons_succ]))
      (refine wpTake_cons (v := ?_) (Or.inl ⟨by rfl, ?_⟩) ?_; rotate_left; (intro w' hSw; have yc := hSw.c.c; have yd := hSw.d.c; clear hSw; go_simp; (try with_reducible rfl)); (try simp only [Act.put, List.setIfInBounds_toArray, List.set_cons_zero, List.set_cons_succ]))
      (refine wpTake_cons (v := ?_) (Or.inl ⟨by rfl, ?_⟩) ?_; rotate_left; (intro w' hSw; have yc := hSw.c.c; have yd := hSw.d.c; clear hSw; go_simp; (try with_reducible rfl)); (try simp only [Act.put, List.setIfInBounds_toArray, List.set_cons_zero, List.set_cons_succ]))
      refine wpTake_nil ?_
      refine rg_one (fuel := 5) 18 rfl (by kernel_rfl) (by kernel_rfl) ?_
      simp only [pick1, wpHead]
      intro K' hK
      (first | rw [if_pos (by rfl)] | rw [if_neg (by intro h; cases h)] | skip)
      go_simp
      refine (open50 L sl rl rh wg A n cap ks _ _ (HA.out.below hS.b (Nat.le_refl _)) hn hlen).mono ?_
      rintro e W19 ⟨er, rfl, hO, hb⟩
      go_simp
      replace oB := oB.below hb oB.lt
      replace hS := hS.below hb
      refine hK.out _ _ hS ?_
      clear hK hb
      (try simp only [Act.put, List.setIfInBounds_toArray, List.set_cons_zero, List.set_cons_succ])
      clear W18
      refine rg_take (fuel := 2) [19, 20, 21] (by kernel_rfl) (by intro _ _ _ _ _ h; cases h.1) rfl (by kernel_rfl) (by kernel_rfl) hS ?_
      simp only [pickL, pick1, List.cons_append, List.nil_append]
      (refine wpTake_cons (v := ?_) (Or.inl ⟨by rfl, ?_⟩) ?_; rotate_left; (intro w' hSw; have yc := hSw.c.c; have yd := hSw.d.c; clear hSw; go_simp; (try with_reducible rfl)); (try simp only [Act.put, List.setIfInBounds_toArray, List.set_cons_zero, List.set_cons_succ]))
      (refine wpTake_cons (v := ?_) (Or.inl ⟨by rfl, ?_⟩) ?_; rotate_left; (intro w' hSw; have yc := hSw.c.c; have yd := hSw.d.c; clear hSw; go_simp; (try with_reducible rfl)); (try simp only [Act.put, List.setIfInBounds_toArray, List.set_cons_zero, List.set_cons_succ]))
      (refine wpTake_cons (v := ?_) (Or.inl ⟨by rfl, ?_⟩) ?_; rotate_left; (intro w' hSw; have yc := hSw.c.c; have yd := hSw.d.c; clear hSw; go_simp; (try with_reducible rfl)); (try simp only [Act.put, List.setIfInBounds_toArray, List.set_cons_zero, List.set_cons_succ]))
      refine wpTake_nil ?_
      refine rg_one (fuel := 1) 23 rfl (by kernel_rfl) (by kernel_rfl) ?_
      simp only [pick1, wpHead]
      intro K' hK
      (first | rw [if_pos (by rfl)] | rw [if_neg (by intro h; cases h)] | skip)
      obtain ⟨lB, kB, fB⟩ := oB
      have oB := Own.mk lB kB fB
      go_simp
      clear lB kB fB
      have oB2 := own_set7 oB rfl (.int .i64 L) (.int .i64 sl) (.int .i64 rl) (.int .i64 rh) (.slice A n cap) (.int .i64 wg) (.map none)
      replace hS := hS.set7 hg (.int .i64 L) (.int .i64 sl) (.int .i64 rl) (.int .i64 rh) (.slice A n cap) (.int .i64 wg) (.map none)
      refine hK.out _ _ hS ?_
      clear hK oB
      (try simp only [Act.put, List.setIfInBounds_toArray, List.set_cons_zero, List.set_cons_succ])
      refine rg_one (fuel := 0) 24 rfl (by kernel_rfl) (by kernel_rfl) ?_
      simp only [pick1, wpHead]
      intro K' hK
      (first | rw [if_pos (by rfl)] | rw [if_neg (by intro h; cases h)] | skip)
      go_simp
      refine hK.out _ _ hS ?_
      clear hK
      (try simp only [Act.put, List.setIfInBounds_toArray, List.set_cons_zero, List.set_cons_succ])
      refine rg_done (by kernel_rfl) ?_
      exact ⟨rfl, _, er, _, _, _, _, _, _, _, _, _, _, _, _, _, _, _, _, _, _, _, _, _, _, hO, hS, oB2, hg, rfl⟩
  · rintro e a' w1 ⟨rfl, g, er, u12, u13, u14, u15, u16, u17, u18, u19, u20, u21, u22, u23, u24, u25, u26, u27, u28, u29, u30, u31, u32, u33, hO, hI, oG, hg, rfl⟩
    (try simp only [Exit.then])
    have hne : er ≠ 0 := HN.out _ hO.out
    have hres := Lib.hid (show er ≠ 0 ∧ OpenR L sl rl rh wg ks (decide (a ≤ b)) er from ⟨hne, hO.out⟩)
    have hB1 := hI.b
    obtain ⟨lg, kg, fg⟩ := oG
    clear hI
    go_wp2
    go_ret2
    exact ⟨er, rfl, hres, hB1⟩
end Go.Proofs.Ytphcpphmoeiioaa
