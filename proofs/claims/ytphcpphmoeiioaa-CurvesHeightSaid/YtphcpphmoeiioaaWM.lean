/- Walks: Integral. -/
import Derived.Test.YtphcpphmoeiioaaOpR
namespace Go.Proofs.Ytphcpphmoeiioaa
open Go.RowKit Go.Maps

set_option maxRecDepth 100000 in
set_option maxHeartbeats 8000000 in
theorem integral20 (L sl rl rh wg : Int) (A : Option Addr) (n cap : Nat) (ks : List Kn) (a b : Int) (w : World) (hA : Rd 3 w A (ks.map krow)) (hn : Hid (n = ks.length)) (hlen : n ≤ 9223372036854775807) :
    Calls Try.prog 20 #[.agg #[.int .i64 L, .int .i64 sl, .int .i64 rl, .int .i64 rh, .slice A n cap, .int .i64 wg], .int .i64 a, .int .i64 b] w fun e w' => ∃ lo hi er : Int, e = .returned (.tuple #[.agg #[.int .i64 lo, .int .i64 hi], .int .i64 er]) ∧ Hid (IntegralR L sl rl rh wg ks a b lo hi er) ∧ Below w.heap.size w w' := by
  have HA := Lib.hid hA
  clear hA
  go_enter Try.func20, Try.ntmps20
  go_wp2
  have hS0 : OpI w w.heap.size (w.heap.size + 1) [.int .i64 L, .int .i64 sl, .int .i64 rl, .int .i64 rh, .slice A n cap, .int .i64 wg] [.int .i64 0, .int .i64 0] ((w.alloc (.cells #[.int .i64 L, .int .i64 sl, .int .i64 rl, .int .i64 rh, .slice A n cap, .int .i64 wg] 26)).alloc (.cells #[.int .i64 0, .int .i64 0] 23)) := ⟨(Own.new' _ _ rfl rfl).alloc _, Own.new' _ _ (by simp) rfl, by (repeat' (first | (with_reducible exact Below.refl _ _) | (with_reducible assumption) | (with_reducible refine Below.drew ?_) | (with_reducible refine below_drewN ?_ _) | (with_reducible refine Below.setCell ?_ ?_ _) | (with_reducible refine Below.alloc ?_ ?_ _) | (refine Below.trans ?_ (Below.mono (by with_reducible assumption) ?_)) | omega | (exact Below.size (by with_reducible assumption)) | (simp; done) | (simp; omega)))⟩
  refine Code.wp_mono (Q := fun e a' w' => e = .normal ∧ ∃ (g : Nat) (er : Int) (u12 u13 u14 u15 u16 u17 u18 u19 u20 u21 u22 u23 u24 u25 u26 u27 u28 u29 : Value), Hid (OpenR L sl rl rh wg ks (btw a 0 L && btw b 0 L && decide (a ≤ b)) er) ∧ OpI w w.heap.size (w.heap.size + 1) [.int .i64 L, .int .i64 sl, .int .i64 rl, .int .i64 rh, .slice A n cap, .int .i64 wg] [.int .i64 0, .int .i64 0] w' ∧ Own w' g [.int .i64 L, .int .i64 sl, .int .i64 rl, .int .i64 rh, .slice A n cap, .int .i64 wg, .map none] ∧ (w.heap.size ≤ g ∧ w.heap.size ≠ g ∧ w.heap.size + 1 ≠ g) ∧ a' = { tmps := #[.agg #[.int .i64 L, .int .i64 sl, .int .i64 rl, .int .i64 rh, .slice A n cap, .int .i64 wg], .int .i64 a, .int .i64 b, .pointer (some ⟨w.heap.size, 0, none⟩), undef, undef, .pointer (some ⟨w.heap.size + 1, 0, none⟩), .int .i64 0, .pointer (some ⟨g, 0, none⟩), .int .i64 er, undef, undef, u12, u13, u14, u15, u16, u17, u18, u19, u20, u21, u22, u23, u24, u25, u26, u27, u28, u29, undef, undef, undef, undef, undef, undef, undef, undef, undef, undef, undef, undef, undef], defers := [] }) ?_ ?_
  rotate_left
  · have hS := hS0.drew
    cases ca : btw a 0 L
    · have CA := Lib.hid ca
      clear ca
      refine rg_start (fun w' => OpI w w.heap.size (w.heap.size + 1) [.int .i64 L, .int .i64 sl, .int .i64 rl, .int .i64 rh, .slice A n cap, .int .i64 wg] [.int .i64 0, .int .i64 0] w') 21 (by kernel_rfl) rfl ?_
      clear hS0
      generalize World.drew _ = W at hS ⊢
      refine rg_take (fuel := 18) [0, 1, 2] (by kernel_rfl) (by intro _ _ _ _ _ h; cases h.1) rfl (by kernel_rfl) (by kernel_rfl) hS ?_
      simp only [pickL, pick1, List.cons_append, List.nil_append]
      (refine wpTake_cons (v := ?_) (Or.inl ⟨by rfl, ?_⟩) ?_; rotate_left; (intro w' hSw; have yc := hSw.c.c; have yd := hSw.d.c; clear hSw; go_simp; (try with_reducible rfl)); (try simp only [Act.put, List.setIfInBounds_toArray, List.set_cons_zero, List.set_cons_succ]))
      (refine wpTake_cons (v := ?_) (Or.inl ⟨by rfl, ?_⟩) ?_; rotate_left; (intro w' hSw; have yc := hSw.c.c; have yd := hSw.d.c; clear hSw; go_simp; (try with_reducible rfl)); (try simp only [Act.put, List.setIfInBounds_toArray, List.set_cons_zero, List.set_cons_succ]))
      (refine wpTake_cons (v := ?_) (Or.inl ⟨by rfl, ?_⟩) ?_; rotate_left; (intro w' hSw; have yc := hSw.c.c; have yd := hSw.d.c; clear hSw; go_simp; (try with_reducible rfl)); (try simp only [Act.put, List.setIfInBounds_toArray, List.set_cons_zero, List.set_cons_succ]))
      refine wpTake_nil ?_
      refine rg_two (fuel := 17) 3 18 rfl (by kernel_rfl) (by kernel_rfl) ?_ ?_ <;> simp only [pick1, wpHead]
      · intro K' hK
        (first | rw [if_pos (by rfl)] | rw [if_neg (by intro h; cases h)] | skip)
        go_simp
        refine (isPlace56 _ _ _ _ _ _ _ _).mono ?_
        rw [CA.out]
        rintro e W1 ⟨rfl, hb⟩
        go_simp
        replace hS := hS.below hb
        refine hK.out _ _ hS ?_
        clear hK hb
        (try simp only [Act.put, List.setIfInBounds_toArray, List.set_cons_zero, List.set_cons_succ])
        clear W
        refine rg_take (fuel := 14) [4, 5, 6] (by kernel_rfl) (by intro _ _ _ _ _ h; cases h.1) rfl (by kernel_rfl) (by kernel_rfl) hS ?_
        simp only [pickL, pick1, List.cons_append, List.nil_append]
        (refine wpTake_cons (v := ?_) (Or.inl ⟨by rfl, ?_⟩) ?_; rotate_left; (intro w' hSw; have yc := hSw.c.c; have yd := hSw.d.c; clear hSw; go_simp; (try with_reducible rfl)); (try simp only [Act.put, List.setIfInBounds_toArray, List.set_cons_zero, List.set_cons_succ]))
        (refine wpTake_cons (v := undef) (Or.inr ⟨by rfl, rfl⟩) ?_; (try simp only [Act.put, List.setIfInBounds_toArray, List.set_cons_zero, List.set_cons_succ]))
        (refine wpTake_cons (v := undef) (Or.inr ⟨by rfl, rfl⟩) ?_; (try simp only [Act.put, List.setIfInBounds_toArray, List.set_cons_zero, List.set_cons_succ]))
        refine wpTake_nil ?_
        refine rg_two (fuel := 13) 7 18 rfl (by kernel_rfl) (by kernel_rfl) ?_ ?_ <;> simp only [pick1, wpHead]
        · intro K' hK
          (first | rw [if_pos (by rfl)] | rw [if_neg (by intro h; cases h)] | skip)
          refine hK.out _ _ hS ?_
          clear hK
          (try simp only [Act.put, List.setIfInBounds_toArray, List.set_cons_zero, List.set_cons_succ])
          refine rg_take (fuel := 7) [8, 9, 10, 11, 12, 13] (by kernel_rfl) (by intro _ _ _ _ _ h; cases h.1) rfl (by kernel_rfl) (by kernel_rfl) hS ?_
          simp only [pickL, pick1, List.cons_append, List.nil_append]
          (refine wpTake_cons (v := ?_) (Or.inl ⟨by rfl, ?_⟩) ?_; rotate_left; (intro w' hSw; have yc := hSw.c.c; have yd := hSw.d.c; clear hSw; go_simp; (try with_reducible rfl)); (try simp only [Act.put, List.setIfInBounds_toArray, List.set_cons_zero, List.set_cons_succ]))
          (refine wpTake_cons (v := ?_) (Or.inl ⟨by rfl, ?_⟩) ?_; rotate_left; (intro w' hSw; have yc := hSw.c.c; have yd := hSw.d.c; clear hSw; go_simp; (try with_reducible rfl)); (try simp only [Act.put, List.setIfInBounds_toArray, List.set_cons_zero, List.set_cons_succ]))
          (refine wpTake_cons (v := undef) (Or.inr ⟨by rfl, rfl⟩) ?_; (try simp only [Act.put, List.setIfInBounds_toArray, List.set_cons_zero, List.set_cons_succ]))
          (refine wpTake_cons (v := undef) (Or.inr ⟨by rfl, rfl⟩) ?_; (try simp only [Act.put, List.setIfInBounds_toArray, List.set_cons_zero, List.set_cons_succ]))
          (refine wpTake_cons (v := undef) (Or.inr ⟨by rfl, rfl⟩) ?_; (try simp only [Act.put, List.setIfInBounds_toArray, List.set_cons_zero, List.set_cons_succ]))
          (refine wpTake_cons (v := ?_) (Or.inl ⟨by rfl, ?_⟩) ?_; rotate_left; (intro w' hSw; have yc := hSw.c.c; have yd := hSw.d.c; clear hSw; go_simp; (try with_reducible rfl)); (try simp only [Act.put, List.setIfInBounds_toArray, List.set_cons_zero, List.set_cons_succ]))
          refine wpTake_nil ?_
          refine rg_two (fuel := 6) 14 18 rfl (by kernel_rfl) (by kernel_rfl) ?_ ?_ <;> simp only [pick1, wpHead]
          · intro K' hK
            (first | rw [if_pos (by rfl)] | rw [if_neg (by intro h; cases h)] | skip)
            go_simp
            refine (open50 L sl rl rh wg A n cap ks _ _ (HA.out.below hS.b (Nat.le_refl _)) hn hlen).mono ?_
            rintro e W2 ⟨er, rfl, hO, hb⟩
            go_simp
            replace hS := hS.below hb
            refine hK.out _ _ hS ?_
            clear hK hb
            (try simp only [Act.put, List.setIfInBounds_toArray, List.set_cons_zero, List.set_cons_succ])
            clear W1
            refine rg_take (fuel := 3) [15, 16, 17] (by kernel_rfl) (by intro _ _ _ _ _ h; cases h.1) rfl (by kernel_rfl) (by kernel_rfl) hS ?_
            simp only [pickL, pick1, List.cons_append, List.nil_append]
            (refine wpTake_cons (v := ?_) (Or.inl ⟨by rfl, ?_⟩) ?_; rotate_left; (intro w' hSw; have yc := hSw.c.c; have yd := hSw.d.c; clear hSw; go_simp; (try with_reducible rfl)); (try simp only [Act.put, List.setIfInBounds_toArray, List.set_cons_zero, List.set_cons_succ]))
            (refine wpTake_cons (v := ?_) (Or.inl ⟨by rfl, ?_⟩) ?_; rotate_left; (intro w' hSw; have yc := hSw.c.c; have yd := hSw.d.c; clear hSw; go_simp; (try with_reducible rfl)); (try simp only [Act.put, List.setIfInBounds_toArray, List.set_cons_zero, List.set_cons_succ]))
            (refine wpTake_cons (v := ?_) (Or.inl ⟨by rfl, ?_⟩) ?_; rotate_left; (intro w' hSw; have yc := hSw.c.c; have yd := hSw.d.c; clear hSw; go_simp; (try with_reducible rfl)); (try simp only [Act.put, List.setIfInBounds_toArray, List.set_cons_zero, List.set_cons_succ]))
            refine wpTake_nil ?_
            refine rg_one (fuel := 2) 18 rfl (by kernel_rfl) (by kernel_rfl) ?_
            simp only [pick1, wpHead]
            intro K' hK
            (first | rw [if_pos (by rfl)] | rw [if_neg (by intro h; cases h)] | skip)
            go_simp
            have oB := Own.new (w := W2) #[.int .i64 0, .int .i64 0, .int .i64 0, .int .i64 0, .slice none 0 0, .int .i64 0, .map none] 70
            have hb : Below W2.heap.size W2 (W2.alloc (.cells #[.int .i64 0, .int .i64 0, .int .i64 0, .int .i64 0, .slice none 0 0, .int .i64 0, .map none] 70)) := (Below.refl _ _).alloc (Nat.le_refl _) _
            have hg := hS.fresh
            replace hS := hS.below hb
            refine hK.out _ _ hS ?_
            clear hK hb
            (try simp only [Act.put, List.setIfInBounds_toArray, List.set_cons_zero, List.set_cons_succ])
            generalize World.alloc W2 _ = W3 at hS oB ⊢
            generalize W2.heap.size = g at hg oB ⊢
            clear W2
            refine rg_one (fuel := 1) 19 rfl (by kernel_rfl) (by kernel_rfl) ?_
            simp only [pick1, wpHead]
            intro K' hK
            (first | rw [if_pos (by rfl)] | rw [if_neg (by intro h; cases h)] | skip)
            obtain ⟨lB, kB, fB⟩ := oB
            have oB := Own.mk lB kB fB
            go_simp
            clear lB kB fB
            have oB2 := own_set7 oB rfl (.int .i64 L) (.int .i64 sl) (.int .i64 rl) (.int .i64 rh) (.slice A n cap) (.int .i64 wg) (.map none)
            replace hS := hS.set7 hg (.int .i64 L) (.int .i64 sl) (.int .i64 rl) (.int .i64 rh) (.slice A n cap) (.int .i64 wg) (.map none)
            refine hK.out _ _ hS ?_
            clear hK oB
            (try simp only [Act.put, List.setIfInBounds_toArray, List.set_cons_zero, List.set_cons_succ])
            refine rg_one (fuel := 0) 20 rfl (by kernel_rfl) (by kernel_rfl) ?_
            simp only [pick1, wpHead]
            intro K' hK
            (first | rw [if_pos (by rfl)] | rw [if_neg (by intro h; cases h)] | skip)
            go_simp
            refine hK.out _ _ hS ?_
            clear hK
            (try simp only [Act.put, List.setIfInBounds_toArray, List.set_cons_zero, List.set_cons_succ])
            refine rg_done (by kernel_rfl) ?_
            exact ⟨rfl, _, er, _, _, _, _, _, _, _, _, _, _, _, _, _, _, _, _, _, _, hO, hS, oB2, hg, rfl⟩
          · intro K' hK
            (first | rw [if_pos (by rfl)] | rw [if_neg (by intro h; cases h)] | skip)
            go_simp
            have oB := Own.new (w := W1) #[.int .i64 0, .int .i64 0, .int .i64 0, .int .i64 0, .slice none 0 0, .int .i64 0, .map none] 70
            have hb : Below W1.heap.size W1 (W1.alloc (.cells #[.int .i64 0, .int .i64 0, .int .i64 0, .int .i64 0, .slice none 0 0, .int .i64 0, .map none] 70)) := (Below.refl _ _).alloc (Nat.le_refl _) _
            have hg := hS.fresh
            replace hS := hS.below hb
            refine hK.out _ _ hS ?_
            clear hK hb
            (try simp only [Act.put, List.setIfInBounds_toArray, List.set_cons_zero, List.set_cons_succ])
            generalize World.alloc W1 _ = W4 at hS oB ⊢
            generalize W1.heap.size = g at hg oB ⊢
            clear W1
            refine rg_one (fuel := 5) 14 rfl (by kernel_rfl) (by kernel_rfl) ?_
            simp only [pick1, wpHead]
            intro K' hK
            (first | rw [if_pos (by rfl)] | rw [if_neg (by intro h; cases h)] | skip)
            go_simp
            refine (open50 L sl rl rh wg A n cap ks _ _ (HA.out.below hS.b (Nat.le_refl _)) hn hlen).mono ?_
            rintro e W5 ⟨er, rfl, hO, hb⟩
            go_simp
            replace oB := oB.below hb oB.lt
            replace hS := hS.below hb
            refine hK.out _ _ hS ?_
            clear hK hb
            (try simp only [Act.put, List.setIfInBounds_toArray, List.set_cons_zero, List.set_cons_succ])
            clear W4
            refine rg_take (fuel := 2) [15, 16, 17] (by kernel_rfl) (by intro _ _ _ _ _ h; cases h.1) rfl (by kernel_rfl) (by kernel_rfl) hS ?_
            simp only [pickL, pick1, List.cons_append, List.nil_append]
            (refine wpTake_cons (v := ?_) (Or.inl ⟨by rfl, ?_⟩) ?_; rotate_left; (intro w' hSw; have yc := hSw.c.c; have yd := hSw.d.c; clear hSw; go_simp; (try with_reducible rfl)); (try simp only [Act.put, List.setIfInBounds_toArray, List.set_cons_zero, List.set_cons_succ]))
            (refine wpTake_cons (v := ?_) (Or.inl ⟨by rfl, ?_⟩) ?_; rotate_left; (intro w' hSw; have yc := hSw.c.c; have yd := hSw.d.c; clear hSw; go_simp; (try with_reducible rfl)); (try simp only [Act.put, List.setIfInBounds_toArray, List.set_cons_zero, List.set_cons_succ]))
            (refine wpTake_cons (v := ?_) (Or.inl ⟨by rfl, ?_⟩) ?_; rotate_left; (intro w' hSw; have yc := hSw.c.c; have yd := hSw.d.c; clear hSw; go_simp; (try with_reducible rfl)); (try simp only [Act.put, List.setIfInBounds_toArray, List.set_cons_zero, List.set_cons_succ]))
            refine wpTake_nil ?_
            refine rg_one (fuel := 1) 19 rfl (by kernel_rfl) (by kernel_rfl) ?_
            simp only [pick1, wpHead]
            intro K' hK
            (first | rw [if_pos (by rfl)] | rw [if_neg (by intro h; cases h)] | skip)
            obtain ⟨lB, kB, fB⟩ := oB
            have oB := Own.mk lB kB fB
            go_simp
            clear lB kB fB
            have oB2 := own_set7 oB rfl (.int .i64 L) (.int .i64 sl) (.int .i64 rl) (.int .i64 rh) (.slice A n cap) (.int .i64 wg) (.map none)
            replace hS := hS.set7 hg (.int .i64 L) (.int .i64 sl) (.int .i64 rl) (.int .i64 rh) (.slice A n cap) (.int .i64 wg) (.map none)
            refine hK.out _ _ hS ?_
            clear hK oB
            (try simp only [Act.put, List.setIfInBounds_toArray, List.set_cons_zero, List.set_cons_succ])
            refine rg_one (fuel := 0) 20 rfl (by kernel_rfl) (by kernel_rfl) ?_
            simp only [pick1, wpHead]
            intro K' hK
            (first | rw [if_pos (by rfl)] | rw [if_neg (by intro h; cases h)] | skip)
            go_simp
            refine hK.out _ _ hS ?_
            clear hK
            (try simp only [Act.put, List.setIfInBounds_toArray, List.set_cons_zero, List.set_cons_succ])
            refine rg_done (by kernel_rfl) ?_
            exact ⟨rfl, _, er, _, _, _, _, _, _, _, _, _, _, _, _, _, _, _, _, _, _, hO, hS, oB2, hg, rfl⟩
        · intro K' hK
          (first | rw [if_pos (by rfl)] | rw [if_neg (by intro h; cases h)] | skip)
          go_simp
          have oB := Own.new (w := W1) #[.int .i64 0, .int .i64 0, .int .i64 0, .int .i64 0, .slice none 0 0, .int .i64 0, .map none] 70
          have hb : Below W1.heap.size W1 (W1.alloc (.cells #[.int .i64 0, .int .i64 0, .int .i64 0, .int .i64 0, .slice none 0 0, .int .i64 0, .map none] 70)) := (Below.refl _ _).alloc (Nat.le_refl _) _
          have hg := hS.fresh
          replace hS := hS.below hb
          refine hK.out _ _ hS ?_
          clear hK hb
          (try simp only [Act.put, List.setIfInBounds_toArray, List.set_cons_zero, List.set_cons_succ])
          generalize World.alloc W1 _ = W6 at hS oB ⊢
          generalize W1.heap.size = g at hg oB ⊢
          clear W1
          refine rg_one (fuel := 12) 7 rfl (by kernel_rfl) (by kernel_rfl) ?_
          simp only [pick1, wpHead]
          intro K' hK
          (first | rw [if_pos (by rfl)] | rw [if_neg (by intro h; cases h)] | skip)
          refine hK.out _ _ hS ?_
          clear hK
          (try simp only [Act.put, List.setIfInBounds_toArray, List.set_cons_zero, List.set_cons_succ])
          refine rg_take (fuel := 6) [8, 9, 10, 11, 12, 13] (by kernel_rfl) (by intro _ _ _ _ _ h; cases h.1) rfl (by kernel_rfl) (by kernel_rfl) hS ?_
          simp only [pickL, pick1, List.cons_append, List.nil_append]
          (refine wpTake_cons (v := ?_) (Or.inl ⟨by rfl, ?_⟩) ?_; rotate_left; (intro w' hSw; have yc := hSw.c.c; have yd := hSw.d.c; clear hSw; go_simp; (try with_reducible rfl)); (try simp only [Act.put, List.setIfInBounds_toArray, List.set_cons_zero, List.set_cons_succ]))
          (refine wpTake_cons (v := ?_) (Or.inl ⟨by rfl, ?_⟩) ?_; rotate_left; (intro w' hSw; have yc := hSw.c.c; have yd := hSw.d.c; clear hSw; go_simp; (try with_reducible rfl)); (try simp only [Act.put, List.setIfInBounds_toArray, List.set_cons_zero, List.set_cons_succ]))
          (refine wpTake_cons (v := undef) (Or.inr ⟨by rfl, rfl⟩) ?_; (try simp only [Act.put, List.setIfInBounds_toArray, List.set_cons_zero, List.set_cons_succ]))
          (refine wpTake_cons (v := undef) (Or.inr ⟨by rfl, rfl⟩) ?_; (try simp only [Act.put, List.setIfInBounds_toArray, List.set_cons_zero, List.set_cons_succ]))
          (refine wpTake_cons (v := undef) (Or.inr ⟨by rfl, rfl⟩) ?_; (try simp only [Act.put, List.setIfInBounds_toArray, List.set_cons_zero, List.set_cons_succ]))
          (refine wpTake_cons (v := ?_) (Or.inl ⟨by rfl, ?_⟩) ?_; rotate_left; (intro w' hSw; have yc := hSw.c.c; have yd := hSw.d.c; clear hSw; go_simp; (try with_reducible rfl)); (try simp only [Act.put, List.setIfInBounds_toArray, List.set_cons_zero, List.set_cons_succ]))
          refine wpTake_nil ?_
          refine rg_one (fuel := 5) 14 rfl (by kernel_rfl) (by kernel_rfl) ?_
          simp only [pick1, wpHead]
          intro K' hK
          (first | rw [if_pos (by rfl)] | rw [if_neg (by intro h; cases h)] | skip)
          go_simp
          refine (open50 L sl rl rh wg A n cap ks _ _ (HA.out.below hS.b (Nat.le_refl _)) hn hlen).mono ?_
          rintro e W7 ⟨er, rfl, hO, hb⟩
          go_simp
          replace oB := oB.below hb oB.lt
          replace hS := hS.below hb
          refine hK.out _ _ hS ?_
          clear hK hb
          (try simp only [Act.put, List.setIfInBounds_toArray, List.set_cons_zero, List.set_cons_succ])
          clear W6
          refine rg_take (fuel := 2) [15, 16, 17] (by kernel_rfl) (by intro _ _ _ _ _ h; cases h.1) rfl (by kernel_rfl) (by kernel_rfl) hS ?_
          simp only [pickL, pick1, List.cons_append, List.nil_append]
          (refine wpTake_cons (v := ?_) (Or.inl ⟨by rfl, ?_⟩) ?_; rotate_left; (intro w' hSw; have yc := hSw.c.c; have yd := hSw.d.c; clear hSw; go_simp; (try with_reducible rfl)); (try simp only [Act.put, List.setIfInBounds_toArray, List.set_cons_zero, List.set_cons_succ]))
          (refine wpTake_cons (v := ?_) (Or.inl ⟨by rfl, ?_⟩) ?_; rotate_left; (intro w' hSw; have yc := hSw.c.c; have yd := hSw.d.c; clear hSw; go_simp; (try with_reducible rfl)); (try simp only [Act.put, List.setIfInBounds_toArray, List.set_cons_zero, List.set_cons_succ]))
          (refine wpTake_cons (v := ?_) (Or.inl ⟨by rfl, ?_⟩) ?_; rotate_left; (intro w' hSw; have yc := hSw.c.c; have yd := hSw.d.c; clear hSw; go_simp; (try with_reducible rfl)); (try simp only [Act.put, List.setIfInBounds_toArray, List.set_cons_zero, List.set_cons_succ]))
          refine wpTake_nil ?_
          refine rg_one (fuel := 1) 19 rfl (by kernel_rfl) (by kernel_rfl) ?_
          simp only [pick1, wpHead]
          intro K' hK
          (first | rw [if_pos (by rfl)] | rw [if_neg (by intro h; cases h)] | skip)
          obtain ⟨lB, kB, fB⟩ := oB
          have oB := Own.mk lB kB fB
          go_simp
          clear lB kB fB
          have oB2 := own_set7 oB rfl (.int .i64 L) (.int .i64 sl) (.int .i64 rl) (.int .i64 rh) (.slice A n cap) (.int .i64 wg) (.map none)
          replace hS := hS.set7 hg (.int .i64 L) (.int .i64 sl) (.int .i64 rl) (.int .i64 rh) (.slice A n cap) (.int .i64 wg) (.map none)
          refine hK.out _ _ hS ?_
          clear hK oB
          (try simp only [Act.put, List.setIfInBounds_toArray, List.set_cons_zero, List.set_cons_succ])
          refine rg_one (fuel := 0) 20 rfl (by kernel_rfl) (by kernel_rfl) ?_
          simp only [pick1, wpHead]
          intro K' hK
          (first | rw [if_pos (by rfl)] | rw [if_neg (by intro h; cases h)] | skip)
          go_simp
          refine hK.out _ _ hS ?_
          clear hK
          (try simp only [Act.put, List.setIfInBounds_toArray, List.set_cons_zero, List.set_cons_succ])
          refine rg_done (by kernel_rfl) ?_
          exact ⟨rfl, _, er, _, _, _, _, _, _, _, _, _, _, _, _, _, _, _, _, _, _, hO, hS, oB2, hg, rfl⟩
      · intro K' hK
        (first | rw [if_pos (by rfl)] | rw [if_neg (by intro h; cases h)] | skip)
        go_simp
        have oB := Own.new (w := W) #[.int .i64 0, .int .i64 0, .int .i64 0, .int .i64 0, .slice none 0 0, .int .i64 0, .map none] 70
        have hb : Below W.heap.size W (W.alloc (.cells #[.int .i64 0, .int .i64 0, .int .i64 0, .int .i64 0, .slice none 0 0, .int .i64 0, .map none] 70)) := (Below.refl _ _).alloc (Nat.le_refl _) _
        have hg := hS.fresh
        replace hS := hS.below hb
        refine hK.out _ _ hS ?_
        clear hK hb
        (try simp only [Act.put, List.setIfInBounds_toArray, List.set_cons_zero, List.set_cons_succ])
        generalize World.alloc W _ = W8 at hS oB ⊢
        generalize W.heap.size = g at hg oB ⊢
        clear W
        refine rg_one (fuel := 16) 3 rfl (by kernel_rfl) (by kernel_rfl) ?_
        simp only [pick1, wpHead]
        intro K' hK
        (first | rw [if_pos (by rfl)] | rw [if_neg (by intro h; cases h)] | skip)
        go_simp
        refine (isPlace56 _ _ _ _ _ _ _ _).mono ?_
        rw [CA.out]
        rintro e W9 ⟨rfl, hb⟩
        go_simp
        replace oB := oB.below hb oB.lt
        replace hS := hS.below hb
        refine hK.out _ _ hS ?_
        clear hK hb
        (try simp only [Act.put, List.setIfInBounds_toArray, List.set_cons_zero, List.set_cons_succ])
        clear W8
        refine rg_take (fuel := 13) [4, 5, 6] (by kernel_rfl) (by intro _ _ _ _ _ h; cases h.1) rfl (by kernel_rfl) (by kernel_rfl) hS ?_
        simp only [pickL, pick1, List.cons_append, List.nil_append]
        (refine wpTake_cons (v := ?_) (Or.inl ⟨by rfl, ?_⟩) ?_; rotate_left; (intro w' hSw; have yc := hSw.c.c; have yd := hSw.d.c; clear hSw; go_simp; (try with_reducible rfl)); (try simp only [Act.put, List.setIfInBounds_toArray, List.set_cons_zero, List.set_cons_succ]))
        (refine wpTake_cons (v := undef) (Or.inr ⟨by rfl, rfl⟩) ?_; (try simp only [Act.put, List.setIfInBounds_toArray, List.set_cons_zero, List.set_cons_succ]))
        (refine wpTake_cons (v := undef) (Or.inr ⟨by rfl, rfl⟩) ?_; (try simp only [Act.put, List.setIfInBounds_toArray, List.set_cons_zero, List.set_cons_succ]))
        refine wpTake_nil ?_
        refine rg_one (fuel := 12) 7 rfl (by kernel_rfl) (by kernel_rfl) ?_
        simp only [pick1, wpHead]
        intro K' hK
        (first | rw [if_pos (by rfl)] | rw [if_neg (by intro h; cases h)] | skip)
        refine hK.out _ _ hS ?_
        clear hK
        (try simp only [Act.put, List.setIfInBounds_toArray, List.set_cons_zero, List.set_cons_succ])
        refine rg_take (fuel := 6) [8, 9, 10, 11, 12, 13] (by kernel_rfl) (by intro _ _ _ _ _ h; cases h.1) rfl (by kernel_rfl) (by kernel_rfl) hS ?_
        simp only [pickL, pick1, List.cons_append, List.nil_append]
        (refine wpTake_cons (v := ?_) (Or.inl ⟨by rfl, ?_⟩) ?_; rotate_left; (intro w' hSw; have yc := hSw.c.c; have yd := hSw.d.c; clear hSw; go_simp; (try with_reducible rfl)); (try simp only [Act.put, List.setIfInBounds_toArray, List.set_cons_zero, List.set_cons_succ]))
        (refine wpTake_cons (v := ?_) (Or.inl ⟨by rfl, ?_⟩) ?_; rotate_left; (intro w' hSw; have yc := hSw.c.c; have yd := hSw.d.c; clear hSw; go_simp; (try with_reducible rfl)); (try simp only [Act.put, List.setIfInBounds_toArray, List.set_cons_zero, List.set_cons_succ]))
        (refine wpTake_cons (v := undef) (Or.inr ⟨by rfl, rfl⟩) ?_; (try simp only [Act.put, List.setIfInBounds_toArray, List.set_cons_zero, List.set_cons_succ]))
        (refine wpTake_cons (v := undef) (Or.inr ⟨by rfl, rfl⟩) ?_; (try simp only [Act.put, List.setIfInBounds_toArray, List.set_cons_zero, List.set_cons_succ]))
        (refine wpTake_cons (v := undef) (Or.inr ⟨by rfl, rfl⟩) ?_; (try simp only [Act.put, List.setIfInBounds_toArray, List.set_cons_zero, List.set_cons_succ]))
        (refine wpTake_cons (v := ?_) (Or.inl ⟨by rfl, ?_⟩) ?_; rotate_left; (intro w' hSw; have yc := hSw.c.c; have yd := hSw.d.c; clear hSw; go_simp; (try with_reducible rfl)); (try simp only [Act.put, List.setIfInBounds_toArray, List.set_cons_zero, List.set_cons_succ]))
        refine wpTake_nil ?_
        refine rg_one (fuel := 5) 14 rfl (by kernel_rfl) (by kernel_rfl) ?_
        simp only [pick1, wpHead]
        intro K' hK
        (first | rw [if_pos (by rfl)] | rw [if_neg (by intro h; cases h)] | skip)
        go_simp
        refine (open50 L sl rl rh wg A n cap ks _ _ (HA.out.below hS.b (Nat.le_refl _)) hn hlen).mono ?_
        rintro e W10 ⟨er, rfl, hO, hb⟩
        go_simp
        replace oB := oB.below hb oB.lt
        replace hS := hS.below hb
        refine hK.out _ _ hS ?_
        clear hK hb
        (try simp only [Act.put, List.setIfInBounds_toArray, List.set_cons_zero, List.set_cons_succ])
        clear W9
        refine rg_take (fuel := 2) [15, 16, 17] (by kernel_rfl) (by intro _ _ _ _ _ h; cases h.1) rfl (by kernel_rfl) (by kernel_rfl) hS ?_
        simp only [pickL, pick1, List.cons_append, List.nil_append]
        (refine wpTake_cons (v := ?_) (Or.inl ⟨by rfl, ?_⟩) ?_; rotate_left; (intro w' hSw; have yc := hSw.c.c; have yd := hSw.d.c; clear hSw; go_simp; (try with_reducible rfl)); (try simp only [Act.put, List.setIfInBounds_toArray, List.set_cons_zero, List.set_cons_succ]))
        (refine wpTake_cons (v := ?_) (Or.inl ⟨by rfl, ?_⟩) ?_; rotate_left; (intro w' hSw; have yc := hSw.c.c; have yd := hSw.d.c; clear hSw; go_simp; (try with_reducible rfl)); (try simp only [Act.put, List.setIfInBounds_toArray, List.set_cons_zero, List.set_cons_succ]))
        (refine wpTake_cons (v := ?_) (Or.inl ⟨by rfl, ?_⟩) ?_; rotate_left; (intro w' hSw; have yc := hSw.c.c; have yd := hSw.d.c; clear hSw; go_simp; (try with_reducible rfl)); (try simp only [Act.put, List.setIfInBounds_toArray, List.set_cons_zero, List.set_cons_succ]))
        refine wpTake_nil ?_
        refine rg_one (fuel := 1) 19 rfl (by kernel_rfl) (by kernel_rfl) ?_
        simp only [pick1, wpHead]
        intro K' hK
        (first | rw [if_pos (by rfl)] | rw [if_neg (by intro h; cases h)] | skip)
        obtain ⟨lB, kB, fB⟩ := oB
        have oB := Own.mk lB kB fB
        go_simp
        clear lB kB fB
        have oB2 := own_set7 oB rfl (.int .i64 L) (.int .i64 sl) (.int .i64 rl) (.int .i64 rh) (.slice A n cap) (.int .i64 wg) (.map none)
        replace hS := hS.set7 hg (.int .i64 L) (.int .i64 sl) (.int .i64 rl) (.int .i64 rh) (.slice A n cap) (.int .i64 wg) (.map none)
        refine hK.out _ _ hS ?_
        clear hK oB
        (try simp only [Act.put, List.setIfInBounds_toArray, List.set_cons_zero, List.set_cons_succ])
        refine rg_one (fuel := 0) 20 rfl (by kernel_rfl) (by kernel_rfl) ?_
        simp only [pick1, wpHead]
        intro K' hK
        (first | rw [if_pos (by rfl)] | rw [if_neg (by intro h; cases h)] | skip)
        go_simp
        refine hK.out _ _ hS ?_
        clear hK
        (try simp only [Act.put, List.setIfInBounds_toArray, List.set_cons_zero, List.set_cons_succ])
        refine rg_done (by kernel_rfl) ?_
        exact ⟨rfl, _, er, _, _, _, _, _, _, _, _, _, _, _, _, _, _, _, _, _, _, hO, hS, oB2, hg, rfl⟩
    · cases cb : btw b 0 L
      · have CA := Lib.hid ca
        have CB := Lib.hid cb
        clear ca cb
        refine rg_start (fun w' => OpI w w.heap.size (w.heap.size + 1) [.int .i64 L, .int .i64 sl, .int .i64 rl, .int .i64 rh, .slice A n cap, .int .i64 wg] [.int .i64 0, .int .i64 0] w') 21 (by kernel_rfl) rfl ?_
        clear hS0
        generalize World.drew _ = W at hS ⊢
        refine rg_take (fuel := 18) [0, 1, 2] (by kernel_rfl) (by intro _ _ _ _ _ h; cases h.1) rfl (by kernel_rfl) (by kernel_rfl) hS ?_
        simp only [pickL, pick1, List.cons_append, List.nil_append]
        (refine wpTake_cons (v := ?_) (Or.inl ⟨by rfl, ?_⟩) ?_; rotate_left; (intro w' hSw; have yc := hSw.c.c; have yd := hSw.d.c; clear hSw; go_simp; (try with_reducible rfl)); (try simp only [Act.put, List.setIfInBounds_toArray, List.set_cons_zero, List.set_cons_succ]))
        (refine wpTake_cons (v := ?_) (Or.inl ⟨by rfl, ?_⟩) ?_; rotate_left; (intro w' hSw; have yc := hSw.c.c; have yd := hSw.d.c; clear hSw; go_simp; (try with_reducible rfl)); (try simp only [Act.put, List.setIfInBounds_toArray, List.set_cons_zero, List.set_cons_succ]))
        (refine wpTake_cons (v := ?_) (Or.inl ⟨by rfl, ?_⟩) ?_; rotate_left; (intro w' hSw; have yc := hSw.c.c; have yd := hSw.d.c; clear hSw; go_simp; (try with_reducible rfl)); (try simp only [Act.put, List.setIfInBounds_toArray, List.set_cons_zero, List.set_cons_succ]))
        refine wpTake_nil ?_
        refine rg_two (fuel := 17) 3 18 rfl (by kernel_rfl) (by kernel_rfl) ?_ ?_ <;> simp only [pick1, wpHead]
        · intro K' hK
          (first | rw [if_pos (by rfl)] | rw [if_neg (by intro h; cases h)] | skip)
          go_simp
          refine (isPlace56 _ _ _ _ _ _ _ _).mono ?_
          rw [CA.out]
          rintro e W1 ⟨rfl, hb⟩
          go_simp
          replace hS := hS.below hb
          refine hK.out _ _ hS ?_
          clear hK hb
          (try simp only [Act.put, List.setIfInBounds_toArray, List.set_cons_zero, List.set_cons_succ])
          clear W
          refine rg_take (fuel := 14) [4, 5, 6] (by kernel_rfl) (by intro _ _ _ _ _ h; cases h.1) rfl (by kernel_rfl) (by kernel_rfl) hS ?_
          simp only [pickL, pick1, List.cons_append, List.nil_append]
          (refine wpTake_cons (v := ?_) (Or.inl ⟨by rfl, ?_⟩) ?_; rotate_left; (intro w' hSw; have yc := hSw.c.c; have yd := hSw.d.c; clear hSw; go_simp; (try with_reducible rfl)); (try simp only [Act.put, List.setIfInBounds_toArray, List.set_cons_zero, List.set_cons_succ]))
          (refine wpTake_cons (v := ?_) (Or.inl ⟨by rfl, ?_⟩) ?_; rotate_left; (intro w' hSw; have yc := hSw.c.c; have yd := hSw.d.c; clear hSw; go_simp; (try with_reducible rfl)); (try simp only [Act.put, List.setIfInBounds_toArray, List.set_cons_zero, List.set_cons_succ]))
          (refine wpTake_cons (v := ?_) (Or.inl ⟨by rfl, ?_⟩) ?_; rotate_left; (intro w' hSw; have yc := hSw.c.c; have yd := hSw.d.c; clear hSw; go_simp; (try with_reducible rfl)); (try simp only [Act.put, List.setIfInBounds_toArray, List.set_cons_zero, List.set_cons_succ]))
          refine wpTake_nil ?_
          refine rg_two (fuel := 13) 7 18 rfl (by kernel_rfl) (by kernel_rfl) ?_ ?_ <;> simp only [pick1, wpHead]
          · intro K' hK
            (first | rw [if_pos (by rfl)] | rw [if_neg (by intro h; cases h)] | skip)
            go_simp
            refine (isPlace56 _ _ _ _ _ _ _ _).mono ?_
            rw [CB.out]
            rintro e W2 ⟨rfl, hb⟩
            go_simp
            replace hS := hS.below hb
            refine hK.out _ _ hS ?_
            clear hK hb
            (try simp only [Act.put, List.setIfInBounds_toArray, List.set_cons_zero, List.set_cons_succ])
            clear W1
            refine rg_take (fuel := 7) [8, 9, 10, 11, 12, 13] (by kernel_rfl) (by intro _ _ _ _ _ h; cases h.1) rfl (by kernel_rfl) (by kernel_rfl) hS ?_
            simp only [pickL, pick1, List.cons_append, List.nil_append]
            (refine wpTake_cons (v := ?_) (Or.inl ⟨by rfl, ?_⟩) ?_; rotate_left; (intro w' hSw; have yc := hSw.c.c; have yd := hSw.d.c; clear hSw; go_simp; (try with_reducible rfl)); (try simp only [Act.put, List.setIfInBounds_toArray, List.set_cons_zero, List.set_cons_succ]))
            (refine wpTake_cons (v := ?_) (Or.inl ⟨by rfl, ?_⟩) ?_; rotate_left; (intro w' hSw; have yc := hSw.c.c; have yd := hSw.d.c; clear hSw; go_simp; (try with_reducible rfl)); (try simp only [Act.put, List.setIfInBounds_toArray, List.set_cons_zero, List.set_cons_succ]))
            (refine wpTake_cons (v := undef) (Or.inr ⟨by rfl, rfl⟩) ?_; (try simp only [Act.put, List.setIfInBounds_toArray, List.set_cons_zero, List.set_cons_succ]))
            (refine wpTake_cons (v := undef) (Or.inr ⟨by rfl, rfl⟩) ?_; (try simp only [Act.put, List.setIfInBounds_toArray, List.set_cons_zero, List.set_cons_succ]))
            (refine wpTake_cons (v := undef) (Or.inr ⟨by rfl, rfl⟩) ?_; (try simp only [Act.put, List.setIfInBounds_toArray, List.set_cons_zero, List.set_cons_succ]))
            (refine wpTake_cons (v := ?_) (Or.inl ⟨by rfl, ?_⟩) ?_; rotate_left; (intro w' hSw; have yc := hSw.c.c; have yd := hSw.d.c; clear hSw; go_simp; (try with_reducible rfl)); (try simp only [Act.put, List.setIfInBounds_toArray, List.set_cons_zero, List.set_cons_succ]))
            refine wpTake_nil ?_
            refine rg_two (fuel := 6) 14 18 rfl (by kernel_rfl) (by kernel_rfl) ?_ ?_ <;> simp only [pick1, wpHead]
            · intro K' hK
              (first | rw [if_pos (by rfl)] | rw [if_neg (by intro h; cases h)] | skip)
              go_simp
              refine (open50 L sl rl rh wg A n cap ks _ _ (HA.out.below hS.b (Nat.le_refl _)) hn hlen).mono ?_
              rintro e W3 ⟨er, rfl, hO, hb⟩
              go_simp
              replace hS := hS.below hb
              refine hK.out _ _ hS ?_
              clear hK hb
              (try simp only [Act.put, List.setIfInBounds_toArray, List.set_cons_zero, List.set_cons_succ])
              clear W2
              refine rg_take (fuel := 3) [15, 16, 17] (by kernel_rfl) (by intro _ _ _ _ _ h; cases h.1) rfl (by kernel_rfl) (by kernel_rfl) hS ?_
              simp only [pickL, pick1, List.cons_append, List.nil_append]
              (refine wpTake_cons (v := ?_) (Or.inl ⟨by rfl, ?_⟩) ?_; rotate_left; (intro w' hSw; have yc := hSw.c.c; have yd := hSw.d.c; clear hSw; go_simp; (try with_reducible rfl)); (try simp only [Act.put, List.setIfInBounds_toArray, List.set_cons_zero, List.set_cons_succ]))
              (refine wpTake_cons (v := ?_) (Or.inl ⟨by rfl, ?_⟩) ?_; rotate_left; (intro w' hSw; have yc := hSw.c.c; have yd := hSw.d.c; clear hSw; go_simp; (try with_reducible rfl)); (try simp only [Act.put, List.setIfInBounds_toArray, List.set_cons_zero, List.set_cons_succ]))
              (refine wpTake_cons (v := ?_) (Or.inl ⟨by rfl, ?_⟩) ?_; rotate_left; (intro w' hSw; have yc := hSw.c.c; have yd := hSw.d.c; clear hSw; go_simp; (try with_reducible rfl)); (try simp only [Act.put, List.setIfInBounds_toArray, List.set_cons_zero, List.set_cons_succ]))
              refine wpTake_nil ?_
              refine rg_one (fuel := 2) 18 rfl (by kernel_rfl) (by kernel_rfl) ?_
              simp only [pick1, wpHead]
              intro K' hK
              (first | rw [if_pos (by rfl)] | rw [if_neg (by intro h; cases h)] | skip)
              go_simp
              have oB := Own.new (w := W3) #[.int .i64 0, .int .i64 0, .int .i64 0, .int .i64 0, .slice none 0 0, .int .i64 0, .map none] 70
              have hb : Below W3.heap.size W3 (W3.alloc (.cells #[.int .i64 0, .int .i64 0, .int .i64 0, .int .i64 0, .slice none 0 0, .int .i64 0, .map none] 70)) := (Below.refl _ _).alloc (Nat.le_refl _) _
              have hg := hS.fresh
              replace hS := hS.below hb
              refine hK.out _ _ hS ?_
              clear hK hb
              (try simp only [Act.put, List.setIfInBounds_toArray, List.set_cons_zero, List.set_cons_succ])
              generalize World.alloc W3 _ = W4 at hS oB ⊢
              generalize W3.heap.size = g at hg oB ⊢
              clear W3
              refine rg_one (fuel := 1) 19 rfl (by kernel_rfl) (by kernel_rfl) ?_
              simp only [pick1, wpHead]
              intro K' hK
              (first | rw [if_pos (by rfl)] | rw [if_neg (by intro h; cases h)] | skip)
              obtain ⟨lB, kB, fB⟩ := oB
              have oB := Own.mk lB kB fB
              go_simp
              clear lB kB fB
              have oB2 := own_set7 oB rfl (.int .i64 L) (.int .i64 sl) (.int .i64 rl) (.int .i64 rh) (.slice A n cap) (.int .i64 wg) (.map none)
              replace hS := hS.set7 hg (.int .i64 L) (.int .i64 sl) (.int .i64 rl) (.int .i64 rh) (.slice A n cap) (.int .i64 wg) (.map none)
              refine hK.out _ _ hS ?_
              clear hK oB
              (try simp only [Act.put, List.setIfInBounds_toArray, List.set_cons_zero, List.set_cons_succ])
              refine rg_one (fuel := 0) 20 rfl (by kernel_rfl) (by kernel_rfl) ?_
              simp only [pick1, wpHead]
              intro K' hK
              (first | rw [if_pos (by rfl)] | rw [if_neg (by intro h; cases h)] | skip)
              go_simp
              refine hK.out _ _ hS ?_
              clear hK
              (try simp only [Act.put, List.setIfInBounds_toArray, List.set_cons_zero, List.set_cons_succ])
              refine rg_done (by kernel_rfl) ?_
              exact ⟨rfl, _, er, _, _, _, _, _, _, _, _, _, _, _, _, _, _, _, _, _, _, hO, hS, oB2, hg, rfl⟩
            · intro K' hK
              (first | rw [if_pos (by rfl)] | rw [if_neg (by intro h; cases h)] | skip)
              go_simp
              have oB := Own.new (w := W2) #[.int .i64 0, .int .i64 0, .int .i64 0, .int .i64 0, .slice none 0 0, .int .i64 0, .map none] 70
              have hb : Below W2.heap.size W2 (W2.alloc (.cells #[.int .i64 0, .int .i64 0, .int .i64 0, .int .i64 0, .slice none 0 0, .int .i64 0, .map none] 70)) := (Below.refl _ _).alloc (Nat.le_refl _) _
              have hg := hS.fresh
              replace hS := hS.below hb
              refine hK.out _ _ hS ?_
              clear hK hb
              (try simp only [Act.put, List.setIfInBounds_toArray, List.set_cons_zero, List.set_cons_succ])
              generalize World.alloc W2 _ = W5 at hS oB ⊢
              generalize W2.heap.size = g at hg oB ⊢
              clear W2
              refine rg_one (fuel := 5) 14 rfl (by kernel_rfl) (by kernel_rfl) ?_
              simp only [pick1, wpHead]
              intro K' hK
              (first | rw [if_pos (by rfl)] | rw [if_neg (by intro h; cases h)] | skip)
              go_simp
              refine (open50 L sl rl rh wg A n cap ks _ _ (HA.out.below hS.b (Nat.le_refl _)) hn hlen).mono ?_
              rintro e W6 ⟨er, rfl, hO, hb⟩
              go_simp
              replace oB := oB.below hb oB.lt
              replace hS := hS.below hb
              refine hK.out _ _ hS ?_
              clear hK hb
              (try simp only [Act.put, List.setIfInBounds_toArray, List.set_cons_zero, List.set_cons_succ])
              clear W5
              refine rg_take (fuel := 2) [15, 16, 17] (by kernel_rfl) (by intro _ _ _ _ _ h; cases h.1) rfl (by kernel_rfl) (by kernel_rfl) hS ?_
              simp only [pickL, pick1, List.cons_append, List.nil_append]
              (refine wpTake_cons (v := ?_) (Or.inl ⟨by rfl, ?_⟩) ?_; rotate_left; (intro w' hSw; have yc := hSw.c.c; have yd := hSw.d.c; clear hSw; go_simp; (try with_reducible rfl)); (try simp only [Act.put, List.setIfInBounds_toArray, List.set_cons_zero, List.set_cons_succ]))
              (refine wpTake_cons (v := ?_) (Or.inl ⟨by rfl, ?_⟩) ?_; rotate_left; (intro w' hSw; have yc := hSw.c.c; have yd := hSw.d.c; clear hSw; go_simp; (try with_reducible rfl)); (try simp only [Act.put, List.setIfInBounds_toArray, List.set_cons_zero, List.set_cons_succ]))
              (refine wpTake_cons (v := ?_) (Or.inl ⟨by rfl, ?_⟩) ?_; rotate_left; (intro w' hSw; have yc := hSw.c.c; have yd := hSw.d.c; clear hSw; go_simp; (try with_reducible rfl)); (try simp only [Act.put, List.setIfInBounds_toArray, List.set_cons_zero, List.set_cons_succ]))
              refine wpTake_nil ?_
              refine rg_one (fuel := 1) 19 rfl (by kernel_rfl) (by kernel_rfl) ?_
              simp only [pick1, wpHead]
              intro K' hK
              (first | rw [if_pos (by rfl)] | rw [if_neg (by intro h; cases h)] | skip)
              obtain ⟨lB, kB, fB⟩ := oB
              have oB := Own.mk lB kB fB
              go_simp
              clear lB kB fB
              have oB2 := own_set7 oB rfl (.int .i64 L) (.int .i64 sl) (.int .i64 rl) (.int .i64 rh) (.slice A n cap) (.int .i64 wg) (.map none)
              replace hS := hS.set7 hg (.int .i64 L) (.int .i64 sl) (.int .i64 rl) (.int .i64 rh) (.slice A n cap) (.int .i64 wg) (.map none)
              refine hK.out _ _ hS ?_
              clear hK oB
              (try simp only [Act.put, List.setIfInBounds_toArray, List.set_cons_zero, List.set_cons_succ])
              refine rg_one (fuel := 0) 20 rfl (by kernel_rfl) (by kernel_rfl) ?_
              simp only [pick1, wpHead]
              intro K' hK
              (first | rw [if_pos (by rfl)] | rw [if_neg (by intro h; cases h)] | skip)
              go_simp
              refine hK.out _ _ hS ?_
              clear hK
              (try simp only [Act.put, List.setIfInBounds_toArray, List.set_cons_zero, List.set_cons_succ])
              refine rg_done (by kernel_rfl) ?_
              exact ⟨rfl, _, er, _, _, _, _, _, _, _, _, _, _, _, _, _, _, _, _, _, _, hO, hS, oB2, hg, rfl⟩
          · intro K' hK
            (first | rw [if_pos (by rfl)] | rw [if_neg (by intro h; cases h)] | skip)
            go_simp
            have oB := Own.new (w := W1) #[.int .i64 0, .int .i64 0, .int .i64 0, .int .i64 0, .slice none 0 0, .int .i64 0, .map none] 70
            have hb : Below W1.heap.size W1 (W1.alloc (.cells #[.int .i64 0, .int .i64 0, .int .i64 0, .int .i64 0, .slice none 0 0, .int .i64 0, .map none] 70)) := (Below.refl _ _).alloc (Nat.le_refl _) _
            have hg := hS.fresh
            replace hS := hS.below hb
            refine hK.out _ _ hS ?_
            clear hK hb
            (try simp only [Act.put, List.setIfInBounds_toArray, List.set_cons_zero, List.set_cons_succ])
            generalize World.alloc W1 _ = W7 at hS oB ⊢
            generalize W1.heap.size = g at hg oB ⊢
            clear W1
            refine rg_one (fuel := 12) 7 rfl (by kernel_rfl) (by kernel_rfl) ?_
            simp only [pick1, wpHead]
            intro K' hK
            (first | rw [if_pos (by rfl)] | rw [if_neg (by intro h; cases h)] | skip)
            go_simp
            refine (isPlace56 _ _ _ _ _ _ _ _).mono ?_
            rw [CB.out]
            rintro e W8 ⟨rfl, hb⟩
            go_simp
            replace oB := oB.below hb oB.lt
            replace hS := hS.below hb
            refine hK.out _ _ hS ?_
            clear hK hb
            (try simp only [Act.put, List.setIfInBounds_toArray, List.set_cons_zero, List.set_cons_succ])
            clear W7
            refine rg_take (fuel := 6) [8, 9, 10, 11, 12, 13] (by kernel_rfl) (by intro _ _ _ _ _ h; cases h.1) rfl (by kernel_rfl) (by kernel_rfl) hS ?_
            simp only [pickL, pick1, List.cons_append, List.nil_append]
            (refine wpTake_cons (v := ?_) (Or.inl ⟨by rfl, ?_⟩) ?_; rotate_left; (intro w' hSw; have yc := hSw.c.c; have yd := hSw.d.c; clear hSw; go_simp; (try with_reducible rfl)); (try simp only [Act.put, List.setIfInBounds_toArray, List.set_cons_zero, List.set_cons_succ]))
            (refine wpTake_cons (v := ?_) (Or.inl ⟨by rfl, ?_⟩) ?_; rotate_left; (intro w' hSw; have yc := hSw.c.c; have yd := hSw.d.c; clear hSw; go_simp; (try with_reducible rfl)); (try simp only [Act.put, List.setIfInBounds_toArray, List.set_cons_zero, List.set_cons_succ]))
            (refine wpTake_cons (v := undef) (Or.inr ⟨by rfl, rfl⟩) ?_; (try simp only [Act.put, List.setIfInBounds_toArray, List.set_cons_zero, List.set_cons_succ]))
            (refine wpTake_cons (v := undef) (Or.inr ⟨by rfl, rfl⟩) ?_; (try simp only [Act.put, List.setIfInBounds_toArray, List.set_cons_zero, List.set_cons_succ]))
            (refine wpTake_cons (v := undef) (Or.inr ⟨by rfl, rfl⟩) ?_; (try simp only [Act.put, List.setIfInBounds_toArray, List.set_cons_zero, List.set_cons_succ]))
            (refine wpTake_cons (v := ?_) (Or.inl ⟨by rfl, ?_⟩) ?_; rotate_left; (intro w' hSw; have yc := hSw.c.c; have yd := hSw.d.c; clear hSw; go_simp; (try with_reducible rfl)); (try simp only [Act.put, List.setIfInBounds_toArray, List.set_cons_zero, List.set_cons_succ]))
            refine wpTake_nil ?_
            refine rg_one (fuel := 5) 14 rfl (by kernel_rfl) (by kernel_rfl) ?_
            simp only [pick1, wpHead]
            intro K' hK
            (first | rw [if_pos (by rfl)] | rw [if_neg (by intro h; cases h)] | skip)
            go_simp
            refine (open50 L sl rl rh wg A n cap ks _ _ (HA.out.below hS.b (Nat.le_refl _)) hn hlen).mono ?_
            rintro e W9 ⟨er, rfl, hO, hb⟩
            go_simp
            replace oB := oB.below hb oB.lt
            replace hS := hS.below hb
            refine hK.out _ _ hS ?_
            clear hK hb
            (try simp only [Act.put, List.setIfInBounds_toArray, List.set_cons_zero, List.set_cons_succ])
            clear W8
            refine rg_take (fuel := 2) [15, 16, 17] (by kernel_rfl) (by intro _ _ _ _ _ h; cases h.1) rfl (by kernel_rfl) (by kernel_rfl) hS ?_
            simp only [pickL, pick1, List.cons_append, List.nil_append]
            (refine wpTake_cons (v := ?_) (Or.inl ⟨by rfl, ?_⟩) ?_; rotate_left; (intro w' hSw; have yc := hSw.c.c; have yd := hSw.d.c; clear hSw; go_simp; (try with_reducible rfl)); (try simp only [Act.put, List.setIfInBounds_toArray, List.set_cons_zero, List.set_cons_succ]))
            (refine wpTake_cons (v := ?_) (Or.inl ⟨by rfl, ?_⟩) ?_; rotate_left; (intro w' hSw; have yc := hSw.c.c; have yd := hSw.d.c; clear hSw; go_simp; (try with_reducible rfl)); (try simp only [Act.put, List.setIfInBounds_toArray, List.set_cons_zero, List.set_cons_succ]))
            (refine wpTake_cons (v := ?_) (Or.inl ⟨by rfl, ?_⟩) ?_; rotate_left; (intro w' hSw; have yc := hSw.c.c; have yd := hSw.d.c; clear hSw; go_simp; (try with_reducible rfl)); (try simp only [Act.put, List.setIfInBounds_toArray, List.set_cons_zero, List.set_cons_succ]))
            refine wpTake_nil ?_
            refine rg_one (fuel := 1) 19 rfl (by kernel_rfl) (by kernel_rfl) ?_
            simp only [pick1, wpHead]
            intro K' hK
            (first | rw [if_pos (by rfl)] | rw [if_neg (by intro h; cases h)] | skip)
            obtain ⟨lB, kB, fB⟩ := oB
            have oB := Own.mk lB kB fB
            go_simp
            clear lB kB fB
            have oB2 := own_set7 oB rfl (.int .i64 L) (.int .i64 sl) (.int .i64 rl) (.int .i64 rh) (.slice A n cap) (.int .i64 wg) (.map none)
            replace hS := hS.set7 hg (.int .i64 L) (.int .i64 sl) (.int .i64 rl) (.int .i64 rh) (.slice A n cap) (.int .i64 wg) (.map none)
            refine hK.out _ _ hS ?_
            clear hK oB
            (try simp only [Act.put, List.setIfInBounds_toArray, List.set_cons_zero, List.set_cons_succ])
            refine rg_one (fuel := 0) 20 rfl (by kernel_rfl) (by kernel_rfl) ?_
            simp only [pick1, wpHead]
            intro K' hK
            (first | rw [if_pos (by rfl)] | rw [if_neg (by intro h; cases h)] | skip)
            go_simp
            refine hK.out _ _ hS ?_
            clear hK
            (try simp only [Act.put, List.setIfInBounds_toArray, List.set_cons_zero, List.set_cons_succ])
            refine rg_done (by kernel_rfl) ?_
            exact ⟨rfl, _, er, _, _, _, _, _, _, _, _, _, _, _, _, _, _, _, _, _, _, hO, hS, oB2, hg, rfl⟩
        · intro K' hK
          (first | rw [if_pos (by rfl)] | rw [if_neg (by intro h; cases h)] | skip)
          go_simp
          have oB := Own.new (w := W) #[.int .i64 0, .int .i64 0, .int .i64 0, .int .i64 0, .slice none 0 0, .int .i64 0, .map none] 70
          have hb : Below W.heap.size W (W.alloc (.cells #[.int .i64 0, .int .i64 0, .int .i64 0, .int .i64 0, .slice none 0 0, .int .i64 0, .map none] 70)) := (Below.refl _ _).alloc (Nat.le_refl _) _
          have hg := hS.fresh
          replace hS := hS.below hb
          refine hK.out _ _ hS ?_
          clear hK hb
          (try simp only [Act.put, List.setIfInBounds_toArray, List.set_cons_zero, List.set_cons_succ])
          generalize World.alloc W _ = W10 at hS oB ⊢
          generalize W.heap.size = g at hg oB ⊢
          clear W
          refine rg_one (fuel := 16) 3 rfl (by kernel_rfl) (by kernel_rfl) ?_
          simp only [pick1, wpHead]
          intro K' hK
          (first | rw [if_pos (by rfl)] | rw [if_neg (by intro h; cases h)] | skip)
          go_simp
          refine (isPlace56 _ _ _ _ _ _ _ _).mono ?_
          rw [CA.out]
          rintro e W11 ⟨rfl, hb⟩
          go_simp
          replace oB := oB.below hb oB.lt
          replace hS := hS.below hb
          refine hK.out _ _ hS ?_
          clear hK hb
          (try simp only [Act.put, List.setIfInBounds_toArray, List.set_cons_zero, List.set_cons_succ])
          clear W10
          refine rg_take (fuel := 13) [4, 5, 6] (by kernel_rfl) (by intro _ _ _ _ _ h; cases h.1) rfl (by kernel_rfl) (by kernel_rfl) hS ?_
          simp only [pickL, pick1, List.cons_append, List.nil_append]
          (refine wpTake_cons (v := ?_) (Or.inl ⟨by rfl, ?_⟩) ?_; rotate_left; (intro w' hSw; have yc := hSw.c.c; have yd := hSw.d.c; clear hSw; go_simp; (try with_reducible rfl)); (try simp only [Act.put, List.setIfInBounds_toArray, List.set_cons_zero, List.set_cons_succ]))
          (refine wpTake_cons (v := ?_) (Or.inl ⟨by rfl, ?_⟩) ?_; rotate_left; (intro w' hSw; have yc := hSw.c.c; have yd := hSw.d.c; clear hSw; go_simp; (try with_reducible rfl)); (try simp only [Act.put, List.setIfInBounds_toArray, List.set_cons_zero, List.set_cons_succ]))
          (refine wpTake_cons (v := ?_) (Or.inl ⟨by rfl, ?_⟩) ?_; rotate_left; (intro w' hSw; have yc := hSw.c.c; have yd := hSw.d.c; clear hSw; go_simp; (try with_reducible rfl)); (try simp only [Act.put, List.setIfInBounds_toArray, List.set_cons_zero, List.set_cons_succ]))
          refine wpTake_nil ?_
          refine rg_one (fuel := 12) 7 rfl (by kernel_rfl) (by kernel_rfl) ?_
          simp only [pick1, wpHead]
          intro K' hK
          (first | rw [if_pos (by rfl)] | rw [if_neg (by intro h; cases h)] | skip)
          go_simp
          refine (isPlace56 _ _ _ _ _ _ _ _).mono ?_
          rw [CB.out]
          rintro e W12 ⟨rfl, hb⟩
          go_simp
          replace oB := oB.below hb oB.lt
          replace hS := hS.below hb
          refine hK.out _ _ hS ?_
          clear hK hb
          (try simp only [Act.put, List.setIfInBounds_toArray, List.set_cons_zero, List.set_cons_succ])
          clear W11
          refine rg_take (fuel := 6) [8, 9, 10, 11, 12, 13] (by kernel_rfl) (by intro _ _ _ _ _ h; cases h.1) rfl (by kernel_rfl) (by kernel_rfl) hS ?_
          simp only [pickL, pick1, List.cons_append, List.nil_append]
          (refine wpTake_cons (v := ?_) (Or.inl ⟨by rfl, ?_⟩) ?_; rotate_left; (intro w' hSw; have yc := hSw.c.c; have yd := hSw.d.c; clear hSw; go_simp; (try with_reducible rfl)); (try simp only [Act.put, List.setIfInBounds_toArray, List.set_cons_zero, List.set_cons_succ]))
          (refine wpTake_cons (v := ?_) (Or.inl ⟨by rfl, ?_⟩) ?_; rotate_left; (intro w' hSw; have yc := hSw.c.c; have yd := hSw.d.c; clear hSw; go_simp; (try with_reducible rfl)); (try simp only [Act.put, List.setIfInBounds_toArray, List.set_cons_zero, List.set_cons_succ]))
          (refine wpTake_cons (v := undef) (Or.inr ⟨by rfl, rfl⟩) ?_; (try simp only [Act.put, List.setIfInBounds_toArray, List.set_cons_zero, List.set_cons_succ]))
          (refine wpTake_cons (v := undef) (Or.inr ⟨by rfl, rfl⟩) ?_; (try simp only [Act.put, List.setIfInBounds_toArray, List.set_cons_zero, List.set_cons_succ]))
          (refine wpTake_cons (v := undef) (Or.inr ⟨by rfl, rfl⟩) ?_; (try simp only [Act.put, List.setIfInBounds_toArray, List.set_cons_zero, List.set_cons_succ]))
          (refine wpTake_cons (v := ?_) (Or.inl ⟨by rfl, ?_⟩) ?_; rotate_left; (intro w' hSw; have yc := hSw.c.c; have yd := hSw.d.c; clear hSw; go_simp; (try with_reducible rfl)); (try simp only [Act.put, List.setIfInBounds_toArray, List.set_cons_zero, List.set_cons_succ]))
          refine wpTake_nil ?_
          refine rg_one (fuel := 5) 14 rfl (by kernel_rfl) (by kernel_rfl) ?_
          simp only [pick1, wpHead]
          intro K' hK
          (first | rw [if_pos (by rfl)] | rw [if_neg (by intro h; cases h)] | skip)
          go_simp
          refine (open50 L sl rl rh wg A n cap ks _ _ (HA.out.below hS.b (Nat.le_refl _)) hn hlen).mono ?_
          rintro e W13 ⟨er, rfl, hO, hb⟩
          go_simp
          replace oB := oB.below hb oB.lt
          replace hS := hS.below hb
          refine hK.out _ _ hS ?_
          clear hK hb
          (try simp only [Act.put, List.setIfInBounds_toArray, List.set_cons_zero, List.set_cons_succ])
          clear W12
          refine rg_take (fuel := 2) [15, 16, 17] (by kernel_rfl) (by intro _ _ _ _ _ h; cases h.1) rfl (by kernel_rfl) (by kernel_rfl) hS ?_
          simp only [pickL, pick1, List.cons_append, List.nil_append]
          (refine wpTake_cons (v := ?_) (Or.inl ⟨by rfl, ?_⟩) ?_; rotate_left; (intro w' hSw; have yc := hSw.c.c; have yd := hSw.d.c; clear hSw; go_simp; (try with_reducible rfl)); (try simp only [Act.put, List.setIfInBounds_toArray, List.set_cons_zero, List.set_cons_succ]))
          (refine wpTake_cons (v := ?_) (Or.inl ⟨by rfl, ?_⟩) ?_; rotate_left; (intro w' hSw; have yc := hSw.c.c; have yd := hSw.d.c; clear hSw; go_simp; (try with_reducible rfl)); (try simp only [Act.put, List.setIfInBounds_toArray, List.set_cons_zero, List.set_cons_succ]))
          (refine wpTake_cons (v := ?_) (Or.inl ⟨by rfl, ?_⟩) ?_; rotate_left; (intro w' hSw; have yc := hSw.c.c; have yd := hSw.d.c; clear hSw; go_simp; (try with_reducible rfl)); (try simp only [Act.put, List.setIfInBounds_toArray, List.set_cons_zero, List.set_cons_succ]))
          refine wpTake_nil ?_
          refine rg_one (fuel := 1) 19 rfl (by kernel_rfl) (by kernel_rfl) ?_
          simp only [pick1, wpHead]
          intro K' hK
          (first | rw [if_pos (by rfl)] | rw [if_neg (by intro h; cases h)] | skip)
          obtain ⟨lB, kB, fB⟩ := oB
          have oB := Own.mk lB kB fB
          go_simp
          clear lB kB fB
          have oB2 := own_set7 oB rfl (.int .i64 L) (.int .i64 sl) (.int .i64 rl) (.int .i64 rh) (.slice A n cap) (.int .i64 wg) (.map none)
          replace hS := hS.set7 hg (.int .i64 L) (.int .i64 sl) (.int .i64 rl) (.int .i64 rh) (.slice A n cap) (.int .i64 wg) (.map none)
          refine hK.out _ _ hS ?_
          clear hK oB
          (try simp only [Act.put, List.setIfInBounds_toArray, List.set_cons_zero, List.set_cons_succ])
          refine rg_one (fuel := 0) 20 rfl (by kernel_rfl) (by kernel_rfl) ?_
          simp only [pick1, wpHead]
          intro K' hK
          (first | rw [if_pos (by rfl)] | rw [if_neg (by intro h; cases h)] | skip)
          go_simp
          refine hK.out _ _ hS ?_
          clear hK
          (try simp only [Act.put, List.setIfInBounds_toArray, List.set_cons_zero, List.set_cons_succ])
          refine rg_done (by kernel_rfl) ?_
          exact ⟨rfl, _, er, _, _, _, _, _, _, _, _, _, _, _, _, _, _, _, _, _, _, hO, hS, oB2, hg, rfl⟩
      · have CA := Lib.hid ca
        have CB := Lib.hid cb
        clear ca cb
        refine rg_start (fun w' => OpI w w.heap.size (w.heap.size + 1) [.int .i64 L, .int .i64 sl, .int .i64 rl, .int .i64 rh, .slice A n cap, .int .i64 wg] [.int .i64 0, .int .i64 0] w') 21 (by kernel_rfl) rfl ?_
        clear hS0
        generalize World.drew _ = W at hS ⊢
        refine rg_take (fuel := 18) [0, 1, 2] (by kernel_rfl) (by intro _ _ _ _ _ h; cases h.1) rfl (by kernel_rfl) (by kernel_rfl) hS ?_
        simp only [pickL, pick1, List.cons_append, List.nil_append]
        (refine wpTake_cons (v := ?_) (Or.inl ⟨by rfl, ?_⟩) ?_; rotate_left; (intro w' hSw; have yc := hSw.c.c; have yd := hSw.d.c; clear hSw; go_simp; (try with_reducible rfl)); (try simp only [Act.put, List.setIfInBounds_toArray, List.set_cons_zero, List.set_cons_succ]))
        (refine wpTake_cons (v := ?_) (Or.inl ⟨by rfl, ?_⟩) ?_; rotate_left; (intro w' hSw; have yc := hSw.c.c; have yd := hSw.d.c; clear hSw; go_simp; (try with_reducible rfl)); (try simp only [Act.put, List.setIfInBounds_toArray, List.set_cons_zero, List.set_cons_succ]))
        (refine wpTake_cons (v := ?_) (Or.inl ⟨by rfl, ?_⟩) ?_; rotate_left; (intro w' hSw; have yc := hSw.c.c; have yd := hSw.d.c; clear hSw; go_simp; (try with_reducible rfl)); (try simp only [Act.put, List.setIfInBounds_toArray, List.set_cons_zero, List.set_cons_succ]))
        refine wpTake_nil ?_
        refine rg_two (fuel := 17) 3 18 rfl (by kernel_rfl) (by kernel_rfl) ?_ ?_ <;> simp only [pick1, wpHead]
        · intro K' hK
          (first | rw [if_pos (by rfl)] | rw [if_neg (by intro h; cases h)] | skip)
          go_simp
          refine (isPlace56 _ _ _ _ _ _ _ _).mono ?_
          rw [CA.out]
          rintro e W1 ⟨rfl, hb⟩
          go_simp
          replace hS := hS.below hb
          refine hK.out _ _ hS ?_
          clear hK hb
          (try simp only [Act.put, List.setIfInBounds_toArray, List.set_cons_zero, List.set_cons_succ])
          clear W
          refine rg_take (fuel := 14) [4, 5, 6] (by kernel_rfl) (by intro _ _ _ _ _ h; cases h.1) rfl (by kernel_rfl) (by kernel_rfl) hS ?_
          simp only [pickL, pick1, List.cons_append, List.nil_append]
          (refine wpTake_cons (v := ?_) (Or.inl ⟨by rfl, ?_⟩) ?_; rotate_left; (intro w' hSw; have yc := hSw.c.c; have yd := hSw.d.c; clear hSw; go_simp; (try with_reducible rfl)); (try simp only [Act.put, List.setIfInBounds_toArray, List.set_cons_zero, List.set_cons_succ]))
          (refine wpTake_cons (v := ?_) (Or.inl ⟨by rfl, ?_⟩) ?_; rotate_left; (intro w' hSw; have yc := hSw.c.c; have yd := hSw.d.c; clear hSw; go_simp; (try with_reducible rfl)); (try simp only [Act.put, List.setIfInBounds_toArray, List.set_cons_zero, List.set_cons_succ]))
          (refine wpTake_cons (v := ?_) (Or.inl ⟨by rfl, ?_⟩) ?_; rotate_left; (intro w' hSw; have yc := hSw.c.c; have yd := hSw.d.c; clear hSw; go_simp; (try with_reducible rfl)); (try simp only [Act.put, List.setIfInBounds_toArray, List.set_cons_zero, List.set_cons_succ]))
          refine wpTake_nil ?_
          refine rg_two (fuel := 13) 7 18 rfl (by kernel_rfl) (by kernel_rfl) ?_ ?_ <;> simp only [pick1, wpHead]
          · intro K' hK
            (first | rw [if_pos (by rfl)] | rw [if_neg (by intro h; cases h)] | skip)
            go_simp
            refine (isPlace56 _ _ _ _ _ _ _ _).mono ?_
            rw [CB.out]
            rintro e W2 ⟨rfl, hb⟩
            go_simp
            replace hS := hS.below hb
            refine hK.out _ _ hS ?_
            clear hK hb
            (try simp only [Act.put, List.setIfInBounds_toArray, List.set_cons_zero, List.set_cons_succ])
            clear W1
            refine rg_take (fuel := 7) [8, 9, 10, 11, 12, 13] (by kernel_rfl) (by intro _ _ _ _ _ h; cases h.1) rfl (by kernel_rfl) (by kernel_rfl) hS ?_
            simp only [pickL, pick1, List.cons_append, List.nil_append]
            (refine wpTake_cons (v := ?_) (Or.inl ⟨by rfl, ?_⟩) ?_; rotate_left; (intro w' hSw; have yc := hSw.c.c; have yd := hSw.d.c; clear hSw; go_simp; (try with_reducible rfl)); (try simp only [Act.put, List.setIfInBounds_toArray, List.set_cons_zero, List.set_cons_succ]))
            (refine wpTake_cons (v := ?_) (Or.inl ⟨by rfl, ?_⟩) ?_; rotate_left; (intro w' hSw; have yc := hSw.c.c; have yd := hSw.d.c; clear hSw; go_simp; (try with_reducible rfl)); (try simp only [Act.put, List.setIfInBounds_toArray, List.set_cons_zero, List.set_cons_succ]))
            (refine wpTake_cons (v := ?_) (Or.inl ⟨by rfl, ?_⟩) ?_; rotate_left; (intro w' hSw; have yc := hSw.c.c; have yd := hSw.d.c; clear hSw; go_simp; (try with_reducible rfl)); (try simp only [Act.put, List.setIfInBounds_toArray, List.set_cons_zero, List.set_cons_succ]))
            (refine wpTake_cons (v := ?_) (Or.inl ⟨by rfl, ?_⟩) ?_; rotate_left; (intro w' hSw; have yc := hSw.c.c; have yd := hSw.d.c; clear hSw; go_simp; (try with_reducible rfl)); (try simp only [Act.put, List.setIfInBounds_toArray, List.set_cons_zero, List.set_cons_succ]))
            (refine wpTake_cons (v := ?_) (Or.inl ⟨by rfl, ?_⟩) ?_; rotate_left; (intro w' hSw; have yc := hSw.c.c; have yd := hSw.d.c; clear hSw; go_simp; (try with_reducible rfl)); (try simp only [Act.put, List.setIfInBounds_toArray, List.set_cons_zero, List.set_cons_succ]))
            (refine wpTake_cons (v := ?_) (Or.inl ⟨by rfl, ?_⟩) ?_; rotate_left; (intro w' hSw; have yc := hSw.c.c; have yd := hSw.d.c; clear hSw; go_simp; (try with_reducible rfl)); (try simp only [Act.put, List.setIfInBounds_toArray, List.set_cons_zero, List.set_cons_succ]))
            refine wpTake_nil ?_
            refine rg_two (fuel := 6) 14 18 rfl (by kernel_rfl) (by kernel_rfl) ?_ ?_ <;> simp only [pick1, wpHead]
            · intro K' hK
              (first | rw [if_pos (by rfl)] | rw [if_neg (by intro h; cases h)] | skip)
              go_simp
              refine (open50 L sl rl rh wg A n cap ks _ _ (HA.out.below hS.b (Nat.le_refl _)) hn hlen).mono ?_
              rintro e W3 ⟨er, rfl, hO, hb⟩
              go_simp
              replace hS := hS.below hb
              refine hK.out _ _ hS ?_
              clear hK hb
              (try simp only [Act.put, List.setIfInBounds_toArray, List.set_cons_zero, List.set_cons_succ])
              clear W2
              refine rg_take (fuel := 3) [15, 16, 17] (by kernel_rfl) (by intro _ _ _ _ _ h; cases h.1) rfl (by kernel_rfl) (by kernel_rfl) hS ?_
              simp only [pickL, pick1, List.cons_append, List.nil_append]
              (refine wpTake_cons (v := ?_) (Or.inl ⟨by rfl, ?_⟩) ?_; rotate_left; (intro w' hSw; have yc := hSw.c.c; have yd := hSw.d.c; clear hSw; go_simp; (try with_reducible rfl)); (try simp only [Act.put, List.setIfInBounds_toArray, List.set_cons_zero, List.set_cons_succ]))
              (refine wpTake_cons (v := ?_) (Or.inl ⟨by rfl, ?_⟩) ?_; rotate_left; (intro w' hSw; have yc := hSw.c.c; have yd := hSw.d.c; clear hSw; go_simp; (try with_reducible rfl)); (try simp only [Act.put, List.setIfInBounds_toArray, List.set_cons_zero, List.set_cons_succ]))
              (refine wpTake_cons (v := ?_) (Or.inl ⟨by rfl, ?_⟩) ?_; rotate_left; (intro w' hSw; have yc := hSw.c.c; have yd := hSw.d.c; clear hSw; go_simp; (try with_reducible rfl)); (try simp only [Act.put, List.setIfInBounds_toArray, List.set_cons_zero, List.set_cons_succ]))
              refine wpTake_nil ?_
              refine rg_one (fuel := 2) 18 rfl (by kernel_rfl) (by kernel_rfl) ?_
              simp only [pick1, wpHead]
              intro K' hK
              (first | rw [if_pos (by rfl)] | rw [if_neg (by intro h; cases h)] | skip)
              go_simp
              have oB := Own.new (w := W3) #[.int .i64 0, .int .i64 0, .int .i64 0, .int .i64 0, .slice none 0 0, .int .i64 0, .map none] 70
              have hb : Below W3.heap.size W3 (W3.alloc (.cells #[.int .i64 0, .int .i64 0, .int .i64 0, .int .i64 0, .slice none 0 0, .int .i64 0, .map none] 70)) := (Below.refl _ _).alloc (Nat.le_refl _) _
              have hg := hS.fresh
              replace hS := hS.below hb
              refine hK.out _ _ hS ?_
              clear hK hb
              (try simp only [Act.put, List.setIfInBounds_toArray, List.set_cons_zero, List.set_cons_succ])
              generalize World.alloc W3 _ = W4 at hS oB ⊢
              generalize W3.heap.size = g at hg oB ⊢
              clear W3
              refine rg_one (fuel := 1) 19 rfl (by kernel_rfl) (by kernel_rfl) ?_
              simp only [pick1, wpHead]
              intro K' hK
              (first | rw [if_pos (by rfl)] | rw [if_neg (by intro h; cases h)] | skip)
              obtain ⟨lB, kB, fB⟩ := oB
              have oB := Own.mk lB kB fB
              go_simp
              clear lB kB fB
              have oB2 := own_set7 oB rfl (.int .i64 L) (.int .i64 sl) (.int .i64 rl) (.int .i64 rh) (.slice A n cap) (.int .i64 wg) (.map none)
              replace hS := hS.set7 hg (.int .i64 L) (.int .i64 sl) (.int .i64 rl) (.int .i64 rh) (.slice A n cap) (.int .i64 wg) (.map none)
              refine hK.out _ _ hS ?_
              clear hK oB
              (try simp only [Act.put, List.setIfInBounds_toArray, List.set_cons_zero, List.set_cons_succ])
              refine rg_one (fuel := 0) 20 rfl (by kernel_rfl) (by kernel_rfl) ?_
              simp only [pick1, wpHead]
              intro K' hK
              (first | rw [if_pos (by rfl)] | rw [if_neg (by intro h; cases h)] | skip)
              go_simp
              refine hK.out _ _ hS ?_
              clear hK
              (try simp only [Act.put, List.setIfInBounds_toArray, List.set_cons_zero, List.set_cons_succ])
              refine rg_done (by kernel_rfl) ?_
              exact ⟨rfl, _, er, _, _, _, _, _, _, _, _, _, _, _, _, _, _, _, _, _, _, hO, hS, oB2, hg, rfl⟩
            · intro K' hK
              (first | rw [if_pos (by rfl)] | rw [if_neg (by intro h; cases h)] | skip)
              go_simp
              have oB := Own.new (w := W2) #[.int .i64 0, .int .i64 0, .int .i64 0, .int .i64 0, .slice none 0 0, .int .i64 0, .map none] 70
              have hb : Below W2.heap.size W2 (W2.alloc (.cells #[.int .i64 0, .int .i64 0, .int .i64 0, .int .i64 0, .slice none 0 0, .int .i64 0, .map none] 70)) := (Below.refl _ _).alloc (Nat.le_refl _) _
              have hg := hS.fresh
              replace hS := hS.below hb
              refine hK.out _ _ hS ?_
              clear hK hb
              (try simp only [Act.put, List.setIfInBounds_toArray, List.set_cons_zero, List.set_cons_succ])
              generalize World.alloc W2 _ = W5 at hS oB ⊢
              generalize W2.heap.size = g at hg oB ⊢
              clear W2
              refine rg_one (fuel := 5) 14 rfl (by kernel_rfl) (by kernel_rfl) ?_
              simp only [pick1, wpHead]
              intro K' hK
              (first | rw [if_pos (by rfl)] | rw [if_neg (by intro h; cases h)] | skip)
              go_simp
              refine (open50 L sl rl rh wg A n cap ks _ _ (HA.out.below hS.b (Nat.le_refl _)) hn hlen).mono ?_
              rintro e W6 ⟨er, rfl, hO, hb⟩
              go_simp
              replace oB := oB.below hb oB.lt
              replace hS := hS.below hb
              refine hK.out _ _ hS ?_
              clear hK hb
              (try simp only [Act.put, List.setIfInBounds_toArray, List.set_cons_zero, List.set_cons_succ])
              clear W5
              refine rg_take (fuel := 2) [15, 16, 17] (by kernel_rfl) (by intro _ _ _ _ _ h; cases h.1) rfl (by kernel_rfl) (by kernel_rfl) hS ?_
              simp only [pickL, pick1, List.cons_append, List.nil_append]
              (refine wpTake_cons (v := ?_) (Or.inl ⟨by rfl, ?_⟩) ?_; rotate_left; (intro w' hSw; have yc := hSw.c.c; have yd := hSw.d.c; clear hSw; go_simp; (try with_reducible rfl)); (try simp only [Act.put, List.setIfInBounds_toArray, List.set_cons_zero, List.set_cons_succ]))
              (refine wpTake_cons (v := ?_) (Or.inl ⟨by rfl, ?_⟩) ?_; rotate_left; (intro w' hSw; have yc := hSw.c.c; have yd := hSw.d.c; clear hSw; go_simp; (try with_reducible rfl)); (try simp only [Act.put, List.setIfInBounds_toArray, List.set_cons_zero, List.set_cons_succ]))
              (refine wpTake_cons (v := ?_) (Or.inl ⟨by rfl, ?_⟩) ?_; rotate_left; (intro w' hSw; have yc := hSw.c.c; have yd := hSw.d.c; clear hSw; go_simp; (try with_reducible rfl)); (try simp only [Act.put, List.setIfInBounds_toArray, List.set_cons_zero, List.set_cons_succ]))
              refine wpTake_nil ?_
              refine rg_one (fuel := 1) 19 rfl (by kernel_rfl) (by kernel_rfl) ?_
              simp only [pick1, wpHead]
              intro K' hK
              (first | rw [if_pos (by rfl)] | rw [if_neg (by intro h; cases h)] | skip)
              obtain ⟨lB, kB, fB⟩ := oB
              have oB := Own.mk lB kB fB
              go_simp
              clear lB kB fB
              have oB2 := own_set7 oB rfl (.int .i64 L) (.int .i64 sl) (.int .i64 rl) (.int .i64 rh) (.slice A n cap) (.int .i64 wg) (.map none)
              replace hS := hS.set7 hg (.int .i64 L) (.int .i64 sl) (.int .i64 rl) (.int .i64 rh) (.slice A n cap) (.int .i64 wg) (.map none)
              refine hK.out _ _ hS ?_
              clear hK oB
              (try simp only [Act.put, List.setIfInBounds_toArray, List.set_cons_zero, List.set_cons_succ])
              refine rg_one (fuel := 0) 20 rfl (by kernel_rfl) (by kernel_rfl) ?_
              simp only [pick1, wpHead]
              intro K' hK
              (first | rw [if_pos (by rfl)] | rw [if_neg (by intro h; cases h)] | skip)
              go_simp
              refine hK.out _ _ hS ?_
              clear hK
              (try simp only [Act.put, List.setIfInBounds_toArray, List.set_cons_zero, List.set_cons_succ])
              refine rg_done (by kernel_rfl) ?_
              exact ⟨rfl, _, er, _, _, _, _, _, _, _, _, _, _, _, _, _, _, _, _, _, _, hO, hS, oB2, hg, rfl⟩
          · intro K' hK
            (first | rw [if_pos (by rfl)] | rw [if_neg (by intro h; cases h)] | skip)
            go_simp
            have oB := Own.new (w := W1) #[.int .i64 0, .int .i64 0, .int .i64 0, .int .i64 0, .slice none 0 0, .int .i64 0, .map none] 70
            have hb : Below W1.heap.size W1 (W1.alloc (.cells #[.int .i64 0, .int .i64 0, .int .i64 0, .int .i64 0, .slice none 0 0, .int .i64 0, .map none] 70)) := (Below.refl _ _).alloc (Nat.le_refl _) _
            have hg := hS.fresh
            replace hS := hS.below hb
            refine hK.out _ _ hS ?_
            clear hK hb
            (try simp only [Act.put, List.setIfInBounds_toArray, List.set_cons_zero, List.set_cons_succ])
            generalize World.alloc W1 _ = W7 at hS oB ⊢
            generalize W1.heap.size = g at hg oB ⊢
            clear W1
            refine rg_one (fuel := 12) 7 rfl (by kernel_rfl) (by kernel_rfl) ?_
            simp only [pick1, wpHead]
            intro K' hK
            (first | rw [if_pos (by rfl)] | rw [if_neg (by intro h; cases h)] | skip)
            go_simp
            refine (isPlace56 _ _ _ _ _ _ _ _).mono ?_
            rw [CB.out]
            rintro e W8 ⟨rfl, hb⟩
            go_simp
            replace oB := oB.below hb oB.lt
            replace hS := hS.below hb
            refine hK.out _ _ hS ?_
            clear hK hb
            (try simp only [Act.put, List.setIfInBounds_toArray, List.set_cons_zero, List.set_cons_succ])
            clear W7
            refine rg_take (fuel := 6) [8, 9, 10, 11, 12, 13] (by kernel_rfl) (by intro _ _ _ _ _ h; cases h.1) rfl (by kernel_rfl) (by kernel_rfl) hS ?_
            simp only [pickL, pick1, List.cons_append, List.nil_append]
            (refine wpTake_cons (v := ?_) (Or.inl ⟨by rfl, ?_⟩) ?_; rotate_left; (intro w' hSw; have yc := hSw.c.c; have yd := hSw.d.c; clear hSw; go_simp; (try with_reducible rfl)); (try simp only [Act.put, List.setIfInBounds_toArray, List.set_cons_zero, List.set_cons_succ]))
            (refine wpTake_cons (v := ?_) (Or.inl ⟨by rfl, ?_⟩) ?_; rotate_left; (intro w' hSw; have yc := hSw.c.c; have yd := hSw.d.c; clear hSw; go_simp; (try with_reducible rfl)); (try simp only [Act.put, List.setIfInBounds_toArray, List.set_cons_zero, List.set_cons_succ]))
            (refine wpTake_cons (v := ?_) (Or.inl ⟨by rfl, ?_⟩) ?_; rotate_left; (intro w' hSw; have yc := hSw.c.c; have yd := hSw.d.c; clear hSw; go_simp; (try with_reducible rfl)); (try simp only [Act.put, List.setIfInBounds_toArray, List.set_cons_zero, List.set_cons_succ]))
            (refine wpTake_cons (v := ?_) (Or.inl ⟨by rfl, ?_⟩) ?_; rotate_left; (intro w' hSw; have yc := hSw.c.c; have yd := hSw.d.c; clear hSw; go_simp; (try with_reducible rfl)); (try simp only [Act.put, List.setIfInBounds_toArray, List.set_cons_zero, List.set_cons_succ]))
            (refine wpTake_cons (v := ?_) (Or.inl ⟨by rfl, ?_⟩) ?_; rotate_left; (intro w' hSw; have yc := hSw.c.c; have yd := hSw.d.c; clear hSw; go_simp; (try with_reducible rfl)); (try simp only [Act.put, List.setIfInBounds_toArray, List.set_cons_zero, List.set_cons_succ]))
            (refine wpTake_cons (v := ?_) (Or.inl ⟨by rfl, ?_⟩) ?_; rotate_left; (intro w' hSw; have yc := hSw.c.c; have yd := hSw.d.c; clear hSw; go_simp; (try with_reducible rfl)); (try simp only [Act.put, List.setIfInBounds_toArray, List.set_cons_zero, List.set_cons_succ]))
            refine wpTake_nil ?_
            refine rg_one (fuel := 5) 14 rfl (by kernel_rfl) (by kernel_rfl) ?_
            simp only [pick1, wpHead]
            intro K' hK
            (first | rw [if_pos (by rfl)] | rw [if_neg (by intro h; cases h)] | skip)
            go_simp
            refine (open50 L sl rl rh wg A n cap ks _ _ (HA.out.below hS.b (Nat.le_refl _)) hn hlen).mono ?_
            rintro e W9 ⟨er, rfl, hO, hb⟩
            go_simp
            replace oB := oB.below hb oB.lt
            replace hS := hS.below hb
            refine hK.out _ _ hS ?_
            clear hK hb
            (try simp only [Act.put, List.setIfInBounds_toArray, List.set_cons_zero, List.set_cons_succ])
            clear W8
            refine rg_take (fuel := 2) [15, 16, 17] (by kernel_rfl) (by intro _ _ _ _ _ h; cases h.1) rfl (by kernel_rfl) (by kernel_rfl) hS ?_
            simp only [pickL, pick1, List.cons_append, List.nil_append]
            (refine wpTake_cons (v := ?_) (Or.inl ⟨by rfl, ?_⟩) ?_; rotate_left; (intro w' hSw; have yc := hSw.c.c; have yd := hSw.d.c; clear hSw; go_simp; (try with_reducible rfl)); (try simp only [Act.put, List.setIfInBounds_toArray, List.set_cons_zero, List.set_cons_succ]))
            (refine wpTake_cons (v := ?_) (Or.inl ⟨by rfl, ?_⟩) ?_; rotate_left; (intro w' hSw; have yc := hSw.c.c; have yd := hSw.d.c; clear hSw; go_simp; (try with_reducible rfl)); (try simp only [Act.put, List.setIfInBounds_toArray, List.set_cons_zero, List.set_cons_succ]))
            (refine wpTake_cons (v := ?_) (Or.inl ⟨by rfl, ?_⟩) ?_; rotate_left; (intro w' hSw; have yc := hSw.c.c; have yd := hSw.d.c; clear hSw; go_simp; (try with_reducible rfl)); (try simp only [Act.put, List.setIfInBounds_toArray, List.set_cons_zero, List.set_cons_succ]))
            refine wpTake_nil ?_
            refine rg_one (fuel := 1) 19 rfl (by kernel_rfl) (by kernel_rfl) ?_
            simp only [pick1, wpHead]
            intro K' hK
            (first | rw [if_pos (by rfl)] | rw [if_neg (by intro h; cases h)] | skip)
            obtain ⟨lB, kB, fB⟩ := oB
            have oB := Own.mk lB kB fB
            go_simp
            clear lB kB fB
            have oB2 := own_set7 oB rfl (.int .i64 L) (.int .i64 sl) (.int .i64 rl) (.int .i64 rh) (.slice A n cap) (.int .i64 wg) (.map none)
            replace hS := hS.set7 hg (.int .i64 L) (.int .i64 sl) (.int .i64 rl) (.int .i64 rh) (.slice A n cap) (.int .i64 wg) (.map none)
            refine hK.out _ _ hS ?_
            clear hK oB
            (try simp only [Act.put, List.setIfInBounds_toArray, List.set_cons_zero, List.set_cons_succ])
            refine rg_one (fuel := 0) 20 rfl (by kernel_rfl) (by kernel_rfl) ?_
            simp only [pick1, wpHead]
            intro K' hK
            (first | rw [if_pos (by rfl)] | rw [if_neg (by intro h; cases h)] | skip)
            go_simp
            refine hK.out _ _ hS ?_
            clear hK
            (try simp only [Act.put, List.setIfInBounds_toArray, List.set_cons_zero, List.set_cons_succ])
            refine rg_done (by kernel_rfl) ?_
            exact ⟨rfl, _, er, _, _, _, _, _, _, _, _, _, _, _, _, _, _, _, _, _, _, hO, hS, oB2, hg, rfl⟩
        · intro K' hK
          (first | rw [if_pos (by rfl)] | rw [if_neg (by intro h; cases h)] | skip)
          go_simp
          have oB := Own.new (w := W) #[.int .i64 0, .int .i64 0, .int .i64 0, .int .i64 0, .slice none 0 0, .int .i64 0, .map none] 70
          have hb : Below W.heap.size W (W.alloc (.cells #[.int .i64 0, .int .i64 0, .int .i64 0, .int .i64 0, .slice none 0 0, .int .i64 0, .map none] 70)) := (Below.refl _ _).alloc (Nat.le_refl _) _
          have hg := hS.fresh
          replace hS := hS.below hb
          refine hK.out _ _ hS ?_
          clear hK hb
          (try simp only [Act.put, List.setIfInBounds_toArray, List.set_cons_zero, List.set_cons_succ])
          generalize World.alloc W _ = W10 at hS oB ⊢
          generalize W.heap.size = g at hg oB ⊢
          clear W
          refine rg_one (fuel := 16) 3 rfl (by kernel_rfl) (by kernel_rfl) ?_
          simp only [pick1, wpHead]
          intro K' hK
          (first | rw [if_pos (by rfl)] | rw [if_neg (by intro h; cases h)] | skip)
          go_simp
          refine (isPlace56 _ _ _ _ _ _ _ _).mono ?_
          rw [CA.out]
          rintro e W11 ⟨rfl, hb⟩
          go_simp
          replace oB := oB.below hb oB.lt
          replace hS := hS.below hb
          refine hK.out _ _ hS ?_
          clear hK hb
          (try simp only [Act.put, List.setIfInBounds_toArray, List.set_cons_zero, List.set_cons_succ])
          clear W10
          refine rg_take (fuel := 13) [4, 5, 6] (by kernel_rfl) (by intro _ _ _ _ _ h; cases h.1) rfl (by kernel_rfl) (by kernel_rfl) hS ?_
          simp only [pickL, pick1, List.cons_append, List.nil_append]
          (refine wpTake_cons (v := ?_) (Or.inl ⟨by rfl, ?_⟩) ?_; rotate_left; (intro w' hSw; have yc := hSw.c.c; have yd := hSw.d.c; clear hSw; go_simp; (try with_reducible rfl)); (try simp only [Act.put, List.setIfInBounds_toArray, List.set_cons_zero, List.set_cons_succ]))
          (refine wpTake_cons (v := ?_) (Or.inl ⟨by rfl, ?_⟩) ?_; rotate_left; (intro w' hSw; have yc := hSw.c.c; have yd := hSw.d.c; clear hSw; go_simp; (try with_reducible rfl)); (try simp only [Act.put, List.setIfInBounds_toArray, List.set_cons_zero, List.set_cons_succ]))
          (refine wpTake_cons (v := ?_) (Or.inl ⟨by rfl, ?_⟩) ?_; rotate_left; (intro w' hSw; have yc := hSw.c.c; have yd := hSw.d.c; clear hSw; go_simp; (try with_reducible rfl)); (try simp only [Act.put, List.setIfInBounds_toArray, List.set_cons_zero, List.set_cons_succ]))
          refine wpTake_nil ?_
          refine rg_one (fuel := 12) 7 rfl (by kernel_rfl) (by kernel_rfl) ?_
          simp only [pick1, wpHead]
          intro K' hK
          (first | rw [if_pos (by rfl)] | rw [if_neg (by intro h; cases h)] | skip)
          go_simp
          refine (isPlace56 _ _ _ _ _ _ _ _).mono ?_
          rw [CB.out]
          rintro e W12 ⟨rfl, hb⟩
          go_simp
          replace oB := oB.below hb oB.lt
          replace hS := hS.below hb
          refine hK.out _ _ hS ?_
          clear hK hb
          (try simp only [Act.put, List.setIfInBounds_toArray, List.set_cons_zero, List.set_cons_succ])
          clear W11
          refine rg_take (fuel := 6) [8, 9, 10, 11, 12, 13] (by kernel_rfl) (by intro _ _ _ _ _ h; cases h.1) rfl (by kernel_rfl) (by kernel_rfl) hS ?_
          simp only [pickL, pick1, List.cons_append, List.nil_append]
          (refine wpTake_cons (v := ?_) (Or.inl ⟨by rfl, ?_⟩) ?_; rotate_left; (intro w' hSw; have yc := hSw.c.c; have yd := hSw.d.c; clear hSw; go_simp; (try with_reducible rfl)); (try simp only [Act.put, List.setIfInBounds_toArray, List.set_cons_zero, List.set_cons_succ]))
          (refine wpTake_cons (v := ?_) (Or.inl ⟨by rfl, ?_⟩) ?_; rotate_left; (intro w' hSw; have yc := hSw.c.c; have yd := hSw.d.c; clear hSw; go_simp; (try with_reducible rfl)); (try simp only [Act.put, List.setIfInBounds_toArray, List.set_cons_zero, List.set_cons_succ]))
          (refine wpTake_cons (v := ?_) (Or.inl ⟨by rfl, ?_⟩) ?_; rotate_left; (intro w' hSw; have yc := hSw.c.c; have yd := hSw.d.c; clear hSw; go_simp; (try with_reducible rfl)); (try simp only [Act.put, List.setIfInBounds_toArray, List.set_cons_zero, List.set_cons_succ]))
          (refine wpTake_cons (v := ?_) (Or.inl ⟨by rfl, ?_⟩) ?_; rotate_left; (intro w' hSw; have yc := hSw.c.c; have yd := hSw.d.c; clear hSw; go_simp; (try with_reducible rfl)); (try simp only [Act.put, List.setIfInBounds_toArray, List.set_cons_zero, List.set_cons_succ]))
          (refine wpTake_cons (v := ?_) (Or.inl ⟨by rfl, ?_⟩) ?_; rotate_left; (intro w' hSw; have yc := hSw.c.c; have yd := hSw.d.c; clear hSw; go_simp; (try with_reducible rfl)); (try simp only [Act.put, List.setIfInBounds_toArray, List.set_cons_zero, List.set_cons_succ]))
          (refine wpTake_cons (v := ?_) (Or.inl ⟨by rfl, ?_⟩) ?_; rotate_left; (intro w' hSw; have yc := hSw.c.c; have yd := hSw.d.c; clear hSw; go_simp; (try with_reducible rfl)); (try simp only [Act.put, List.setIfInBounds_toArray, List.set_cons_zero, List.set_cons_succ]))
          refine wpTake_nil ?_
          refine rg_one (fuel := 5) 14 rfl (by kernel_rfl) (by kernel_rfl) ?_
          simp only [pick1, wpHead]
          intro K' hK
          (first | rw [if_pos (by rfl)] | rw [if_neg (by intro h; cases h)] | skip)
          go_simp
          refine (open50 L sl rl rh wg A n cap ks _ _ (HA.out.below hS.b (Nat.le_refl _)) hn hlen).mono ?_
          rintro e W13 ⟨er, rfl, hO, hb⟩
          go_simp
          replace oB := oB.below hb oB.lt
          replace hS := hS.below hb
          refine hK.out _ _ hS ?_
          clear hK hb
          (try simp only [Act.put, List.setIfInBounds_toArray, List.set_cons_zero, List.set_cons_succ])
          clear W12
          refine rg_take (fuel := 2) [15, 16, 17] (by kernel_rfl) (by intro _ _ _ _ _ h; cases h.1) rfl (by kernel_rfl) (by kernel_rfl) hS ?_
          simp only [pickL, pick1, List.cons_append, List.nil_append]
          (refine wpTake_cons (v := ?_) (Or.inl ⟨by rfl, ?_⟩) ?_; rotate_left; (intro w' hSw; have yc := hSw.c.c; have yd := hSw.d.c; clear hSw; go_simp; (try with_reducible rfl)); (try simp only [Act.put, List.setIfInBounds_toArray, List.set_cons_zero, List.set_cons_succ]))
          (refine wpTake_cons (v := ?_) (Or.inl ⟨by rfl, ?_⟩) ?_; rotate_left; (intro w' hSw; have yc := hSw.c.c; have yd := hSw.d.c; clear hSw; go_simp; (try with_reducible rfl)); (try simp only [Act.put, List.setIfInBounds_toArray, List.set_cons_zero, List.set_cons_succ]))
          (refine wpTake_cons (v := ?_) (Or.inl ⟨by rfl, ?_⟩) ?_; rotate_left; (intro w' hSw; have yc := hSw.c.c; have yd := hSw.d.c; clear hSw; go_simp; (try with_reducible rfl)); (try simp only [Act.put, List.setIfInBounds_toArray, List.set_cons_zero, List.set_cons_succ]))
          refine wpTake_nil ?_
          refine rg_one (fuel := 1) 19 rfl (by kernel_rfl) (by kernel_rfl) ?_
          simp only [pick1, wpHead]
          intro K' hK
          (first | rw [if_pos (by rfl)] | rw [if_neg (by intro h; cases h)] | skip)
          obtain ⟨lB, kB, fB⟩ := oB
          have oB := Own.mk lB kB fB
          go_simp
          clear lB kB fB
          have oB2 := own_set7 oB rfl (.int .i64 L) (.int .i64 sl) (.int .i64 rl) (.int .i64 rh) (.slice A n cap) (.int .i64 wg) (.map none)
          replace hS := hS.set7 hg (.int .i64 L) (.int .i64 sl) (.int .i64 rl) (.int .i64 rh) (.slice A n cap) (.int .i64 wg) (.map none)
          refine hK.out _ _ hS ?_
          clear hK oB
          (try simp only [Act.put, List.setIfInBounds_toArray, List.set_cons_zero, List.set_cons_succ])
          refine rg_one (fuel := 0) 20 rfl (by kernel_rfl) (by kernel_rfl) ?_
          simp only [pick1, wpHead]
          intro K' hK
          (first | rw [if_pos (by rfl)] | rw [if_neg (by intro h; cases h)] | skip)
          go_simp
          refine hK.out _ _ hS ?_
          clear hK
          (try simp only [Act.put, List.setIfInBounds_toArray, List.set_cons_zero, List.set_cons_succ])
          refine rg_done (by kernel_rfl) ?_
          exact ⟨rfl, _, er, _, _, _, _, _, _, _, _, _, _, _, _, _, _, _, _, _, _, hO, hS, oB2, hg, rfl⟩
  · rintro e a' w1 ⟨rfl, g, er, u12, u13, u14, u15, u16, u17, u18, u19, u20, u21, u22, u23, u24, u25, u26, u27, u28, u29, hO, hI, oG, hg, rfl⟩
    (try simp only [Exit.then])
    have hI' := Lib.hid hI
    obtain ⟨lg, kg, fg⟩ := oG
    obtain ⟨l1, k1, f1⟩ := hI.d
    have hB1 := hI.b
    clear hI
    by_cases he : er = 0
    · have hz := openR_zero hO.out he
      have hV := Lib.hid hz.1
      have HT := Lib.hid hz.2.2
      clear hz
      subst he
      go_wp2_with fail
      refine (integral57 L sl rl rh wg A n cap ks (.map none) (fun _ => none) a b w1 (HA.out.below hB1 (Nat.le_refl _)) hn (Or.inl ⟨rfl, rfl⟩) hV).mono ?_
      rintro e w2 ⟨m, lo, hi, rfl, hI, hb2⟩
      have hs := intR_sp hI.out HT.out
      have hz1 := hB1.size
      have hB3 := hB1.trans (hb2.mono hz1)
      have o1 := Lib.hid (hI'.out.d.below hb2 l1)
      have hz2 := hb2.size
      clear hb2 l1 k1 f1 lg kg fg
      obtain ⟨l1, k1, f1⟩ := o1.out
      have hres : Hid (IntegralR L sl rl rh wg ks a b lo hi 0) := ⟨hO.out, fun _ => hs.2, fun h => absurd rfl h⟩
      clear hs
      go_wp2
      (try simp only [Exit.inBlock, Exit.then])
      refine bodyPost_gen fun W6 hW6 => ?_
      have o6 : Own W6 (w.heap.size + 1) [.int .i64 lo, .int .i64 hi] := by rw [hW6]; first | exact ((o1.out.alloc _).set 0 (by simp) _).set 1 (by simp) _ | exact ((o1.out.set 0 (by simp) _).set 1 (by simp) _).alloc _
      have hB6 : Below w.heap.size w W6 := by rw [hW6]; (repeat' (first | (with_reducible exact Below.refl _ _) | (with_reducible assumption) | (with_reducible refine Below.drew ?_) | (with_reducible refine below_drewN ?_ _) | (with_reducible refine Below.setCell ?_ ?_ _) | (with_reducible refine Below.alloc ?_ ?_ _) | (refine Below.trans ?_ (Below.mono (by with_reducible assumption) ?_)) | omega | (exact Below.size (by with_reducible assumption)) | (simp; done) | (simp; omega)))
      refine bodyPost_ret (results_cell (B := w.heap.size + 1) (vs := [.int .i64 lo, .int .i64 hi]) rfl rfl o6 (by kernel_rfl) (by kernel_rfl)) rfl ?_
      exact ⟨lo, hi, 0, rfl, hres, hB6⟩
    · have hres : Hid (IntegralR L sl rl rh wg ks a b 0 0 er) := ⟨hO.out, fun h => absurd h he, fun _ => ⟨rfl, rfl⟩⟩
      have o1 := Lib.hid (Own.mk l1 k1 f1)
      go_wp2
      (try simp only [Exit.inBlock, Exit.then])
      refine bodyPost_ret (results_cell (B := w.heap.size + 1) (vs := [.int .i64 0, .int .i64 0]) rfl rfl ((o1.out.set 0 (by simp) _).set 1 (by simp) _) (by kernel_rfl) (by kernel_rfl)) rfl ?_
      exact ⟨0, 0, er, rfl, hres, by (repeat' (first | (with_reducible exact Below.refl _ _) | (with_reducible assumption) | (with_reducible refine Below.drew ?_) | (with_reducible refine below_drewN ?_ _) | (with_reducible refine Below.setCell ?_ ?_ _) | (with_reducible refine Below.alloc ?_ ?_ _) | (refine Below.trans ?_ (Below.mono (by with_reducible assumption) ?_)) | omega | (exact Below.size (by with_reducible assumption)) | (simp; done) | (simp; omega)))⟩
end Go.Proofs.Ytphcpphmoeiioaa
