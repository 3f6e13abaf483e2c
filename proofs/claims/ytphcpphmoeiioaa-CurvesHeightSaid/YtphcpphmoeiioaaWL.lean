/- Walks: Height. -/
import Derived.Test.YtphcpphmoeiioaaOpR
namespace Go.Proofs.Ytphcpphmoeiioaa
open Go.RowKit Go.Maps

set_option maxRecDepth 100000 in
set_option maxHeartbeats 8000000 in
theorem height31 (L sl rl rh wg : Int) (A : Option Addr) (n cap : Nat) (ks : List Kn) (p : Int) (w : World) (hA : Rd 3 w A (ks.map krow)) (hn : Hid (n = ks.length)) (hlen : n ≤ 9223372036854775807) :
    Calls Try.prog 31 #[.agg #[.int .i64 L, .int .i64 sl, .int .i64 rl, .int .i64 rh, .slice A n cap, .int .i64 wg], .int .i64 p] w fun e w' => ∃ lo hi er : Int, e = .returned (.tuple #[.agg #[.int .i64 lo, .int .i64 hi], .int .i64 er]) ∧ Hid (HeightR L sl rl rh wg ks p lo hi er) ∧ Below w.heap.size w w' := by
  have HA := Lib.hid hA
  clear hA
  go_enter Try.func31, Try.ntmps31
  go_wp2
  have hS0 : OpI w w.heap.size (w.heap.size + 1) [.int .i64 L, .int .i64 sl, .int .i64 rl, .int .i64 rh, .slice A n cap, .int .i64 wg] [.int .i64 0, .int .i64 0] ((w.alloc (.cells #[.int .i64 L, .int .i64 sl, .int .i64 rl, .int .i64 rh, .slice A n cap, .int .i64 wg] 26)).alloc (.cells #[.int .i64 0, .int .i64 0] 23)) := ⟨(Own.new' _ _ rfl rfl).alloc _, Own.new' _ _ (by simp) rfl, by (repeat' (first | (with_reducible exact Below.refl _ _) | (with_reducible assumption) | (with_reducible refine Below.drew ?_) | (with_reducible refine below_drewN ?_ _) | (with_reducible refine Below.setCell ?_ ?_ _) | (with_reducible refine Below.alloc ?_ ?_ _) | (refine Below.trans ?_ (Below.mono (by with_reducible assumption) ?_)) | omega | (exact Below.size (by with_reducible assumption)) | (simp; done) | (simp; omega)))⟩
  refine Code.wp_mono (Q := fun e a' w' => e = .normal ∧ ∃ (g : Nat) (er : Int), Hid (OpenR L sl rl rh wg ks (btw p 0 L) er) ∧ OpI w w.heap.size (w.heap.size + 1) [.int .i64 L, .int .i64 sl, .int .i64 rl, .int .i64 rh, .slice A n cap, .int .i64 wg] [.int .i64 0, .int .i64 0] w' ∧ Own w' g [.int .i64 L, .int .i64 sl, .int .i64 rl, .int .i64 rh, .slice A n cap, .int .i64 wg, .map none] ∧ (w.heap.size ≤ g ∧ w.heap.size ≠ g ∧ w.heap.size + 1 ≠ g) ∧ a' = { tmps := #[.agg #[.int .i64 L, .int .i64 sl, .int .i64 rl, .int .i64 rh, .slice A n cap, .int .i64 wg], .int .i64 p, .pointer (some ⟨w.heap.size, 0, none⟩), undef, .pointer (some ⟨w.heap.size + 1, 0, none⟩), .int .i64 0, .pointer (some ⟨g, 0, none⟩), .int .i64 er, undef, .tuple #[.agg #[.int .i64 L, .int .i64 sl, .int .i64 rl, .int .i64 rh, .slice A n cap, .int .i64 wg, .map none], .int .i64 er], .agg #[.int .i64 L, .int .i64 sl, .int .i64 rl, .int .i64 rh, .slice A n cap, .int .i64 wg], .agg #[.int .i64 L, .int .i64 sl, .int .i64 rl, .int .i64 rh, .slice A n cap, .int .i64 wg], .int .i64 p, .bool (btw p 0 L), .tuple #[.agg #[.int .i64 L, .int .i64 sl, .int .i64 rl, .int .i64 rh, .slice A n cap, .int .i64 wg, .map none], .int .i64 er], .agg #[.int .i64 L, .int .i64 sl, .int .i64 rl, .int .i64 rh, .slice A n cap, .int .i64 wg, .map none], .int .i64 er, undef, undef, undef, undef, undef, undef, undef, undef, undef, undef, undef, undef, undef, undef, undef, undef, undef, undef], defers := [] }) ?_ ?_
  rotate_left
  · refine rg_start (fun w' => OpI w w.heap.size (w.heap.size + 1) [.int .i64 L, .int .i64 sl, .int .i64 rl, .int .i64 rh, .slice A n cap, .int .i64 wg] [.int .i64 0, .int .i64 0] w') 11 (by kernel_rfl) rfl ?_
    have hS := hS0.drew
    clear hS0
    generalize World.drew _ = W at hS ⊢
    refine rg_take (fuel := 8) [0, 1, 2] (by kernel_rfl) (by intro _ _ _ _ _ h; cases h.1) rfl (by kernel_rfl) (by kernel_rfl) hS ?_
    simp only [pickL, pick1, List.cons_append, List.nil_append]
    (refine wpTake_cons (v := ?_) (Or.inl ⟨by rfl, ?_⟩) ?_; rotate_left; (intro w' hSw; have yc := hSw.c.c; have yd := hSw.d.c; clear hSw; go_simp; (try with_reducible rfl)); (try simp only [Act.put, List.setIfInBounds_toArray, List.set_cons_zero, List.set_cons_succ]))
    (refine wpTake_cons (v := ?_) (Or.inl ⟨by rfl, ?_⟩) ?_; rotate_left; (intro w' hSw; have yc := hSw.c.c; have yd := hSw.d.c; clear hSw; go_simp; (try with_reducible rfl)); (try simp only [Act.put, List.setIfInBounds_toArray, List.set_cons_zero, List.set_cons_succ]))
    (refine wpTake_cons (v := ?_) (Or.inl ⟨by rfl, ?_⟩) ?_; rotate_left; (intro w' hSw; have yc := hSw.c.c; have yd := hSw.d.c; clear hSw; go_simp; (try with_reducible rfl)); (try simp only [Act.put, List.setIfInBounds_toArray, List.set_cons_zero, List.set_cons_succ]))
    refine wpTake_nil ?_
    refine rg_two (fuel := 7) 3 8 rfl (by kernel_rfl) (by kernel_rfl) ?_ ?_ <;> simp only [pick1, wpHead]
    · intro K' hK
      (try rw [if_pos (by rfl)])
      go_simp
      refine (isPlace56 _ _ _ _ _ _ _ _).mono ?_
      rintro e W1 ⟨rfl, hb⟩
      go_simp
      replace hS := hS.below hb
      refine hK.out _ _ hS ?_
      clear hK hb
      (try simp only [Act.put, List.setIfInBounds_toArray, List.set_cons_zero, List.set_cons_succ])
      clear W
      refine rg_two (fuel := 6) 4 8 rfl (by kernel_rfl) (by kernel_rfl) ?_ ?_ <;> simp only [pick1, wpHead]
      · intro K' hK
        (try rw [if_pos (by rfl)])
        go_simp
        refine (open50 L sl rl rh wg A n cap ks _ _ (HA.out.below hS.b (Nat.le_refl _)) hn hlen).mono ?_
        rintro e W2 ⟨er, rfl, hO, hb⟩
        go_simp
        replace hS := hS.below hb
        refine hK.out _ _ hS ?_
        clear hK hb
        (try simp only [Act.put, List.setIfInBounds_toArray, List.set_cons_zero, List.set_cons_succ])
        clear W1
        refine rg_take (fuel := 3) [5, 6, 7] (by kernel_rfl) (by intro _ _ _ _ _ h; cases h.1) rfl (by kernel_rfl) (by kernel_rfl) hS ?_
        simp only [pickL, pick1, List.cons_append, List.nil_append]
        (refine wpTake_cons (v := ?_) (Or.inl ⟨by rfl, ?_⟩) ?_; rotate_left; (intro w' hSw; have yc := hSw.c.c; have yd := hSw.d.c; clear hSw; go_simp; (try with_reducible rfl)); (try simp only [Act.put, List.setIfInBounds_toArray, List.set_cons_zero, List.set_cons_succ]))
        (refine wpTake_cons (v := ?_) (Or.inl ⟨by rfl, ?_⟩) ?_; rotate_left; (intro w' hSw; have yc := hSw.c.c; have yd := hSw.d.c; clear hSw; go_simp; (try with_reducible rfl)); (try simp only [Act.put, List.setIfInBounds_toArray, List.set_cons_zero, List.set_cons_succ]))
        (refine wpTake_cons (v := ?_) (Or.inl ⟨by rfl, ?_⟩) ?_; rotate_left; (intro w' hSw; have yc := hSw.c.c; have yd := hSw.d.c; clear hSw; go_simp; (try with_reducible rfl)); (try simp only [Act.put, List.setIfInBounds_toArray, List.set_cons_zero, List.set_cons_succ]))
        refine wpTake_nil ?_
        refine rg_one (fuel := 2) 8 rfl (by kernel_rfl) (by kernel_rfl) ?_
        simp only [pick1, wpHead]
        intro K' hK
        (try rw [if_pos (by rfl)])
        go_simp
        have oB := Own.new (w := W2) #[.int .i64 0, .int .i64 0, .int .i64 0, .int .i64 0, .slice none 0 0, .int .i64 0, .map none] 70
        have hb : Below W2.heap.size W2 (W2.alloc (.cells #[.int .i64 0, .int .i64 0, .int .i64 0, .int .i64 0, .slice none 0 0, .int .i64 0, .map none] 70)) := (Below.refl _ _).alloc (Nat.le_refl _) _
        have hg := hS.fresh
        replace hS := hS.below hb
        refine hK.out _ _ hS ?_
        clear hK hb
        (try simp only [Act.put, List.setIfInBounds_toArray, List.set_cons_zero, List.set_cons_succ])
        generalize World.alloc W2 _ = W3 at hS oB ⊢
        generalize W2.heap.size = g at hg oB ⊢
        clear W2
        refine rg_one (fuel := 1) 9 rfl (by kernel_rfl) (by kernel_rfl) ?_
        simp only [pick1, wpHead]
        intro K' hK
        (try rw [if_pos (by rfl)])
        obtain ⟨lB, kB, fB⟩ := oB
        have oB := Own.mk lB kB fB
        go_simp
        clear lB kB fB
        have oB2 := own_set7 oB rfl (.int .i64 L) (.int .i64 sl) (.int .i64 rl) (.int .i64 rh) (.slice A n cap) (.int .i64 wg) (.map none)
        replace hS := hS.set7 hg (.int .i64 L) (.int .i64 sl) (.int .i64 rl) (.int .i64 rh) (.slice A n cap) (.int .i64 wg) (.map none)
        refine hK.out _ _ hS ?_
        clear hK oB
        (try simp only [Act.put, List.setIfInBounds_toArray, List.set_cons_zero, List.set_cons_succ])
        refine rg_one (fuel := 0) 10 rfl (by kernel_rfl) (by kernel_rfl) ?_
        simp only [pick1, wpHead]
        intro K' hK
        (try rw [if_pos (by rfl)])
        go_simp
        refine hK.out _ _ hS ?_
        clear hK
        (try simp only [Act.put, List.setIfInBounds_toArray, List.set_cons_zero, List.set_cons_succ])
        refine rg_done (by kernel_rfl) ?_
        exact ⟨rfl, _, er, hO, hS, oB2, hg, rfl⟩
      · intro K' hK
        (try rw [if_pos (by rfl)])
        go_simp
        have oB := Own.new (w := W1) #[.int .i64 0, .int .i64 0, .int .i64 0, .int .i64 0, .slice none 0 0, .int .i64 0, .map none] 70
        have hb : Below W1.heap.size W1 (W1.alloc (.cells #[.int .i64 0, .int .i64 0, .int .i64 0, .int .i64 0, .slice none 0 0, .int .i64 0, .map none] 70)) := (Below.refl _ _).alloc (Nat.le_refl _) _
        have hg := hS.fresh
        replace hS := hS.below hb
        refine hK.out _ _ hS ?_
        clear hK hb
        (try simp only [Act.put, List.setIfInBounds_toArray, List.set_cons_zero, List.set_cons_succ])
        generalize World.alloc W1 _ = W4 at hS oB ⊢
        generalize W1.heap.size = g at hg oB ⊢
        clear W1
        refine rg_one (fuel := 5) 4 rfl (by kernel_rfl) (by kernel_rfl) ?_
        simp only [pick1, wpHead]
        intro K' hK
        (try rw [if_pos (by rfl)])
        go_simp
        refine (open50 L sl rl rh wg A n cap ks _ _ (HA.out.below hS.b (Nat.le_refl _)) hn hlen).mono ?_
        rintro e W5 ⟨er, rfl, hO, hb⟩
        go_simp
        replace oB := oB.below hb oB.lt
        replace hS := hS.below hb
        refine hK.out _ _ hS ?_
        clear hK hb
        (try simp only [Act.put, List.setIfInBounds_toArray, List.set_cons_zero, List.set_cons_succ])
        clear W4
        refine rg_take (fuel := 2) [5, 6, 7] (by kernel_rfl) (by intro _ _ _ _ _ h; cases h.1) rfl (by kernel_rfl) (by kernel_rfl) hS ?_
        simp only [pickL, pick1, List.cons_append, List.nil_append]
        (refine wpTake_cons (v := ?_) (Or.inl ⟨by rfl, ?_⟩) ?_; rotate_left; (intro w' hSw; have yc := hSw.c.c; have yd := hSw.d.c; clear hSw; go_simp; (try with_reducible rfl)); (try simp only [Act.put, List.setIfInBounds_toArray, List.set_cons_zero, List.set_cons_succ]))
        (refine wpTake_cons (v := ?_) (Or.inl ⟨by rfl, ?_⟩) ?_; rotate_left; (intro w' hSw; have yc := hSw.c.c; have yd := hSw.d.c; clear hSw; go_simp; (try with_reducible rfl)); (try simp only [Act.put, List.setIfInBounds_toArray, List.set_cons_zero, List.set_cons_succ]))
        (refine wpTake_cons (v := ?_) (Or.inl ⟨by rfl, ?_⟩) ?_; rotate_left; (intro w' hSw; have yc := hSw.c.c; have yd := hSw.d.c; clear hSw; go_simp; (try with_reducible rfl)); (try simp only [Act.put, List.setIfInBounds_toArray, List.set_cons_zero, List.set_cons_succ]))
        refine wpTake_nil ?_
        refine rg_one (fuel := 1) 9 rfl (by kernel_rfl) (by kernel_rfl) ?_
        simp only [pick1, wpHead]
        intro K' hK
        (try rw [if_pos (by rfl)])
        obtain ⟨lB, kB, fB⟩ := oB
        have oB := Own.mk lB kB fB
        go_simp
        clear lB kB fB
        have oB2 := own_set7 oB rfl (.int .i64 L) (.int .i64 sl) (.int .i64 rl) (.int .i64 rh) (.slice A n cap) (.int .i64 wg) (.map none)
        replace hS := hS.set7 hg (.int .i64 L) (.int .i64 sl) (.int .i64 rl) (.int .i64 rh) (.slice A n cap) (.int .i64 wg) (.map none)
        refine hK.out _ _ hS ?_
        clear hK oB
        (try simp only [Act.put, List.setIfInBounds_toArray, List.set_cons_zero, List.set_cons_succ])
        refine rg_one (fuel := 0) 10 rfl (by kernel_rfl) (by kernel_rfl) ?_
        simp only [pick1, wpHead]
        intro K' hK
        (try rw [if_pos (by rfl)])
        go_simp
        refine hK.out _ _ hS ?_
        clear hK
        (try simp only [Act.put, List.setIfInBounds_toArray, List.set_cons_zero, List.set_cons_succ])
        refine rg_done (by kernel_rfl) ?_
        exact ⟨rfl, _, er, hO, hS, oB2, hg, rfl⟩
    · intro K' hK
      (try rw [if_pos (by rfl)])
      go_simp
      have oB := Own.new (w := W) #[.int .i64 0, .int .i64 0, .int .i64 0, .int .i64 0, .slice none 0 0, .int .i64 0, .map none] 70
      have hb : Below W.heap.size W (W.alloc (.cells #[.int .i64 0, .int .i64 0, .int .i64 0, .int .i64 0, .slice none 0 0, .int .i64 0, .map none] 70)) := (Below.refl _ _).alloc (Nat.le_refl _) _
      have hg := hS.fresh
      replace hS := hS.below hb
      refine hK.out _ _ hS ?_
      clear hK hb
      (try simp only [Act.put, List.setIfInBounds_toArray, List.set_cons_zero, List.set_cons_succ])
      generalize World.alloc W _ = W6 at hS oB ⊢
      generalize W.heap.size = g at hg oB ⊢
      clear W
      refine rg_one (fuel := 6) 3 rfl (by kernel_rfl) (by kernel_rfl) ?_
      simp only [pick1, wpHead]
      intro K' hK
      (try rw [if_pos (by rfl)])
      go_simp
      refine (isPlace56 _ _ _ _ _ _ _ _).mono ?_
      rintro e W7 ⟨rfl, hb⟩
      go_simp
      replace oB := oB.below hb oB.lt
      replace hS := hS.below hb
      refine hK.out _ _ hS ?_
      clear hK hb
      (try simp only [Act.put, List.setIfInBounds_toArray, List.set_cons_zero, List.set_cons_succ])
      clear W6
      refine rg_one (fuel := 5) 4 rfl (by kernel_rfl) (by kernel_rfl) ?_
      simp only [pick1, wpHead]
      intro K' hK
      (try rw [if_pos (by rfl)])
      go_simp
      refine (open50 L sl rl rh wg A n cap ks _ _ (HA.out.below hS.b (Nat.le_refl _)) hn hlen).mono ?_
      rintro e W8 ⟨er, rfl, hO, hb⟩
      go_simp
      replace oB := oB.below hb oB.lt
      replace hS := hS.below hb
      refine hK.out _ _ hS ?_
      clear hK hb
      (try simp only [Act.put, List.setIfInBounds_toArray, List.set_cons_zero, List.set_cons_succ])
      clear W7
      refine rg_take (fuel := 2) [5, 6, 7] (by kernel_rfl) (by intro _ _ _ _ _ h; cases h.1) rfl (by kernel_rfl) (by kernel_rfl) hS ?_
      simp only [pickL, pick1, List.cons_append, List.nil_append]
      (refine wpTake_cons (v := ?_) (Or.inl ⟨by rfl, ?_⟩) ?_; rotate_left; (intro w' hSw; have yc := hSw.c.c; have yd := hSw.d.c; clear hSw; go_simp; (try with_reducible rfl)); (try simp only [Act.put, List.setIfInBounds_toArray, List.set_cons_zero, List.set_cons_succ]))
      (refine wpTake_cons (v := ?_) (Or.inl ⟨by rfl, ?_⟩) ?_; rotate_left; (intro w' hSw; have yc := hSw.c.c; have yd := hSw.d.c; clear hSw; go_simp; (try with_reducible rfl)); (try simp only [Act.put, List.setIfInBounds_toArray, List.set_cons_zero, List.set_cons_succ]))
      (refine wpTake_cons (v := ?_) (Or.inl ⟨by rfl, ?_⟩) ?_; rotate_left; (intro w' hSw; have yc := hSw.c.c; have yd := hSw.d.c; clear hSw; go_simp; (try with_reducible rfl)); (try simp only [Act.put, List.setIfInBounds_toArray, List.set_cons_zero, List.set_cons_succ]))
      refine wpTake_nil ?_
      refine rg_one (fuel := 1) 9 rfl (by kernel_rfl) (by kernel_rfl) ?_
      simp only [pick1, wpHead]
      intro K' hK
      (try rw [if_pos (by rfl)])
      obtain ⟨lB, kB, fB⟩ := oB
      have oB := Own.mk lB kB fB
      go_simp
      clear lB kB fB
      have oB2 := own_set7 oB rfl (.int .i64 L) (.int .i64 sl) (.int .i64 rl) (.int .i64 rh) (.slice A n cap) (.int .i64 wg) (.map none)
      replace hS := hS.set7 hg (.int .i64 L) (.int .i64 sl) (.int .i64 rl) (.int .i64 rh) (.slice A n cap) (.int .i64 wg) (.map none)
      refine hK.out _ _ hS ?_
      clear hK oB
      (try simp only [Act.put, List.setIfInBounds_toArray, List.set_cons_zero, List.set_cons_succ])
      refine rg_one (fuel := 0) 10 rfl (by kernel_rfl) (by kernel_rfl) ?_
      simp only [pick1, wpHead]
      intro K' hK
      (try rw [if_pos (by rfl)])
      go_simp
      refine hK.out _ _ hS ?_
      clear hK
      (try simp only [Act.put, List.setIfInBounds_toArray, List.set_cons_zero, List.set_cons_succ])
      refine rg_done (by kernel_rfl) ?_
      exact ⟨rfl, _, er, hO, hS, oB2, hg, rfl⟩
  · rintro e a' w1 ⟨rfl, g, er, hO, hI, oG, hg, rfl⟩
    (try simp only [Exit.then])
    have oG' := Lib.hid oG
    have hI' := Lib.hid hI
    obtain ⟨lg, kg, fg⟩ := oG
    obtain ⟨l1, k1, f1⟩ := hI.d
    have hB1 := hI.b
    clear hI
    by_cases he : er = 0
    · have hz := openR_zero hO.out he
      have hV := hz.1
      have hpb := btw_iff.1 hz.2.1
      have HT := Lib.hid hz.2.2
      clear hz
      obtain ⟨q, rfl⟩ := Int.eq_ofNat_of_zero_le hpb.1
      subst he
      have hqL : q ≤ (cvOf L sl rl rh wg ks).long := by show q ≤ L.toNat; omega
      have hV0 := Lib.hid hV
      have hsp := htL_sp (cvOf L sl rl rh wg ks) q hqL (rh - rl + 1).toNat (by show rh < rl + ((rh - rl + 1).toNat : Int); have := hV.r0; omega) HT.out
      have hlenL := htL_len (cvOf L sl rl rh wg ks) q (rh - rl + 1).toNat
      have hr1 := hV.r1
      have hr2 := hV.r2
      go_wp2_with fail
      refine (heights52 _ _ _ _ _ _ _ _ _).mono ?_
      rintro e _ ⟨rfl, rfl⟩
      go_wp2_with fail
      refine calls_gen fun W hW => ?_
      have hB2 : Below w.heap.size w W := by rw [hW]; (repeat' (first | (with_reducible exact Below.refl _ _) | (with_reducible assumption) | (with_reducible refine Below.drew ?_) | (with_reducible refine below_drewN ?_ _) | (with_reducible refine Below.setCell ?_ ?_ _) | (with_reducible refine Below.alloc ?_ ?_ _) | (refine Below.trans ?_ (Below.mono (by with_reducible assumption) ?_)) | omega | (exact Below.size (by with_reducible assumption)) | (simp; done) | (simp; omega)))
      have hB2' : Below w1.heap.size w1 W := by rw [hW]; (repeat' (first | (with_reducible exact Below.refl _ _) | (with_reducible assumption) | (with_reducible refine Below.drew ?_) | (with_reducible refine below_drewN ?_ _) | (with_reducible refine Below.setCell ?_ ?_ _) | (with_reducible refine Below.alloc ?_ ?_ _) | (refine Below.trans ?_ (Below.mono (by with_reducible assumption) ?_)) | omega | (exact Below.size (by with_reducible assumption)) | (simp; done) | (simp; omega)))
      have q0 : Own W w1.heap.size [.int .i64 L, .int .i64 sl, .int .i64 rl, .int .i64 rh, .slice A n cap, .int .i64 wg, .map none] := by rw [hW]; exact (Own.new' _ _ rfl rfl).alloc _
      have q1 : Own W (w1.heap.size + 1) [.int .i64 q] := by rw [hW]; exact Own.new' _ _ (by simp) rfl
      clear hW
      have hz1 := hB1.size
      have hz2 := hB2'.size
      refine (collect51 L sl rl rh wg A n cap ks q w1.heap.size (w1.heap.size + 1) W (HA.out.below hB2 (Nat.le_refl _)) hn hV0 hpb.2 q0 q1).mono ?_
      rintro e w2 ⟨A', cap', rfl, hr, hf, hb2⟩
      obtain ⟨hl0, lo, hi, e0, e1, hs⟩ := hsp
      generalize htL (cvOf L sl rl rh wg ks) q (rh - rl + 1).toNat = ls at *
      obtain ⟨b0, off, rfl, hb0, hc0⟩ := hr.elem e0
      obtain ⟨b1, off', hbb, hb1, hc1⟩ := hr.elem e1
      obtain ⟨rfl, rfl⟩ : b0 = b1 ∧ off = off' := by simpa using hbb
      have hfr := hf _ _ rfl
      have hB3 := hB2.trans (hb2.mono hB2.size)
      have o1 := Lib.hid ((hI'.out.d.below hB2' l1).below hb2 (by omega))
      have hP1 : w.heap.size + 1 < b0 := by omega
      clear hbb q0 q1 hr hf hB2 hB2' hb2 l1 k1 f1 lg kg fg
      have hres : Hid (HeightR L sl rl rh wg ks q lo hi 0) := ⟨hO.out, fun _ => by simpa using hs, fun h => absurd rfl h⟩
      have hIx : IntKind.i64.wrap ((ls.length : Int) - 1) = (ls.length : Int) - 1 := IntWalk.i64_in _ (by omega)
      go_wp2
      have hT : ((ls.length : Int) - 1).toNat = ls.length - 1 := by omega
      have hle : (0 : Int) ≤ (ls.length : Int) - 1 := by omega
      have hlt : (ls.length : Int) - 1 < (ls.length : Int) := by omega
      have hle1 : (1 : Int) ≤ (ls.length : Int) := by omega
      have hl0' : (0 : Int) < (ls.length : Int) := by omega
      refine rg_start (fun w' => w'.cell? ⟨b0, off, none⟩ = some (.int .i64 lo) ∧ w'.cell? ⟨b0, off + (ls.length - 1), none⟩ = some (.int .i64 hi)) 12 (by kernel_rfl) rfl ?_
      have hSS : (w2.drew.cell? ⟨b0, off, none⟩ = some (.int .i64 lo) ∧ w2.drew.cell? ⟨b0, off + (ls.length - 1), none⟩ = some (.int .i64 hi)) := ⟨by simpa using hc0, hc1⟩
      refine rg_take (fuel := 2) [0, 1, 2, 3, 4, 5, 6, 7, 8, 9] (by kernel_rfl) (by intro _ _ d _ _ h; cases d <;> exact h) rfl (by kernel_rfl) (by kernel_rfl) hSS ?_
      simp only [pickL, pick1, List.cons_append, List.nil_append]
      (refine wpTake_cons (v := ?_) (Or.inl ⟨by rfl, ?_⟩) ?_; rotate_left; (intro w' hSw; obtain ⟨y0, y1⟩ := hSw; go_simp; (try with_reducible rfl)); (try simp only [Act.put, List.setIfInBounds_toArray, List.set_cons_zero, List.set_cons_succ]))
      (refine wpTake_cons (v := ?_) (Or.inl ⟨by rfl, ?_⟩) ?_; rotate_left; (intro w' hSw; obtain ⟨y0, y1⟩ := hSw; go_simp; (try with_reducible rfl)); (try simp only [Act.put, List.setIfInBounds_toArray, List.set_cons_zero, List.set_cons_succ]))
      (refine wpTake_cons (v := ?_) (Or.inl ⟨by rfl, ?_⟩) ?_; rotate_left; (intro w' hSw; obtain ⟨y0, y1⟩ := hSw; go_simp; (try with_reducible rfl)); (try simp only [Act.put, List.setIfInBounds_toArray, List.set_cons_zero, List.set_cons_succ]))
      (refine wpTake_cons (v := ?_) (Or.inl ⟨by rfl, ?_⟩) ?_; rotate_left; (intro w' hSw; obtain ⟨y0, y1⟩ := hSw; go_simp; (try with_reducible rfl)); (try simp only [Act.put, List.setIfInBounds_toArray, List.set_cons_zero, List.set_cons_succ]))
      (refine wpTake_cons (v := ?_) (Or.inl ⟨by rfl, ?_⟩) ?_; rotate_left; (intro w' hSw; obtain ⟨y0, y1⟩ := hSw; go_simp; (try with_reducible rfl)); (try simp only [Act.put, List.setIfInBounds_toArray, List.set_cons_zero, List.set_cons_succ]))
      (refine wpTake_cons (v := ?_) (Or.inl ⟨by rfl, ?_⟩) ?_; rotate_left; (intro w' hSw; obtain ⟨y0, y1⟩ := hSw; go_simp; (try with_reducible rfl)); (try simp only [Act.put, List.setIfInBounds_toArray, List.set_cons_zero, List.set_cons_succ]))
      (refine wpTake_cons (v := ?_) (Or.inl ⟨by rfl, ?_⟩) ?_; rotate_left; (intro w' hSw; obtain ⟨y0, y1⟩ := hSw; go_simp; (try with_reducible rfl)); (try simp only [Act.put, List.setIfInBounds_toArray, List.set_cons_zero, List.set_cons_succ]))
      (refine wpTake_cons (v := ?_) (Or.inl ⟨by rfl, ?_⟩) ?_; rotate_left; (intro w' hSw; obtain ⟨y0, y1⟩ := hSw; go_simp; (try with_reducible rfl)); (try simp only [Act.put, List.setIfInBounds_toArray, List.set_cons_zero, List.set_cons_succ]))
      (refine wpTake_cons (v := ?_) (Or.inl ⟨by rfl, ?_⟩) ?_; rotate_left; (intro w' hSw; obtain ⟨y0, y1⟩ := hSw; go_simp; (try with_reducible rfl)); (try simp only [Act.put, List.setIfInBounds_toArray, List.set_cons_zero, List.set_cons_succ]))
      (refine wpTake_cons (v := ?_) (Or.inl ⟨by rfl, ?_⟩) ?_; rotate_left; (intro w' hSw; obtain ⟨y0, y1⟩ := hSw; go_simp; (try with_reducible rfl)); (try simp only [Act.put, List.setIfInBounds_toArray, List.set_cons_zero, List.set_cons_succ]))
      refine wpTake_nil ?_
      have o2 := o1.out.drew
      clear o1 hc0 hc1
      have hB5 := hB3.drew
      generalize w2.drew = W5 at hSS o2 hB5 ⊢
      have hSw : ∀ v0 v1, (((W5.setCell ⟨w.heap.size + 1, 0, none⟩ v0).setCell ⟨w.heap.size + 1, 1, none⟩ v1).cell? ⟨b0, off, none⟩ = some (.int .i64 lo) ∧ ((W5.setCell ⟨w.heap.size + 1, 0, none⟩ v0).setCell ⟨w.heap.size + 1, 1, none⟩ v1).cell? ⟨b0, off + (ls.length - 1), none⟩ = some (.int .i64 hi)) := fun v0 v1 => by
        have hne : ∀ i j, (⟨w.heap.size + 1, i, none⟩ : Addr) ≠ ⟨b0, j, none⟩ := fun i j e => by
          have := congrArg Addr.block e
          dsimp only at this
          omega
        rw [World.cell?_setCell_other (h := hne _ _), World.cell?_setCell_other (h := hne _ _), World.cell?_setCell_other (h := hne _ _), World.cell?_setCell_other (h := hne _ _)]
        exact hSS
      refine rg_one (fuel := 1) 10 rfl (by kernel_rfl) (by kernel_rfl) ?_
      simp only [pick1, wpHead]
      intro K' hK
      (try rw [if_pos (by rfl)])
      obtain ⟨l5, k5, f5⟩ := o2
      have o2 := Lib.hid (Own.mk l5 k5 f5)
      go_simp
      refine hK.out _ _ (hSw _ _) ?_
      clear hK
      (try simp only [Act.put, List.setIfInBounds_toArray, List.set_cons_zero, List.set_cons_succ])
      refine rg_one (fuel := 0) 11 rfl (by kernel_rfl) (by kernel_rfl) ?_
      simp only [pick1, wpHead]
      intro K' hK
      (try rw [if_pos (by rfl)])
      go_simp
      refine hK.out _ _ (hSw _ _) ?_
      clear hK
      (try simp only [Act.put, List.setIfInBounds_toArray, List.set_cons_zero, List.set_cons_succ])
      refine rg_done (by kernel_rfl) ?_
      have hB4 : Below w.heap.size w ((W5.setCell ⟨w.heap.size + 1, 0, none⟩ (.int .i64 lo)).setCell ⟨w.heap.size + 1, 1, none⟩ (.int .i64 hi)) := (hB5.setCell (by dsimp only; omega) _).setCell (by dsimp only; omega) _
      have o6 := Lib.hid ((o2.out.set 0 (by simp) (.int .i64 lo)).set 1 (by simp) (.int .i64 hi))
      generalize World.setCell _ _ _ = W6 at hB4 o6 ⊢
      clear l5 k5 f5
      obtain ⟨l5, k5, f5⟩ := o6.out
      go_wp2
      (try simp only [Exit.inBlock, Exit.then])
      refine bodyPost_ret (results_cell (B := w.heap.size + 1) (vs := [.int .i64 lo, .int .i64 hi]) rfl rfl o6.out (by kernel_rfl) (by kernel_rfl)) rfl ?_
      exact ⟨lo, hi, 0, rfl, hres, hB4⟩
    · have hres : Hid (HeightR L sl rl rh wg ks p 0 0 er) := ⟨hO.out, fun h => absurd h he, fun _ => ⟨rfl, rfl⟩⟩
      have o1 := Lib.hid (Own.mk l1 k1 f1)
      go_wp2
      (try simp only [Exit.inBlock, Exit.then])
      refine bodyPost_ret (results_cell (B := w.heap.size + 1) (vs := [.int .i64 0, .int .i64 0]) rfl rfl ((o1.out.set 0 (by simp) _).set 1 (by simp) _) (by kernel_rfl) (by kernel_rfl)) rfl ?_
      exact ⟨0, 0, er, rfl, hres, by (repeat' (first | (with_reducible exact Below.refl _ _) | (with_reducible assumption) | (with_reducible refine Below.drew ?_) | (with_reducible refine below_drewN ?_ _) | (with_reducible refine Below.setCell ?_ ?_ _) | (with_reducible refine Below.alloc ?_ ?_ _) | (refine Below.trans ?_ (Below.mono (by with_reducible assumption) ?_)) | omega | (exact Below.size (by with_reducible assumption)) | (simp; done) | (simp; omega)))⟩
end Go.Proofs.Ytphcpphmoeiioaa
