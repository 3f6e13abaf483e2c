/- Walks: Lean. -/
import Derived.Test.YtphcpphmoeiioaaLnA
namespace Go.Proofs.Ytphcpphmoeiioaa
open Go.RowKit Go.Maps Go.Shelf

attribute [local go_sem] Oper.semAt_some
theorem within66b (n lo hi : Int) (w : World) : Calls Try.prog 66 #[.int .i64 n, .int .i64 lo, .int .i64 hi] w fun e w' => e = .returned (.bool (btw n lo hi)) ∧ Below w.heap.size w w' :=
  (within66 n lo hi w).mono fun _ _ ⟨h1, h2⟩ => ⟨h1, h2 ▸ Below.refl _ _⟩
set_option maxRecDepth 100000 in
set_option maxHeartbeats 8000000 in
theorem lean35 (L sl rl rh wg : Int) (A : Option Addr) (n cap : Nat) (ks : List Kn) (p : Int) (w : World) (hA : Rd 3 w A (ks.map krow)) (hn : Hid (n = ks.length)) (hlen : n ≤ 9223372036854775807) (hL : 1 ≤ L ∧ L ≤ 12) (hsl : 0 ≤ sl ∧ sl ≤ 20) :
    Calls Try.prog 35 #[.agg #[.int .i64 L, .int .i64 sl, .int .i64 rl, .int .i64 rh, .slice A n cap, .int .i64 wg], .int .i64 p] w fun e w' => ∃ lo hi er : Int, e = .returned (.tuple #[.agg #[.int .i64 lo, .int .i64 hi], .int .i64 er]) ∧ Hid (LeanR L sl rl rh wg ks p lo hi er) ∧ Below w.heap.size w w' := by
  have HA := Lib.hid hA
  clear hA
  have hl1 := hL.1
  have hl2 := hL.2
  have hs1 := hsl.1
  have hs2 := hsl.2
  have hwr : IntKind.i64.wrap (L - 1) = L - 1 := IntWalk.i64_in _ (by omega)
  have f52 : Fence.wide.fn 52 := trivial
  have f67 : Fence.wide.fn 67 := trivial
  have f79 : Fence.wide.fn 79 := trivial
  refine (callsIn_wide (n := 6)).1 ?_
  refine callsIn_of_wp_marks Try.func35 rfl trivial ?_ rfl
  simp only [Try.ntmps35, List.size_toArray, List.length_cons, List.length_nil, Nat.reduceAdd, Nat.reduceSub, Array.replicate_succ, Array.replicate_zero, List.push_toArray, List.append_toArray, List.nil_append, List.cons_append]
  gi_wp2_with fail
  have hS0 : OpJ w w.heap.size (w.heap.size + 1) (w.heap.size + 1 + 1) [.int .i64 L, .int .i64 sl, .int .i64 rl, .int .i64 rh, .slice A n cap, .int .i64 wg] [.int .i64 p] [.int .i64 0, .int .i64 0] (((w.alloc (.cells #[.int .i64 L, .int .i64 sl, .int .i64 rl, .int .i64 rh, .slice A n cap, .int .i64 wg] 26)).alloc (.cells #[.int .i64 p] 3)).alloc (.cells #[.int .i64 0, .int .i64 0] 23)) := ⟨((Own.new' _ _ rfl rfl).alloc _).alloc _, (Own.new' _ _ (by simp) rfl).alloc _, Own.new' _ _ (by simp) rfl, by (repeat' (first | (with_reducible exact Below.refl _ _) | (with_reducible assumption) | (with_reducible refine Below.drew ?_) | (with_reducible refine below_drewN ?_ _) | (with_reducible refine Below.setCell ?_ ?_ _) | (with_reducible refine Below.alloc ?_ ?_ _) | (refine Below.trans ?_ (Below.mono (by with_reducible assumption) ?_)) | omega | (exact Below.size (by with_reducible assumption)) | (simp; done) | (simp; omega)))⟩
  refine wpIn_mono (Q := fun e a' w' => e = .normal ∧ ∃ (g : Nat) (er : Int) (u11 u12 u13 u14 u15 u16 u17 u18 u19 u20 : Value), Hid (OpenR L sl rl rh wg ks (btw p 0 (L - 1)) er) ∧ OpJ w w.heap.size (w.heap.size + 1) (w.heap.size + 1 + 1) [.int .i64 L, .int .i64 sl, .int .i64 rl, .int .i64 rh, .slice A n cap, .int .i64 wg] [.int .i64 p] [.int .i64 0, .int .i64 0] w' ∧ Own w' g [.int .i64 L, .int .i64 sl, .int .i64 rl, .int .i64 rh, .slice A n cap, .int .i64 wg, .map none] ∧ (w.heap.size ≤ g ∧ w.heap.size ≠ g ∧ w.heap.size + 1 ≠ g ∧ w.heap.size + 1 + 1 ≠ g) ∧ a' = { tmps := #[.agg #[.int .i64 L, .int .i64 sl, .int .i64 rl, .int .i64 rh, .slice A n cap, .int .i64 wg], .int .i64 p, .pointer (some ⟨w.heap.size, 0, none⟩), .pointer (some ⟨w.heap.size + 1, 0, none⟩), .pointer (some ⟨w.heap.size + 1 + 1, 0, none⟩), .int .i64 0, .pointer (some ⟨g, 0, none⟩), .int .i64 er, undef, undef, undef, u11, u12, u13, u14, u15, u16, u17, u18, u19, u20, undef, undef, undef, undef, undef, undef, undef, undef, undef, undef, undef, undef, undef, undef, undef, undef, undef, undef, undef, undef, undef, undef, undef, undef, undef, undef, undef, undef, undef, undef, undef, undef, undef, undef, undef, undef, undef, undef, undef, undef, undef, undef, undef, undef, undef, undef, undef, undef, undef, undef, undef, undef, undef, undef, undef, undef, undef, undef], defers := [] }) ?_ ?_
  · refine wpIn_wide.2 ?_
    refine rg_start (fun w' => OpJ w w.heap.size (w.heap.size + 1) (w.heap.size + 1 + 1) [.int .i64 L, .int .i64 sl, .int .i64 rl, .int .i64 rh, .slice A n cap, .int .i64 wg] [.int .i64 p] [.int .i64 0, .int .i64 0] w') 13 (by kernel_rfl) rfl ?_
    have hS := hS0.drew
    clear hS0
    generalize World.drew _ = W at hS ⊢
    refine rg_take (fuel := 8) [0, 1, 2, 3, 4] (by kernel_rfl) (by intro _ _ _ _ _ h; cases h.1) rfl (by kernel_rfl) (by kernel_rfl) hS ?_
    simp only [pickL, pick1, List.cons_append, List.nil_append]
    (refine wpTake_cons (v := ?_) (Or.inl ⟨by rfl, ?_⟩) ?_; rotate_left; (intro w' hSw; have yc := hSw.c.c; have yd := hSw.d.c; clear hSw; go_simp; (try with_reducible rfl)); (try simp only [Act.put, List.setIfInBounds_toArray, List.set_cons_zero, List.set_cons_succ]))
    (refine wpTake_cons (v := ?_) (Or.inl ⟨by rfl, ?_⟩) ?_; rotate_left; (intro w' hSw; have yc := hSw.c.c; have yd := hSw.d.c; clear hSw; go_simp; (try with_reducible rfl)); (try simp only [Act.put, List.setIfInBounds_toArray, List.set_cons_zero, List.set_cons_succ]))
    (refine wpTake_cons (v := ?_) (Or.inl ⟨by rfl, ?_⟩) ?_; rotate_left; (intro w' hSw; have yc := hSw.c.c; have yd := hSw.d.c; clear hSw; go_simp; (try with_reducible rfl)); (try simp only [Act.put, List.setIfInBounds_toArray, List.set_cons_zero, List.set_cons_succ]))
    (refine wpTake_cons (v := ?_) (Or.inl ⟨by rfl, ?_⟩) ?_; rotate_left; (intro w' hSw; have yc := hSw.c.c; have yd := hSw.d.c; clear hSw; go_simp; (try with_reducible rfl)); (try simp only [Act.put, List.setIfInBounds_toArray, List.set_cons_zero, List.set_cons_succ]))
    (refine wpTake_cons (v := ?_) (Or.inl ⟨by rfl, ?_⟩) ?_; rotate_left; (intro w' hSw; have yc := hSw.c.c; have yd := hSw.d.c; clear hSw; go_simp; (try with_reducible rfl)); (try simp only [Act.put, List.setIfInBounds_toArray, List.set_cons_zero, List.set_cons_succ]))
    refine wpTake_nil ?_
    refine rg_two (fuel := 7) 5 10 rfl (by kernel_rfl) (by kernel_rfl) ?_ ?_ <;> simp only [pick1, wpHead]
    · intro K' hK
      (first | rw [if_pos (by rfl)] | rw [if_neg (by intro h; cases h)] | skip)
      go_simp
      refine (within66b _ _ _ _).mono ?_
      rintro e W1 ⟨rfl, hb⟩
      go_simp
      replace hS := hS.below hb
      refine hK.out _ _ hS ?_
      clear hK hb
      (try simp only [Act.put, List.setIfInBounds_toArray, List.set_cons_zero, List.set_cons_succ])
      clear W
      refine rg_two (fuel := 6) 6 10 rfl (by kernel_rfl) (by kernel_rfl) ?_ ?_ <;> simp only [pick1, wpHead]
      · intro K' hK
        (first | rw [if_pos (by rfl)] | rw [if_neg (by intro h; cases h)] | skip)
        go_simp
        refine (open50 L sl rl rh wg A n cap ks _ _ (HA.out.below hS.b (Nat.le_refl _)) hn hlen).mono ?_
        rintro e W2 ⟨er, rfl, hO, hb⟩
        go_simp
        replace hS := hS.below hb
        refine hK.out _ _ hS ?_
        clear hK hb
        (try simp only [Act.put, List.setIfInBounds_toArray, List.set_cons_zero, List.set_cons_succ])
        clear W1
        refine rg_take (fuel := 3) [7, 8, 9] (by kernel_rfl) (by intro _ _ _ _ _ h; cases h.1) rfl (by kernel_rfl) (by kernel_rfl) hS ?_
        simp only [pickL, pick1, List.cons_append, List.nil_append]
        (refine wpTake_cons (v := ?_) (Or.inl ⟨by rfl, ?_⟩) ?_; rotate_left; (intro w' hSw; have yc := hSw.c.c; have yd := hSw.d.c; clear hSw; go_simp; (try with_reducible rfl)); (try simp only [Act.put, List.setIfInBounds_toArray, List.set_cons_zero, List.set_cons_succ]))
        (refine wpTake_cons (v := ?_) (Or.inl ⟨by rfl, ?_⟩) ?_; rotate_left; (intro w' hSw; have yc := hSw.c.c; have yd := hSw.d.c; clear hSw; go_simp; (try with_reducible rfl)); (try simp only [Act.put, List.setIfInBounds_toArray, List.set_cons_zero, List.set_cons_succ]))
        (refine wpTake_cons (v := ?_) (Or.inl ⟨by rfl, ?_⟩) ?_; rotate_left; (intro w' hSw; have yc := hSw.c.c; have yd := hSw.d.c; clear hSw; go_simp; (try with_reducible rfl)); (try simp only [Act.put, List.setIfInBounds_toArray, List.set_cons_zero, List.set_cons_succ]))
        refine wpTake_nil ?_
        refine rg_one (fuel := 2) 10 rfl (by kernel_rfl) (by kernel_rfl) ?_
        simp only [pick1, wpHead]
        intro K' hK
        (first | rw [if_pos (by rfl)] | rw [if_neg (by intro h; cases h)] | skip)
        go_simp
        have oB := Own.new (w := W2) #[.int .i64 0, .int .i64 0, .int .i64 0, .int .i64 0, .slice none 0 0, .int .i64 0, .map none] 70
        have hb : Below W2.heap.size W2 (W2.alloc (.cells #[.int .i64 0, .int .i64 0, .int .i64 0, .int .i64 0, .slice none 0 0, .int .i64 0, .map none] 70)) := (Below.refl _ _).alloc (Nat.le_refl _) _
        have hg := hS.fresh
        replace hS := hS.below hb
        refine hK.out _ _ hS ?_
        clear hK hb
        (try simp only [Act.put, List.setIfInBounds_toArray, List.set_cons_zero, List.set_cons_succ])
        generalize World.alloc W2 _ = W3 at hS oB ⊢
        generalize W2.heap.size = g at hg oB ⊢
        clear W2
        refine rg_one (fuel := 1) 11 rfl (by kernel_rfl) (by kernel_rfl) ?_
        simp only [pick1, wpHead]
        intro K' hK
        (first | rw [if_pos (by rfl)] | rw [if_neg (by intro h; cases h)] | skip)
        obtain ⟨lB, kB, fB⟩ := oB
        have oB := Own.mk lB kB fB
        go_simp
        clear lB kB fB
        have oB2 := own_set7 oB rfl (.int .i64 L) (.int .i64 sl) (.int .i64 rl) (.int .i64 rh) (.slice A n cap) (.int .i64 wg) (.map none)
        replace hS := hS.set7 hg (.int .i64 L) (.int .i64 sl) (.int .i64 rl) (.int .i64 rh) (.slice A n cap) (.int .i64 wg) (.map none)
        refine hK.out _ _ hS ?_
        clear hK oB
        (try simp only [Act.put, List.setIfInBounds_toArray, List.set_cons_zero, List.set_cons_succ])
        refine rg_one (fuel := 0) 12 rfl (by kernel_rfl) (by kernel_rfl) ?_
        simp only [pick1, wpHead]
        intro K' hK
        (first | rw [if_pos (by rfl)] | rw [if_neg (by intro h; cases h)] | skip)
        go_simp
        refine hK.out _ _ hS ?_
        clear hK
        (try simp only [Act.put, List.setIfInBounds_toArray, List.set_cons_zero, List.set_cons_succ])
        refine rg_done (by kernel_rfl) ?_
        exact ⟨rfl, _, er, _, _, _, _, _, _, _, _, _, _, hO, hS, oB2, hg, rfl⟩
      · intro K' hK
        (first | rw [if_pos (by rfl)] | rw [if_neg (by intro h; cases h)] | skip)
        go_simp
        have oB := Own.new (w := W1) #[.int .i64 0, .int .i64 0, .int .i64 0, .int .i64 0, .slice none 0 0, .int .i64 0, .map none] 70
        have hb : Below W1.heap.size W1 (W1.alloc (.cells #[.int .i64 0, .int .i64 0, .int .i64 0, .int .i64 0, .slice none 0 0, .int .i64 0, .map none] 70)) := (Below.refl _ _).alloc (Nat.le_refl _) _
        have hg := hS.fresh
        replace hS := hS.below hb
        refine hK.out _ _ hS ?_
        clear hK hb
        (try simp only [Act.put, List.setIfInBounds_toArray, List.set_cons_zero, List.set_cons_succ])
        generalize World.alloc W1 _ = W4 at hS oB ⊢
        generalize W1.heap.size = g at hg oB ⊢
        clear W1
        refine rg_one (fuel := 5) 6 rfl (by kernel_rfl) (by kernel_rfl) ?_
        simp only [pick1, wpHead]
        intro K' hK
        (first | rw [if_pos (by rfl)] | rw [if_neg (by intro h; cases h)] | skip)
        go_simp
        refine (open50 L sl rl rh wg A n cap ks _ _ (HA.out.below hS.b (Nat.le_refl _)) hn hlen).mono ?_
        rintro e W5 ⟨er, rfl, hO, hb⟩
        go_simp
        replace oB := oB.below hb oB.lt
        replace hS := hS.below hb
        refine hK.out _ _ hS ?_
        clear hK hb
        (try simp only [Act.put, List.setIfInBounds_toArray, List.set_cons_zero, List.set_cons_succ])
        clear W4
        refine rg_take (fuel := 2) [7, 8, 9] (by kernel_rfl) (by intro _ _ _ _ _ h; cases h.1) rfl (by kernel_rfl) (by kernel_rfl) hS ?_
        simp only [pickL, pick1, List.cons_append, List.nil_append]
        (refine wpTake_cons (v := ?_) (Or.inl ⟨by rfl, ?_⟩) ?_; rotate_left; (intro w' hSw; have yc := hSw.c.c; have yd := hSw.d.c; clear hSw; go_simp; (try with_reducible rfl)); (try simp only [Act.put, List.setIfInBounds_toArray, List.set_cons_zero, List.set_cons_succ]))
        (refine wpTake_cons (v := ?_) (Or.inl ⟨by rfl, ?_⟩) ?_; rotate_left; (intro w' hSw; have yc := hSw.c.c; have yd := hSw.d.c; clear hSw; go_simp; (try with_reducible rfl)); (try simp only [Act.put, List.setIfInBounds_toArray, List.set_cons_zero, List.set_cons_succ]))
        (refine wpTake_cons (v := ?_) (Or.inl ⟨by rfl, ?_⟩) ?_; rotate_left; (intro w' hSw; have yc := hSw.c.c; have yd := hSw.d.c; clear hSw; go_simp; (try with_reducible rfl)); (try simp only [Act.put, List.setIfInBounds_toArray, List.set_cons_zero, List.set_cons_succ]))
        refine wpTake_nil ?_
        refine rg_one (fuel := 1) 11 rfl (by kernel_rfl) (by kernel_rfl) ?_
        simp only [pick1, wpHead]
        intro K' hK
        (first | rw [if_pos (by rfl)] | rw [if_neg (by intro h; cases h)] | skip)
        obtain ⟨lB, kB, fB⟩ := oB
        have oB := Own.mk lB kB fB
        go_simp
        clear lB kB fB
        have oB2 := own_set7 oB rfl (.int .i64 L) (.int .i64 sl) (.int .i64 rl) (.int .i64 rh) (.slice A n cap) (.int .i64 wg) (.map none)
        replace hS := hS.set7 hg (.int .i64 L) (.int .i64 sl) (.int .i64 rl) (.int .i64 rh) (.slice A n cap) (.int .i64 wg) (.map none)
        refine hK.out _ _ hS ?_
        clear hK oB
        (try simp only [Act.put, List.setIfInBounds_toArray, List.set_cons_zero, List.set_cons_succ])
        refine rg_one (fuel := 0) 12 rfl (by kernel_rfl) (by kernel_rfl) ?_
        simp only [pick1, wpHead]
        intro K' hK
        (first | rw [if_pos (by rfl)] | rw [if_neg (by intro h; cases h)] | skip)
        go_simp
        refine hK.out _ _ hS ?_
        clear hK
        (try simp only [Act.put, List.setIfInBounds_toArray, List.set_cons_zero, List.set_cons_succ])
        refine rg_done (by kernel_rfl) ?_
        exact ⟨rfl, _, er, _, _, _, _, _, _, _, _, _, _, hO, hS, oB2, hg, rfl⟩
    · intro K' hK
      (first | rw [if_pos (by rfl)] | rw [if_neg (by intro h; cases h)] | skip)
      go_simp
      have oB := Own.new (w := W) #[.int .i64 0, .int .i64 0, .int .i64 0, .int .i64 0, .slice none 0 0, .int .i64 0, .map none] 70
      have hb : Below W.heap.size W (W.alloc (.cells #[.int .i64 0, .int .i64 0, .int .i64 0, .int .i64 0, .slice none 0 0, .int .i64 0, .map none] 70)) := (Below.refl _ _).alloc (Nat.le_refl _) _
      have hg := hS.fresh
      replace hS := hS.below hb
      refine hK.out _ _ hS ?_
      clear hK hb
      (try simp only [Act.put, List.setIfInBounds_toArray, List.set_cons_zero, List.set_cons_succ])
      generalize World.alloc W _ = W6 at hS oB ⊢
      generalize W.heap.size = g at hg oB ⊢
      clear W
      refine rg_one (fuel := 6) 5 rfl (by kernel_rfl) (by kernel_rfl) ?_
      simp only [pick1, wpHead]
      intro K' hK
      (first | rw [if_pos (by rfl)] | rw [if_neg (by intro h; cases h)] | skip)
      go_simp
      refine (within66b _ _ _ _).mono ?_
      rintro e W7 ⟨rfl, hb⟩
      go_simp
      replace oB := oB.below hb oB.lt
      replace hS := hS.below hb
      refine hK.out _ _ hS ?_
      clear hK hb
      (try simp only [Act.put, List.setIfInBounds_toArray, List.set_cons_zero, List.set_cons_succ])
      clear W6
      refine rg_one (fuel := 5) 6 rfl (by kernel_rfl) (by kernel_rfl) ?_
      simp only [pick1, wpHead]
      intro K' hK
      (first | rw [if_pos (by rfl)] | rw [if_neg (by intro h; cases h)] | skip)
      go_simp
      refine (open50 L sl rl rh wg A n cap ks _ _ (HA.out.below hS.b (Nat.le_refl _)) hn hlen).mono ?_
      rintro e W8 ⟨er, rfl, hO, hb⟩
      go_simp
      replace oB := oB.below hb oB.lt
      replace hS := hS.below hb
      refine hK.out _ _ hS ?_
      clear hK hb
      (try simp only [Act.put, List.setIfInBounds_toArray, List.set_cons_zero, List.set_cons_succ])
      clear W7
      refine rg_take (fuel := 2) [7, 8, 9] (by kernel_rfl) (by intro _ _ _ _ _ h; cases h.1) rfl (by kernel_rfl) (by kernel_rfl) hS ?_
      simp only [pickL, pick1, List.cons_append, List.nil_append]
      (refine wpTake_cons (v := ?_) (Or.inl ⟨by rfl, ?_⟩) ?_; rotate_left; (intro w' hSw; have yc := hSw.c.c; have yd := hSw.d.c; clear hSw; go_simp; (try with_reducible rfl)); (try simp only [Act.put, List.setIfInBounds_toArray, List.set_cons_zero, List.set_cons_succ]))
      (refine wpTake_cons (v := ?_) (Or.inl ⟨by rfl, ?_⟩) ?_; rotate_left; (intro w' hSw; have yc := hSw.c.c; have yd := hSw.d.c; clear hSw; go_simp; (try with_reducible rfl)); (try simp only [Act.put, List.setIfInBounds_toArray, List.set_cons_zero, List.set_cons_succ]))
      (refine wpTake_cons (v := ?_) (Or.inl ⟨by rfl, ?_⟩) ?_; rotate_left; (intro w' hSw; have yc := hSw.c.c; have yd := hSw.d.c; clear hSw; go_simp; (try with_reducible rfl)); (try simp only [Act.put, List.setIfInBounds_toArray, List.set_cons_zero, List.set_cons_succ]))
      refine wpTake_nil ?_
      refine rg_one (fuel := 1) 11 rfl (by kernel_rfl) (by kernel_rfl) ?_
      simp only [pick1, wpHead]
      intro K' hK
      (first | rw [if_pos (by rfl)] | rw [if_neg (by intro h; cases h)] | skip)
      obtain ⟨lB, kB, fB⟩ := oB
      have oB := Own.mk lB kB fB
      go_simp
      clear lB kB fB
      have oB2 := own_set7 oB rfl (.int .i64 L) (.int .i64 sl) (.int .i64 rl) (.int .i64 rh) (.slice A n cap) (.int .i64 wg) (.map none)
      replace hS := hS.set7 hg (.int .i64 L) (.int .i64 sl) (.int .i64 rl) (.int .i64 rh) (.slice A n cap) (.int .i64 wg) (.map none)
      refine hK.out _ _ hS ?_
      clear hK oB
      (try simp only [Act.put, List.setIfInBounds_toArray, List.set_cons_zero, List.set_cons_succ])
      refine rg_one (fuel := 0) 12 rfl (by kernel_rfl) (by kernel_rfl) ?_
      simp only [pick1, wpHead]
      intro K' hK
      (first | rw [if_pos (by rfl)] | rw [if_neg (by intro h; cases h)] | skip)
      go_simp
      refine hK.out _ _ hS ?_
      clear hK
      (try simp only [Act.put, List.setIfInBounds_toArray, List.set_cons_zero, List.set_cons_succ])
      refine rg_done (by kernel_rfl) ?_
      exact ⟨rfl, _, er, _, _, _, _, _, _, _, _, _, _, hO, hS, oB2, hg, rfl⟩
  · rintro e a' w1 ⟨rfl, g, er, u11, u12, u13, u14, u15, u16, u17, u18, u19, u20, hO, hI, oG, hg, rfl⟩
    (try simp only [Exit.then])
    have oG' := Lib.hid oG
    have hI' := Lib.hid hI
    obtain ⟨lg, kg, fg⟩ := oG
    obtain ⟨l0, k0, f0⟩ := hI.c
    obtain ⟨l1, k1, f1⟩ := hI.d
    obtain ⟨l2, k2, f2⟩ := hI.r
    have hB1 := hI.b
    have hz1 := hB1.size
    clear hI
    by_cases he : er = 0
    · have hz := openR_zero hO.out he
      have hV := Lib.hid hz.1
      have hpb := btw_iff.1 hz.2.1
      have HT := Lib.hid hz.2.2
      clear hz
      obtain ⟨q, rfl⟩ := Int.eq_ofNat_of_zero_le hpb.1
      subst he
      have hqL : q + 1 ≤ (cvOf L sl rl rh wg ks).long := by show q + 1 ≤ L.toNat; omega
      have hr1 := hV.out.r1
      have hr2 := hV.out.r2
      have hcov : Hid ((cvOf L sl rl rh wg ks).rhi < (cvOf L sl rl rh wg ks).rlo + ((rh - rl + 1).toNat : Int)) := by show rh < rl + ((rh - rl + 1).toNat : Int); have := hV.out.r0; omega
      gi_wp2_with (gi_at_call 52; refine (callsIn_wide.2 (heights52 _ _ _ _ _ _ _ _ _)).mono ?_; rintro e w' ⟨rfl, rfl⟩)
      refine wpIn_gen fun W0 hW0 => ?_
      have hB0 : Below w.heap.size w W0 := by rw [hW0]; (repeat' (first | (with_reducible exact Below.refl _ _) | (with_reducible assumption) | (with_reducible refine Below.drew ?_) | (with_reducible refine below_drewN ?_ _) | (with_reducible refine Below.setCell ?_ ?_ _) | (with_reducible refine Below.alloc ?_ ?_ _) | (refine Below.trans ?_ (Below.mono (by with_reducible assumption) ?_)) | omega | (exact Below.size (by with_reducible assumption)) | (simp; done) | (simp; omega)))
      have hsz : W0.heap.size = w1.heap.size + 3 := by rw [hW0]; simp
      have o0 : Own W0 w.heap.size [.int .i64 L, .int .i64 sl, .int .i64 rl, .int .i64 rh, .slice A n cap, .int .i64 wg] := by rw [hW0]; exact ((hI'.out.c.alloc _).alloc _).alloc _
      have o1 : Own W0 (w.heap.size + 1) [.int .i64 q] := by rw [hW0]; exact ((hI'.out.d.alloc _).alloc _).alloc _
      have o2 : Own W0 (w.heap.size + 1 + 1) [.int .i64 0, .int .i64 0] := by rw [hW0]; exact ((hI'.out.r.alloc _).alloc _).alloc _
      have og : Own W0 g [.int .i64 L, .int .i64 sl, .int .i64 rl, .int .i64 rh, .slice A n cap, .int .i64 wg, .map none] := by rw [hW0]; exact ((oG'.out.alloc _).alloc _).alloc _
      have ob : Own W0 w1.heap.size [.int .i64 (sl + 1), .int .i64 (-sl - 1)] := by rw [hW0]; exact ((Own.new' _ _ rfl rfl).alloc _).alloc _
      have o3 : Own W0 (w1.heap.size + 1) [.int .i64 L, .int .i64 sl, .int .i64 rl, .int .i64 rh, .slice A n cap, .int .i64 wg, .map none] := by rw [hW0]; exact (Own.new' _ _ (by simp) rfl).alloc _
      have o4 : Own W0 (w1.heap.size + 1 + 1) [.int .i64 q] := by rw [hW0]; exact Own.new' _ _ (by simp) rfl
      clear hW0
      refine wpIn_rangeFunc_ownG rfl (by omega) (gf := 79) (lb := #[.pointer (some ⟨w1.heap.size + 1, 0, none⟩), .pointer (some ⟨w1.heap.size + 1 + 1, 0, none⟩)]) rfl f79 (enters_of Try.func79 (by kernel_rfl) rfl)
        (stops79 L sl rl rh wg A n cap ks q (w1.heap.size + 1) (w1.heap.size + 1 + 1) w.heap.size W0 5 (by omega) (fun W hW => HA.out.below (hB0.trans hW) (Nat.le_refl _)) hB0.size hn hV (by omega) o3 o4)
        (fun h1 h2 => ⟨h1.1.trans h2.1, h2.2.1.trans h1.2.1, h2.2.2.trans h1.2.2⟩)
        (fun W l o o' hl ho hc hw => ⟨?kb, World.putObj_heap_other (by omega), World.putObj_heap_other (by omega)⟩)
        (Below.refl _ _) (fun _ => rfl)
        (fun pre W => (∃ lo hi, Hid (LI sl (LP0 (cvOf L sl rl rh wg ks) q (pre.map (·.1))) lo hi) ∧ (-21 ≤ lo ∧ lo ≤ 21 ∧ -21 ≤ hi ∧ hi ≤ 21) ∧ Own W w1.heap.size [.int .i64 lo, .int .i64 hi]) ∧ Own W w.heap.size [.int .i64 L, .int .i64 sl, .int .i64 rl, .int .i64 rh, .slice A n cap, .int .i64 wg] ∧ Own W (w.heap.size + 1) [.int .i64 q] ∧ Own W (w.heap.size + 1 + 1) [.int .i64 0, .int .i64 0] ∧ Own W g [.int .i64 L, .int .i64 sl, .int .i64 rl, .int .i64 rh, .slice A n cap, .int .i64 wg, .map none] ∧ W0.heap.size ≤ W.heap.size ∧ Below w.heap.size w W)
        (fun _ _ _ => False)
        ?hI (fun _ _ _ _ _ hs _ _ => hs) ⟨⟨sl + 1, -sl - 1, Or.inl ⟨rfl, rfl, fun r ⟨m, h, _⟩ => by cases h⟩, by omega, ob⟩, o0, o1, o2, og, Nat.le_refl _, hB0⟩ ?act ?assign ?body ?done ?stop
      case kb =>
        have hlt := (Array.getElem?_eq_some_iff.1 ho).1
        exact (Below.refl w.heap.size W).grown (grownBy_putObj' W l o') (by omega) (fun k e => by cases e; omega)
      case hI =>
        rintro s W W' row ⟨⟨lo, hi, hm, hb, hom⟩, hop, ho1, ho2, hog, hsW, hB⟩ hgr hr
        have hrow : ∀ r, row = some r → W0.heap.size ≤ r := fun r e => (hr r e).1
        have hgl := og.lt
        exact ⟨⟨lo, hi, hm, hb, hom.grown hgr (fun e => by have := hrow _ e.symm; omega)⟩, hop.grown hgr (fun e => by have := hrow _ e.symm; omega), ho1.grown hgr (fun e => by have := hrow _ e.symm; omega), ho2.grown hgr (fun e => by have := hrow _ e.symm; omega), hog.grown hgr (fun e => by have := hrow _ e.symm; omega), Nat.le_trans hsW hgr.size, hB.grown hgr hB.size (fun k e => by have := hrow k e; omega)⟩
      case assign =>
        intro l x W K hK
        gi_wp2
        exact hK
      case done =>
        rintro D ys W hD hS ⟨⟨lo, hi, hm, hb, hom⟩, hop, ho1, ho2, hog, hsW, hB⟩ hK
        have hsp : Hid (IsSp (LnP (cvOf L sl rl rh wg ks) q) lo hi) := by
          have h := hm.out
          rw [hS] at h
          exact h.sp q (lp_all hqL hcov.out) HT.out
        have hres : Hid (LeanR L sl rl rh wg ks q lo hi 0) := ⟨hO.out, fun _ => by simpa using hsp.out, fun h => absurd rfl h⟩
        have hom' := Lib.hid hom
        have ho2' := Lib.hid ho2
        obtain ⟨l3, k3, f3⟩ := hom
        obtain ⟨l4, k4, f4⟩ := ho2
        clear l0 k0 f0 l1 k1 f1 l2 k2 f2 lg kg fg
        have hBK : Below w.heap.size w ((W.setCell ⟨w.heap.size + 1 + 1, 0, none⟩ (.int .i64 lo)).setCell ⟨w.heap.size + 1 + 1, 1, none⟩ (.int .i64 hi)) := (hB.setCell (by dsimp only; omega) _).setCell (by dsimp only; omega) _
        have hK' : ((W.setCell ⟨w.heap.size + 1 + 1, 0, none⟩ (.int .i64 lo)).setCell ⟨w.heap.size + 1 + 1, 1, none⟩ (.int .i64 hi)).heap[D]? = some (.deferred (some [])) := (Below.heap_setCell _ _ _ _ (by dsimp only; omega)).trans ((Below.heap_setCell _ _ _ _ (by dsimp only; omega)).trans hK)
        have o6 := Lib.hid ((ho2'.out.set 0 (by simp) (.int .i64 lo)).set 1 (by simp) (.int .i64 hi))
        gi_wp2
        refine ⟨by simp, .inl ⟨_, _, rfl, run_takeDeferred hK', ?_⟩⟩
        exact ⟨_, results_cell (B := w.heap.size + 1 + 1) (vs := [.int .i64 lo, .int .i64 hi]) rfl rfl (o6.out.ofBlock (World.putObj_heap_other (by omega))) (by kernel_rfl) (by kernel_rfl), lo, hi, 0, rfl, hres, hBK.trans (belowK_b (w := w) (Nat.le_refl _) _ D _ _ (by omega) hK' rfl rfl)⟩
      case stop =>
        rintro D c pre W _ _ h _
        exact h.elim
      case body =>
        rintro l pre x W ⟨⟨lo, hi, hm, hb, hom⟩, hop, ho1, ho2, hog, hsW, hB⟩ hlen
        have hx := x.2
        have hom' := Lib.hid hom
        have ho1' := Lib.hid ho1
        have ho2' := Lib.hid ho2
        have hog' := Lib.hid hog
        have hop' := Lib.hid hop
        have hgl := og.lt
        clear l0 k0 f0 l1 k1 f1 l2 k2 f2 lg kg fg
        obtain ⟨l0, k0, f0⟩ := hop
        gi_wp2
        gi_loopw [10] (fun v wr => ∃ (r lo hi : Int), v = .int .i64 r ∧ -sl ≤ r ∧ r ≤ sl + 1 ∧ Hid (LI sl (LP (cvOf L sl rl rh wg ks) q (pre.map (·.1)) x.1 r) lo hi) ∧ (-21 ≤ lo ∧ lo ≤ 21 ∧ -21 ≤ hi ∧ hi ≤ 21) ∧ Own wr w1.heap.size [.int .i64 lo, .int .i64 hi] ∧ Own wr w.heap.size [.int .i64 L, .int .i64 sl, .int .i64 rl, .int .i64 rh, .slice A n cap, .int .i64 wg] ∧ Own wr (w.heap.size + 1) [.int .i64 q] ∧ Own wr (w.heap.size + 1 + 1) [.int .i64 0, .int .i64 0] ∧ Own wr g [.int .i64 L, .int .i64 sl, .int .i64 rl, .int .i64 rh, .slice A n cap, .int .i64 wg, .map none] ∧ W.heap.size ≤ wr.heap.size ∧ Kq W0.heap.size w.heap.size (w1.heap.size + 1) (w1.heap.size + 1 + 1) W wr) (fun v _ => (sl + 1 - iOf v).toNat)
        case atStart => exact ⟨-sl, lo, hi, rfl, by omega, by omega, hm.out.congr (fun r => (lp_start hqL _ _ r).symm), hb, hom'.out, hop'.out, ho1'.out, ho2'.out, hog'.out, Nat.le_refl _, Kq.refl _ _ _ _ _⟩
        case round =>
          clear l0 k0 f0 hom' ho1' ho2' hog' hop' hm hb
          obtain ⟨r, lo, hi, rfl, hr1', hr2', hm, hb, hom, hop, ho1, ho2, hog, hsr, hkq⟩ := hrel
          have hom' := Lib.hid hom
          have ho1' := Lib.hid ho1
          have ho2' := Lib.hid ho2
          have hog' := Lib.hid hog
          have hop' := Lib.hid hop
          clear hom ho1 ho2 hog
          obtain ⟨l0, k0, f0⟩ := hop
          by_cases hlt : r ≤ sl
          · have hBr : Below w.heap.size w wr := hB.trans hkq.p.1
            have hzr := hBr.size
            have hP2 := hI'.out.r.lt
            have hgl1 := oG'.out.lt
            have hw1 : IntKind.i64.wrap ((q : Int) + 1) = (q : Int) + 1 := IntWalk.i64_in _ (by omega)
            have hw2 : IntKind.i64.wrap (x.1 + r) = x.1 + r := IntWalk.i64_in _ (by omega)
            by_cases hc1 : r < lo
            · have hc1' : decide (r < lo) = true := decide_eq_true hc1
              gi_wp2_with fail
              refine region_in (S := fun W' => OpK wr wr.heap.size w1.heap.size g (w.heap.size + 1) [.int .i64 lo, .int .i64 hi] [.int .i64 L, .int .i64 sl, .int .i64 rl, .int .i64 rh, .slice A n cap, .int .i64 wg, .map none] [.int .i64 q] W') 25 (by kernel_rfl) (by kernel_rfl) (by kernel_rfl) (by rintro ⟨a, w, h⟩; exact h) ?_
              have hS : OpK wr wr.heap.size w1.heap.size g (w.heap.size + 1) [.int .i64 lo, .int .i64 hi] [.int .i64 L, .int .i64 sl, .int .i64 rl, .int .i64 rh, .slice A n cap, .int .i64 wg, .map none] [.int .i64 q] wr.drew := ⟨hom'.out.drew, hog'.out.drew, ho1'.out.drew, (Below.refl _ _).drew, Nat.le_refl _⟩
              generalize wr.drew = R0 at hS ⊢
              refine rg_take (fuel := 14) [0, 1, 2, 3, 4, 5, 6, 7, 8, 9, 10] (by kernel_rfl) (by intro _ _ d _ _ h; first | (cases d <;> exact h) | (simp [Exit.then, Exit.inBlock, ownPostG] at h)) rfl (by kernel_rfl) (by kernel_rfl) hS ?_
              simp only [pickL, pick1, List.cons_append, List.nil_append]
              (refine wpTake_cons (v := ?_) (Or.inl ⟨by rfl, ?_⟩) ?_; rotate_left; (intro w' hSw; have yo := hSw.o.c; have yp := hSw.p.c; have yt := hSw.t.c; clear hSw; go_simp; (try with_reducible rfl)); (try simp only [Act.put, List.setIfInBounds_toArray, List.set_cons_zero, List.set_cons_succ]))
              (refine wpTake_cons (v := ?_) (Or.inl ⟨by rfl, ?_⟩) ?_; rotate_left; (intro w' hSw; have yo := hSw.o.c; have yp := hSw.p.c; have yt := hSw.t.c; clear hSw; go_simp; (try with_reducible rfl)); (try simp only [Act.put, List.setIfInBounds_toArray, List.set_cons_zero, List.set_cons_succ]))
              (refine wpTake_cons (v := ?_) (Or.inl ⟨by rfl, ?_⟩) ?_; rotate_left; (intro w' hSw; have yo := hSw.o.c; have yp := hSw.p.c; have yt := hSw.t.c; clear hSw; go_simp; (try with_reducible rfl)); (try simp only [Act.put, List.setIfInBounds_toArray, List.set_cons_zero, List.set_cons_succ]))
              (refine wpTake_cons (v := ?_) (Or.inl ⟨by rfl, ?_⟩) ?_; rotate_left; (intro w' hSw; have yo := hSw.o.c; have yp := hSw.p.c; have yt := hSw.t.c; clear hSw; go_simp; (try with_reducible rfl)); (try simp only [Act.put, List.setIfInBounds_toArray, List.set_cons_zero, List.set_cons_succ]))
              (refine wpTake_cons (v := ?_) (Or.inl ⟨by rfl, ?_⟩) ?_; rotate_left; (intro w' hSw; have yo := hSw.o.c; have yp := hSw.p.c; have yt := hSw.t.c; clear hSw; go_simp; (try with_reducible rfl)); (try simp only [Act.put, List.setIfInBounds_toArray, List.set_cons_zero, List.set_cons_succ]))
              (refine wpTake_cons (v := undef) (Or.inr ⟨by rfl, rfl⟩) ?_; (try simp only [Act.put, List.setIfInBounds_toArray, List.set_cons_zero, List.set_cons_succ]))
              (refine wpTake_cons (v := undef) (Or.inr ⟨by rfl, rfl⟩) ?_; (try simp only [Act.put, List.setIfInBounds_toArray, List.set_cons_zero, List.set_cons_succ]))
              (refine wpTake_cons (v := undef) (Or.inr ⟨by rfl, rfl⟩) ?_; (try simp only [Act.put, List.setIfInBounds_toArray, List.set_cons_zero, List.set_cons_succ]))
              (refine wpTake_cons (v := undef) (Or.inr ⟨by rfl, rfl⟩) ?_; (try simp only [Act.put, List.setIfInBounds_toArray, List.set_cons_zero, List.set_cons_succ]))
              (refine wpTake_cons (v := ?_) (Or.inl ⟨by rfl, ?_⟩) ?_; rotate_left; (intro w' hSw; have yo := hSw.o.c; have yp := hSw.p.c; have yt := hSw.t.c; clear hSw; go_simp; (try with_reducible rfl)); (try simp only [Act.put, List.setIfInBounds_toArray, List.set_cons_zero, List.set_cons_succ]))
              (refine wpTake_cons (v := ?_) (Or.inl ⟨by rfl, ?_⟩) ?_; rotate_left; (intro w' hSw; have yo := hSw.o.c; have yp := hSw.p.c; have yt := hSw.t.c; clear hSw; go_simp; (try with_reducible rfl)); (try simp only [Act.put, List.setIfInBounds_toArray, List.set_cons_zero, List.set_cons_succ]))
              refine wpTake_nil ?_
              refine rg_take (fuel := 6) [11, 13, 14, 16, 17, 18, 19, 20] (by kernel_rfl) (by intro _ _ d _ _ h; first | (cases d <;> exact h) | (simp [Exit.then, Exit.inBlock, ownPostG] at h)) rfl (by kernel_rfl) (by kernel_rfl) hS ?_
              simp only [pickL, pick1, List.cons_append, List.nil_append]
              (refine wpTake_cons (v := ?_) (Or.inl ⟨by rfl, ?_⟩) ?_; rotate_left; (intro w' hSw; have yo := hSw.o.c; have yp := hSw.p.c; have yt := hSw.t.c; clear hSw; go_simp; (try with_reducible rfl)); (try simp only [Act.put, List.setIfInBounds_toArray, List.set_cons_zero, List.set_cons_succ]))
              (refine wpTake_cons (v := ?_) (Or.inl ⟨by rfl, ?_⟩) ?_; rotate_left; (intro w' hSw; have yo := hSw.o.c; have yp := hSw.p.c; have yt := hSw.t.c; clear hSw; go_simp; (try with_reducible rfl)); (try simp only [Act.put, List.setIfInBounds_toArray, List.set_cons_zero, List.set_cons_succ]))
              (refine wpTake_cons (v := ?_) (Or.inl ⟨by rfl, ?_⟩) ?_; rotate_left; (intro w' hSw; have yo := hSw.o.c; have yp := hSw.p.c; have yt := hSw.t.c; clear hSw; go_simp; (try with_reducible rfl)); (try simp only [Act.put, List.setIfInBounds_toArray, List.set_cons_zero, List.set_cons_succ]))
              (refine wpTake_cons (v := ?_) (Or.inl ⟨by rfl, ?_⟩) ?_; rotate_left; (intro w' hSw; have yo := hSw.o.c; have yp := hSw.p.c; have yt := hSw.t.c; clear hSw; go_simp; (try with_reducible rfl)); (try simp only [Act.put, List.setIfInBounds_toArray, List.set_cons_zero, List.set_cons_succ]))
              (refine wpTake_cons (v := ?_) (Or.inl ⟨by rfl, ?_⟩) ?_; rotate_left; (intro w' hSw; have yo := hSw.o.c; have yp := hSw.p.c; have yt := hSw.t.c; clear hSw; go_simp; (try with_reducible rfl)); (try simp only [Act.put, List.setIfInBounds_toArray, List.set_cons_zero, List.set_cons_succ]))
              (refine wpTake_cons (v := ?_) (Or.inl ⟨by rfl, ?_⟩) ?_; rotate_left; (intro w' hSw; have yo := hSw.o.c; have yp := hSw.p.c; have yt := hSw.t.c; clear hSw; go_simp; (try with_reducible rfl)); (try simp only [Act.put, List.setIfInBounds_toArray, List.set_cons_zero, List.set_cons_succ]))
              (refine wpTake_cons (v := ?_) (Or.inl ⟨by rfl, ?_⟩) ?_; rotate_left; (intro w' hSw; have yo := hSw.o.c; have yp := hSw.p.c; have yt := hSw.t.c; clear hSw; go_simp; (try with_reducible rfl)); (try simp only [Act.put, List.setIfInBounds_toArray, List.set_cons_zero, List.set_cons_succ]))
              (refine wpTake_cons (v := ?_) (Or.inl ⟨by rfl, ?_⟩) ?_; rotate_left; (intro w' hSw; have yo := hSw.o.c; have yp := hSw.p.c; have yt := hSw.t.c; clear hSw; go_simp; (try with_reducible rfl)); (try simp only [Act.put, List.setIfInBounds_toArray, List.set_cons_zero, List.set_cons_succ]))
              refine wpTake_nil ?_
              refine rg_one (fuel := 5) 12 rfl (by kernel_rfl) (by kernel_rfl) ?_
              simp only [pick1]
              intro K' hK
              refine step_made (K := K') 68 (by rfl) rfl ?_
              intro mb V1 hM hbm hle
              have hfr := hS.fresh hle
              replace hS := hS.below hbm
              refine hK.out _ _ hS ?_
              clear hK hbm hle
              (try simp only [Act.put, List.setIfInBounds_toArray, List.set_cons_zero, List.set_cons_succ])
              refine rg_two (fuel := 4) 15 21 rfl (by kernel_rfl) (by kernel_rfl) ?_ ?_ <;> simp only [pick1]
              · intro K' hK
                refine step_ins (K := K') (by rfl) (.tmp 58) (.tmp 59) (.tmp 60) 68 rfl Try.underlying68 mb 0 _ rfl hM (by omega) (q : Int) x.1 rfl rfl (Go.WalkArith.wf_i64 (by omega)) (Go.WalkArith.wf_i64 (by omega)) ?_
                intro V' hM2 hg2
                replace hS := hS.grown hg2 hfr
                refine hK.out _ _ hS ?_
                clear hK hg2 hM
                have hM := hM2
                clear hM2
                (try simp only [Act.put, List.setIfInBounds_toArray, List.set_cons_zero, List.set_cons_succ])
                refine rg_one (fuel := 3) 21 rfl (by kernel_rfl) (by kernel_rfl) ?_
                simp only [pick1]
                intro K' hK
                refine step_ins (K := K') (by rfl) (.tmp 58) (.tmp 62) (.tmp 65) 68 rfl Try.underlying68 mb 1 _ rfl hM (by omega) ((q : Int) + 1) (x.1 + r) rfl rfl (Go.WalkArith.wf_i64 (by omega)) (Go.WalkArith.wf_i64 (by omega)) ?_
                intro V' hM2 hg2
                replace hS := hS.grown hg2 hfr
                refine hK.out _ _ hS ?_
                clear hK hg2 hM
                have hM := hM2
                clear hM2
                (try simp only [Act.put, List.setIfInBounds_toArray, List.set_cons_zero, List.set_cons_succ])
                refine rg_take (fuel := 2) [22] (by kernel_rfl) (by intro _ _ d _ _ h; first | (cases d <;> exact h) | (simp [Exit.then, Exit.inBlock, ownPostG] at h)) rfl (by kernel_rfl) (by kernel_rfl) hS ?_
                simp only [pickL, pick1, List.cons_append, List.nil_append]
                (refine wpTake_cons (v := ?_) (Or.inl ⟨by rfl, ?_⟩) ?_; rotate_left; (intro w' hSw; have yo := hSw.o.c; have yp := hSw.p.c; have yt := hSw.t.c; clear hSw; go_simp; (try with_reducible rfl)); (try simp only [Act.put, List.setIfInBounds_toArray, List.set_cons_zero, List.set_cons_succ]))
                refine wpTake_nil ?_
                refine rg_one (fuel := 1) 23 rfl (by kernel_rfl) (by kernel_rfl) ?_
                simp only [pick1]
                intro K' hK
                simp only [wpHead]
                rw [if_pos (by rfl)]
                have hM3 : MapI _ mb 2 (upd (upd (fun _ => none) (q : Int) x.1) ((q : Int) + 1) (x.1 + r)) := hM
                go_simp
                refine (can67 L sl rl rh wg A n cap ks (.map (some mb)) _ (upd (upd (fun _ => none) (q : Int) x.1) ((q : Int) + 1) (x.1 + r)) _ (HA.out.below (hBr.trans (hS.b.mono hzr)) (Nat.le_refl _)) hn (Or.inr ⟨_, _, rfl, hM3⟩) hV).mono ?_
                rintro e V3 ⟨rb, rfl, hrb, hb3⟩
                have hel := Lib.hid (hrb.out.trans (hasT_two (cvOf L sl rl rh wg ks) q hqL x.1 r))
                replace hS := hS.below hb3
                (try go_simp)
                refine hK.out _ _ hS ?_
                clear hK hb3 hM hM3 hrb
                (try simp only [Act.put, List.setIfInBounds_toArray, List.set_cons_zero, List.set_cons_succ])
                cases rb
                · refine rg_take (fuel := 0) [24] (by kernel_rfl) (by intro _ _ d _ _ h; first | (cases d <;> exact h) | (simp [Exit.then, Exit.inBlock, ownPostG] at h)) rfl (by kernel_rfl) (by kernel_rfl) hS ?_
                  simp only [pickL, pick1, List.cons_append, List.nil_append]
                  (refine wpTake_cons (v := ?_) (Or.inl ⟨by rfl, ?_⟩) ?_; rotate_left; (intro w' hSw; have yo := hSw.o.c; have yp := hSw.p.c; have yt := hSw.t.c; clear hSw; go_simp; (try with_reducible rfl)); (try simp only [Act.put, List.setIfInBounds_toArray, List.set_cons_zero, List.set_cons_succ]))
                  refine wpTake_nil ?_
                  refine rg_done (by kernel_rfl) ?_
                  obtain ⟨l6, k6, f6⟩ := hS.o
                  have hkq2 := hkq.below hS.b (by omega) (by omega) (by omega)
                  have hom2 := Lib.hid hS.o
                  have hz2 := hS.z
                  have hop2 := Lib.hid (hop'.out.below hS.b (by omega))
                  have ho12 := Lib.hid (ho1'.out.below hS.b (by omega))
                  have ho22 := Lib.hid (ho2'.out.below hS.b (by omega))
                  have hog2 := Lib.hid (hog'.out.below hS.b (by omega))
                  clear hS hom' hop' ho1' ho2' hog' hkq l0 k0 f0
                  gi_wp2
                  go_roundw
                  case measure => simp only [iOf]; omega
                  case rel => exact ⟨r + 1, lo, hi, by go_num, by omega, by omega, hm.out.congr (fun z => Iff.trans ⟨Or.inl, fun h => h.elim id (fun h => by have := hel.out.2 h.1; cases this)⟩ (lp_step _ _ _ _ _ z).symm), hb, hom2.out, hop2.out, ho12.out, ho22.out, hog2.out, by omega, hkq2⟩
                · refine rg_take (fuel := 0) [24] (by kernel_rfl) (by intro _ _ d _ _ h; first | (cases d <;> exact h) | (simp [Exit.then, Exit.inBlock, ownPostG] at h)) rfl (by kernel_rfl) (by kernel_rfl) hS ?_
                  simp only [pickL, pick1, List.cons_append, List.nil_append]
                  (refine wpTake_cons (v := ?_) (Or.inl ⟨by rfl, ?_⟩) ?_; rotate_left; (intro w' hSw; have yo := hSw.o.c; have yp := hSw.p.c; have yt := hSw.t.c; clear hSw; go_simp; (try with_reducible rfl)); (try simp only [Act.put, List.setIfInBounds_toArray, List.set_cons_zero, List.set_cons_succ]))
                  refine wpTake_nil ?_
                  refine rg_done (by kernel_rfl) ?_
                  obtain ⟨l6, k6, f6⟩ := hS.o
                  have hkq2 := hkq.below hS.b (by omega) (by omega) (by omega)
                  have hom2 := Lib.hid hS.o
                  have hz2 := hS.z
                  have hop2 := Lib.hid (hop'.out.below hS.b (by omega))
                  have ho12 := Lib.hid (ho1'.out.below hS.b (by omega))
                  have ho22 := Lib.hid (ho2'.out.below hS.b (by omega))
                  have hog2 := Lib.hid (hog'.out.below hS.b (by omega))
                  clear hS hom' hop' ho1' ho2' hog' hkq l0 k0 f0
                  gi_wp2
                  all_goals
                    go_roundw
                    case measure => simp only [iOf]; omega
                    case rel =>
                      refine ⟨r + 1, min lo r, max hi r, by go_num, by omega, by omega, hm.out.take (by omega) (fun z => (lp_step _ _ _ _ _ z).trans ⟨fun h => h.imp id (fun h => h.2), fun h => h.imp id (fun h => ⟨hel.out.1 rfl, h⟩)⟩), by omega, Own.cast ((hom2.out.set 0 (by simp) _).set 1 (by simp) _) (by simp; first | (constructor <;> omega) | omega), Own.setOther (Own.setOther hop2.out (by dsimp only; omega) _) (by dsimp only; omega) _, Own.setOther (Own.setOther ho12.out (by dsimp only; omega) _) (by dsimp only; omega) _, Own.setOther (Own.setOther ho22.out (by dsimp only; omega) _) (by dsimp only; omega) _, Own.setOther (Own.setOther hog2.out (by dsimp only; omega) _) (by dsimp only; omega) _, by simp only [World.size_setCell]; omega, (hkq2.set (by omega) (by omega) (by omega) _ _).set (by omega) (by omega) (by omega) _ _⟩
              · intro K' hK
                refine step_ins (K := K') (by rfl) (.tmp 58) (.tmp 62) (.tmp 65) 68 rfl Try.underlying68 mb 0 _ rfl hM (by omega) ((q : Int) + 1) (x.1 + r) rfl rfl (Go.WalkArith.wf_i64 (by omega)) (Go.WalkArith.wf_i64 (by omega)) ?_
                intro V' hM2 hg2
                replace hS := hS.grown hg2 hfr
                refine hK.out _ _ hS ?_
                clear hK hg2 hM
                have hM := hM2
                clear hM2
                (try simp only [Act.put, List.setIfInBounds_toArray, List.set_cons_zero, List.set_cons_succ])
                refine rg_one (fuel := 3) 15 rfl (by kernel_rfl) (by kernel_rfl) ?_
                simp only [pick1]
                intro K' hK
                refine step_ins (K := K') (by rfl) (.tmp 58) (.tmp 59) (.tmp 60) 68 rfl Try.underlying68 mb 1 _ rfl hM (by omega) (q : Int) x.1 rfl rfl (Go.WalkArith.wf_i64 (by omega)) (Go.WalkArith.wf_i64 (by omega)) ?_
                intro V' hM2 hg2
                replace hS := hS.grown hg2 hfr
                refine hK.out _ _ hS ?_
                clear hK hg2 hM
                have hM := hM2
                clear hM2
                (try simp only [Act.put, List.setIfInBounds_toArray, List.set_cons_zero, List.set_cons_succ])
                refine rg_take (fuel := 2) [22] (by kernel_rfl) (by intro _ _ d _ _ h; first | (cases d <;> exact h) | (simp [Exit.then, Exit.inBlock, ownPostG] at h)) rfl (by kernel_rfl) (by kernel_rfl) hS ?_
                simp only [pickL, pick1, List.cons_append, List.nil_append]
                (refine wpTake_cons (v := ?_) (Or.inl ⟨by rfl, ?_⟩) ?_; rotate_left; (intro w' hSw; have yo := hSw.o.c; have yp := hSw.p.c; have yt := hSw.t.c; clear hSw; go_simp; (try with_reducible rfl)); (try simp only [Act.put, List.setIfInBounds_toArray, List.set_cons_zero, List.set_cons_succ]))
                refine wpTake_nil ?_
                refine rg_one (fuel := 1) 23 rfl (by kernel_rfl) (by kernel_rfl) ?_
                simp only [pick1]
                intro K' hK
                simp only [wpHead]
                rw [if_pos (by rfl)]
                have hM3 : MapI _ mb 2 (upd (upd (fun _ => none) (q : Int) x.1) ((q : Int) + 1) (x.1 + r)) := (hM.cast (upd_comm _ _ _))
                go_simp
                refine (can67 L sl rl rh wg A n cap ks (.map (some mb)) _ (upd (upd (fun _ => none) (q : Int) x.1) ((q : Int) + 1) (x.1 + r)) _ (HA.out.below (hBr.trans (hS.b.mono hzr)) (Nat.le_refl _)) hn (Or.inr ⟨_, _, rfl, hM3⟩) hV).mono ?_
                rintro e V3 ⟨rb, rfl, hrb, hb3⟩
                have hel := Lib.hid (hrb.out.trans (hasT_two (cvOf L sl rl rh wg ks) q hqL x.1 r))
                replace hS := hS.below hb3
                (try go_simp)
                refine hK.out _ _ hS ?_
                clear hK hb3 hM hM3 hrb
                (try simp only [Act.put, List.setIfInBounds_toArray, List.set_cons_zero, List.set_cons_succ])
                cases rb
                · refine rg_take (fuel := 0) [24] (by kernel_rfl) (by intro _ _ d _ _ h; first | (cases d <;> exact h) | (simp [Exit.then, Exit.inBlock, ownPostG] at h)) rfl (by kernel_rfl) (by kernel_rfl) hS ?_
                  simp only [pickL, pick1, List.cons_append, List.nil_append]
                  (refine wpTake_cons (v := ?_) (Or.inl ⟨by rfl, ?_⟩) ?_; rotate_left; (intro w' hSw; have yo := hSw.o.c; have yp := hSw.p.c; have yt := hSw.t.c; clear hSw; go_simp; (try with_reducible rfl)); (try simp only [Act.put, List.setIfInBounds_toArray, List.set_cons_zero, List.set_cons_succ]))
                  refine wpTake_nil ?_
                  refine rg_done (by kernel_rfl) ?_
                  obtain ⟨l6, k6, f6⟩ := hS.o
                  have hkq2 := hkq.below hS.b (by omega) (by omega) (by omega)
                  have hom2 := Lib.hid hS.o
                  have hz2 := hS.z
                  have hop2 := Lib.hid (hop'.out.below hS.b (by omega))
                  have ho12 := Lib.hid (ho1'.out.below hS.b (by omega))
                  have ho22 := Lib.hid (ho2'.out.below hS.b (by omega))
                  have hog2 := Lib.hid (hog'.out.below hS.b (by omega))
                  clear hS hom' hop' ho1' ho2' hog' hkq l0 k0 f0
                  gi_wp2
                  go_roundw
                  case measure => simp only [iOf]; omega
                  case rel => exact ⟨r + 1, lo, hi, by go_num, by omega, by omega, hm.out.congr (fun z => Iff.trans ⟨Or.inl, fun h => h.elim id (fun h => by have := hel.out.2 h.1; cases this)⟩ (lp_step _ _ _ _ _ z).symm), hb, hom2.out, hop2.out, ho12.out, ho22.out, hog2.out, by omega, hkq2⟩
                · refine rg_take (fuel := 0) [24] (by kernel_rfl) (by intro _ _ d _ _ h; first | (cases d <;> exact h) | (simp [Exit.then, Exit.inBlock, ownPostG] at h)) rfl (by kernel_rfl) (by kernel_rfl) hS ?_
                  simp only [pickL, pick1, List.cons_append, List.nil_append]
                  (refine wpTake_cons (v := ?_) (Or.inl ⟨by rfl, ?_⟩) ?_; rotate_left; (intro w' hSw; have yo := hSw.o.c; have yp := hSw.p.c; have yt := hSw.t.c; clear hSw; go_simp; (try with_reducible rfl)); (try simp only [Act.put, List.setIfInBounds_toArray, List.set_cons_zero, List.set_cons_succ]))
                  refine wpTake_nil ?_
                  refine rg_done (by kernel_rfl) ?_
                  obtain ⟨l6, k6, f6⟩ := hS.o
                  have hkq2 := hkq.below hS.b (by omega) (by omega) (by omega)
                  have hom2 := Lib.hid hS.o
                  have hz2 := hS.z
                  have hop2 := Lib.hid (hop'.out.below hS.b (by omega))
                  have ho12 := Lib.hid (ho1'.out.below hS.b (by omega))
                  have ho22 := Lib.hid (ho2'.out.below hS.b (by omega))
                  have hog2 := Lib.hid (hog'.out.below hS.b (by omega))
                  clear hS hom' hop' ho1' ho2' hog' hkq l0 k0 f0
                  gi_wp2
                  all_goals
                    go_roundw
                    case measure => simp only [iOf]; omega
                    case rel =>
                      refine ⟨r + 1, min lo r, max hi r, by go_num, by omega, by omega, hm.out.take (by omega) (fun z => (lp_step _ _ _ _ _ z).trans ⟨fun h => h.imp id (fun h => h.2), fun h => h.imp id (fun h => ⟨hel.out.1 rfl, h⟩)⟩), by omega, Own.cast ((hom2.out.set 0 (by simp) _).set 1 (by simp) _) (by simp; first | (constructor <;> omega) | omega), Own.setOther (Own.setOther hop2.out (by dsimp only; omega) _) (by dsimp only; omega) _, Own.setOther (Own.setOther ho12.out (by dsimp only; omega) _) (by dsimp only; omega) _, Own.setOther (Own.setOther ho22.out (by dsimp only; omega) _) (by dsimp only; omega) _, Own.setOther (Own.setOther hog2.out (by dsimp only; omega) _) (by dsimp only; omega) _, by simp only [World.size_setCell]; omega, (hkq2.set (by omega) (by omega) (by omega) _ _).set (by omega) (by omega) (by omega) _ _⟩
            · by_cases hc2 : hi < r
              · have hc1' : decide (r < lo) = false := decide_eq_false hc1
                have hc2' : decide (hi < r) = true := decide_eq_true hc2
                gi_wp2_with fail
                refine region_in (S := fun W' => OpK wr wr.heap.size w1.heap.size g (w.heap.size + 1) [.int .i64 lo, .int .i64 hi] [.int .i64 L, .int .i64 sl, .int .i64 rl, .int .i64 rh, .slice A n cap, .int .i64 wg, .map none] [.int .i64 q] W') 25 (by kernel_rfl) (by kernel_rfl) (by kernel_rfl) (by rintro ⟨a, w, h⟩; exact h) ?_
                have hS : OpK wr wr.heap.size w1.heap.size g (w.heap.size + 1) [.int .i64 lo, .int .i64 hi] [.int .i64 L, .int .i64 sl, .int .i64 rl, .int .i64 rh, .slice A n cap, .int .i64 wg, .map none] [.int .i64 q] wr.drew := ⟨hom'.out.drew, hog'.out.drew, ho1'.out.drew, (Below.refl _ _).drew, Nat.le_refl _⟩
                generalize wr.drew = R0 at hS ⊢
                refine rg_take (fuel := 14) [0, 1, 2, 3, 4, 5, 6, 7, 8, 9, 10] (by kernel_rfl) (by intro _ _ d _ _ h; first | (cases d <;> exact h) | (simp [Exit.then, Exit.inBlock, ownPostG] at h)) rfl (by kernel_rfl) (by kernel_rfl) hS ?_
                simp only [pickL, pick1, List.cons_append, List.nil_append]
                (refine wpTake_cons (v := ?_) (Or.inl ⟨by rfl, ?_⟩) ?_; rotate_left; (intro w' hSw; have yo := hSw.o.c; have yp := hSw.p.c; have yt := hSw.t.c; clear hSw; go_simp; (try with_reducible rfl)); (try simp only [Act.put, List.setIfInBounds_toArray, List.set_cons_zero, List.set_cons_succ]))
                (refine wpTake_cons (v := ?_) (Or.inl ⟨by rfl, ?_⟩) ?_; rotate_left; (intro w' hSw; have yo := hSw.o.c; have yp := hSw.p.c; have yt := hSw.t.c; clear hSw; go_simp; (try with_reducible rfl)); (try simp only [Act.put, List.setIfInBounds_toArray, List.set_cons_zero, List.set_cons_succ]))
                (refine wpTake_cons (v := ?_) (Or.inl ⟨by rfl, ?_⟩) ?_; rotate_left; (intro w' hSw; have yo := hSw.o.c; have yp := hSw.p.c; have yt := hSw.t.c; clear hSw; go_simp; (try with_reducible rfl)); (try simp only [Act.put, List.setIfInBounds_toArray, List.set_cons_zero, List.set_cons_succ]))
                (refine wpTake_cons (v := ?_) (Or.inl ⟨by rfl, ?_⟩) ?_; rotate_left; (intro w' hSw; have yo := hSw.o.c; have yp := hSw.p.c; have yt := hSw.t.c; clear hSw; go_simp; (try with_reducible rfl)); (try simp only [Act.put, List.setIfInBounds_toArray, List.set_cons_zero, List.set_cons_succ]))
                (refine wpTake_cons (v := ?_) (Or.inl ⟨by rfl, ?_⟩) ?_; rotate_left; (intro w' hSw; have yo := hSw.o.c; have yp := hSw.p.c; have yt := hSw.t.c; clear hSw; go_simp; (try with_reducible rfl)); (try simp only [Act.put, List.setIfInBounds_toArray, List.set_cons_zero, List.set_cons_succ]))
                (refine wpTake_cons (v := ?_) (Or.inl ⟨by rfl, ?_⟩) ?_; rotate_left; (intro w' hSw; have yo := hSw.o.c; have yp := hSw.p.c; have yt := hSw.t.c; clear hSw; go_simp; (try with_reducible rfl)); (try simp only [Act.put, List.setIfInBounds_toArray, List.set_cons_zero, List.set_cons_succ]))
                (refine wpTake_cons (v := ?_) (Or.inl ⟨by rfl, ?_⟩) ?_; rotate_left; (intro w' hSw; have yo := hSw.o.c; have yp := hSw.p.c; have yt := hSw.t.c; clear hSw; go_simp; (try with_reducible rfl)); (try simp only [Act.put, List.setIfInBounds_toArray, List.set_cons_zero, List.set_cons_succ]))
                (refine wpTake_cons (v := ?_) (Or.inl ⟨by rfl, ?_⟩) ?_; rotate_left; (intro w' hSw; have yo := hSw.o.c; have yp := hSw.p.c; have yt := hSw.t.c; clear hSw; go_simp; (try with_reducible rfl)); (try simp only [Act.put, List.setIfInBounds_toArray, List.set_cons_zero, List.set_cons_succ]))
                (refine wpTake_cons (v := ?_) (Or.inl ⟨by rfl, ?_⟩) ?_; rotate_left; (intro w' hSw; have yo := hSw.o.c; have yp := hSw.p.c; have yt := hSw.t.c; clear hSw; go_simp; (try with_reducible rfl)); (try simp only [Act.put, List.setIfInBounds_toArray, List.set_cons_zero, List.set_cons_succ]))
                (refine wpTake_cons (v := ?_) (Or.inl ⟨by rfl, ?_⟩) ?_; rotate_left; (intro w' hSw; have yo := hSw.o.c; have yp := hSw.p.c; have yt := hSw.t.c; clear hSw; go_simp; (try with_reducible rfl)); (try simp only [Act.put, List.setIfInBounds_toArray, List.set_cons_zero, List.set_cons_succ]))
                (refine wpTake_cons (v := ?_) (Or.inl ⟨by rfl, ?_⟩) ?_; rotate_left; (intro w' hSw; have yo := hSw.o.c; have yp := hSw.p.c; have yt := hSw.t.c; clear hSw; go_simp; (try with_reducible rfl)); (try simp only [Act.put, List.setIfInBounds_toArray, List.set_cons_zero, List.set_cons_succ]))
                refine wpTake_nil ?_
                refine rg_take (fuel := 6) [11, 13, 14, 16, 17, 18, 19, 20] (by kernel_rfl) (by intro _ _ d _ _ h; first | (cases d <;> exact h) | (simp [Exit.then, Exit.inBlock, ownPostG] at h)) rfl (by kernel_rfl) (by kernel_rfl) hS ?_
                simp only [pickL, pick1, List.cons_append, List.nil_append]
                (refine wpTake_cons (v := ?_) (Or.inl ⟨by rfl, ?_⟩) ?_; rotate_left; (intro w' hSw; have yo := hSw.o.c; have yp := hSw.p.c; have yt := hSw.t.c; clear hSw; go_simp; (try with_reducible rfl)); (try simp only [Act.put, List.setIfInBounds_toArray, List.set_cons_zero, List.set_cons_succ]))
                (refine wpTake_cons (v := ?_) (Or.inl ⟨by rfl, ?_⟩) ?_; rotate_left; (intro w' hSw; have yo := hSw.o.c; have yp := hSw.p.c; have yt := hSw.t.c; clear hSw; go_simp; (try with_reducible rfl)); (try simp only [Act.put, List.setIfInBounds_toArray, List.set_cons_zero, List.set_cons_succ]))
                (refine wpTake_cons (v := ?_) (Or.inl ⟨by rfl, ?_⟩) ?_; rotate_left; (intro w' hSw; have yo := hSw.o.c; have yp := hSw.p.c; have yt := hSw.t.c; clear hSw; go_simp; (try with_reducible rfl)); (try simp only [Act.put, List.setIfInBounds_toArray, List.set_cons_zero, List.set_cons_succ]))
                (refine wpTake_cons (v := ?_) (Or.inl ⟨by rfl, ?_⟩) ?_; rotate_left; (intro w' hSw; have yo := hSw.o.c; have yp := hSw.p.c; have yt := hSw.t.c; clear hSw; go_simp; (try with_reducible rfl)); (try simp only [Act.put, List.setIfInBounds_toArray, List.set_cons_zero, List.set_cons_succ]))
                (refine wpTake_cons (v := ?_) (Or.inl ⟨by rfl, ?_⟩) ?_; rotate_left; (intro w' hSw; have yo := hSw.o.c; have yp := hSw.p.c; have yt := hSw.t.c; clear hSw; go_simp; (try with_reducible rfl)); (try simp only [Act.put, List.setIfInBounds_toArray, List.set_cons_zero, List.set_cons_succ]))
                (refine wpTake_cons (v := ?_) (Or.inl ⟨by rfl, ?_⟩) ?_; rotate_left; (intro w' hSw; have yo := hSw.o.c; have yp := hSw.p.c; have yt := hSw.t.c; clear hSw; go_simp; (try with_reducible rfl)); (try simp only [Act.put, List.setIfInBounds_toArray, List.set_cons_zero, List.set_cons_succ]))
                (refine wpTake_cons (v := ?_) (Or.inl ⟨by rfl, ?_⟩) ?_; rotate_left; (intro w' hSw; have yo := hSw.o.c; have yp := hSw.p.c; have yt := hSw.t.c; clear hSw; go_simp; (try with_reducible rfl)); (try simp only [Act.put, List.setIfInBounds_toArray, List.set_cons_zero, List.set_cons_succ]))
                (refine wpTake_cons (v := ?_) (Or.inl ⟨by rfl, ?_⟩) ?_; rotate_left; (intro w' hSw; have yo := hSw.o.c; have yp := hSw.p.c; have yt := hSw.t.c; clear hSw; go_simp; (try with_reducible rfl)); (try simp only [Act.put, List.setIfInBounds_toArray, List.set_cons_zero, List.set_cons_succ]))
                refine wpTake_nil ?_
                refine rg_one (fuel := 5) 12 rfl (by kernel_rfl) (by kernel_rfl) ?_
                simp only [pick1]
                intro K' hK
                refine step_made (K := K') 68 (by rfl) rfl ?_
                intro mb V1 hM hbm hle
                have hfr := hS.fresh hle
                replace hS := hS.below hbm
                refine hK.out _ _ hS ?_
                clear hK hbm hle
                (try simp only [Act.put, List.setIfInBounds_toArray, List.set_cons_zero, List.set_cons_succ])
                refine rg_two (fuel := 4) 15 21 rfl (by kernel_rfl) (by kernel_rfl) ?_ ?_ <;> simp only [pick1]
                · intro K' hK
                  refine step_ins (K := K') (by rfl) (.tmp 58) (.tmp 59) (.tmp 60) 68 rfl Try.underlying68 mb 0 _ rfl hM (by omega) (q : Int) x.1 rfl rfl (Go.WalkArith.wf_i64 (by omega)) (Go.WalkArith.wf_i64 (by omega)) ?_
                  intro V' hM2 hg2
                  replace hS := hS.grown hg2 hfr
                  refine hK.out _ _ hS ?_
                  clear hK hg2 hM
                  have hM := hM2
                  clear hM2
                  (try simp only [Act.put, List.setIfInBounds_toArray, List.set_cons_zero, List.set_cons_succ])
                  refine rg_one (fuel := 3) 21 rfl (by kernel_rfl) (by kernel_rfl) ?_
                  simp only [pick1]
                  intro K' hK
                  refine step_ins (K := K') (by rfl) (.tmp 58) (.tmp 62) (.tmp 65) 68 rfl Try.underlying68 mb 1 _ rfl hM (by omega) ((q : Int) + 1) (x.1 + r) rfl rfl (Go.WalkArith.wf_i64 (by omega)) (Go.WalkArith.wf_i64 (by omega)) ?_
                  intro V' hM2 hg2
                  replace hS := hS.grown hg2 hfr
                  refine hK.out _ _ hS ?_
                  clear hK hg2 hM
                  have hM := hM2
                  clear hM2
                  (try simp only [Act.put, List.setIfInBounds_toArray, List.set_cons_zero, List.set_cons_succ])
                  refine rg_take (fuel := 2) [22] (by kernel_rfl) (by intro _ _ d _ _ h; first | (cases d <;> exact h) | (simp [Exit.then, Exit.inBlock, ownPostG] at h)) rfl (by kernel_rfl) (by kernel_rfl) hS ?_
                  simp only [pickL, pick1, List.cons_append, List.nil_append]
                  (refine wpTake_cons (v := ?_) (Or.inl ⟨by rfl, ?_⟩) ?_; rotate_left; (intro w' hSw; have yo := hSw.o.c; have yp := hSw.p.c; have yt := hSw.t.c; clear hSw; go_simp; (try with_reducible rfl)); (try simp only [Act.put, List.setIfInBounds_toArray, List.set_cons_zero, List.set_cons_succ]))
                  refine wpTake_nil ?_
                  refine rg_one (fuel := 1) 23 rfl (by kernel_rfl) (by kernel_rfl) ?_
                  simp only [pick1]
                  intro K' hK
                  simp only [wpHead]
                  rw [if_pos (by rfl)]
                  have hM3 : MapI _ mb 2 (upd (upd (fun _ => none) (q : Int) x.1) ((q : Int) + 1) (x.1 + r)) := hM
                  go_simp
                  refine (can67 L sl rl rh wg A n cap ks (.map (some mb)) _ (upd (upd (fun _ => none) (q : Int) x.1) ((q : Int) + 1) (x.1 + r)) _ (HA.out.below (hBr.trans (hS.b.mono hzr)) (Nat.le_refl _)) hn (Or.inr ⟨_, _, rfl, hM3⟩) hV).mono ?_
                  rintro e V3 ⟨rb, rfl, hrb, hb3⟩
                  have hel := Lib.hid (hrb.out.trans (hasT_two (cvOf L sl rl rh wg ks) q hqL x.1 r))
                  replace hS := hS.below hb3
                  (try go_simp)
                  refine hK.out _ _ hS ?_
                  clear hK hb3 hM hM3 hrb
                  (try simp only [Act.put, List.setIfInBounds_toArray, List.set_cons_zero, List.set_cons_succ])
                  cases rb
                  · refine rg_take (fuel := 0) [24] (by kernel_rfl) (by intro _ _ d _ _ h; first | (cases d <;> exact h) | (simp [Exit.then, Exit.inBlock, ownPostG] at h)) rfl (by kernel_rfl) (by kernel_rfl) hS ?_
                    simp only [pickL, pick1, List.cons_append, List.nil_append]
                    (refine wpTake_cons (v := ?_) (Or.inl ⟨by rfl, ?_⟩) ?_; rotate_left; (intro w' hSw; have yo := hSw.o.c; have yp := hSw.p.c; have yt := hSw.t.c; clear hSw; go_simp; (try with_reducible rfl)); (try simp only [Act.put, List.setIfInBounds_toArray, List.set_cons_zero, List.set_cons_succ]))
                    refine wpTake_nil ?_
                    refine rg_done (by kernel_rfl) ?_
                    obtain ⟨l6, k6, f6⟩ := hS.o
                    have hkq2 := hkq.below hS.b (by omega) (by omega) (by omega)
                    have hom2 := Lib.hid hS.o
                    have hz2 := hS.z
                    have hop2 := Lib.hid (hop'.out.below hS.b (by omega))
                    have ho12 := Lib.hid (ho1'.out.below hS.b (by omega))
                    have ho22 := Lib.hid (ho2'.out.below hS.b (by omega))
                    have hog2 := Lib.hid (hog'.out.below hS.b (by omega))
                    clear hS hom' hop' ho1' ho2' hog' hkq l0 k0 f0
                    gi_wp2
                    go_roundw
                    case measure => simp only [iOf]; omega
                    case rel => exact ⟨r + 1, lo, hi, by go_num, by omega, by omega, hm.out.congr (fun z => Iff.trans ⟨Or.inl, fun h => h.elim id (fun h => by have := hel.out.2 h.1; cases this)⟩ (lp_step _ _ _ _ _ z).symm), hb, hom2.out, hop2.out, ho12.out, ho22.out, hog2.out, by omega, hkq2⟩
                  · refine rg_take (fuel := 0) [24] (by kernel_rfl) (by intro _ _ d _ _ h; first | (cases d <;> exact h) | (simp [Exit.then, Exit.inBlock, ownPostG] at h)) rfl (by kernel_rfl) (by kernel_rfl) hS ?_
                    simp only [pickL, pick1, List.cons_append, List.nil_append]
                    (refine wpTake_cons (v := ?_) (Or.inl ⟨by rfl, ?_⟩) ?_; rotate_left; (intro w' hSw; have yo := hSw.o.c; have yp := hSw.p.c; have yt := hSw.t.c; clear hSw; go_simp; (try with_reducible rfl)); (try simp only [Act.put, List.setIfInBounds_toArray, List.set_cons_zero, List.set_cons_succ]))
                    refine wpTake_nil ?_
                    refine rg_done (by kernel_rfl) ?_
                    obtain ⟨l6, k6, f6⟩ := hS.o
                    have hkq2 := hkq.below hS.b (by omega) (by omega) (by omega)
                    have hom2 := Lib.hid hS.o
                    have hz2 := hS.z
                    have hop2 := Lib.hid (hop'.out.below hS.b (by omega))
                    have ho12 := Lib.hid (ho1'.out.below hS.b (by omega))
                    have ho22 := Lib.hid (ho2'.out.below hS.b (by omega))
                    have hog2 := Lib.hid (hog'.out.below hS.b (by omega))
                    clear hS hom' hop' ho1' ho2' hog' hkq l0 k0 f0
                    gi_wp2
                    all_goals
                      go_roundw
                      case measure => simp only [iOf]; omega
                      case rel =>
                        refine ⟨r + 1, min lo r, max hi r, by go_num, by omega, by omega, hm.out.take (by omega) (fun z => (lp_step _ _ _ _ _ z).trans ⟨fun h => h.imp id (fun h => h.2), fun h => h.imp id (fun h => ⟨hel.out.1 rfl, h⟩)⟩), by omega, Own.cast ((hom2.out.set 0 (by simp) _).set 1 (by simp) _) (by simp; first | (constructor <;> omega) | omega), Own.setOther (Own.setOther hop2.out (by dsimp only; omega) _) (by dsimp only; omega) _, Own.setOther (Own.setOther ho12.out (by dsimp only; omega) _) (by dsimp only; omega) _, Own.setOther (Own.setOther ho22.out (by dsimp only; omega) _) (by dsimp only; omega) _, Own.setOther (Own.setOther hog2.out (by dsimp only; omega) _) (by dsimp only; omega) _, by simp only [World.size_setCell]; omega, (hkq2.set (by omega) (by omega) (by omega) _ _).set (by omega) (by omega) (by omega) _ _⟩
                · intro K' hK
                  refine step_ins (K := K') (by rfl) (.tmp 58) (.tmp 62) (.tmp 65) 68 rfl Try.underlying68 mb 0 _ rfl hM (by omega) ((q : Int) + 1) (x.1 + r) rfl rfl (Go.WalkArith.wf_i64 (by omega)) (Go.WalkArith.wf_i64 (by omega)) ?_
                  intro V' hM2 hg2
                  replace hS := hS.grown hg2 hfr
                  refine hK.out _ _ hS ?_
                  clear hK hg2 hM
                  have hM := hM2
                  clear hM2
                  (try simp only [Act.put, List.setIfInBounds_toArray, List.set_cons_zero, List.set_cons_succ])
                  refine rg_one (fuel := 3) 15 rfl (by kernel_rfl) (by kernel_rfl) ?_
                  simp only [pick1]
                  intro K' hK
                  refine step_ins (K := K') (by rfl) (.tmp 58) (.tmp 59) (.tmp 60) 68 rfl Try.underlying68 mb 1 _ rfl hM (by omega) (q : Int) x.1 rfl rfl (Go.WalkArith.wf_i64 (by omega)) (Go.WalkArith.wf_i64 (by omega)) ?_
                  intro V' hM2 hg2
                  replace hS := hS.grown hg2 hfr
                  refine hK.out _ _ hS ?_
                  clear hK hg2 hM
                  have hM := hM2
                  clear hM2
                  (try simp only [Act.put, List.setIfInBounds_toArray, List.set_cons_zero, List.set_cons_succ])
                  refine rg_take (fuel := 2) [22] (by kernel_rfl) (by intro _ _ d _ _ h; first | (cases d <;> exact h) | (simp [Exit.then, Exit.inBlock, ownPostG] at h)) rfl (by kernel_rfl) (by kernel_rfl) hS ?_
                  simp only [pickL, pick1, List.cons_append, List.nil_append]
                  (refine wpTake_cons (v := ?_) (Or.inl ⟨by rfl, ?_⟩) ?_; rotate_left; (intro w' hSw; have yo := hSw.o.c; have yp := hSw.p.c; have yt := hSw.t.c; clear hSw; go_simp; (try with_reducible rfl)); (try simp only [Act.put, List.setIfInBounds_toArray, List.set_cons_zero, List.set_cons_succ]))
                  refine wpTake_nil ?_
                  refine rg_one (fuel := 1) 23 rfl (by kernel_rfl) (by kernel_rfl) ?_
                  simp only [pick1]
                  intro K' hK
                  simp only [wpHead]
                  rw [if_pos (by rfl)]
                  have hM3 : MapI _ mb 2 (upd (upd (fun _ => none) (q : Int) x.1) ((q : Int) + 1) (x.1 + r)) := (hM.cast (upd_comm _ _ _))
                  go_simp
                  refine (can67 L sl rl rh wg A n cap ks (.map (some mb)) _ (upd (upd (fun _ => none) (q : Int) x.1) ((q : Int) + 1) (x.1 + r)) _ (HA.out.below (hBr.trans (hS.b.mono hzr)) (Nat.le_refl _)) hn (Or.inr ⟨_, _, rfl, hM3⟩) hV).mono ?_
                  rintro e V3 ⟨rb, rfl, hrb, hb3⟩
                  have hel := Lib.hid (hrb.out.trans (hasT_two (cvOf L sl rl rh wg ks) q hqL x.1 r))
                  replace hS := hS.below hb3
                  (try go_simp)
                  refine hK.out _ _ hS ?_
                  clear hK hb3 hM hM3 hrb
                  (try simp only [Act.put, List.setIfInBounds_toArray, List.set_cons_zero, List.set_cons_succ])
                  cases rb
                  · refine rg_take (fuel := 0) [24] (by kernel_rfl) (by intro _ _ d _ _ h; first | (cases d <;> exact h) | (simp [Exit.then, Exit.inBlock, ownPostG] at h)) rfl (by kernel_rfl) (by kernel_rfl) hS ?_
                    simp only [pickL, pick1, List.cons_append, List.nil_append]
                    (refine wpTake_cons (v := ?_) (Or.inl ⟨by rfl, ?_⟩) ?_; rotate_left; (intro w' hSw; have yo := hSw.o.c; have yp := hSw.p.c; have yt := hSw.t.c; clear hSw; go_simp; (try with_reducible rfl)); (try simp only [Act.put, List.setIfInBounds_toArray, List.set_cons_zero, List.set_cons_succ]))
                    refine wpTake_nil ?_
                    refine rg_done (by kernel_rfl) ?_
                    obtain ⟨l6, k6, f6⟩ := hS.o
                    have hkq2 := hkq.below hS.b (by omega) (by omega) (by omega)
                    have hom2 := Lib.hid hS.o
                    have hz2 := hS.z
                    have hop2 := Lib.hid (hop'.out.below hS.b (by omega))
                    have ho12 := Lib.hid (ho1'.out.below hS.b (by omega))
                    have ho22 := Lib.hid (ho2'.out.below hS.b (by omega))
                    have hog2 := Lib.hid (hog'.out.below hS.b (by omega))
                    clear hS hom' hop' ho1' ho2' hog' hkq l0 k0 f0
                    gi_wp2
                    go_roundw
                    case measure => simp only [iOf]; omega
                    case rel => exact ⟨r + 1, lo, hi, by go_num, by omega, by omega, hm.out.congr (fun z => Iff.trans ⟨Or.inl, fun h => h.elim id (fun h => by have := hel.out.2 h.1; cases this)⟩ (lp_step _ _ _ _ _ z).symm), hb, hom2.out, hop2.out, ho12.out, ho22.out, hog2.out, by omega, hkq2⟩
                  · refine rg_take (fuel := 0) [24] (by kernel_rfl) (by intro _ _ d _ _ h; first | (cases d <;> exact h) | (simp [Exit.then, Exit.inBlock, ownPostG] at h)) rfl (by kernel_rfl) (by kernel_rfl) hS ?_
                    simp only [pickL, pick1, List.cons_append, List.nil_append]
                    (refine wpTake_cons (v := ?_) (Or.inl ⟨by rfl, ?_⟩) ?_; rotate_left; (intro w' hSw; have yo := hSw.o.c; have yp := hSw.p.c; have yt := hSw.t.c; clear hSw; go_simp; (try with_reducible rfl)); (try simp only [Act.put, List.setIfInBounds_toArray, List.set_cons_zero, List.set_cons_succ]))
                    refine wpTake_nil ?_
                    refine rg_done (by kernel_rfl) ?_
                    obtain ⟨l6, k6, f6⟩ := hS.o
                    have hkq2 := hkq.below hS.b (by omega) (by omega) (by omega)
                    have hom2 := Lib.hid hS.o
                    have hz2 := hS.z
                    have hop2 := Lib.hid (hop'.out.below hS.b (by omega))
                    have ho12 := Lib.hid (ho1'.out.below hS.b (by omega))
                    have ho22 := Lib.hid (ho2'.out.below hS.b (by omega))
                    have hog2 := Lib.hid (hog'.out.below hS.b (by omega))
                    clear hS hom' hop' ho1' ho2' hog' hkq l0 k0 f0
                    gi_wp2
                    all_goals
                      go_roundw
                      case measure => simp only [iOf]; omega
                      case rel =>
                        refine ⟨r + 1, min lo r, max hi r, by go_num, by omega, by omega, hm.out.take (by omega) (fun z => (lp_step _ _ _ _ _ z).trans ⟨fun h => h.imp id (fun h => h.2), fun h => h.imp id (fun h => ⟨hel.out.1 rfl, h⟩)⟩), by omega, Own.cast ((hom2.out.set 0 (by simp) _).set 1 (by simp) _) (by simp; first | (constructor <;> omega) | omega), Own.setOther (Own.setOther hop2.out (by dsimp only; omega) _) (by dsimp only; omega) _, Own.setOther (Own.setOther ho12.out (by dsimp only; omega) _) (by dsimp only; omega) _, Own.setOther (Own.setOther ho22.out (by dsimp only; omega) _) (by dsimp only; omega) _, Own.setOther (Own.setOther hog2.out (by dsimp only; omega) _) (by dsimp only; omega) _, by simp only [World.size_setCell]; omega, (hkq2.set (by omega) (by omega) (by omega) _ _).set (by omega) (by omega) (by omega) _ _⟩
              · have hc1' : decide (r < lo) = false := decide_eq_false hc1
                have hc2' : decide (hi < r) = false := decide_eq_false hc2
                gi_wp2_with fail
                refine region_in (S := fun W' => OpK wr wr.heap.size w1.heap.size g (w.heap.size + 1) [.int .i64 lo, .int .i64 hi] [.int .i64 L, .int .i64 sl, .int .i64 rl, .int .i64 rh, .slice A n cap, .int .i64 wg, .map none] [.int .i64 q] W') 25 (by kernel_rfl) (by kernel_rfl) (by kernel_rfl) (by rintro ⟨a, w, h⟩; exact h) ?_
                have hS : OpK wr wr.heap.size w1.heap.size g (w.heap.size + 1) [.int .i64 lo, .int .i64 hi] [.int .i64 L, .int .i64 sl, .int .i64 rl, .int .i64 rh, .slice A n cap, .int .i64 wg, .map none] [.int .i64 q] wr.drew := ⟨hom'.out.drew, hog'.out.drew, ho1'.out.drew, (Below.refl _ _).drew, Nat.le_refl _⟩
                generalize wr.drew = R0 at hS ⊢
                refine rg_take (fuel := 14) [0, 1, 2, 3, 4, 5, 6, 7, 8, 9, 10] (by kernel_rfl) (by intro _ _ d _ _ h; first | (cases d <;> exact h) | (simp [Exit.then, Exit.inBlock, ownPostG] at h)) rfl (by kernel_rfl) (by kernel_rfl) hS ?_
                simp only [pickL, pick1, List.cons_append, List.nil_append]
                (refine wpTake_cons (v := ?_) (Or.inl ⟨by rfl, ?_⟩) ?_; rotate_left; (intro w' hSw; have yo := hSw.o.c; have yp := hSw.p.c; have yt := hSw.t.c; clear hSw; go_simp; (try with_reducible rfl)); (try simp only [Act.put, List.setIfInBounds_toArray, List.set_cons_zero, List.set_cons_succ]))
                (refine wpTake_cons (v := ?_) (Or.inl ⟨by rfl, ?_⟩) ?_; rotate_left; (intro w' hSw; have yo := hSw.o.c; have yp := hSw.p.c; have yt := hSw.t.c; clear hSw; go_simp; (try with_reducible rfl)); (try simp only [Act.put, List.setIfInBounds_toArray, List.set_cons_zero, List.set_cons_succ]))
                (refine wpTake_cons (v := ?_) (Or.inl ⟨by rfl, ?_⟩) ?_; rotate_left; (intro w' hSw; have yo := hSw.o.c; have yp := hSw.p.c; have yt := hSw.t.c; clear hSw; go_simp; (try with_reducible rfl)); (try simp only [Act.put, List.setIfInBounds_toArray, List.set_cons_zero, List.set_cons_succ]))
                (refine wpTake_cons (v := ?_) (Or.inl ⟨by rfl, ?_⟩) ?_; rotate_left; (intro w' hSw; have yo := hSw.o.c; have yp := hSw.p.c; have yt := hSw.t.c; clear hSw; go_simp; (try with_reducible rfl)); (try simp only [Act.put, List.setIfInBounds_toArray, List.set_cons_zero, List.set_cons_succ]))
                (refine wpTake_cons (v := ?_) (Or.inl ⟨by rfl, ?_⟩) ?_; rotate_left; (intro w' hSw; have yo := hSw.o.c; have yp := hSw.p.c; have yt := hSw.t.c; clear hSw; go_simp; (try with_reducible rfl)); (try simp only [Act.put, List.setIfInBounds_toArray, List.set_cons_zero, List.set_cons_succ]))
                (refine wpTake_cons (v := ?_) (Or.inl ⟨by rfl, ?_⟩) ?_; rotate_left; (intro w' hSw; have yo := hSw.o.c; have yp := hSw.p.c; have yt := hSw.t.c; clear hSw; go_simp; (try with_reducible rfl)); (try simp only [Act.put, List.setIfInBounds_toArray, List.set_cons_zero, List.set_cons_succ]))
                (refine wpTake_cons (v := ?_) (Or.inl ⟨by rfl, ?_⟩) ?_; rotate_left; (intro w' hSw; have yo := hSw.o.c; have yp := hSw.p.c; have yt := hSw.t.c; clear hSw; go_simp; (try with_reducible rfl)); (try simp only [Act.put, List.setIfInBounds_toArray, List.set_cons_zero, List.set_cons_succ]))
                (refine wpTake_cons (v := ?_) (Or.inl ⟨by rfl, ?_⟩) ?_; rotate_left; (intro w' hSw; have yo := hSw.o.c; have yp := hSw.p.c; have yt := hSw.t.c; clear hSw; go_simp; (try with_reducible rfl)); (try simp only [Act.put, List.setIfInBounds_toArray, List.set_cons_zero, List.set_cons_succ]))
                (refine wpTake_cons (v := ?_) (Or.inl ⟨by rfl, ?_⟩) ?_; rotate_left; (intro w' hSw; have yo := hSw.o.c; have yp := hSw.p.c; have yt := hSw.t.c; clear hSw; go_simp; (try with_reducible rfl)); (try simp only [Act.put, List.setIfInBounds_toArray, List.set_cons_zero, List.set_cons_succ]))
                (refine wpTake_cons (v := ?_) (Or.inl ⟨by rfl, ?_⟩) ?_; rotate_left; (intro w' hSw; have yo := hSw.o.c; have yp := hSw.p.c; have yt := hSw.t.c; clear hSw; go_simp; (try with_reducible rfl)); (try simp only [Act.put, List.setIfInBounds_toArray, List.set_cons_zero, List.set_cons_succ]))
                (refine wpTake_cons (v := ?_) (Or.inl ⟨by rfl, ?_⟩) ?_; rotate_left; (intro w' hSw; have yo := hSw.o.c; have yp := hSw.p.c; have yt := hSw.t.c; clear hSw; go_simp; (try with_reducible rfl)); (try simp only [Act.put, List.setIfInBounds_toArray, List.set_cons_zero, List.set_cons_succ]))
                refine wpTake_nil ?_
                refine rg_take (fuel := 6) [11, 13, 14, 16, 17, 18, 19, 20] (by kernel_rfl) (by intro _ _ d _ _ h; first | (cases d <;> exact h) | (simp [Exit.then, Exit.inBlock, ownPostG] at h)) rfl (by kernel_rfl) (by kernel_rfl) hS ?_
                simp only [pickL, pick1, List.cons_append, List.nil_append]
                (refine wpTake_cons (v := undef) (Or.inr ⟨by rfl, rfl⟩) ?_; (try simp only [Act.put, List.setIfInBounds_toArray, List.set_cons_zero, List.set_cons_succ]))
                (refine wpTake_cons (v := undef) (Or.inr ⟨by rfl, rfl⟩) ?_; (try simp only [Act.put, List.setIfInBounds_toArray, List.set_cons_zero, List.set_cons_succ]))
                (refine wpTake_cons (v := undef) (Or.inr ⟨by rfl, rfl⟩) ?_; (try simp only [Act.put, List.setIfInBounds_toArray, List.set_cons_zero, List.set_cons_succ]))
                (refine wpTake_cons (v := undef) (Or.inr ⟨by rfl, rfl⟩) ?_; (try simp only [Act.put, List.setIfInBounds_toArray, List.set_cons_zero, List.set_cons_succ]))
                (refine wpTake_cons (v := undef) (Or.inr ⟨by rfl, rfl⟩) ?_; (try simp only [Act.put, List.setIfInBounds_toArray, List.set_cons_zero, List.set_cons_succ]))
                (refine wpTake_cons (v := undef) (Or.inr ⟨by rfl, rfl⟩) ?_; (try simp only [Act.put, List.setIfInBounds_toArray, List.set_cons_zero, List.set_cons_succ]))
                (refine wpTake_cons (v := undef) (Or.inr ⟨by rfl, rfl⟩) ?_; (try simp only [Act.put, List.setIfInBounds_toArray, List.set_cons_zero, List.set_cons_succ]))
                (refine wpTake_cons (v := undef) (Or.inr ⟨by rfl, rfl⟩) ?_; (try simp only [Act.put, List.setIfInBounds_toArray, List.set_cons_zero, List.set_cons_succ]))
                refine wpTake_nil ?_
                refine rg_one (fuel := 5) 12 rfl (by kernel_rfl) (by kernel_rfl) ?_
                simp only [pick1]
                intro K' hK
                simp only [wpHead]
                rw [if_neg (by intro h; cases h)]
                refine hK.out _ _ hS ?_
                clear hK
                (try simp only [Act.put, List.setIfInBounds_toArray, List.set_cons_zero, List.set_cons_succ])
                refine rg_two (fuel := 4) 15 21 rfl (by kernel_rfl) (by kernel_rfl) ?_ ?_ <;> simp only [pick1]
                · intro K' hK
                  simp only [wpHead]
                  rw [if_neg (by intro h; cases h)]
                  refine hK.out _ _ hS ?_
                  clear hK
                  (try simp only [Act.put, List.setIfInBounds_toArray, List.set_cons_zero, List.set_cons_succ])
                  refine rg_one (fuel := 3) 21 rfl (by kernel_rfl) (by kernel_rfl) ?_
                  simp only [pick1]
                  intro K' hK
                  simp only [wpHead]
                  rw [if_neg (by intro h; cases h)]
                  refine hK.out _ _ hS ?_
                  clear hK
                  (try simp only [Act.put, List.setIfInBounds_toArray, List.set_cons_zero, List.set_cons_succ])
                  refine rg_take (fuel := 2) [22] (by kernel_rfl) (by intro _ _ d _ _ h; first | (cases d <;> exact h) | (simp [Exit.then, Exit.inBlock, ownPostG] at h)) rfl (by kernel_rfl) (by kernel_rfl) hS ?_
                  simp only [pickL, pick1, List.cons_append, List.nil_append]
                  (refine wpTake_cons (v := undef) (Or.inr ⟨by rfl, rfl⟩) ?_; (try simp only [Act.put, List.setIfInBounds_toArray, List.set_cons_zero, List.set_cons_succ]))
                  refine wpTake_nil ?_
                  refine rg_one (fuel := 1) 23 rfl (by kernel_rfl) (by kernel_rfl) ?_
                  simp only [pick1]
                  intro K' hK
                  simp only [wpHead]
                  rw [if_neg (by intro h; cases h)]
                  refine hK.out _ _ hS ?_
                  clear hK
                  (try simp only [Act.put, List.setIfInBounds_toArray, List.set_cons_zero, List.set_cons_succ])
                  refine rg_take (fuel := 0) [24] (by kernel_rfl) (by intro _ _ d _ _ h; first | (cases d <;> exact h) | (simp [Exit.then, Exit.inBlock, ownPostG] at h)) rfl (by kernel_rfl) (by kernel_rfl) hS ?_
                  simp only [pickL, pick1, List.cons_append, List.nil_append]
                  (refine wpTake_cons (v := ?_) (Or.inl ⟨by rfl, ?_⟩) ?_; rotate_left; (intro w' hSw; have yo := hSw.o.c; have yp := hSw.p.c; have yt := hSw.t.c; clear hSw; go_simp; (try with_reducible rfl)); (try simp only [Act.put, List.setIfInBounds_toArray, List.set_cons_zero, List.set_cons_succ]))
                  refine wpTake_nil ?_
                  refine rg_done (by kernel_rfl) ?_
                  obtain ⟨l6, k6, f6⟩ := hS.o
                  have hkq2 := hkq.below hS.b (by omega) (by omega) (by omega)
                  have hom2 := Lib.hid hS.o
                  have hz2 := hS.z
                  have hop2 := Lib.hid (hop'.out.below hS.b (by omega))
                  have ho12 := Lib.hid (ho1'.out.below hS.b (by omega))
                  have ho22 := Lib.hid (ho2'.out.below hS.b (by omega))
                  have hog2 := Lib.hid (hog'.out.below hS.b (by omega))
                  clear hS hom' hop' ho1' ho2' hog' hkq l0 k0 f0
                  gi_wp2
                  go_roundw
                  case measure => simp only [iOf]; omega
                  case rel => exact ⟨r + 1, lo, hi, by go_num, by omega, by omega, hm.out.skip ⟨by omega, by omega⟩ ⟨by omega, by omega⟩ (fun z h => (lp_step _ _ _ _ _ z).2 (Or.inl h)) (fun z h => ((lp_step _ _ _ _ _ z).1 h).imp id (fun h => h.2)), hb, hom2.out, hop2.out, ho12.out, ho22.out, hog2.out, by omega, hkq2⟩
                · intro K' hK
                  simp only [wpHead]
                  rw [if_neg (by intro h; cases h)]
                  refine hK.out _ _ hS ?_
                  clear hK
                  (try simp only [Act.put, List.setIfInBounds_toArray, List.set_cons_zero, List.set_cons_succ])
                  refine rg_one (fuel := 3) 15 rfl (by kernel_rfl) (by kernel_rfl) ?_
                  simp only [pick1]
                  intro K' hK
                  simp only [wpHead]
                  rw [if_neg (by intro h; cases h)]
                  refine hK.out _ _ hS ?_
                  clear hK
                  (try simp only [Act.put, List.setIfInBounds_toArray, List.set_cons_zero, List.set_cons_succ])
                  refine rg_take (fuel := 2) [22] (by kernel_rfl) (by intro _ _ d _ _ h; first | (cases d <;> exact h) | (simp [Exit.then, Exit.inBlock, ownPostG] at h)) rfl (by kernel_rfl) (by kernel_rfl) hS ?_
                  simp only [pickL, pick1, List.cons_append, List.nil_append]
                  (refine wpTake_cons (v := undef) (Or.inr ⟨by rfl, rfl⟩) ?_; (try simp only [Act.put, List.setIfInBounds_toArray, List.set_cons_zero, List.set_cons_succ]))
                  refine wpTake_nil ?_
                  refine rg_one (fuel := 1) 23 rfl (by kernel_rfl) (by kernel_rfl) ?_
                  simp only [pick1]
                  intro K' hK
                  simp only [wpHead]
                  rw [if_neg (by intro h; cases h)]
                  refine hK.out _ _ hS ?_
                  clear hK
                  (try simp only [Act.put, List.setIfInBounds_toArray, List.set_cons_zero, List.set_cons_succ])
                  refine rg_take (fuel := 0) [24] (by kernel_rfl) (by intro _ _ d _ _ h; first | (cases d <;> exact h) | (simp [Exit.then, Exit.inBlock, ownPostG] at h)) rfl (by kernel_rfl) (by kernel_rfl) hS ?_
                  simp only [pickL, pick1, List.cons_append, List.nil_append]
                  (refine wpTake_cons (v := ?_) (Or.inl ⟨by rfl, ?_⟩) ?_; rotate_left; (intro w' hSw; have yo := hSw.o.c; have yp := hSw.p.c; have yt := hSw.t.c; clear hSw; go_simp; (try with_reducible rfl)); (try simp only [Act.put, List.setIfInBounds_toArray, List.set_cons_zero, List.set_cons_succ]))
                  refine wpTake_nil ?_
                  refine rg_done (by kernel_rfl) ?_
                  obtain ⟨l6, k6, f6⟩ := hS.o
                  have hkq2 := hkq.below hS.b (by omega) (by omega) (by omega)
                  have hom2 := Lib.hid hS.o
                  have hz2 := hS.z
                  have hop2 := Lib.hid (hop'.out.below hS.b (by omega))
                  have ho12 := Lib.hid (ho1'.out.below hS.b (by omega))
                  have ho22 := Lib.hid (ho2'.out.below hS.b (by omega))
                  have hog2 := Lib.hid (hog'.out.below hS.b (by omega))
                  clear hS hom' hop' ho1' ho2' hog' hkq l0 k0 f0
                  gi_wp2
                  go_roundw
                  case measure => simp only [iOf]; omega
                  case rel => exact ⟨r + 1, lo, hi, by go_num, by omega, by omega, hm.out.skip ⟨by omega, by omega⟩ ⟨by omega, by omega⟩ (fun z h => (lp_step _ _ _ _ _ z).2 (Or.inl h)) (fun z h => ((lp_step _ _ _ _ _ z).1 h).imp id (fun h => h.2)), hb, hom2.out, hop2.out, ho12.out, ho22.out, hog2.out, by omega, hkq2⟩
          · obtain rfl : r = sl + 1 := by omega
            gi_wp2
            simp only [ownPostG]
            refine ⟨by rw [← hsz]; exact hkq.k, hkq.p, ⟨lo, hi, ?_, hb, hom'.out⟩, hop'.out, ho1'.out, ho2'.out, hog'.out, by omega, hB.trans (hkq.p.1)⟩
            show LI sl (LP0 _ q ((pre ++ [x]).map (fun z => z.1))) _ _
            rw [List.map_append]
            exact hm.out.congr (fun r => lp_end hqL _ _ r)
    · have hres : Hid (LeanR L sl rl rh wg ks p 0 0 er) := ⟨hO.out, fun h => absurd h he, fun _ => ⟨rfl, rfl⟩⟩
      have o2 := Lib.hid (Own.mk l2 k2 f2)
      gi_wp2_with fail
      exact ⟨_, results_cell (B := w.heap.size + 1 + 1) (vs := [.int .i64 0, .int .i64 0]) rfl rfl ((o2.out.set 0 (by simp) _).set 1 (by simp) _) (by kernel_rfl) (by kernel_rfl), 0, 0, er, rfl, hres, by (repeat' (first | (with_reducible exact Below.refl _ _) | (with_reducible assumption) | (with_reducible refine Below.drew ?_) | (with_reducible refine below_drewN ?_ _) | (with_reducible refine Below.setCell ?_ ?_ _) | (with_reducible refine Below.alloc ?_ ?_ _) | (refine Below.trans ?_ (Below.mono (by with_reducible assumption) ?_)) | omega | (exact Below.size (by with_reducible assumption)) | (simp; done) | (simp; omega)))⟩
end Go.Proofs.Ytphcpphmoeiioaa
