/- Walks: Integral of the reference. -/
import Derived.Test.YtphcpphmoeiioaaRhW
namespace Go.Proofs.Ytphcpphmoeiioaa
open Go.RowKit Go.Maps

theorem within71v (n lo hi : Int) (w : World) : Calls Try.prog 71 #[.int .i64 n, .int .i64 lo, .int .i64 hi] w fun e w' => e = .returned (.bool (btw n lo hi)) ∧ Below w.heap.size w w' :=
  (within71 n lo hi w).mono fun _ _ ⟨h1, h2⟩ => ⟨h1, h2 ▸ Below.refl _ _⟩
set_option maxHeartbeats 2000000 in
theorem areEnds58 (L sl rl rh wg : Int) (S : Value) (a b : Int) (w : World) :
    Calls Try.prog 58 #[.agg #[.int .i64 L, .int .i64 sl, .int .i64 rl, .int .i64 rh, S, .int .i64 wg], .int .i64 a, .int .i64 b] w fun e w' => e = .returned (.bool (btw a 0 L && btw b a L)) ∧ Below w.heap.size w w' := by
  cases h : btw a 0 L
  · go_enter Try.func58, Try.ntmps58
    go_wp2_with fail
    refine (isPlace73 _ _ _ _ _ _ _ _).mono ?_
    rw [h]
    rintro e w1 ⟨rfl, hb1⟩
    have hB1 : Below w.heap.size w w1 := by (repeat' (first | (with_reducible exact Below.refl _ _) | (with_reducible assumption) | (with_reducible refine Below.drew ?_) | (with_reducible refine below_drewN ?_ _) | (with_reducible refine Below.setCell ?_ ?_ _) | (with_reducible refine Below.alloc ?_ ?_ _) | (refine Below.trans ?_ (Below.mono (by with_reducible assumption) ?_)) | omega | (exact Below.size (by with_reducible assumption)) | (simp; done) | (simp; omega)))
    clear hb1
    go_wp2
    go_ret
    exact ⟨rfl, hB1⟩
  · go_enter Try.func58, Try.ntmps58
    go_wp2_with fail
    refine (isPlace73 _ _ _ _ _ _ _ _).mono ?_
    rw [h]
    rintro e w1 ⟨rfl, hb1⟩
    have hB1 : Below w.heap.size w w1 := by (repeat' (first | (with_reducible exact Below.refl _ _) | (with_reducible assumption) | (with_reducible refine Below.drew ?_) | (with_reducible refine below_drewN ?_ _) | (with_reducible refine Below.setCell ?_ ?_ _) | (with_reducible refine Below.alloc ?_ ?_ _) | (refine Below.trans ?_ (Below.mono (by with_reducible assumption) ?_)) | omega | (exact Below.size (by with_reducible assumption)) | (simp; done) | (simp; omega)))
    have o1 := (Own.new' (w := w) (b := w.heap.size) #[.int .i64 L, .int .i64 sl, .int .i64 rl, .int .i64 rh, S, .int .i64 wg] 26 rfl rfl).below hb1 (by simp)
    clear hb1
    obtain ⟨l1, k1, f1⟩ := o1
    go_wp2_with fail
    refine (within71v _ _ _ _).mono ?_
    rintro e w2 ⟨rfl, hb2⟩
    have hB2 := hB1.trans (hb2.mono hB1.size)
    clear hb2 l1 k1 f1
    go_wp2
    go_ret
    exact ⟨by simp, hB2⟩
theorem ends_eq {L a b : Int} : (btw a 0 L && btw b a L) = (btw a 0 L && btw b 0 L && decide (a ≤ b)) := by
  rw [Bool.eq_iff_iff]
  simp only [Bool.and_eq_true, btw_iff, decide_eq_true_eq]
  omega
theorem ends_iff {L a b : Int} : (btw a 0 L && btw b 0 L && decide (a ≤ b)) = true ↔ 0 ≤ a ∧ a ≤ b ∧ b ≤ L := by
  simp only [Bool.and_eq_true, btw_iff, decide_eq_true_eq]
  omega
theorem tru_rng {L sl rl rh wg : Int} {ks : List Kn} (hV : CvV L sl rl rh wg ks) {l : List Int} (hl : l ∈ truL L sl rl rh wg ks) : ∀ x ∈ l, -100 ≤ x ∧ x ≤ 100 := fun x hx => by
  obtain ⟨a1, a2⟩ := mem_truL.1 hl
  obtain ⟨i, hi, rfl⟩ := List.getElem_of_mem hx
  have h1 : rl ≤ fnL l i ∧ fnL l i ≤ rh := a2.1.1 i (by show i ≤ L.toNat; omega)
  have e : fnL l i = l[i] := by have := fnL_at hi; rw [List.getElem?_eq_getElem hi] at this; exact (Option.some.inj this).symm
  rw [e] at h1
  have := hV.r1
  have := hV.r2
  omega
set_option maxRecDepth 100000 in
set_option maxHeartbeats 8000000 in
theorem rintegral23 (L sl rl rh wg : Int) (A0 : Option Addr) (n0 c0 : Nat) (ks : List Kn) (a b : Int) (w : World) (hA : Rd 3 w A0 (ks.map krow)) (hn : Hid (n0 = ks.length)) (hlen : n0 ≤ 9223372036854775807) (hfar : Hid (farB L sl rl rh wg ks = false)) :
    Calls Try.prog 23 #[.agg #[.int .i64 L, .int .i64 sl, .int .i64 rl, .int .i64 rh, .slice A0 n0 c0, .int .i64 wg], .int .i64 a, .int .i64 b] w fun e w' => ∃ lo hi er : Int, e = .returned (.tuple #[.agg #[.int .i64 lo, .int .i64 hi], .int .i64 er]) ∧ Hid (IntegralR L sl rl rh wg ks a b lo hi er) ∧ Below w.heap.size w w' := by
  have HA := Lib.hid hA
  clear hA
  go_enter Try.func23, Try.ntmps23
  go_wp2
  have hS0 : OpI w w.heap.size (w.heap.size + 1) [.int .i64 L, .int .i64 sl, .int .i64 rl, .int .i64 rh, .slice A0 n0 c0, .int .i64 wg] [.int .i64 0, .int .i64 0] ((w.alloc (.cells #[.int .i64 L, .int .i64 sl, .int .i64 rl, .int .i64 rh, .slice A0 n0 c0, .int .i64 wg] 26)).alloc (.cells #[.int .i64 0, .int .i64 0] 23)) := ⟨(Own.new' _ _ rfl rfl).alloc _, Own.new' _ _ (by simp) rfl, by (repeat' (first | (with_reducible exact Below.refl _ _) | (with_reducible assumption) | (with_reducible refine Below.drew ?_) | (with_reducible refine below_drewN ?_ _) | (with_reducible refine Below.setCell ?_ ?_ _) | (with_reducible refine Below.alloc ?_ ?_ _) | (refine Below.trans ?_ (Below.mono (by with_reducible assumption) ?_)) | omega | (exact Below.size (by with_reducible assumption)) | (simp; done) | (simp; omega)))⟩
  refine wp_nor ?_
  refine rg_start (OpI w w.heap.size (w.heap.size + 1) [.int .i64 L, .int .i64 sl, .int .i64 rl, .int .i64 rh, .slice A0 n0 c0, .int .i64 wg] [.int .i64 0, .int .i64 0]) 11 (by kernel_rfl) rfl ?_
  have hS := hS0.drew
  clear hS0
  generalize World.drew _ = W at hS ⊢
  refine rg_take (fuel := 7) [0, 1, 2, 3] (by kernel_rfl) (by intro _ _ d _ _ h; first | (cases d <;> exact h) | cases h.1) rfl (by kernel_rfl) (by kernel_rfl) hS ?_
  simp only [pickL, pick1, List.cons_append, List.nil_append]
  (refine wpTake_cons (v := ?_) (Or.inl ⟨by rfl, ?_⟩) ?_; rotate_left; (intro w' hSw; have yc := hSw.c.c; have yd := hSw.d.c; clear hSw; go_simp; (try with_reducible rfl)); (try simp only [Act.put, List.setIfInBounds_toArray, List.set_cons_zero, List.set_cons_succ]))
  (refine wpTake_cons (v := ?_) (Or.inl ⟨by rfl, ?_⟩) ?_; rotate_left; (intro w' hSw; have yc := hSw.c.c; have yd := hSw.d.c; clear hSw; go_simp; (try with_reducible rfl)); (try simp only [Act.put, List.setIfInBounds_toArray, List.set_cons_zero, List.set_cons_succ]))
  (refine wpTake_cons (v := ?_) (Or.inl ⟨by rfl, ?_⟩) ?_; rotate_left; (intro w' hSw; have yc := hSw.c.c; have yd := hSw.d.c; clear hSw; go_simp; (try with_reducible rfl)); (try simp only [Act.put, List.setIfInBounds_toArray, List.set_cons_zero, List.set_cons_succ]))
  (refine wpTake_cons (v := ?_) (Or.inl ⟨by rfl, ?_⟩) ?_; rotate_left; (intro w' hSw; have yc := hSw.c.c; have yd := hSw.d.c; clear hSw; go_simp; (try with_reducible rfl)); (try simp only [Act.put, List.setIfInBounds_toArray, List.set_cons_zero, List.set_cons_succ]))
  refine wpTake_nil ?_
  refine rg_one (fuel := 6) 4 rfl (by kernel_rfl) (by kernel_rfl) ?_
  simp only [pick1, wpHead]
  intro K' hK
  (first | rw [if_pos (by rfl)] | rw [if_neg (by intro h; cases h)] | skip)
  go_simp
  refine (areEnds58 _ _ _ _ _ _ _ _ _).mono ?_
  rintro e W1 ⟨rfl, hb⟩
  go_simp
  replace hS := hS.below hb
  refine hK.out _ _ hS ?_
  clear hK hb
  (try simp only [Act.put, List.setIfInBounds_toArray, List.set_cons_zero, List.set_cons_succ])
  clear W
  refine rg_one (fuel := 5) 5 rfl (by kernel_rfl) (by kernel_rfl) ?_
  simp only [pick1, wpHead]
  intro K' hK
  (first | rw [if_pos (by rfl)] | rw [if_neg (by intro h; cases h)] | skip)
  go_simp
  refine (known54 L sl rl rh wg A0 n0 c0 ks _ _ (HA.out.below hS.b (Nat.le_refl _)) hn hlen hfar).mono ?_
  rintro e w2 ⟨A, c, ls, er, rfl, hll, hkn, hl15, hb⟩
  go_simp
  replace hS := hS.below hb
  have HLL := Lib.hid hll
  refine hK.out _ _ hS ?_
  clear hK hb hll
  (try simp only [Act.put, List.setIfInBounds_toArray, List.set_cons_zero, List.set_cons_succ])
  clear W1
  refine rg_take (fuel := 2) [6, 7, 8] (by kernel_rfl) (by intro _ _ d _ _ h; first | (cases d <;> exact h) | cases h.1) rfl (by kernel_rfl) (by kernel_rfl) hS ?_
  simp only [pickL, pick1, List.cons_append, List.nil_append]
  (refine wpTake_cons (v := ?_) (Or.inl ⟨by rfl, ?_⟩) ?_; rotate_left; (intro w' hSw; have yc := hSw.c.c; have yd := hSw.d.c; clear hSw; go_simp; (try with_reducible rfl)); (try simp only [Act.put, List.setIfInBounds_toArray, List.set_cons_zero, List.set_cons_succ]))
  (refine wpTake_cons (v := ?_) (Or.inl ⟨by rfl, ?_⟩) ?_; rotate_left; (intro w' hSw; have yc := hSw.c.c; have yd := hSw.d.c; clear hSw; go_simp; (try with_reducible rfl)); (try simp only [Act.put, List.setIfInBounds_toArray, List.set_cons_zero, List.set_cons_succ]))
  (refine wpTake_cons (v := ?_) (Or.inl ⟨by rfl, ?_⟩) ?_; rotate_left; (intro w' hSw; have yc := hSw.c.c; have yd := hSw.d.c; clear hSw; go_simp; (try with_reducible rfl)); (try simp only [Act.put, List.setIfInBounds_toArray, List.set_cons_zero, List.set_cons_succ]))
  refine wpTake_nil ?_
  refine rg_one (fuel := 1) 9 rfl (by kernel_rfl) (by kernel_rfl) ?_
  simp only [pick1, wpHead]
  intro K' hK
  (first | rw [if_pos (by rfl)] | rw [if_neg (by intro h; cases h)] | skip)
  go_simp
  refine hK.out _ _ hS ?_
  clear hK
  (try simp only [Act.put, List.setIfInBounds_toArray, List.set_cons_zero, List.set_cons_succ])
  refine rg_one (fuel := 0) 10 rfl (by kernel_rfl) (by kernel_rfl) ?_
  simp only [pick1, wpHead]
  intro K' hK
  (first | rw [if_pos (by rfl)] | rw [if_neg (by intro h; cases h)] | skip)
  go_simp
  refine hK.out _ _ hS ?_
  clear hK
  (try simp only [Act.put, List.setIfInBounds_toArray, List.set_cons_zero, List.set_cons_succ])
  refine rg_done (by kernel_rfl) ?_
  refine ⟨rfl, ?_⟩
  (try simp only [Exit.then, Exit.inBlock])
  have hoc := Lib.hid hS.c
  have hor := Lib.hid hS.d
  have hB2 := Lib.hid hS.b
  rw [ends_eq] at hkn
  have hmem : Hid (∀ l ∈ ls, ((l.length = L.toNat + 1 ∧ (1 ≤ L ∧ L ≤ 12)) ∧ ∀ x ∈ l, -100 ≤ x ∧ x ≤ 100) ∧ (0 ≤ a ∧ a ≤ b ∧ b ≤ L)) := Lib.hid fun l hl => by
    by_cases he : er = 0
    · obtain ⟨hV, hp, _⟩ := openR_zero hkn.out.1 he
      have e := hkn.out.2.1 he
      rw [e] at hl
      have hp' := ends_iff.1 hp
      exact ⟨⟨⟨(mem_truL.1 hl).1, hV.l1, hV.l2⟩, tru_rng hV hl⟩, hp'⟩
    · rw [hkn.out.2.2 he] at hl; cases hl
  have hc0 := hS.c.lt
  have hc1 := hS.d.lt
  clear hS
  go_wp2
  go_loopg [11] ls.length (fun K z w5 => ∃ (k : Nat) (lo hi : Int), K + k = ls.length ∧ z = .int .i64 k ∧ Hid (Own w5 w.heap.size [.int .i64 L, .int .i64 sl, .int .i64 rl, .int .i64 rh, .slice A0 n0 c0, .int .i64 wg]) ∧ Hid (Own w5 (w.heap.size + 1) [.int .i64 0, .int .i64 0]) ∧ Hid (Own w5 w2.heap.size [.int .i64 lo, .int .i64 hi]) ∧ Hid (Below w2.heap.size w2 w5) ∧ Hid (SpK (fun l => sUp (fnL l) a b (L.toNat + 1)) ls k lo hi))
  case atStart => exact ⟨0, 0, 0, rfl, rfl, Lib.hid (hoc.out.alloc _), Lib.hid (hor.out.alloc _), Lib.hid (Own.new' _ _ rfl rfl), Lib.hid ((Below.refl _ _).alloc (Nat.le_refl _) _), Lib.hid (SpK.zero _ _)⟩
  case round =>
    clear hoc hor
    obtain ⟨k, lo, hi, hK9, rfl, hoc, hor, hos, hbw, hsp⟩ := hrel
    by_cases hlt : k < ls.length
    · obtain ⟨l, hl⟩ : ∃ l, Hid (ls[k]? = some l) := ⟨ls[k], by simp [Hid]⟩
      obtain ⟨⟨⟨hml, hL1, hL2⟩, hvl⟩, ha0, hab, hbL⟩ := hmem.out l (List.mem_of_getElem? hl.out)
      obtain ⟨i, hi9⟩ : ∃ i : Nat, a = (i : Int) := ⟨a.toNat, by omega⟩
      obtain ⟨j, hj9⟩ : ∃ j : Nat, b = (j : Int) := ⟨b.toNat, by omega⟩
      obtain ⟨b9, off, A', c', hAe, hb0, hcell, hrl⟩ := HLL.out.elem hl.out
      have hAE := Lib.hid hAe
      have hAA := hAE.out
      subst hAA
      have hsn := Lib.hid (hsp.out.next hl.out)
      have hk0 : decide (k = 0) = ((k : Int) == 0) := by
        by_cases e : k = 0
        · subst e; rfl
        · rw [decide_eq_false e]; symm; rw [beq_eq_false_iff_ne]; omega
      rw [hk0] at hsn
      have y0 : (k : Int) < (ls.length : Int) := by omega
      have HML := Lib.hid hml
      have HVL := Lib.hid hvl
      have HRL := Lib.hid hrl
      have hS := Lib.hid (show OpI w2 w.heap.size w.heap.size [.int .i64 L, .int .i64 sl, .int .i64 rl, .int .i64 rh, .slice A0 n0 c0, .int .i64 wg] [.int .i64 L, .int .i64 sl, .int .i64 rl, .int .i64 rh, .slice A0 n0 c0, .int .i64 wg] wr from ⟨hoc.out, hoc.out, hbw.out⟩)
      have hn12 := hbw.out.size
      have hl40 : l.length ≤ 40 := by omega
      have hc46 : ∀ W, Below w2.heap.size w2 W → Calls Try.prog 46 #[.slice A' l.length c', .int .i64 a, .int .i64 b] W fun e w' => e = .returned (.int .i64 (sUp (fnL l) a b (L.toNat + 1))) ∧ Below W.heap.size W w' := fun W hW => by
        have h := sum46 A' l.length c' l i j W (HRL.out.below hW (Nat.le_refl _)) (Lib.hid rfl) hl40 (by omega) (by have := HML.out; omega) HVL
        rw [← hi9, ← hj9] at h
        rw [HML.out] at h
        rw [HML.out]
        exact h
      clear hml hvl hAe hAE hrl hoc hbw hsp hk0 hi9 hj9
      generalize hx : sUp (fnL l) a b (L.toNat + 1) = x at *
      clear hx
      obtain ⟨lc, kc, fc⟩ := hS.out.c
      go_wp2
      refine wp_nor ?_
      refine rg_start (OpI w2 w.heap.size w.heap.size [.int .i64 L, .int .i64 sl, .int .i64 rl, .int .i64 rh, .slice A0 n0 c0, .int .i64 wg] [.int .i64 L, .int .i64 sl, .int .i64 rl, .int .i64 rh, .slice A0 n0 c0, .int .i64 wg]) 12 (by kernel_rfl) rfl ?_
      replace hS := hS.out.drew
      have hr9 := hor.out.drew
      have hs9 := hos.out.drew
      clear lc kc fc hor hos
      generalize World.drew _ = W at hS hr9 hs9 ⊢
      refine rg_take (fuel := 4) [1, 2, 3, 4, 5, 6, 8, 9] (by kernel_rfl) (by intro _ _ d _ _ h; first | (cases d <;> exact h) | cases h.1) rfl (by kernel_rfl) (by kernel_rfl) hS ?_
      simp only [pickL, pick1, List.cons_append, List.nil_append]
      (refine wpTake_cons (v := ?_) (Or.inl ⟨by rfl, ?_⟩) ?_; rotate_left; (intro w' hSw; have yc := hSw.c.c; have e1 := ((bcell hSw.b).1 _ (off + k) hb0).trans hcell; clear hSw; go_simp; (try with_reducible rfl)); (try simp only [Act.put, List.setIfInBounds_toArray, List.set_cons_zero, List.set_cons_succ]))
      (refine wpTake_cons (v := ?_) (Or.inl ⟨by rfl, ?_⟩) ?_; rotate_left; (intro w' hSw; have yc := hSw.c.c; have e1 := ((bcell hSw.b).1 _ (off + k) hb0).trans hcell; clear hSw; go_simp; (try with_reducible rfl)); (try simp only [Act.put, List.setIfInBounds_toArray, List.set_cons_zero, List.set_cons_succ]))
      (refine wpTake_cons (v := ?_) (Or.inl ⟨by rfl, ?_⟩) ?_; rotate_left; (intro w' hSw; have yc := hSw.c.c; have e1 := ((bcell hSw.b).1 _ (off + k) hb0).trans hcell; clear hSw; go_simp; (try with_reducible rfl)); (try simp only [Act.put, List.setIfInBounds_toArray, List.set_cons_zero, List.set_cons_succ]))
      (refine wpTake_cons (v := ?_) (Or.inl ⟨by rfl, ?_⟩) ?_; rotate_left; (intro w' hSw; have yc := hSw.c.c; have e1 := ((bcell hSw.b).1 _ (off + k) hb0).trans hcell; clear hSw; go_simp; (try with_reducible rfl)); (try simp only [Act.put, List.setIfInBounds_toArray, List.set_cons_zero, List.set_cons_succ]))
      (refine wpTake_cons (v := ?_) (Or.inl ⟨by rfl, ?_⟩) ?_; rotate_left; (intro w' hSw; have yc := hSw.c.c; have e1 := ((bcell hSw.b).1 _ (off + k) hb0).trans hcell; clear hSw; go_simp; (try with_reducible rfl)); (try simp only [Act.put, List.setIfInBounds_toArray, List.set_cons_zero, List.set_cons_succ]))
      (refine wpTake_cons (v := ?_) (Or.inl ⟨by rfl, ?_⟩) ?_; rotate_left; (intro w' hSw; have yc := hSw.c.c; have e1 := ((bcell hSw.b).1 _ (off + k) hb0).trans hcell; clear hSw; go_simp; (try with_reducible rfl)); (try simp only [Act.put, List.setIfInBounds_toArray, List.set_cons_zero, List.set_cons_succ]))
      (refine wpTake_cons (v := ?_) (Or.inl ⟨by rfl, ?_⟩) ?_; rotate_left; (intro w' hSw; have yc := hSw.c.c; have e1 := ((bcell hSw.b).1 _ (off + k) hb0).trans hcell; clear hSw; go_simp; (try with_reducible rfl)); (try simp only [Act.put, List.setIfInBounds_toArray, List.set_cons_zero, List.set_cons_succ]))
      (refine wpTake_cons (v := ?_) (Or.inl ⟨by rfl, ?_⟩) ?_; rotate_left; (intro w' hSw; have yc := hSw.c.c; have e1 := ((bcell hSw.b).1 _ (off + k) hb0).trans hcell; clear hSw; go_simp; (try with_reducible rfl)); (try simp only [Act.put, List.setIfInBounds_toArray, List.set_cons_zero, List.set_cons_succ]))
      refine wpTake_nil ?_
      refine rg_two (fuel := 3) 0 7 rfl (by kernel_rfl) (by kernel_rfl) ?_ ?_ <;> simp only [pick1, wpHead]
      · intro K' hK
        (first | rw [if_pos (by rfl)] | rw [if_neg (by intro h; cases h)] | skip)
        obtain ⟨lz, kz, fz⟩ := hs9
        have hs9 := Own.mk lz kz fz
        go_simp
        refine hK.out _ _ hS ?_
        clear hK lz kz fz
        (try simp only [Act.put, List.setIfInBounds_toArray, List.set_cons_zero, List.set_cons_succ])
        refine rg_one (fuel := 2) 7 rfl (by kernel_rfl) (by kernel_rfl) ?_
        simp only [pick1, wpHead]
        intro K' hK
        (first | rw [if_pos (by rfl)] | rw [if_neg (by intro h; cases h)] | skip)
        go_simp
        refine (hc46 _ hS.b).mono ?_
        rintro e W7 ⟨rfl, hb⟩
        go_simp
        replace hs9 := hs9.below hb hs9.lt
        replace hr9 := hr9.below hb hr9.lt
        replace hS := hS.below hb
        refine hK.out _ _ hS ?_
        clear hK hb
        (try simp only [Act.put, List.setIfInBounds_toArray, List.set_cons_zero, List.set_cons_succ])
        refine rg_one (fuel := 1) 10 rfl (by kernel_rfl) (by kernel_rfl) ?_
        simp only [pick1, wpHead]
        intro K' hK
        (first | rw [if_pos (by rfl)] | rw [if_neg (by intro h; cases h)] | skip)
        go_simp
        refine (wider59 lo hi x _ _).mono ?_
        rintro e W' ⟨rfl, hb⟩
        go_simp
        replace hs9 := hs9.below hb hs9.lt
        replace hr9 := hr9.below hb hr9.lt
        replace hS := hS.below hb
        refine hK.out _ _ hS ?_
        clear hK hb
        (try simp only [Act.put, List.setIfInBounds_toArray, List.set_cons_zero, List.set_cons_succ])
        refine rg_one (fuel := 0) 11 rfl (by kernel_rfl) (by kernel_rfl) ?_
        simp only [pick1, wpHead]
        intro K' hK
        (first | rw [if_pos (by rfl)] | rw [if_neg (by intro h; cases h)] | skip)
        obtain ⟨lz, kz, fz⟩ := hs9
        have hs9 := Own.mk lz kz fz
        go_simp
        have hs10 := own_set2 hs9 rfl (.int .i64 (wdL lo x ((k : Int) == 0))) (.int .i64 (wdH hi x ((k : Int) == 0)))
        replace hr9 := (hr9.setOther (a := ⟨w2.heap.size, 0, none⟩) (show w2.heap.size ≠ _ by omega) (.int .i64 (wdL lo x ((k : Int) == 0)))).setOther (a := ⟨w2.heap.size, 1, none⟩) (show w2.heap.size ≠ _ by omega) (.int .i64 (wdH hi x ((k : Int) == 0)))
        replace hS := (hS.set (g := w2.heap.size) (by omega) 0 (.int .i64 (wdL lo x ((k : Int) == 0)))).set (g := w2.heap.size) (by omega) 1 (.int .i64 (wdH hi x ((k : Int) == 0)))
        refine hK.out _ _ hS ?_
        clear hK lz kz fz hs9
        (try simp only [Act.put, List.setIfInBounds_toArray, List.set_cons_zero, List.set_cons_succ])
        refine rg_done (by kernel_rfl) ?_
        refine ⟨rfl, ?_⟩
        have r1 := Lib.hid hS.c
        have r2 := Lib.hid hr9
        have r3 := Lib.hid hs10
        have r4 := Lib.hid hS.b
        clear hS hr9 hs10
        (try simp only [Exit.then, Exit.inBlock])
        go_wp2
        go_roundg (ls.length - (k + 1))
        case measure => omega
        case rel => exact ⟨k + 1, _, _, by omega, by go_num, r1, r2, r3, r4, hsn⟩
      · intro K' hK
        (first | rw [if_pos (by rfl)] | rw [if_neg (by intro h; cases h)] | skip)
        go_simp
        refine (hc46 _ hS.b).mono ?_
        rintro e W7 ⟨rfl, hb⟩
        go_simp
        replace hs9 := hs9.below hb hs9.lt
        replace hr9 := hr9.below hb hr9.lt
        replace hS := hS.below hb
        refine hK.out _ _ hS ?_
        clear hK hb
        (try simp only [Act.put, List.setIfInBounds_toArray, List.set_cons_zero, List.set_cons_succ])
        refine rg_one (fuel := 2) 0 rfl (by kernel_rfl) (by kernel_rfl) ?_
        simp only [pick1, wpHead]
        intro K' hK
        (first | rw [if_pos (by rfl)] | rw [if_neg (by intro h; cases h)] | skip)
        obtain ⟨lz, kz, fz⟩ := hs9
        have hs9 := Own.mk lz kz fz
        go_simp
        refine hK.out _ _ hS ?_
        clear hK lz kz fz
        (try simp only [Act.put, List.setIfInBounds_toArray, List.set_cons_zero, List.set_cons_succ])
        refine rg_one (fuel := 1) 10 rfl (by kernel_rfl) (by kernel_rfl) ?_
        simp only [pick1, wpHead]
        intro K' hK
        (first | rw [if_pos (by rfl)] | rw [if_neg (by intro h; cases h)] | skip)
        go_simp
        refine (wider59 lo hi x _ _).mono ?_
        rintro e W' ⟨rfl, hb⟩
        go_simp
        replace hs9 := hs9.below hb hs9.lt
        replace hr9 := hr9.below hb hr9.lt
        replace hS := hS.below hb
        refine hK.out _ _ hS ?_
        clear hK hb
        (try simp only [Act.put, List.setIfInBounds_toArray, List.set_cons_zero, List.set_cons_succ])
        refine rg_one (fuel := 0) 11 rfl (by kernel_rfl) (by kernel_rfl) ?_
        simp only [pick1, wpHead]
        intro K' hK
        (first | rw [if_pos (by rfl)] | rw [if_neg (by intro h; cases h)] | skip)
        obtain ⟨lz, kz, fz⟩ := hs9
        have hs9 := Own.mk lz kz fz
        go_simp
        have hs10 := own_set2 hs9 rfl (.int .i64 (wdL lo x ((k : Int) == 0))) (.int .i64 (wdH hi x ((k : Int) == 0)))
        replace hr9 := (hr9.setOther (a := ⟨w2.heap.size, 0, none⟩) (show w2.heap.size ≠ _ by omega) (.int .i64 (wdL lo x ((k : Int) == 0)))).setOther (a := ⟨w2.heap.size, 1, none⟩) (show w2.heap.size ≠ _ by omega) (.int .i64 (wdH hi x ((k : Int) == 0)))
        replace hS := (hS.set (g := w2.heap.size) (by omega) 0 (.int .i64 (wdL lo x ((k : Int) == 0)))).set (g := w2.heap.size) (by omega) 1 (.int .i64 (wdH hi x ((k : Int) == 0)))
        refine hK.out _ _ hS ?_
        clear hK lz kz fz hs9
        (try simp only [Act.put, List.setIfInBounds_toArray, List.set_cons_zero, List.set_cons_succ])
        refine rg_done (by kernel_rfl) ?_
        refine ⟨rfl, ?_⟩
        have r1 := Lib.hid hS.c
        have r2 := Lib.hid hr9
        have r3 := Lib.hid hs10
        have r4 := Lib.hid hS.b
        clear hS hr9 hs10
        (try simp only [Exit.then, Exit.inBlock])
        go_wp2
        go_roundg (ls.length - (k + 1))
        case measure => omega
        case rel => exact ⟨k + 1, _, _, by omega, by go_num, r1, r2, r3, r4, hsn⟩
    · obtain rfl : k = ls.length := by omega
      have hres : Hid (IntegralR L sl rl rh wg ks a b lo hi er) := Lib.hid ⟨hkn.out.1, fun he => by
        obtain ⟨hV, hp, hT⟩ := openR_zero hkn.out.1 he
        have e := hkn.out.2.1 he
        obtain ⟨ha0, hab, hbL⟩ := ends_iff.1 hp
        rcases hsp.out.all with ⟨h0, _⟩ | ⟨_, h1⟩
        · rw [e] at h0; exact absurd hT (truL_nil.1 h0)
        · refine h1.congr fun s => ?_
          rw [e]
          have hcut : ∀ h : Nat → Int, sUp h a b (L.toNat + 1) = sUp h a b L.toNat := fun h => by
            show sUp h a b L.toNat + _ = _
            rw [if_neg (by omega)]; omega
          constructor
          · rintro ⟨l, hl, rfl⟩
            exact ⟨_, (mem_truL.1 hl).2, (hcut _).symm⟩
          · rintro ⟨h, hh, rfl⟩
            obtain ⟨k1, k2⟩ := truL_has hh
            exact ⟨_, k1, by rw [hcut]; exact sUp_congr k2⟩, fun he => by
        have e := hkn.out.2.2 he
        rcases hsp.out.all with ⟨_, h1, h2⟩ | ⟨h0, _⟩
        · exact ⟨h1, h2⟩
        · exact absurd e h0⟩
      have hBx := Lib.hid (hB2.out.trans (hbw.out.mono hB2.out.size))
      obtain ⟨lz, kz, fz⟩ := hos.out
      obtain ⟨ly, ky, fy⟩ := hor.out
      clear hoc hbw hsp hmem
      go_wp2
      (try simp only [Exit.inBlock, Exit.then])
      refine bodyPost_gen fun W6 hW6 => ?_
      have o6 : Own W6 (w.heap.size + 1) [.int .i64 lo, .int .i64 hi] := by rw [hW6]; exact own_set2 hor.out rfl _ _
      have hB6 : Below w.heap.size w W6 := by rw [hW6]; exact (hBx.out.setCell (by show w.heap.size ≤ w.heap.size + 1; omega) _).setCell (by show w.heap.size ≤ w.heap.size + 1; omega) _
      refine bodyPost_ret (results_cell (B := w.heap.size + 1) (vs := [.int .i64 lo, .int .i64 hi]) rfl rfl o6 (by kernel_rfl) (by kernel_rfl)) rfl ?_
      exact ⟨lo, hi, er, rfl, hres, hB6⟩
end Go.Proofs.Ytphcpphmoeiioaa
