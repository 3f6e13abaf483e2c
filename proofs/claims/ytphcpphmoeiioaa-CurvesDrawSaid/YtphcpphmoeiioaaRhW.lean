/- Walks: Height of the reference. -/
import Derived.Test.YtphcpphmoeiioaaSpW
namespace Go.Proofs.Ytphcpphmoeiioaa
open Go.RowKit Go.Maps

theorem wp_nor {P : Program} {c : Code} {Q : Exit → Act → World → Prop} {a : Act} {w : World} (h : c.wp P (fun e a w => e = .normal ∧ Q e a w) a w) : c.wp P Q a w := Code.wp_mono (fun _ _ _ k => k.2) h
set_option maxRecDepth 100000 in
set_option maxHeartbeats 8000000 in
theorem rheight40 (L sl rl rh wg : Int) (A0 : Option Addr) (n0 c0 : Nat) (ks : List Kn) (p : Int) (w : World) (hA : Rd 3 w A0 (ks.map krow)) (hn : Hid (n0 = ks.length)) (hlen : n0 ≤ 9223372036854775807) (hfar : Hid (farB L sl rl rh wg ks = false)) :
    Calls Try.prog 40 #[.agg #[.int .i64 L, .int .i64 sl, .int .i64 rl, .int .i64 rh, .slice A0 n0 c0, .int .i64 wg], .int .i64 p] w fun e w' => ∃ lo hi er : Int, e = .returned (.tuple #[.agg #[.int .i64 lo, .int .i64 hi], .int .i64 er]) ∧ Hid (HeightR L sl rl rh wg ks p lo hi er) ∧ Below w.heap.size w w' := by
  have HA := Lib.hid hA
  clear hA
  go_enter Try.func40, Try.ntmps40
  go_wp2
  have hS0 : OpI w w.heap.size (w.heap.size + 1) [.int .i64 L, .int .i64 sl, .int .i64 rl, .int .i64 rh, .slice A0 n0 c0, .int .i64 wg] [.int .i64 0, .int .i64 0] ((w.alloc (.cells #[.int .i64 L, .int .i64 sl, .int .i64 rl, .int .i64 rh, .slice A0 n0 c0, .int .i64 wg] 26)).alloc (.cells #[.int .i64 0, .int .i64 0] 23)) := ⟨(Own.new' _ _ rfl rfl).alloc _, Own.new' _ _ (by simp) rfl, by (repeat' (first | (with_reducible exact Below.refl _ _) | (with_reducible assumption) | (with_reducible refine Below.drew ?_) | (with_reducible refine below_drewN ?_ _) | (with_reducible refine Below.setCell ?_ ?_ _) | (with_reducible refine Below.alloc ?_ ?_ _) | (refine Below.trans ?_ (Below.mono (by with_reducible assumption) ?_)) | omega | (exact Below.size (by with_reducible assumption)) | (simp; done) | (simp; omega)))⟩
  refine wp_nor ?_
  refine rg_start (OpI w w.heap.size (w.heap.size + 1) [.int .i64 L, .int .i64 sl, .int .i64 rl, .int .i64 rh, .slice A0 n0 c0, .int .i64 wg] [.int .i64 0, .int .i64 0]) 10 (by kernel_rfl) rfl ?_
  have hS := hS0.drew
  clear hS0
  generalize World.drew _ = W at hS ⊢
  refine rg_take (fuel := 7) [0, 1, 2] (by kernel_rfl) (by intro _ _ d _ _ h; first | (cases d <;> exact h) | cases h.1) rfl (by kernel_rfl) (by kernel_rfl) hS ?_
  simp only [pickL, pick1, List.cons_append, List.nil_append]
  (refine wpTake_cons (v := ?_) (Or.inl ⟨by rfl, ?_⟩) ?_; rotate_left; (intro w' hSw; have yc := hSw.c.c; have yd := hSw.d.c; clear hSw; go_simp; (try with_reducible rfl)); (try simp only [Act.put, List.setIfInBounds_toArray, List.set_cons_zero, List.set_cons_succ]))
  (refine wpTake_cons (v := ?_) (Or.inl ⟨by rfl, ?_⟩) ?_; rotate_left; (intro w' hSw; have yc := hSw.c.c; have yd := hSw.d.c; clear hSw; go_simp; (try with_reducible rfl)); (try simp only [Act.put, List.setIfInBounds_toArray, List.set_cons_zero, List.set_cons_succ]))
  (refine wpTake_cons (v := ?_) (Or.inl ⟨by rfl, ?_⟩) ?_; rotate_left; (intro w' hSw; have yc := hSw.c.c; have yd := hSw.d.c; clear hSw; go_simp; (try with_reducible rfl)); (try simp only [Act.put, List.setIfInBounds_toArray, List.set_cons_zero, List.set_cons_succ]))
  refine wpTake_nil ?_
  refine rg_one (fuel := 6) 3 rfl (by kernel_rfl) (by kernel_rfl) ?_
  simp only [pick1, wpHead]
  intro K' hK
  (first | rw [if_pos (by rfl)] | rw [if_neg (by intro h; cases h)] | skip)
  go_simp
  refine (isPlace73 _ _ _ _ _ _ _ _).mono ?_
  rintro e W1 ⟨rfl, hb⟩
  go_simp
  replace hS := hS.below hb
  refine hK.out _ _ hS ?_
  clear hK hb
  (try simp only [Act.put, List.setIfInBounds_toArray, List.set_cons_zero, List.set_cons_succ])
  clear W
  refine rg_one (fuel := 5) 4 rfl (by kernel_rfl) (by kernel_rfl) ?_
  simp only [pick1, wpHead]
  intro K' hK
  (first | rw [if_pos (by rfl)] | rw [if_neg (by intro h; cases h)] | skip)
  go_simp
  refine (known54 L sl rl rh wg A0 n0 c0 ks _ _ (HA.out.below hS.b (Nat.le_refl _)) hn hlen hfar).mono ?_
  rintro e w2 ⟨A, c, ls, er, rfl, hll, hkn, hl15, hb⟩
  go_simp
  replace hS := hS.below hb
  have HLL := Lib.hid hll
  refine hK.out _ _ hS ?_
  clear hK hb hll
  (try simp only [Act.put, List.setIfInBounds_toArray, List.set_cons_zero, List.set_cons_succ])
  clear W1
  refine rg_take (fuel := 2) [5, 6, 7] (by kernel_rfl) (by intro _ _ d _ _ h; first | (cases d <;> exact h) | cases h.1) rfl (by kernel_rfl) (by kernel_rfl) hS ?_
  simp only [pickL, pick1, List.cons_append, List.nil_append]
  (refine wpTake_cons (v := ?_) (Or.inl ⟨by rfl, ?_⟩) ?_; rotate_left; (intro w' hSw; have yc := hSw.c.c; have yd := hSw.d.c; clear hSw; go_simp; (try with_reducible rfl)); (try simp only [Act.put, List.setIfInBounds_toArray, List.set_cons_zero, List.set_cons_succ]))
  (refine wpTake_cons (v := ?_) (Or.inl ⟨by rfl, ?_⟩) ?_; rotate_left; (intro w' hSw; have yc := hSw.c.c; have yd := hSw.d.c; clear hSw; go_simp; (try with_reducible rfl)); (try simp only [Act.put, List.setIfInBounds_toArray, List.set_cons_zero, List.set_cons_succ]))
  (refine wpTake_cons (v := ?_) (Or.inl ⟨by rfl, ?_⟩) ?_; rotate_left; (intro w' hSw; have yc := hSw.c.c; have yd := hSw.d.c; clear hSw; go_simp; (try with_reducible rfl)); (try simp only [Act.put, List.setIfInBounds_toArray, List.set_cons_zero, List.set_cons_succ]))
  refine wpTake_nil ?_
  refine rg_one (fuel := 1) 8 rfl (by kernel_rfl) (by kernel_rfl) ?_
  simp only [pick1, wpHead]
  intro K' hK
  (first | rw [if_pos (by rfl)] | rw [if_neg (by intro h; cases h)] | skip)
  go_simp
  refine hK.out _ _ hS ?_
  clear hK
  (try simp only [Act.put, List.setIfInBounds_toArray, List.set_cons_zero, List.set_cons_succ])
  refine rg_one (fuel := 0) 9 rfl (by kernel_rfl) (by kernel_rfl) ?_
  simp only [pick1, wpHead]
  intro K' hK
  (first | rw [if_pos (by rfl)] | rw [if_neg (by intro h; cases h)] | skip)
  go_simp
  refine hK.out _ _ hS ?_
  clear hK
  (try simp only [Act.put, List.setIfInBounds_toArray, List.set_cons_zero, List.set_cons_succ])
  refine rg_done (by kernel_rfl) ?_
  refine ⟨rfl, ?_⟩
  (try simp only [Exit.then, Exit.inBlock])
  have hoc := Lib.hid hS.c
  have hor := Lib.hid hS.d
  have hB2 := Lib.hid hS.b
  have hmem : Hid (∀ l ∈ ls, (l.length = L.toNat + 1 ∧ (1 ≤ L ∧ L ≤ 12)) ∧ (0 ≤ p ∧ p ≤ L)) := Lib.hid fun l hl => by
    by_cases he : er = 0
    · obtain ⟨hV, hp, _⟩ := openR_zero hkn.out.1 he
      have e := hkn.out.2.1 he
      rw [e] at hl
      exact ⟨⟨(mem_truL.1 hl).1, hV.l1, hV.l2⟩, btw_iff.1 hp⟩
    · rw [hkn.out.2.2 he] at hl; cases hl
  have hc0 := hS.c.lt
  have hc1 := hS.d.lt
  clear hS
  go_wp2
  go_loopg [9] ls.length (fun K z w5 => ∃ (k : Nat) (lo hi : Int), K + k = ls.length ∧ z = .int .i64 k ∧ Hid (Own w5 w.heap.size [.int .i64 L, .int .i64 sl, .int .i64 rl, .int .i64 rh, .slice A0 n0 c0, .int .i64 wg]) ∧ Hid (Own w5 (w.heap.size + 1) [.int .i64 0, .int .i64 0]) ∧ Hid (Own w5 w2.heap.size [.int .i64 lo, .int .i64 hi]) ∧ Hid (Below w2.heap.size w2 w5) ∧ Hid (SpK (fun l => fnL l p.toNat) ls k lo hi))
  case atStart => exact ⟨0, 0, 0, rfl, rfl, Lib.hid (hoc.out.alloc _), Lib.hid (hor.out.alloc _), Lib.hid (Own.new' _ _ rfl rfl), Lib.hid ((Below.refl _ _).alloc (Nat.le_refl _) _), Lib.hid (SpK.zero _ _)⟩
  case round =>
    clear hoc hor
    obtain ⟨k, lo, hi, hK9, rfl, hoc, hor, hos, hbw, hsp⟩ := hrel
    by_cases hlt : k < ls.length
    · obtain ⟨l, hl⟩ : ∃ l, Hid (ls[k]? = some l) := ⟨ls[k], by simp [Hid]⟩
      obtain ⟨⟨hml, hL1, hL2⟩, hp0, hpL⟩ := hmem.out l (List.mem_of_getElem? hl.out)
      obtain ⟨q, rfl⟩ : ∃ q : Nat, p = (q : Int) := ⟨p.toNat, by omega⟩
      simp only [Int.toNat_natCast] at hsp
      obtain ⟨b, off, A', c', hAe, hb0, hcell, hrl⟩ := HLL.out.elem hl.out
      have e0 := Lib.hid (fnL_at (l := l) (i := q) (by omega))
      obtain ⟨b1, off1, hAe1, hb1, hcell1⟩ := hrl.elem e0.out
      have hAE := Lib.hid hAe
      have hAA := hAE.out
      subst hAA
      have hAE1 := Lib.hid hAe1
      have hAA1 := hAE1.out
      subst hAA1
      have hsn := Lib.hid (hsp.out.next hl.out)
      have hk0 : decide (k = 0) = ((k : Int) == 0) := by
        by_cases e : k = 0
        · subst e; rfl
        · rw [decide_eq_false e]; symm; rw [beq_eq_false_iff_ne]; omega
      rw [hk0] at hsn
      have y0 : (k : Int) < (ls.length : Int) := by omega
      have y1 : (q : Int) < (l.length : Int) := by omega
      have y2 : q < l.length := by omega
      clear hml
      have hS := Lib.hid (show OpI w2 w.heap.size w.heap.size [.int .i64 L, .int .i64 sl, .int .i64 rl, .int .i64 rh, .slice A0 n0 c0, .int .i64 wg] [.int .i64 L, .int .i64 sl, .int .i64 rl, .int .i64 rh, .slice A0 n0 c0, .int .i64 wg] wr from ⟨hoc.out, hoc.out, hbw.out⟩)
      have hn12 := hbw.out.size
      clear hAe hAe1 hAE hAE1 hrl hoc hbw hmem hsp hk0
      generalize hx : fnL l q = x at *
      have HX := Lib.hid hx
      clear hx e0
      obtain ⟨lc, kc, fc⟩ := hS.out.c
      go_wp2
      refine wp_nor ?_
      refine rg_start (OpI w2 w.heap.size w.heap.size [.int .i64 L, .int .i64 sl, .int .i64 rl, .int .i64 rh, .slice A0 n0 c0, .int .i64 wg] [.int .i64 L, .int .i64 sl, .int .i64 rl, .int .i64 rh, .slice A0 n0 c0, .int .i64 wg]) 12 (by kernel_rfl) rfl ?_
      replace hS := hS.out.drew
      have hr9 := hor.out.drew
      have hs9 := hos.out.drew
      clear lc kc fc hor hos
      generalize World.drew _ = W at hS hr9 hs9 ⊢
      refine rg_take (fuel := 3) [1, 2, 3, 4, 5, 6, 7, 8, 9] (by kernel_rfl) (by intro _ _ d _ _ h; first | (cases d <;> exact h) | cases h.1) rfl (by kernel_rfl) (by kernel_rfl) hS ?_
      simp only [pickL, pick1, List.cons_append, List.nil_append]
      (refine wpTake_cons (v := ?_) (Or.inl ⟨by rfl, ?_⟩) ?_; rotate_left; (intro w' hSw; have yc := hSw.c.c; have e1 := ((bcell hSw.b).1 _ (off + k) hb0).trans hcell; have e2 := ((bcell hSw.b).1 _ (off1 + q) hb1).trans hcell1; clear hSw; go_simp; (try with_reducible rfl)); (try simp only [Act.put, List.setIfInBounds_toArray, List.set_cons_zero, List.set_cons_succ]))
      (refine wpTake_cons (v := ?_) (Or.inl ⟨by rfl, ?_⟩) ?_; rotate_left; (intro w' hSw; have yc := hSw.c.c; have e1 := ((bcell hSw.b).1 _ (off + k) hb0).trans hcell; have e2 := ((bcell hSw.b).1 _ (off1 + q) hb1).trans hcell1; clear hSw; go_simp; (try with_reducible rfl)); (try simp only [Act.put, List.setIfInBounds_toArray, List.set_cons_zero, List.set_cons_succ]))
      (refine wpTake_cons (v := ?_) (Or.inl ⟨by rfl, ?_⟩) ?_; rotate_left; (intro w' hSw; have yc := hSw.c.c; have e1 := ((bcell hSw.b).1 _ (off + k) hb0).trans hcell; have e2 := ((bcell hSw.b).1 _ (off1 + q) hb1).trans hcell1; clear hSw; go_simp; (try with_reducible rfl)); (try simp only [Act.put, List.setIfInBounds_toArray, List.set_cons_zero, List.set_cons_succ]))
      (refine wpTake_cons (v := ?_) (Or.inl ⟨by rfl, ?_⟩) ?_; rotate_left; (intro w' hSw; have yc := hSw.c.c; have e1 := ((bcell hSw.b).1 _ (off + k) hb0).trans hcell; have e2 := ((bcell hSw.b).1 _ (off1 + q) hb1).trans hcell1; clear hSw; go_simp; (try with_reducible rfl)); (try simp only [Act.put, List.setIfInBounds_toArray, List.set_cons_zero, List.set_cons_succ]))
      (refine wpTake_cons (v := ?_) (Or.inl ⟨by rfl, ?_⟩) ?_; rotate_left; (intro w' hSw; have yc := hSw.c.c; have e1 := ((bcell hSw.b).1 _ (off + k) hb0).trans hcell; have e2 := ((bcell hSw.b).1 _ (off1 + q) hb1).trans hcell1; clear hSw; go_simp; (try with_reducible rfl)); (try simp only [Act.put, List.setIfInBounds_toArray, List.set_cons_zero, List.set_cons_succ]))
      (refine wpTake_cons (v := ?_) (Or.inl ⟨by rfl, ?_⟩) ?_; rotate_left; (intro w' hSw; have yc := hSw.c.c; have e1 := ((bcell hSw.b).1 _ (off + k) hb0).trans hcell; have e2 := ((bcell hSw.b).1 _ (off1 + q) hb1).trans hcell1; clear hSw; go_simp; (try with_reducible rfl)); (try simp only [Act.put, List.setIfInBounds_toArray, List.set_cons_zero, List.set_cons_succ]))
      (refine wpTake_cons (v := ?_) (Or.inl ⟨by rfl, ?_⟩) ?_; rotate_left; (intro w' hSw; have yc := hSw.c.c; have e1 := ((bcell hSw.b).1 _ (off + k) hb0).trans hcell; have e2 := ((bcell hSw.b).1 _ (off1 + q) hb1).trans hcell1; clear hSw; go_simp; (try with_reducible rfl)); (try simp only [Act.put, List.setIfInBounds_toArray, List.set_cons_zero, List.set_cons_succ]))
      (refine wpTake_cons (v := ?_) (Or.inl ⟨by rfl, ?_⟩) ?_; rotate_left; (intro w' hSw; have yc := hSw.c.c; have e1 := ((bcell hSw.b).1 _ (off + k) hb0).trans hcell; have e2 := ((bcell hSw.b).1 _ (off1 + q) hb1).trans hcell1; clear hSw; go_simp; (try with_reducible rfl)); (try simp only [Act.put, List.setIfInBounds_toArray, List.set_cons_zero, List.set_cons_succ]))
      (refine wpTake_cons (v := ?_) (Or.inl ⟨by rfl, ?_⟩) ?_; rotate_left; (intro w' hSw; have yc := hSw.c.c; have e1 := ((bcell hSw.b).1 _ (off + k) hb0).trans hcell; have e2 := ((bcell hSw.b).1 _ (off1 + q) hb1).trans hcell1; clear hSw; go_simp; (try with_reducible rfl)); (try simp only [Act.put, List.setIfInBounds_toArray, List.set_cons_zero, List.set_cons_succ]))
      refine wpTake_nil ?_
      refine rg_one (fuel := 2) 0 rfl (by kernel_rfl) (by kernel_rfl) ?_
      simp only [pick1, wpHead]
      intro K' hK
      (first | rw [if_pos (by rfl)] | rw [if_neg (by intro h; cases h)] | skip)
      obtain ⟨lz, kz, fz⟩ := hs9
      have hs9 := Own.mk lz kz fz
      go_simp
      refine hK.out _ _ hS ?_
      clear hK lz kz fz
      (try simp only [Act.put, List.setIfInBounds_toArray, List.set_cons_zero, List.set_cons_succ])
      refine rg_one (fuel := 1) 10 rfl (by kernel_rfl) (by kernel_rfl) ?_
      simp only [pick1, wpHead]
      intro K' hK
      (first | rw [if_pos (by rfl)] | rw [if_neg (by intro h; cases h)] | skip)
      go_simp
      refine (wider59 lo hi x _ _).mono ?_
      rintro e W' ⟨rfl, hb⟩
      go_simp
      replace hr9 := hr9.below hb hr9.lt
      replace hs9 := hs9.below hb hs9.lt
      replace hS := hS.below hb
      refine hK.out _ _ hS ?_
      clear hK hb
      (try simp only [Act.put, List.setIfInBounds_toArray, List.set_cons_zero, List.set_cons_succ])
      refine rg_one (fuel := 0) 11 rfl (by kernel_rfl) (by kernel_rfl) ?_
      simp only [pick1, wpHead]
      intro K' hK
      (first | rw [if_pos (by rfl)] | rw [if_neg (by intro h; cases h)] | skip)
      obtain ⟨lz, kz, fz⟩ := hs9
      have hs9 := Own.mk lz kz fz
      go_simp
      have hs10 := own_set2 hs9 rfl (.int .i64 (wdL lo x ((k : Int) == 0))) (.int .i64 (wdH hi x ((k : Int) == 0)))
      replace hr9 := (hr9.setOther (a := ⟨w2.heap.size, 0, none⟩) (show w2.heap.size ≠ _ by omega) (.int .i64 (wdL lo x ((k : Int) == 0)))).setOther (a := ⟨w2.heap.size, 1, none⟩) (show w2.heap.size ≠ _ by omega) (.int .i64 (wdH hi x ((k : Int) == 0)))
      replace hS := (hS.set (g := w2.heap.size) (by omega) 0 (.int .i64 (wdL lo x ((k : Int) == 0)))).set (g := w2.heap.size) (by omega) 1 (.int .i64 (wdH hi x ((k : Int) == 0)))
      refine hK.out _ _ hS ?_
      clear hK lz kz fz hs9
      (try simp only [Act.put, List.setIfInBounds_toArray, List.set_cons_zero, List.set_cons_succ])
      refine rg_done (by kernel_rfl) ?_
      refine ⟨rfl, ?_⟩
      have r1 := Lib.hid hS.c
      have r2 := Lib.hid hr9
      have r3 := Lib.hid hs10
      have r4 := Lib.hid hS.b
      clear hS hr9 hs10
      (try simp only [Exit.then, Exit.inBlock])
      go_wp2
      go_roundg (ls.length - (k + 1))
      case measure => omega
      case rel => exact ⟨k + 1, _, _, by omega, by go_num, r1, r2, r3, r4, hsn⟩
    · obtain rfl : k = ls.length := by omega
      have hres : Hid (HeightR L sl rl rh wg ks p lo hi er) := Lib.hid ⟨hkn.out.1, fun he => by
        obtain ⟨hV, hp, hT⟩ := openR_zero hkn.out.1 he
        have e := hkn.out.2.1 he
        obtain ⟨hp0, hpL⟩ := btw_iff.1 hp
        rcases hsp.out.all with ⟨h0, _⟩ | ⟨_, h1⟩
        · rw [e] at h0; exact absurd hT (truL_nil.1 h0)
        · refine h1.congr fun s => ?_
          rw [e]
          constructor
          · rintro ⟨l, hl, rfl⟩
            exact ⟨_, (mem_truL.1 hl).2, rfl⟩
          · rintro ⟨h, hh, rfl⟩
            obtain ⟨k1, k2⟩ := truL_has hh
            exact ⟨_, k1, k2 _ (by omega)⟩, fun he => by
        have e := hkn.out.2.2 he
        rcases hsp.out.all with ⟨_, h1, h2⟩ | ⟨h0, _⟩
        · exact ⟨h1, h2⟩
        · exact absurd e h0⟩
      have hBx := Lib.hid (hB2.out.trans (hbw.out.mono hB2.out.size))
      obtain ⟨lz, kz, fz⟩ := hos.out
      obtain ⟨ly, ky, fy⟩ := hor.out
      clear hoc hbw hsp hmem
      go_wp2
      (try simp only [Exit.inBlock, Exit.then])
      refine bodyPost_gen fun W6 hW6 => ?_
      have o6 : Own W6 (w.heap.size + 1) [.int .i64 lo, .int .i64 hi] := by rw [hW6]; exact own_set2 hor.out rfl _ _
      have hB6 : Below w.heap.size w W6 := by rw [hW6]; exact (hBx.out.setCell (by show w.heap.size ≤ w.heap.size + 1; omega) _).setCell (by show w.heap.size ≤ w.heap.size + 1; omega) _
      refine bodyPost_ret (results_cell (B := w.heap.size + 1) (vs := [.int .i64 lo, .int .i64 hi]) rfl rfl o6 (by kernel_rfl) (by kernel_rfl)) rfl ?_
      exact ⟨lo, hi, er, rfl, hres, hB6⟩
end Go.Proofs.Ytphcpphmoeiioaa
