/- Walks: the reference, Height Integral Lean Level (merged) -/
import Derived.Test.YtphcpphmoeiioaaSpA
import Derived.Test.YtphcpphmoeiioaaLnA
import Derived.Test.YtphcpphmoeiioaaRf
import Derived.Test.YtphcpphmoeiioaaLvW
namespace Go.Proofs.Ytphcpphmoeiioaa
open Go.RowKit Go.Maps

theorem wp_nor {P : Program} {c : Code} {Q : Exit → Act → World → Prop} {a : Act} {w : World} (h : c.wp P (fun e a w => e = .normal ∧ Q e a w) a w) : c.wp P Q a w := Code.wp_mono (fun _ _ _ k => k.2) h
set_option maxRecDepth 100000 in
set_option maxHeartbeats 8000000 in
theorem rheight40 (L sl rl rh wg : Int) (A0 : Option Addr) (n0 c0 : Nat) (ks : List Kn) (p : Int) (w : World) (hA : Rd 3 w A0 (ks.map krow)) (hn : Hid (n0 = ks.length)) (hlen : n0 ≤ 9223372036854775807) (hfar : Hid (farB L sl rl rh wg ks = false)) :
    Calls Try.prog 40 #[.agg #[.int .i64 L, .int .i64 sl, .int .i64 rl, .int .i64 rh, .slice A0 n0 c0, .int .i64 wg], .int .i64 p] w fun e w' => ∃ lo hi er : Int, e = .returned (.tuple #[.agg #[.int .i64 lo, .int .i64 hi], .int .i64 er]) ∧ Hid (HeightR L sl rl rh wg ks p lo hi er) ∧ Below w.heap.size w w' := by
  have HA := Lib.hid hA
  clear hA
  go_enter Try.func40, Try.ntmps40
  go_wp2
  have hS0 : OpI w w.heap.size (w.heap.size + 1) [.int .i64 L, .int .i64 sl, .int .i64 rl, .int .i64 rh, .slice A0 n0 c0, .int .i64 wg] [.int .i64 0, .int .i64 0] ((w.alloc (.cells #[.int .i64 L, .int .i64 sl, .int .i64 rl, .int .i64 rh, .slice A0 n0 c0, .int .i64 wg] 26)).alloc (.cells #[.int .i64 0, .int .i64 0] 23)) := ⟨(Own.new' _ _ rfl rfl).alloc _, Own.new' _ _ (by simp) rfl, by (repeat' (first | (with_reducible exact Below.refl _ _) | (with_reducible assumption) | (with_reducible refine Below.drew ?_) | (with_reducible refine below_drewN ?_ _) | (with_reducible refine Below.setCell ?_ ?_ _) | (with_reducible refine Below.alloc ?_ ?_ _) | (refine Below.trans ?_ (Below.mono (by with_reducible assumption) ?_)) | omega | (exact Below.size (by with_reducible assumption)) | (simp; done) | (simp; omega)))⟩
  refine wp_nor ?_
  refine rg_start (OpI w w.heap.size (w.heap.size + 1) [.int .i64 L, .int .i64 sl, .int .i64 rl, .int .i64 rh, .slice A0 n0 c0, .int .i64 wg] [.int .i64 0, .int .i64 0]) 10 (by kernel_rfl) rfl ?_
  have hS := hS0.drew
  clear hS0
  generalize World.drew _ = W at hS ⊢
  refine rg_take (fuel := 7) [0, 1, 2] (by kernel_rfl) (by intro _ _ d _ _ h; first | (cases d <;> exact h) | cases h.1) rfl (by kernel_rfl) (by kernel_rfl) hS ?_
  simp only [pickL, pick1, List.cons_append, List.nil_append]
  (refine wpTake_cons (v := ?_) (Or.inl ⟨by rfl, ?_⟩) ?_; rotate_left; (intro w' hSw; have yc := hSw.c.c; have yd := hSw.d.c; clear hSw; go_simp; (try with_reducible rfl)); (try simp only [Act.put, List.setIfInBounds_toArray, List.set_cons_zero, List.set_cons_succ]))
  (refine wpTake_cons (v := ?_) (Or.inl ⟨by rfl, ?_⟩) ?_; rotate_left; (intro w' hSw; have yc := hSw.c.c; have yd := hSw.d.c; clear hSw; go_simp; (try with_reducible rfl)); (try simp only [Act.put, List.setIfInBounds_toArray, List.set_cons_zero, List.set_cons_succ]))
  (refine wpTake_cons (v := ?_) (Or.inl ⟨by rfl, ?_⟩) ?_; rotate_left; (intro w' hSw; have yc := hSw.c.c; have yd := hSw.d.c; clear hSw; go_simp; (try with_reducible rfl)); (try simp only [Act.put, List.setIfInBounds_toArray, List.set_cons_zero, List.set_cons_succ]))
  refine wpTake_nil ?_
  refine rg_one (fuel := 6) 3 rfl (by kernel_rfl) (by kernel_rfl) ?_
  simp only [pick1, wpHead]
  intro K' hK
  (first | rw [if_pos (by rfl)] | rw [if_neg (by intro h; cases h)] | skip)
  go_simp
  refine (isPlace73 _ _ _ _ _ _ _ _).mono ?_
  rintro e W1 ⟨rfl, hb⟩
  go_simp
  replace hS := hS.below hb
  refine hK.out _ _ hS ?_
  clear hK hb
  (try simp only [Act.put, List.setIfInBounds_toArray, List.set_cons_zero, List.set_cons_succ])
  clear W
  refine rg_one (fuel := 5) 4 rfl (by kernel_rfl) (by kernel_rfl) ?_
  simp only [pick1, wpHead]
  intro K' hK
  (first | rw [if_pos (by rfl)] | rw [if_neg (by intro h; cases h)] | skip)
  go_simp
  refine (known54 L sl rl rh wg A0 n0 c0 ks _ _ (HA.out.below hS.b (Nat.le_refl _)) hn hlen hfar).mono ?_
  rintro e w2 ⟨A, c, ls, er, rfl, hll, hkn, hl15, hb⟩
  go_simp
  replace hS := hS.below hb
  have HLL := Lib.hid hll
  refine hK.out _ _ hS ?_
  clear hK hb hll
  (try simp only [Act.put, List.setIfInBounds_toArray, List.set_cons_zero, List.set_cons_succ])
  clear W1
  refine rg_take (fuel := 2) [5, 6, 7] (by kernel_rfl) (by intro _ _ d _ _ h; first | (cases d <;> exact h) | cases h.1) rfl (by kernel_rfl) (by kernel_rfl) hS ?_
  simp only [pickL, pick1, List.cons_append, List.nil_append]
  (refine wpTake_cons (v := ?_) (Or.inl ⟨by rfl, ?_⟩) ?_; rotate_left; (intro w' hSw; have yc := hSw.c.c; have yd := hSw.d.c; clear hSw; go_simp; (try with_reducible rfl)); (try simp only [Act.put, List.setIfInBounds_toArray, List.set_cons_zero, List.set_cons_succ]))
  (refine wpTake_cons (v := ?_) (Or.inl ⟨by rfl, ?_⟩) ?_; rotate_left; (intro w' hSw; have yc := hSw.c.c; have yd := hSw.d.c; clear hSw; go_simp; (try with_reducible rfl)); (try simp only [Act.put, List.setIfInBounds_toArray, List.set_cons_zero, List.set_cons_succ]))
  (refine wpTake_cons (v := ?_) (Or.inl ⟨by rfl, ?_⟩) ?_; rotate_left; (intro w' hSw; have yc := hSw.c.c; have yd := hSw.d.c; clear hSw; go_simp; (try with_reducible rfl)); (try simp only [Act.put, List.setIfInBounds_toArray, List.set_cons_zero, List.set_cons_succ]))
  refine wpTake_nil ?_
  refine rg_one (fuel := 1) 8 rfl (by kernel_rfl) (by kernel_rfl) ?_
  simp only [pick1, wpHead]
  intro K' hK
  (first | rw [if_pos (by rfl)] | rw [if_neg (by intro h; cases h)] | skip)
  go_simp
  refine hK.out _ _ hS ?_
  clear hK
  (try simp only [Act.put, List.setIfInBounds_toArray, List.set_cons_zero, List.set_cons_succ])
  refine rg_one (fuel := 0) 9 rfl (by kernel_rfl) (by kernel_rfl) ?_
  simp only [pick1, wpHead]
  intro K' hK
  (first | rw [if_pos (by rfl)] | rw [if_neg (by intro h; cases h)] | skip)
  go_simp
  refine hK.out _ _ hS ?_
  clear hK
  (try simp only [Act.put, List.setIfInBounds_toArray, List.set_cons_zero, List.set_cons_succ])
  refine rg_done (by kernel_rfl) ?_
  refine ⟨rfl, ?_⟩
  (try simp only [Exit.then, Exit.inBlock])
  have hoc := Lib.hid hS.c
  have hor := Lib.hid hS.d
  have hB2 := Lib.hid hS.b
  have hmem : Hid (∀ l ∈ ls, (l.length = L.toNat + 1 ∧ (1 ≤ L ∧ L ≤ 12)) ∧ (0 ≤ p ∧ p ≤ L)) := Lib.hid fun l hl => by
    by_cases he : er = 0
    · obtain ⟨hV, hp, _⟩ := openR_zero hkn.out.1 he
      have e := hkn.out.2.1 he
      rw [e] at hl
      exact ⟨⟨(mem_truL.1 hl).1, hV.l1, hV.l2⟩, btw_iff.1 hp⟩
    · rw [hkn.out.2.2 he] at hl; cases hl
  have hc0 := hS.c.lt
  have hc1 := hS.d.lt
  clear hS
  go_wp2
  go_loopg [9] ls.length (fun K z w5 => ∃ (k : Nat) (lo hi : Int), K + k = ls.length ∧ z = .int .i64 k ∧ Hid (Own w5 w.heap.size [.int .i64 L, .int .i64 sl, .int .i64 rl, .int .i64 rh, .slice A0 n0 c0, .int .i64 wg]) ∧ Hid (Own w5 (w.heap.size + 1) [.int .i64 0, .int .i64 0]) ∧ Hid (Own w5 w2.heap.size [.int .i64 lo, .int .i64 hi]) ∧ Hid (Below w2.heap.size w2 w5) ∧ Hid (SpK (fun l => fnL l p.toNat) ls k lo hi))
  case atStart => exact ⟨0, 0, 0, rfl, rfl, Lib.hid (hoc.out.alloc _), Lib.hid (hor.out.alloc _), Lib.hid (Own.new' _ _ rfl rfl), Lib.hid ((Below.refl _ _).alloc (Nat.le_refl _) _), Lib.hid (SpK.zero _ _)⟩
  case round =>
    clear hoc hor
    obtain ⟨k, lo, hi, hK9, rfl, hoc, hor, hos, hbw, hsp⟩ := hrel
    by_cases hlt : k < ls.length
    · obtain ⟨l, hl⟩ : ∃ l, Hid (ls[k]? = some l) := ⟨ls[k], by simp [Hid]⟩
      obtain ⟨⟨hml, hL1, hL2⟩, hp0, hpL⟩ := hmem.out l (List.mem_of_getElem? hl.out)
      obtain ⟨q, rfl⟩ : ∃ q : Nat, p = (q : Int) := ⟨p.toNat, by omega⟩
      simp only [Int.toNat_natCast] at hsp
      obtain ⟨b, off, A', c', hAe, hb0, hcell, hrl⟩ := HLL.out.elem hl.out
      have e0 := Lib.hid (fnL_at (l := l) (i := q) (by omega))
      obtain ⟨b1, off1, hAe1, hb1, hcell1⟩ := hrl.elem e0.out
      have hAE := Lib.hid hAe
      have hAA := hAE.out
      subst hAA
      have hAE1 := Lib.hid hAe1
      have hAA1 := hAE1.out
      subst hAA1
      have hsn := Lib.hid (hsp.out.next hl.out)
      have hk0 : decide (k = 0) = ((k : Int) == 0) := by
        by_cases e : k = 0
        · subst e; rfl
        · rw [decide_eq_false e]; symm; rw [beq_eq_false_iff_ne]; omega
      rw [hk0] at hsn
      have y0 : (k : Int) < (ls.length : Int) := by omega
      have y1 : (q : Int) < (l.length : Int) := by omega
      have y2 : q < l.length := by omega
      clear hml
      have hS := Lib.hid (show OpI w2 w.heap.size w.heap.size [.int .i64 L, .int .i64 sl, .int .i64 rl, .int .i64 rh, .slice A0 n0 c0, .int .i64 wg] [.int .i64 L, .int .i64 sl, .int .i64 rl, .int .i64 rh, .slice A0 n0 c0, .int .i64 wg] wr from ⟨hoc.out, hoc.out, hbw.out⟩)
      have hn12 := hbw.out.size
      clear hAe hAe1 hAE hAE1 hrl hoc hbw hmem hsp hk0
      generalize hx : fnL l q = x at *
      have HX := Lib.hid hx
      clear hx e0
      obtain ⟨lc, kc, fc⟩ := hS.out.c
      go_wp2
      refine wp_nor ?_
      refine rg_start (OpI w2 w.heap.size w.heap.size [.int .i64 L, .int .i64 sl, .int .i64 rl, .int .i64 rh, .slice A0 n0 c0, .int .i64 wg] [.int .i64 L, .int .i64 sl, .int .i64 rl, .int .i64 rh, .slice A0 n0 c0, .int .i64 wg]) 12 (by kernel_rfl) rfl ?_
      replace hS := hS.out.drew
      have hr9 := hor.out.drew
      have hs9 := hos.out.drew
      clear lc kc fc hor hos
      generalize World.drew _ = W at hS hr9 hs9 ⊢
      refine rg_take (fuel := 3) [1, 2, 3, 4, 5, 6, 7, 8, 9] (by kernel_rfl) (by intro _ _ d _ _ h; first | (cases d <;> exact h) | cases h.1) rfl (by kernel_rfl) (by kernel_rfl) hS ?_
      simp only [pickL, pick1, List.cons_append, List.nil_append]
      (refine wpTake_cons (v := ?_) (Or.inl ⟨by rfl, ?_⟩) ?_; rotate_left; (intro w' hSw; have yc := hSw.c.c; have e1 := ((bcell hSw.b).1 _ (off + k) hb0).trans hcell; have e2 := ((bcell hSw.b).1 _ (off1 + q) hb1).trans hcell1; clear hSw; go_simp; (try with_reducible rfl)); (try simp only [Act.put, List.setIfInBounds_toArray, List.set_cons_zero, List.set_cons_succ]))
      (refine wpTake_cons (v := ?_) (Or.inl ⟨by rfl, ?_⟩) ?_; rotate_left; (intro w' hSw; have yc := hSw.c.c; have e1 := ((bcell hSw.b).1 _ (off + k) hb0).trans hcell; have e2 := ((bcell hSw.b).1 _ (off1 + q) hb1).trans hcell1; clear hSw; go_simp; (try with_reducible rfl)); (try simp only [Act.put, List.setIfInBounds_toArray, List.set_cons_zero, List.set_cons_succ]))
      (refine wpTake_cons (v := ?_) (Or.inl ⟨by rfl, ?_⟩) ?_; rotate_left; (intro w' hSw; have yc := hSw.c.c; have e1 := ((bcell hSw.b).1 _ (off + k) hb0).trans hcell; have e2 := ((bcell hSw.b).1 _ (off1 + q) hb1).trans hcell1; clear hSw; go_simp; (try with_reducible rfl)); (try simp only [Act.put, List.setIfInBounds_toArray, List.set_cons_zero, List.set_cons_succ]))
      (refine wpTake_cons (v := ?_) (Or.inl ⟨by rfl, ?_⟩) ?_; rotate_left; (intro w' hSw; have yc := hSw.c.c; have e1 := ((bcell hSw.b).1 _ (off + k) hb0).trans hcell; have e2 := ((bcell hSw.b).1 _ (off1 + q) hb1).trans hcell1; clear hSw; go_simp; (try with_reducible rfl)); (try simp only [Act.put, List.setIfInBounds_toArray, List.set_cons_zero, List.set_cons_succ]))
      (refine wpTake_cons (v := ?_) (Or.inl ⟨by rfl, ?_⟩) ?_; rotate_left; (intro w' hSw; have yc := hSw.c.c; have e1 := ((bcell hSw.b).1 _ (off + k) hb0).trans hcell; have e2 := ((bcell hSw.b).1 _ (off1 + q) hb1).trans hcell1; clear hSw; go_simp; (try with_reducible rfl)); (try simp only [Act.put, List.setIfInBounds_toArray, List.set_cons_zero, List.set_cons_succ]))
      (refine wpTake_cons (v := ?_) (Or.inl ⟨by rfl, ?_⟩) ?_; rotate_left; (intro w' hSw; have yc := hSw.c.c; have e1 := ((bcell hSw.b).1 _ (off + k) hb0).trans hcell; have e2 := ((bcell hSw.b).1 _ (off1 + q) hb1).trans hcell1; clear hSw; go_simp; (try with_reducible rfl)); (try simp only [Act.put, List.setIfInBounds_toArray, List.set_cons_zero, List.set_cons_succ]))
      (refine wpTake_cons (v := ?_) (Or.inl ⟨by rfl, ?_⟩) ?_; rotate_left; (intro w' hSw; have yc := hSw.c.c; have e1 := ((bcell hSw.b).1 _ (off + k) hb0).trans hcell; have e2 := ((bcell hSw.b).1 _ (off1 + q) hb1).trans hcell1; clear hSw; go_simp; (try with_reducible rfl)); (try simp only [Act.put, List.setIfInBounds_toArray, List.set_cons_zero, List.set_cons_succ]))
      (refine wpTake_cons (v := ?_) (Or.inl ⟨by rfl, ?_⟩) ?_; rotate_left; (intro w' hSw; have yc := hSw.c.c; have e1 := ((bcell hSw.b).1 _ (off + k) hb0).trans hcell; have e2 := ((bcell hSw.b).1 _ (off1 + q) hb1).trans hcell1; clear hSw; go_simp; (try with_reducible rfl)); (try simp only [Act.put, List.setIfInBounds_toArray, List.set_cons_zero, List.set_cons_succ]))
      (refine wpTake_cons (v := ?_) (Or.inl ⟨by rfl, ?_⟩) ?_; rotate_left; (intro w' hSw; have yc := hSw.c.c; have e1 := ((bcell hSw.b).1 _ (off + k) hb0).trans hcell; have e2 := ((bcell hSw.b).1 _ (off1 + q) hb1).trans hcell1; clear hSw; go_simp; (try with_reducible rfl)); (try simp only [Act.put, List.setIfInBounds_toArray, List.set_cons_zero, List.set_cons_succ]))
      refine wpTake_nil ?_
      refine rg_one (fuel := 2) 0 rfl (by kernel_rfl) (by kernel_rfl) ?_
      simp only [pick1, wpHead]
      intro K' hK
      (first | rw [if_pos (by rfl)] | rw [if_neg (by intro h; cases h)] | skip)
      obtain ⟨lz, kz, fz⟩ := hs9
      have hs9 := Own.mk lz kz fz
      go_simp
      refine hK.out _ _ hS ?_
      clear hK lz kz fz
      (try simp only [Act.put, List.setIfInBounds_toArray, List.set_cons_zero, List.set_cons_succ])
      refine rg_one (fuel := 1) 10 rfl (by kernel_rfl) (by kernel_rfl) ?_
      simp only [pick1, wpHead]
      intro K' hK
      (first | rw [if_pos (by rfl)] | rw [if_neg (by intro h; cases h)] | skip)
      go_simp
      refine (wider59 lo hi x _ _).mono ?_
      rintro e W' ⟨rfl, hb⟩
      go_simp
      replace hr9 := hr9.below hb hr9.lt
      replace hs9 := hs9.below hb hs9.lt
      replace hS := hS.below hb
      refine hK.out _ _ hS ?_
      clear hK hb
      (try simp only [Act.put, List.setIfInBounds_toArray, List.set_cons_zero, List.set_cons_succ])
      refine rg_one (fuel := 0) 11 rfl (by kernel_rfl) (by kernel_rfl) ?_
      simp only [pick1, wpHead]
      intro K' hK
      (first | rw [if_pos (by rfl)] | rw [if_neg (by intro h; cases h)] | skip)
      obtain ⟨lz, kz, fz⟩ := hs9
      have hs9 := Own.mk lz kz fz
      go_simp
      have hs10 := own_set2 hs9 rfl (.int .i64 (wdL lo x ((k : Int) == 0))) (.int .i64 (wdH hi x ((k : Int) == 0)))
      replace hr9 := (hr9.setOther (a := ⟨w2.heap.size, 0, none⟩) (show w2.heap.size ≠ _ by omega) (.int .i64 (wdL lo x ((k : Int) == 0)))).setOther (a := ⟨w2.heap.size, 1, none⟩) (show w2.heap.size ≠ _ by omega) (.int .i64 (wdH hi x ((k : Int) == 0)))
      replace hS := (hS.set (g := w2.heap.size) (by omega) 0 (.int .i64 (wdL lo x ((k : Int) == 0)))).set (g := w2.heap.size) (by omega) 1 (.int .i64 (wdH hi x ((k : Int) == 0)))
      refine hK.out _ _ hS ?_
      clear hK lz kz fz hs9
      (try simp only [Act.put, List.setIfInBounds_toArray, List.set_cons_zero, List.set_cons_succ])
      refine rg_done (by kernel_rfl) ?_
      refine ⟨rfl, ?_⟩
      have r1 := Lib.hid hS.c
      have r2 := Lib.hid hr9
      have r3 := Lib.hid hs10
      have r4 := Lib.hid hS.b
      clear hS hr9 hs10
      (try simp only [Exit.then, Exit.inBlock])
      go_wp2
      go_roundg (ls.length - (k + 1))
      case measure => omega
      case rel => exact ⟨k + 1, _, _, by omega, by go_num, r1, r2, r3, r4, hsn⟩
    · obtain rfl : k = ls.length := by omega
      have hres : Hid (HeightR L sl rl rh wg ks p lo hi er) := Lib.hid ⟨hkn.out.1, fun he => by
        obtain ⟨hV, hp, hT⟩ := openR_zero hkn.out.1 he
        have e := hkn.out.2.1 he
        obtain ⟨hp0, hpL⟩ := btw_iff.1 hp
        rcases hsp.out.all with ⟨h0, _⟩ | ⟨_, h1⟩
        · rw [e] at h0; exact absurd hT (truL_nil.1 h0)
        · refine h1.congr fun s => ?_
          rw [e]
          constructor
          · rintro ⟨l, hl, rfl⟩
            exact ⟨_, (mem_truL.1 hl).2, rfl⟩
          · rintro ⟨h, hh, rfl⟩
            obtain ⟨k1, k2⟩ := truL_has hh
            exact ⟨_, k1, k2 _ (by omega)⟩, fun he => by
        have e := hkn.out.2.2 he
        rcases hsp.out.all with ⟨_, h1, h2⟩ | ⟨h0, _⟩
        · exact ⟨h1, h2⟩
        · exact absurd e h0⟩
      have hBx := Lib.hid (hB2.out.trans (hbw.out.mono hB2.out.size))
      obtain ⟨lz, kz, fz⟩ := hos.out
      obtain ⟨ly, ky, fy⟩ := hor.out
      clear hoc hbw hsp hmem
      go_wp2
      (try simp only [Exit.inBlock, Exit.then])
      refine bodyPost_gen fun W6 hW6 => ?_
      have o6 : Own W6 (w.heap.size + 1) [.int .i64 lo, .int .i64 hi] := by rw [hW6]; exact own_set2 hor.out rfl _ _
      have hB6 : Below w.heap.size w W6 := by rw [hW6]; exact (hBx.out.setCell (by show w.heap.size ≤ w.heap.size + 1; omega) _).setCell (by show w.heap.size ≤ w.heap.size + 1; omega) _
      refine bodyPost_ret (results_cell (B := w.heap.size + 1) (vs := [.int .i64 lo, .int .i64 hi]) rfl rfl o6 (by kernel_rfl) (by kernel_rfl)) rfl ?_
      exact ⟨lo, hi, er, rfl, hres, hB6⟩
end Go.Proofs.Ytphcpphmoeiioaa
namespace Go.Proofs.Ytphcpphmoeiioaa
open Go.RowKit Go.Maps

theorem within71v (n lo hi : Int) (w : World) : Calls Try.prog 71 #[.int .i64 n, .int .i64 lo, .int .i64 hi] w fun e w' => e = .returned (.bool (btw n lo hi)) ∧ Below w.heap.size w w' :=
  (within71 n lo hi w).mono fun _ _ ⟨h1, h2⟩ => ⟨h1, h2 ▸ Below.refl _ _⟩
set_option maxHeartbeats 2000000 in
theorem areEnds58 (L sl rl rh wg : Int) (S : Value) (a b : Int) (w : World) :
    Calls Try.prog 58 #[.agg #[.int .i64 L, .int .i64 sl, .int .i64 rl, .int .i64 rh, S, .int .i64 wg], .int .i64 a, .int .i64 b] w fun e w' => e = .returned (.bool (btw a 0 L && btw b a L)) ∧ Below w.heap.size w w' := by
  cases h : btw a 0 L
  · go_enter Try.func58, Try.ntmps58
    go_wp2_with fail
    refine (isPlace73 _ _ _ _ _ _ _ _).mono ?_
    rw [h]
    rintro e w1 ⟨rfl, hb1⟩
    have hB1 : Below w.heap.size w w1 := by (repeat' (first | (with_reducible exact Below.refl _ _) | (with_reducible assumption) | (with_reducible refine Below.drew ?_) | (with_reducible refine below_drewN ?_ _) | (with_reducible refine Below.setCell ?_ ?_ _) | (with_reducible refine Below.alloc ?_ ?_ _) | (refine Below.trans ?_ (Below.mono (by with_reducible assumption) ?_)) | omega | (exact Below.size (by with_reducible assumption)) | (simp; done) | (simp; omega)))
    clear hb1
    go_wp2
    go_ret
    exact ⟨rfl, hB1⟩
  · go_enter Try.func58, Try.ntmps58
    go_wp2_with fail
    refine (isPlace73 _ _ _ _ _ _ _ _).mono ?_
    rw [h]
    rintro e w1 ⟨rfl, hb1⟩
    have hB1 : Below w.heap.size w w1 := by (repeat' (first | (with_reducible exact Below.refl _ _) | (with_reducible assumption) | (with_reducible refine Below.drew ?_) | (with_reducible refine below_drewN ?_ _) | (with_reducible refine Below.setCell ?_ ?_ _) | (with_reducible refine Below.alloc ?_ ?_ _) | (refine Below.trans ?_ (Below.mono (by with_reducible assumption) ?_)) | omega | (exact Below.size (by with_reducible assumption)) | (simp; done) | (simp; omega)))
    have o1 := (Own.new' (w := w) (b := w.heap.size) #[.int .i64 L, .int .i64 sl, .int .i64 rl, .int .i64 rh, S, .int .i64 wg] 26 rfl rfl).below hb1 (by simp)
    clear hb1
    obtain ⟨l1, k1, f1⟩ := o1
    go_wp2_with fail
    refine (within71v _ _ _ _).mono ?_
    rintro e w2 ⟨rfl, hb2⟩
    have hB2 := hB1.trans (hb2.mono hB1.size)
    clear hb2 l1 k1 f1
    go_wp2
    go_ret
    exact ⟨by simp, hB2⟩
theorem ends_eq {L a b : Int} : (btw a 0 L && btw b a L) = (btw a 0 L && btw b 0 L && decide (a ≤ b)) := by
  rw [Bool.eq_iff_iff]
  simp only [Bool.and_eq_true, btw_iff, decide_eq_true_eq]
  omega
theorem ends_iff {L a b : Int} : (btw a 0 L && btw b 0 L && decide (a ≤ b)) = true ↔ 0 ≤ a ∧ a ≤ b ∧ b ≤ L := by
  simp only [Bool.and_eq_true, btw_iff, decide_eq_true_eq]
  omega
theorem tru_rng {L sl rl rh wg : Int} {ks : List Kn} (hV : CvV L sl rl rh wg ks) {l : List Int} (hl : l ∈ truL L sl rl rh wg ks) : ∀ x ∈ l, -100 ≤ x ∧ x ≤ 100 := fun x hx => by
  obtain ⟨a1, a2⟩ := mem_truL.1 hl
  obtain ⟨i, hi, rfl⟩ := List.getElem_of_mem hx
  have h1 : rl ≤ fnL l i ∧ fnL l i ≤ rh := a2.1.1 i (by show i ≤ L.toNat; omega)
  have e : fnL l i = l[i] := by have := fnL_at hi; rw [List.getElem?_eq_getElem hi] at this; exact (Option.some.inj this).symm
  rw [e] at h1
  have := hV.r1
  have := hV.r2
  omega
set_option maxRecDepth 100000 in
set_option maxHeartbeats 8000000 in
theorem rintegral23 (L sl rl rh wg : Int) (A0 : Option Addr) (n0 c0 : Nat) (ks : List Kn) (a b : Int) (w : World) (hA : Rd 3 w A0 (ks.map krow)) (hn : Hid (n0 = ks.length)) (hlen : n0 ≤ 9223372036854775807) (hfar : Hid (farB L sl rl rh wg ks = false)) :
    Calls Try.prog 23 #[.agg #[.int .i64 L, .int .i64 sl, .int .i64 rl, .int .i64 rh, .slice A0 n0 c0, .int .i64 wg], .int .i64 a, .int .i64 b] w fun e w' => ∃ lo hi er : Int, e = .returned (.tuple #[.agg #[.int .i64 lo, .int .i64 hi], .int .i64 er]) ∧ Hid (IntegralR L sl rl rh wg ks a b lo hi er) ∧ Below w.heap.size w w' := by
  have HA := Lib.hid hA
  clear hA
  go_enter Try.func23, Try.ntmps23
  go_wp2
  have hS0 : OpI w w.heap.size (w.heap.size + 1) [.int .i64 L, .int .i64 sl, .int .i64 rl, .int .i64 rh, .slice A0 n0 c0, .int .i64 wg] [.int .i64 0, .int .i64 0] ((w.alloc (.cells #[.int .i64 L, .int .i64 sl, .int .i64 rl, .int .i64 rh, .slice A0 n0 c0, .int .i64 wg] 26)).alloc (.cells #[.int .i64 0, .int .i64 0] 23)) := ⟨(Own.new' _ _ rfl rfl).alloc _, Own.new' _ _ (by simp) rfl, by (repeat' (first | (with_reducible exact Below.refl _ _) | (with_reducible assumption) | (with_reducible refine Below.drew ?_) | (with_reducible refine below_drewN ?_ _) | (with_reducible refine Below.setCell ?_ ?_ _) | (with_reducible refine Below.alloc ?_ ?_ _) | (refine Below.trans ?_ (Below.mono (by with_reducible assumption) ?_)) | omega | (exact Below.size (by with_reducible assumption)) | (simp; done) | (simp; omega)))⟩
  refine wp_nor ?_
  refine rg_start (OpI w w.heap.size (w.heap.size + 1) [.int .i64 L, .int .i64 sl, .int .i64 rl, .int .i64 rh, .slice A0 n0 c0, .int .i64 wg] [.int .i64 0, .int .i64 0]) 11 (by kernel_rfl) rfl ?_
  have hS := hS0.drew
  clear hS0
  generalize World.drew _ = W at hS ⊢
  refine rg_take (fuel := 7) [0, 1, 2, 3] (by kernel_rfl) (by intro _ _ d _ _ h; first | (cases d <;> exact h) | cases h.1) rfl (by kernel_rfl) (by kernel_rfl) hS ?_
  simp only [pickL, pick1, List.cons_append, List.nil_append]
  (refine wpTake_cons (v := ?_) (Or.inl ⟨by rfl, ?_⟩) ?_; rotate_left; (intro w' hSw; have yc := hSw.c.c; have yd := hSw.d.c; clear hSw; go_simp; (try with_reducible rfl)); (try simp only [Act.put, List.setIfInBounds_toArray, List.set_cons_zero, List.set_cons_succ]))
  (refine wpTake_cons (v := ?_) (Or.inl ⟨by rfl, ?_⟩) ?_; rotate_left; (intro w' hSw; have yc := hSw.c.c; have yd := hSw.d.c; clear hSw; go_simp; (try with_reducible rfl)); (try simp only [Act.put, List.setIfInBounds_toArray, List.set_cons_zero, List.set_cons_succ]))
  (refine wpTake_cons (v := ?_) (Or.inl ⟨by rfl, ?_⟩) ?_; rotate_left; (intro w' hSw; have yc := hSw.c.c; have yd := hSw.d.c; clear hSw; go_simp; (try with_reducible rfl)); (try simp only [Act.put, List.setIfInBounds_toArray, List.set_cons_zero, List.set_cons_succ]))
  (refine wpTake_cons (v := ?_) (Or.inl ⟨by rfl, ?_⟩) ?_; rotate_left; (intro w' hSw; have yc := hSw.c.c; have yd := hSw.d.c; clear hSw; go_simp; (try with_reducible rfl)); (try simp only [Act.put, List.setIfInBounds_toArray, List.set_cons_zero, List.set_cons_succ]))
  refine wpTake_nil ?_
  refine rg_one (fuel := 6) 4 rfl (by kernel_rfl) (by kernel_rfl) ?_
  simp only [pick1, wpHead]
  intro K' hK
  (first | rw [if_pos (by rfl)] | rw [if_neg (by intro h; cases h)] | skip)
  go_simp
  refine (areEnds58 _ _ _ _ _ _ _ _ _).mono ?_
  rintro e W1 ⟨rfl, hb⟩
  go_simp
  replace hS := hS.below hb
  refine hK.out _ _ hS ?_
  clear hK hb
  (try simp only [Act.put, List.setIfInBounds_toArray, List.set_cons_zero, List.set_cons_succ])
  clear W
  refine rg_one (fuel := 5) 5 rfl (by kernel_rfl) (by kernel_rfl) ?_
  simp only [pick1, wpHead]
  intro K' hK
  (first | rw [if_pos (by rfl)] | rw [if_neg (by intro h; cases h)] | skip)
  go_simp
  refine (known54 L sl rl rh wg A0 n0 c0 ks _ _ (HA.out.below hS.b (Nat.le_refl _)) hn hlen hfar).mono ?_
  rintro e w2 ⟨A, c, ls, er, rfl, hll, hkn, hl15, hb⟩
  go_simp
  replace hS := hS.below hb
  have HLL := Lib.hid hll
  refine hK.out _ _ hS ?_
  clear hK hb hll
  (try simp only [Act.put, List.setIfInBounds_toArray, List.set_cons_zero, List.set_cons_succ])
  clear W1
  refine rg_take (fuel := 2) [6, 7, 8] (by kernel_rfl) (by intro _ _ d _ _ h; first | (cases d <;> exact h) | cases h.1) rfl (by kernel_rfl) (by kernel_rfl) hS ?_
  simp only [pickL, pick1, List.cons_append, List.nil_append]
  (refine wpTake_cons (v := ?_) (Or.inl ⟨by rfl, ?_⟩) ?_; rotate_left; (intro w' hSw; have yc := hSw.c.c; have yd := hSw.d.c; clear hSw; go_simp; (try with_reducible rfl)); (try simp only [Act.put, List.setIfInBounds_toArray, List.set_cons_zero, List.set_cons_succ]))
  (refine wpTake_cons (v := ?_) (Or.inl ⟨by rfl, ?_⟩) ?_; rotate_left; (intro w' hSw; have yc := hSw.c.c; have yd := hSw.d.c; clear hSw; go_simp; (try with_reducible rfl)); (try simp only [Act.put, List.setIfInBounds_toArray, List.set_cons_zero, List.set_cons_succ]))
  (refine wpTake_cons (v := ?_) (Or.inl ⟨by rfl, ?_⟩) ?_; rotate_left; (intro w' hSw; have yc := hSw.c.c; have yd := hSw.d.c; clear hSw; go_simp; (try with_reducible rfl)); (try simp only [Act.put, List.setIfInBounds_toArray, List.set_cons_zero, List.set_cons_succ]))
  refine wpTake_nil ?_
  refine rg_one (fuel := 1) 9 rfl (by kernel_rfl) (by kernel_rfl) ?_
  simp only [pick1, wpHead]
  intro K' hK
  (first | rw [if_pos (by rfl)] | rw [if_neg (by intro h; cases h)] | skip)
  go_simp
  refine hK.out _ _ hS ?_
  clear hK
  (try simp only [Act.put, List.setIfInBounds_toArray, List.set_cons_zero, List.set_cons_succ])
  refine rg_one (fuel := 0) 10 rfl (by kernel_rfl) (by kernel_rfl) ?_
  simp only [pick1, wpHead]
  intro K' hK
  (first | rw [if_pos (by rfl)] | rw [if_neg (by intro h; cases h)] | skip)
  go_simp
  refine hK.out _ _ hS ?_
  clear hK
  (try simp only [Act.put, List.setIfInBounds_toArray, List.set_cons_zero, List.set_cons_succ])
  refine rg_done (by kernel_rfl) ?_
  refine ⟨rfl, ?_⟩
  (try simp only [Exit.then, Exit.inBlock])
  have hoc := Lib.hid hS.c
  have hor := Lib.hid hS.d
  have hB2 := Lib.hid hS.b
  rw [ends_eq] at hkn
  have hmem : Hid (∀ l ∈ ls, ((l.length = L.toNat + 1 ∧ (1 ≤ L ∧ L ≤ 12)) ∧ ∀ x ∈ l, -100 ≤ x ∧ x ≤ 100) ∧ (0 ≤ a ∧ a ≤ b ∧ b ≤ L)) := Lib.hid fun l hl => by
    by_cases he : er = 0
    · obtain ⟨hV, hp, _⟩ := openR_zero hkn.out.1 he
      have e := hkn.out.2.1 he
      rw [e] at hl
      have hp' := ends_iff.1 hp
      exact ⟨⟨⟨(mem_truL.1 hl).1, hV.l1, hV.l2⟩, tru_rng hV hl⟩, hp'⟩
    · rw [hkn.out.2.2 he] at hl; cases hl
  have hc0 := hS.c.lt
  have hc1 := hS.d.lt
  clear hS
  go_wp2
  go_loopg [11] ls.length (fun K z w5 => ∃ (k : Nat) (lo hi : Int), K + k = ls.length ∧ z = .int .i64 k ∧ Hid (Own w5 w.heap.size [.int .i64 L, .int .i64 sl, .int .i64 rl, .int .i64 rh, .slice A0 n0 c0, .int .i64 wg]) ∧ Hid (Own w5 (w.heap.size + 1) [.int .i64 0, .int .i64 0]) ∧ Hid (Own w5 w2.heap.size [.int .i64 lo, .int .i64 hi]) ∧ Hid (Below w2.heap.size w2 w5) ∧ Hid (SpK (fun l => sUp (fnL l) a b (L.toNat + 1)) ls k lo hi))
  case atStart => exact ⟨0, 0, 0, rfl, rfl, Lib.hid (hoc.out.alloc _), Lib.hid (hor.out.alloc _), Lib.hid (Own.new' _ _ rfl rfl), Lib.hid ((Below.refl _ _).alloc (Nat.le_refl _) _), Lib.hid (SpK.zero _ _)⟩
  case round =>
    clear hoc hor
    obtain ⟨k, lo, hi, hK9, rfl, hoc, hor, hos, hbw, hsp⟩ := hrel
    by_cases hlt : k < ls.length
    · obtain ⟨l, hl⟩ : ∃ l, Hid (ls[k]? = some l) := ⟨ls[k], by simp [Hid]⟩
      obtain ⟨⟨⟨hml, hL1, hL2⟩, hvl⟩, ha0, hab, hbL⟩ := hmem.out l (List.mem_of_getElem? hl.out)
      obtain ⟨i, hi9⟩ : ∃ i : Nat, a = (i : Int) := ⟨a.toNat, by omega⟩
      obtain ⟨j, hj9⟩ : ∃ j : Nat, b = (j : Int) := ⟨b.toNat, by omega⟩
      obtain ⟨b9, off, A', c', hAe, hb0, hcell, hrl⟩ := HLL.out.elem hl.out
      have hAE := Lib.hid hAe
      have hAA := hAE.out
      subst hAA
      have hsn := Lib.hid (hsp.out.next hl.out)
      have hk0 : decide (k = 0) = ((k : Int) == 0) := by
        by_cases e : k = 0
        · subst e; rfl
        · rw [decide_eq_false e]; symm; rw [beq_eq_false_iff_ne]; omega
      rw [hk0] at hsn
      have y0 : (k : Int) < (ls.length : Int) := by omega
      have HML := Lib.hid hml
      have HVL := Lib.hid hvl
      have HRL := Lib.hid hrl
      have hS := Lib.hid (show OpI w2 w.heap.size w.heap.size [.int .i64 L, .int .i64 sl, .int .i64 rl, .int .i64 rh, .slice A0 n0 c0, .int .i64 wg] [.int .i64 L, .int .i64 sl, .int .i64 rl, .int .i64 rh, .slice A0 n0 c0, .int .i64 wg] wr from ⟨hoc.out, hoc.out, hbw.out⟩)
      have hn12 := hbw.out.size
      have hl40 : l.length ≤ 40 := by omega
      have hc46 : ∀ W, Below w2.heap.size w2 W → Calls Try.prog 46 #[.slice A' l.length c', .int .i64 a, .int .i64 b] W fun e w' => e = .returned (.int .i64 (sUp (fnL l) a b (L.toNat + 1))) ∧ Below W.heap.size W w' := fun W hW => by
        have h := sum46 A' l.length c' l i j W (HRL.out.below hW (Nat.le_refl _)) (Lib.hid rfl) hl40 (by omega) (by have := HML.out; omega) HVL
        rw [← hi9, ← hj9] at h
        rw [HML.out] at h
        rw [HML.out]
        exact h
      clear hml hvl hAe hAE hrl hoc hbw hsp hk0 hi9 hj9
      generalize hx : sUp (fnL l) a b (L.toNat + 1) = x at *
      clear hx
      obtain ⟨lc, kc, fc⟩ := hS.out.c
      go_wp2
      refine wp_nor ?_
      refine rg_start (OpI w2 w.heap.size w.heap.size [.int .i64 L, .int .i64 sl, .int .i64 rl, .int .i64 rh, .slice A0 n0 c0, .int .i64 wg] [.int .i64 L, .int .i64 sl, .int .i64 rl, .int .i64 rh, .slice A0 n0 c0, .int .i64 wg]) 12 (by kernel_rfl) rfl ?_
      replace hS := hS.out.drew
      have hr9 := hor.out.drew
      have hs9 := hos.out.drew
      clear lc kc fc hor hos
      generalize World.drew _ = W at hS hr9 hs9 ⊢
      refine rg_take (fuel := 4) [1, 2, 3, 4, 5, 6, 8, 9] (by kernel_rfl) (by intro _ _ d _ _ h; first | (cases d <;> exact h) | cases h.1) rfl (by kernel_rfl) (by kernel_rfl) hS ?_
      simp only [pickL, pick1, List.cons_append, List.nil_append]
      (refine wpTake_cons (v := ?_) (Or.inl ⟨by rfl, ?_⟩) ?_; rotate_left; (intro w' hSw; have yc := hSw.c.c; have e1 := ((bcell hSw.b).1 _ (off + k) hb0).trans hcell; clear hSw; go_simp; (try with_reducible rfl)); (try simp only [Act.put, List.setIfInBounds_toArray, List.set_cons_zero, List.set_cons_succ]))
      (refine wpTake_cons (v := ?_) (Or.inl ⟨by rfl, ?_⟩) ?_; rotate_left; (intro w' hSw; have yc := hSw.c.c; have e1 := ((bcell hSw.b).1 _ (off + k) hb0).trans hcell; clear hSw; go_simp; (try with_reducible rfl)); (try simp only [Act.put, List.setIfInBounds_toArray, List.set_cons_zero, List.set_cons_succ]))
      (refine wpTake_cons (v := ?_) (Or.inl ⟨by rfl, ?_⟩) ?_; rotate_left; (intro w' hSw; have yc := hSw.c.c; have e1 := ((bcell hSw.b).1 _ (off + k) hb0).trans hcell; clear hSw; go_simp; (try with_reducible rfl)); (try simp only [Act.put, List.setIfInBounds_toArray, List.set_cons_zero, List.set_cons_succ]))
      (refine wpTake_cons (v := ?_) (Or.inl ⟨by rfl, ?_⟩) ?_; rotate_left; (intro w' hSw; have yc := hSw.c.c; have e1 := ((bcell hSw.b).1 _ (off + k) hb0).trans hcell; clear hSw; go_simp; (try with_reducible rfl)); (try simp only [Act.put, List.setIfInBounds_toArray, List.set_cons_zero, List.set_cons_succ]))
      (refine wpTake_cons (v := ?_) (Or.inl ⟨by rfl, ?_⟩) ?_; rotate_left; (intro w' hSw; have yc := hSw.c.c; have e1 := ((bcell hSw.b).1 _ (off + k) hb0).trans hcell; clear hSw; go_simp; (try with_reducible rfl)); (try simp only [Act.put, List.setIfInBounds_toArray, List.set_cons_zero, List.set_cons_succ]))
      (refine wpTake_cons (v := ?_) (Or.inl ⟨by rfl, ?_⟩) ?_; rotate_left; (intro w' hSw; have yc := hSw.c.c; have e1 := ((bcell hSw.b).1 _ (off + k) hb0).trans hcell; clear hSw; go_simp; (try with_reducible rfl)); (try simp only [Act.put, List.setIfInBounds_toArray, List.set_cons_zero, List.set_cons_succ]))
      (refine wpTake_cons (v := ?_) (Or.inl ⟨by rfl, ?_⟩) ?_; rotate_left; (intro w' hSw; have yc := hSw.c.c; have e1 := ((bcell hSw.b).1 _ (off + k) hb0).trans hcell; clear hSw; go_simp; (try with_reducible rfl)); (try simp only [Act.put, List.setIfInBounds_toArray, List.set_cons_zero, List.set_cons_succ]))
      (refine wpTake_cons (v := ?_) (Or.inl ⟨by rfl, ?_⟩) ?_; rotate_left; (intro w' hSw; have yc := hSw.c.c; have e1 := ((bcell hSw.b).1 _ (off + k) hb0).trans hcell; clear hSw; go_simp; (try with_reducible rfl)); (try simp only [Act.put, List.setIfInBounds_toArray, List.set_cons_zero, List.set_cons_succ]))
      refine wpTake_nil ?_
      refine rg_two (fuel := 3) 0 7 rfl (by kernel_rfl) (by kernel_rfl) ?_ ?_ <;> simp only [pick1, wpHead]
      · intro K' hK
        (first | rw [if_pos (by rfl)] | rw [if_neg (by intro h; cases h)] | skip)
        obtain ⟨lz, kz, fz⟩ := hs9
        have hs9 := Own.mk lz kz fz
        go_simp
        refine hK.out _ _ hS ?_
        clear hK lz kz fz
        (try simp only [Act.put, List.setIfInBounds_toArray, List.set_cons_zero, List.set_cons_succ])
        refine rg_one (fuel := 2) 7 rfl (by kernel_rfl) (by kernel_rfl) ?_
        simp only [pick1, wpHead]
        intro K' hK
        (first | rw [if_pos (by rfl)] | rw [if_neg (by intro h; cases h)] | skip)
        go_simp
        refine (hc46 _ hS.b).mono ?_
        rintro e W7 ⟨rfl, hb⟩
        go_simp
        replace hs9 := hs9.below hb hs9.lt
        replace hr9 := hr9.below hb hr9.lt
        replace hS := hS.below hb
        refine hK.out _ _ hS ?_
        clear hK hb
        (try simp only [Act.put, List.setIfInBounds_toArray, List.set_cons_zero, List.set_cons_succ])
        refine rg_one (fuel := 1) 10 rfl (by kernel_rfl) (by kernel_rfl) ?_
        simp only [pick1, wpHead]
        intro K' hK
        (first | rw [if_pos (by rfl)] | rw [if_neg (by intro h; cases h)] | skip)
        go_simp
        refine (wider59 lo hi x _ _).mono ?_
        rintro e W' ⟨rfl, hb⟩
        go_simp
        replace hs9 := hs9.below hb hs9.lt
        replace hr9 := hr9.below hb hr9.lt
        replace hS := hS.below hb
        refine hK.out _ _ hS ?_
        clear hK hb
        (try simp only [Act.put, List.setIfInBounds_toArray, List.set_cons_zero, List.set_cons_succ])
        refine rg_one (fuel := 0) 11 rfl (by kernel_rfl) (by kernel_rfl) ?_
        simp only [pick1, wpHead]
        intro K' hK
        (first | rw [if_pos (by rfl)] | rw [if_neg (by intro h; cases h)] | skip)
        obtain ⟨lz, kz, fz⟩ := hs9
        have hs9 := Own.mk lz kz fz
        go_simp
        have hs10 := own_set2 hs9 rfl (.int .i64 (wdL lo x ((k : Int) == 0))) (.int .i64 (wdH hi x ((k : Int) == 0)))
        replace hr9 := (hr9.setOther (a := ⟨w2.heap.size, 0, none⟩) (show w2.heap.size ≠ _ by omega) (.int .i64 (wdL lo x ((k : Int) == 0)))).setOther (a := ⟨w2.heap.size, 1, none⟩) (show w2.heap.size ≠ _ by omega) (.int .i64 (wdH hi x ((k : Int) == 0)))
        replace hS := (hS.set (g := w2.heap.size) (by omega) 0 (.int .i64 (wdL lo x ((k : Int) == 0)))).set (g := w2.heap.size) (by omega) 1 (.int .i64 (wdH hi x ((k : Int) == 0)))
        refine hK.out _ _ hS ?_
        clear hK lz kz fz hs9
        (try simp only [Act.put, List.setIfInBounds_toArray, List.set_cons_zero, List.set_cons_succ])
        refine rg_done (by kernel_rfl) ?_
        refine ⟨rfl, ?_⟩
        have r1 := Lib.hid hS.c
        have r2 := Lib.hid hr9
        have r3 := Lib.hid hs10
        have r4 := Lib.hid hS.b
        clear hS hr9 hs10
        (try simp only [Exit.then, Exit.inBlock])
        go_wp2
        go_roundg (ls.length - (k + 1))
        case measure => omega
        case rel => exact ⟨k + 1, _, _, by omega, by go_num, r1, r2, r3, r4, hsn⟩
      · intro K' hK
        (first | rw [if_pos (by rfl)] | rw [if_neg (by intro h; cases h)] | skip)
        go_simp
        refine (hc46 _ hS.b).mono ?_
        rintro e W7 ⟨rfl, hb⟩
        go_simp
        replace hs9 := hs9.below hb hs9.lt
        replace hr9 := hr9.below hb hr9.lt
        replace hS := hS.below hb
        refine hK.out _ _ hS ?_
        clear hK hb
        (try simp only [Act.put, List.setIfInBounds_toArray, List.set_cons_zero, List.set_cons_succ])
        refine rg_one (fuel := 2) 0 rfl (by kernel_rfl) (by kernel_rfl) ?_
        simp only [pick1, wpHead]
        intro K' hK
        (first | rw [if_pos (by rfl)] | rw [if_neg (by intro h; cases h)] | skip)
        obtain ⟨lz, kz, fz⟩ := hs9
        have hs9 := Own.mk lz kz fz
        go_simp
        refine hK.out _ _ hS ?_
        clear hK lz kz fz
        (try simp only [Act.put, List.setIfInBounds_toArray, List.set_cons_zero, List.set_cons_succ])
        refine rg_one (fuel := 1) 10 rfl (by kernel_rfl) (by kernel_rfl) ?_
        simp only [pick1, wpHead]
        intro K' hK
        (first | rw [if_pos (by rfl)] | rw [if_neg (by intro h; cases h)] | skip)
        go_simp
        refine (wider59 lo hi x _ _).mono ?_
        rintro e W' ⟨rfl, hb⟩
        go_simp
        replace hs9 := hs9.below hb hs9.lt
        replace hr9 := hr9.below hb hr9.lt
        replace hS := hS.below hb
        refine hK.out _ _ hS ?_
        clear hK hb
        (try simp only [Act.put, List.setIfInBounds_toArray, List.set_cons_zero, List.set_cons_succ])
        refine rg_one (fuel := 0) 11 rfl (by kernel_rfl) (by kernel_rfl) ?_
        simp only [pick1, wpHead]
        intro K' hK
        (first | rw [if_pos (by rfl)] | rw [if_neg (by intro h; cases h)] | skip)
        obtain ⟨lz, kz, fz⟩ := hs9
        have hs9 := Own.mk lz kz fz
        go_simp
        have hs10 := own_set2 hs9 rfl (.int .i64 (wdL lo x ((k : Int) == 0))) (.int .i64 (wdH hi x ((k : Int) == 0)))
        replace hr9 := (hr9.setOther (a := ⟨w2.heap.size, 0, none⟩) (show w2.heap.size ≠ _ by omega) (.int .i64 (wdL lo x ((k : Int) == 0)))).setOther (a := ⟨w2.heap.size, 1, none⟩) (show w2.heap.size ≠ _ by omega) (.int .i64 (wdH hi x ((k : Int) == 0)))
        replace hS := (hS.set (g := w2.heap.size) (by omega) 0 (.int .i64 (wdL lo x ((k : Int) == 0)))).set (g := w2.heap.size) (by omega) 1 (.int .i64 (wdH hi x ((k : Int) == 0)))
        refine hK.out _ _ hS ?_
        clear hK lz kz fz hs9
        (try simp only [Act.put, List.setIfInBounds_toArray, List.set_cons_zero, List.set_cons_succ])
        refine rg_done (by kernel_rfl) ?_
        refine ⟨rfl, ?_⟩
        have r1 := Lib.hid hS.c
        have r2 := Lib.hid hr9
        have r3 := Lib.hid hs10
        have r4 := Lib.hid hS.b
        clear hS hr9 hs10
        (try simp only [Exit.then, Exit.inBlock])
        go_wp2
        go_roundg (ls.length - (k + 1))
        case measure => omega
        case rel => exact ⟨k + 1, _, _, by omega, by go_num, r1, r2, r3, r4, hsn⟩
    · obtain rfl : k = ls.length := by omega
      have hres : Hid (IntegralR L sl rl rh wg ks a b lo hi er) := Lib.hid ⟨hkn.out.1, fun he => by
        obtain ⟨hV, hp, hT⟩ := openR_zero hkn.out.1 he
        have e := hkn.out.2.1 he
        obtain ⟨ha0, hab, hbL⟩ := ends_iff.1 hp
        rcases hsp.out.all with ⟨h0, _⟩ | ⟨_, h1⟩
        · rw [e] at h0; exact absurd hT (truL_nil.1 h0)
        · refine h1.congr fun s => ?_
          rw [e]
          have hcut : ∀ h : Nat → Int, sUp h a b (L.toNat + 1) = sUp h a b L.toNat := fun h => by
            show sUp h a b L.toNat + _ = _
            rw [if_neg (by omega)]; omega
          constructor
          · rintro ⟨l, hl, rfl⟩
            exact ⟨_, (mem_truL.1 hl).2, (hcut _).symm⟩
          · rintro ⟨h, hh, rfl⟩
            obtain ⟨k1, k2⟩ := truL_has hh
            exact ⟨_, k1, by rw [hcut]; exact sUp_congr k2⟩, fun he => by
        have e := hkn.out.2.2 he
        rcases hsp.out.all with ⟨_, h1, h2⟩ | ⟨h0, _⟩
        · exact ⟨h1, h2⟩
        · exact absurd e h0⟩
      have hBx := Lib.hid (hB2.out.trans (hbw.out.mono hB2.out.size))
      obtain ⟨lz, kz, fz⟩ := hos.out
      obtain ⟨ly, ky, fy⟩ := hor.out
      clear hoc hbw hsp hmem
      go_wp2
      (try simp only [Exit.inBlock, Exit.then])
      refine bodyPost_gen fun W6 hW6 => ?_
      have o6 : Own W6 (w.heap.size + 1) [.int .i64 lo, .int .i64 hi] := by rw [hW6]; exact own_set2 hor.out rfl _ _
      have hB6 : Below w.heap.size w W6 := by rw [hW6]; exact (hBx.out.setCell (by show w.heap.size ≤ w.heap.size + 1; omega) _).setCell (by show w.heap.size ≤ w.heap.size + 1; omega) _
      refine bodyPost_ret (results_cell (B := w.heap.size + 1) (vs := [.int .i64 lo, .int .i64 hi]) rfl rfl o6 (by kernel_rfl) (by kernel_rfl)) rfl ?_
      exact ⟨lo, hi, er, rfl, hres, hB6⟩
end Go.Proofs.Ytphcpphmoeiioaa
namespace Go.Proofs.Ytphcpphmoeiioaa
open Go.RowKit Go.Maps

theorem KnR.is {L sl rl rh wg : Int} {ks : List Kn} {is is' : Bool} {ls : List (List Int)} {er : Int} (h : KnR L sl rl rh wg ks is ls er) (e : chkV L sl rl rh wg ks = true → is' = is) : KnR L sl rl rh wg ks is' ls er := by
  cases hc : chkV L sl rl rh wg ks
  · refine ⟨?_, h.2⟩
    rcases h.1 with h1 | ⟨h1, _⟩ | ⟨h1, _⟩ | ⟨h1, _⟩
    · exact Or.inl h1
    · rw [hc] at h1; cases h1
    · rw [hc] at h1; cases h1
    · rw [hc] at h1; cases h1
  · rw [e hc]; exact h
set_option maxRecDepth 100000 in
set_option maxHeartbeats 8000000 in
theorem rlean41 (L sl rl rh wg : Int) (A0 : Option Addr) (n0 c0 : Nat) (ks : List Kn) (p : Int) (w : World) (hA : Rd 3 w A0 (ks.map krow)) (hn : Hid (n0 = ks.length)) (hlen : n0 ≤ 9223372036854775807) (hfar : Hid (farB L sl rl rh wg ks = false)) :
    Calls Try.prog 41 #[.agg #[.int .i64 L, .int .i64 sl, .int .i64 rl, .int .i64 rh, .slice A0 n0 c0, .int .i64 wg], .int .i64 p] w fun e w' => ∃ lo hi er : Int, e = .returned (.tuple #[.agg #[.int .i64 lo, .int .i64 hi], .int .i64 er]) ∧ Hid (LeanR L sl rl rh wg ks p lo hi er) ∧ Below w.heap.size w w' := by
  have HA := Lib.hid hA
  clear hA
  go_enter Try.func41, Try.ntmps41
  go_wp2
  have hS0 : OpI w w.heap.size (w.heap.size + 1) [.int .i64 L, .int .i64 sl, .int .i64 rl, .int .i64 rh, .slice A0 n0 c0, .int .i64 wg] [.int .i64 0, .int .i64 0] ((w.alloc (.cells #[.int .i64 L, .int .i64 sl, .int .i64 rl, .int .i64 rh, .slice A0 n0 c0, .int .i64 wg] 26)).alloc (.cells #[.int .i64 0, .int .i64 0] 23)) := ⟨(Own.new' _ _ rfl rfl).alloc _, Own.new' _ _ (by simp) rfl, by (repeat' (first | (with_reducible exact Below.refl _ _) | (with_reducible assumption) | (with_reducible refine Below.drew ?_) | (with_reducible refine below_drewN ?_ _) | (with_reducible refine Below.setCell ?_ ?_ _) | (with_reducible refine Below.alloc ?_ ?_ _) | (refine Below.trans ?_ (Below.mono (by with_reducible assumption) ?_)) | omega | (exact Below.size (by with_reducible assumption)) | (simp; done) | (simp; omega)))⟩
  refine wp_nor ?_
  refine rg_start (OpI w w.heap.size (w.heap.size + 1) [.int .i64 L, .int .i64 sl, .int .i64 rl, .int .i64 rh, .slice A0 n0 c0, .int .i64 wg] [.int .i64 0, .int .i64 0]) 12 (by kernel_rfl) rfl ?_
  have hS := hS0.drew
  clear hS0
  generalize World.drew _ = W at hS ⊢
  refine rg_take (fuel := 7) [0, 1, 2, 3, 4] (by kernel_rfl) (by intro _ _ d _ _ h; first | (cases d <;> exact h) | cases h.1) rfl (by kernel_rfl) (by kernel_rfl) hS ?_
  simp only [pickL, pick1, List.cons_append, List.nil_append]
  (refine wpTake_cons (v := ?_) (Or.inl ⟨by rfl, ?_⟩) ?_; rotate_left; (intro w' hSw; have yc := hSw.c.c; have yd := hSw.d.c; clear hSw; go_simp; (try with_reducible rfl)); (try simp only [Act.put, List.setIfInBounds_toArray, List.set_cons_zero, List.set_cons_succ]))
  (refine wpTake_cons (v := ?_) (Or.inl ⟨by rfl, ?_⟩) ?_; rotate_left; (intro w' hSw; have yc := hSw.c.c; have yd := hSw.d.c; clear hSw; go_simp; (try with_reducible rfl)); (try simp only [Act.put, List.setIfInBounds_toArray, List.set_cons_zero, List.set_cons_succ]))
  (refine wpTake_cons (v := ?_) (Or.inl ⟨by rfl, ?_⟩) ?_; rotate_left; (intro w' hSw; have yc := hSw.c.c; have yd := hSw.d.c; clear hSw; go_simp; (try with_reducible rfl)); (try simp only [Act.put, List.setIfInBounds_toArray, List.set_cons_zero, List.set_cons_succ]))
  (refine wpTake_cons (v := ?_) (Or.inl ⟨by rfl, ?_⟩) ?_; rotate_left; (intro w' hSw; have yc := hSw.c.c; have yd := hSw.d.c; clear hSw; go_simp; (try with_reducible rfl)); (try simp only [Act.put, List.setIfInBounds_toArray, List.set_cons_zero, List.set_cons_succ]))
  (refine wpTake_cons (v := ?_) (Or.inl ⟨by rfl, ?_⟩) ?_; rotate_left; (intro w' hSw; have yc := hSw.c.c; have yd := hSw.d.c; clear hSw; go_simp; (try with_reducible rfl)); (try simp only [Act.put, List.setIfInBounds_toArray, List.set_cons_zero, List.set_cons_succ]))
  refine wpTake_nil ?_
  refine rg_one (fuel := 6) 5 rfl (by kernel_rfl) (by kernel_rfl) ?_
  simp only [pick1, wpHead]
  intro K' hK
  (first | rw [if_pos (by rfl)] | rw [if_neg (by intro h; cases h)] | skip)
  go_simp
  refine (within71 _ _ _ _).mono ?_
  rintro e W1 ⟨rfl, rfl⟩
  go_simp
  refine hK.out _ _ hS ?_
  clear hK
  (try simp only [Act.put, List.setIfInBounds_toArray, List.set_cons_zero, List.set_cons_succ])
  refine rg_one (fuel := 5) 6 rfl (by kernel_rfl) (by kernel_rfl) ?_
  simp only [pick1, wpHead]
  intro K' hK
  (first | rw [if_pos (by rfl)] | rw [if_neg (by intro h; cases h)] | skip)
  go_simp
  refine (known54 L sl rl rh wg A0 n0 c0 ks _ _ (HA.out.below hS.b (Nat.le_refl _)) hn hlen hfar).mono ?_
  rintro e w2 ⟨A, c, ls, er, rfl, hll, hkn, hl15, hb⟩
  go_simp
  replace hS := hS.below hb
  have HLL := Lib.hid hll
  refine hK.out _ _ hS ?_
  clear hK hb hll
  (try simp only [Act.put, List.setIfInBounds_toArray, List.set_cons_zero, List.set_cons_succ])
  replace hkn := Lib.hid (hkn.out.is (is' := btw p 0 (L - 1)) fun hc => by have h1 := (cvV_of hc).l1; have h2 := (cvV_of hc).l2; first | rfl | rw [IntWalk.i64_in (L - 1) (by omega)])
  clear W
  refine rg_take (fuel := 2) [7, 8, 9] (by kernel_rfl) (by intro _ _ d _ _ h; first | (cases d <;> exact h) | cases h.1) rfl (by kernel_rfl) (by kernel_rfl) hS ?_
  simp only [pickL, pick1, List.cons_append, List.nil_append]
  (refine wpTake_cons (v := ?_) (Or.inl ⟨by rfl, ?_⟩) ?_; rotate_left; (intro w' hSw; have yc := hSw.c.c; have yd := hSw.d.c; clear hSw; go_simp; (try with_reducible rfl)); (try simp only [Act.put, List.setIfInBounds_toArray, List.set_cons_zero, List.set_cons_succ]))
  (refine wpTake_cons (v := ?_) (Or.inl ⟨by rfl, ?_⟩) ?_; rotate_left; (intro w' hSw; have yc := hSw.c.c; have yd := hSw.d.c; clear hSw; go_simp; (try with_reducible rfl)); (try simp only [Act.put, List.setIfInBounds_toArray, List.set_cons_zero, List.set_cons_succ]))
  (refine wpTake_cons (v := ?_) (Or.inl ⟨by rfl, ?_⟩) ?_; rotate_left; (intro w' hSw; have yc := hSw.c.c; have yd := hSw.d.c; clear hSw; go_simp; (try with_reducible rfl)); (try simp only [Act.put, List.setIfInBounds_toArray, List.set_cons_zero, List.set_cons_succ]))
  refine wpTake_nil ?_
  refine rg_one (fuel := 1) 10 rfl (by kernel_rfl) (by kernel_rfl) ?_
  simp only [pick1, wpHead]
  intro K' hK
  (first | rw [if_pos (by rfl)] | rw [if_neg (by intro h; cases h)] | skip)
  go_simp
  refine hK.out _ _ hS ?_
  clear hK
  (try simp only [Act.put, List.setIfInBounds_toArray, List.set_cons_zero, List.set_cons_succ])
  refine rg_one (fuel := 0) 11 rfl (by kernel_rfl) (by kernel_rfl) ?_
  simp only [pick1, wpHead]
  intro K' hK
  (first | rw [if_pos (by rfl)] | rw [if_neg (by intro h; cases h)] | skip)
  go_simp
  refine hK.out _ _ hS ?_
  clear hK
  (try simp only [Act.put, List.setIfInBounds_toArray, List.set_cons_zero, List.set_cons_succ])
  refine rg_done (by kernel_rfl) ?_
  refine ⟨rfl, ?_⟩
  (try simp only [Exit.then, Exit.inBlock])
  have hoc := Lib.hid hS.c
  have hor := Lib.hid hS.d
  have hB2 := Lib.hid hS.b
  have hmem : Hid (∀ l ∈ ls, (l.length = L.toNat + 1 ∧ (1 ≤ L ∧ L ≤ 12)) ∧ ((0 ≤ p ∧ p ≤ L - 1) ∧ ∀ i, i ≤ L.toNat → -100 ≤ fnL l i ∧ fnL l i ≤ 100)) := Lib.hid fun l hl => by
    by_cases he : er = 0
    · obtain ⟨hV, hp, _⟩ := openR_zero hkn.out.1 he
      have e := hkn.out.2.1 he
      rw [e] at hl
      exact ⟨⟨(mem_truL.1 hl).1, hV.l1, hV.l2⟩, btw_iff.1 hp, fun i hi => by have := (mem_truL.1 hl).2.1.1 i hi; have := hV.r1; have := hV.r2; simp only [cvOf] at *; omega⟩
    · rw [hkn.out.2.2 he] at hl; cases hl
  have hc0 := hS.c.lt
  have hc1 := hS.d.lt
  clear hS
  go_wp2
  go_loopg [9] ls.length (fun K z w5 => ∃ (k : Nat) (lo hi : Int), K + k = ls.length ∧ z = .int .i64 k ∧ Hid (Own w5 w.heap.size [.int .i64 L, .int .i64 sl, .int .i64 rl, .int .i64 rh, .slice A0 n0 c0, .int .i64 wg]) ∧ Hid (Own w5 (w.heap.size + 1) [.int .i64 0, .int .i64 0]) ∧ Hid (Own w5 w2.heap.size [.int .i64 lo, .int .i64 hi]) ∧ Hid (Below w2.heap.size w2 w5) ∧ Hid (SpK (fun l => fnL l (p.toNat + 1) - fnL l p.toNat) ls k lo hi))
  case atStart => exact ⟨0, 0, 0, rfl, rfl, Lib.hid (hoc.out.alloc _), Lib.hid (hor.out.alloc _), Lib.hid (Own.new' _ _ rfl rfl), Lib.hid ((Below.refl _ _).alloc (Nat.le_refl _) _), Lib.hid (SpK.zero _ _)⟩
  case round =>
    clear hoc hor
    obtain ⟨k, lo, hi, hK9, rfl, hoc, hor, hos, hbw, hsp⟩ := hrel
    by_cases hlt : k < ls.length
    · obtain ⟨l, hl⟩ : ∃ l, Hid (ls[k]? = some l) := ⟨ls[k], by simp [Hid]⟩
      obtain ⟨⟨hml, hL1, hL2⟩, ⟨hp0, hpL⟩, hfb⟩ := hmem.out l (List.mem_of_getElem? hl.out)
      obtain ⟨q, rfl⟩ : ∃ q : Nat, p = (q : Int) := ⟨p.toNat, by omega⟩
      simp only [Int.toNat_natCast] at hsp
      obtain ⟨b, off, A', c', hAe, hb0, hcell, hrl⟩ := HLL.out.elem hl.out
      have e0 := Lib.hid (fnL_at (l := l) (i := q) (by omega))
      obtain ⟨b1, off1, hAe1, hb1, hcell1⟩ := hrl.elem e0.out
      obtain ⟨r, hr⟩ : ∃ r : Nat, r = q + 1 := ⟨_, rfl⟩
      have e3 := Lib.hid (fnL_at (l := l) (i := r) (by omega))
      obtain ⟨b2, off2, hAe2, hb2, hcell2⟩ := hrl.elem e3.out
      obtain ⟨rfl, rfl⟩ : b2 = b1 ∧ off2 = off1 := by have e := Option.some.inj (hAe2.symm.trans hAe1); cases e; exact ⟨rfl, rfl⟩
      have hfq := hfb q (by omega)
      have hfr := hfb r (by omega)
      rw [← hr] at hsp
      clear hfb hAe2
      have hAE := Lib.hid hAe
      have hAA := hAE.out
      subst hAA
      have hAE1 := Lib.hid hAe1
      have hAA1 := hAE1.out
      subst hAA1
      have hsn := Lib.hid (hsp.out.next hl.out)
      have hk0 : decide (k = 0) = ((k : Int) == 0) := by
        by_cases e : k = 0
        · subst e; rfl
        · rw [decide_eq_false e]; symm; rw [beq_eq_false_iff_ne]; omega
      rw [hk0] at hsn
      have y0 : (k : Int) < (ls.length : Int) := by omega
      have y1 : (q : Int) < (l.length : Int) := by omega
      have y2 : q < l.length := by omega
      have y3 : (r : Int) < (l.length : Int) := by omega
      have y4 : r < l.length := by omega
      have hwq : IntKind.i64.wrap ((q : Int) + 1) = (r : Int) := by rw [IntWalk.i64_in _ (by omega)]; omega
      clear hml
      have hS := Lib.hid (show OpI w2 w.heap.size w.heap.size [.int .i64 L, .int .i64 sl, .int .i64 rl, .int .i64 rh, .slice A0 n0 c0, .int .i64 wg] [.int .i64 L, .int .i64 sl, .int .i64 rl, .int .i64 rh, .slice A0 n0 c0, .int .i64 wg] wr from ⟨hoc.out, hoc.out, hbw.out⟩)
      have hn12 := hbw.out.size
      clear hAe hAe1 hAE hAE1 hrl hoc hbw hmem hsp hk0
      have HR := Lib.hid hr
      clear hr e0 e3
      generalize fnL l q = x1 at *
      generalize fnL l r = x2 at *
      have hwx : IntKind.i64.wrap (x2 - x1) = x2 - x1 := IntWalk.i64_in _ (by omega)
      obtain ⟨lc, kc, fc⟩ := hS.out.c
      go_wp2
      refine wp_nor ?_
      refine rg_start (OpI w2 w.heap.size w.heap.size [.int .i64 L, .int .i64 sl, .int .i64 rl, .int .i64 rh, .slice A0 n0 c0, .int .i64 wg] [.int .i64 L, .int .i64 sl, .int .i64 rl, .int .i64 rh, .slice A0 n0 c0, .int .i64 wg]) 21 (by kernel_rfl) rfl ?_
      replace hS := hS.out.drew
      have hr9 := hor.out.drew
      have hs9 := hos.out.drew
      clear lc kc fc hor hos
      generalize World.drew _ = W at hS hr9 hs9 ⊢
      refine rg_take (fuel := 3) [1, 2, 3, 4, 5, 6, 7, 8, 9, 10, 11, 12, 13, 14, 15, 16, 17, 18] (by kernel_rfl) (by intro _ _ d _ _ h; first | (cases d <;> exact h) | cases h.1) rfl (by kernel_rfl) (by kernel_rfl) hS ?_
      simp only [pickL, pick1, List.cons_append, List.nil_append]
      (refine wpTake_cons (v := ?_) (Or.inl ⟨by rfl, ?_⟩) ?_; rotate_left; (intro w' hSw; have yc := hSw.c.c; have e1 := ((bcell hSw.b).1 _ (off + k) hb0).trans hcell; have e2 := ((bcell hSw.b).1 _ (off2 + q) hb1).trans hcell1; have e3 := ((bcell hSw.b).1 _ (off2 + r) hb1).trans hcell2; clear hSw; go_simp; (try with_reducible rfl)); (try simp only [Act.put, List.setIfInBounds_toArray, List.set_cons_zero, List.set_cons_succ]))
      (refine wpTake_cons (v := ?_) (Or.inl ⟨by rfl, ?_⟩) ?_; rotate_left; (intro w' hSw; have yc := hSw.c.c; have e1 := ((bcell hSw.b).1 _ (off + k) hb0).trans hcell; have e2 := ((bcell hSw.b).1 _ (off2 + q) hb1).trans hcell1; have e3 := ((bcell hSw.b).1 _ (off2 + r) hb1).trans hcell2; clear hSw; go_simp; (try with_reducible rfl)); (try simp only [Act.put, List.setIfInBounds_toArray, List.set_cons_zero, List.set_cons_succ]))
      (refine wpTake_cons (v := ?_) (Or.inl ⟨by rfl, ?_⟩) ?_; rotate_left; (intro w' hSw; have yc := hSw.c.c; have e1 := ((bcell hSw.b).1 _ (off + k) hb0).trans hcell; have e2 := ((bcell hSw.b).1 _ (off2 + q) hb1).trans hcell1; have e3 := ((bcell hSw.b).1 _ (off2 + r) hb1).trans hcell2; clear hSw; go_simp; (try with_reducible rfl)); (try simp only [Act.put, List.setIfInBounds_toArray, List.set_cons_zero, List.set_cons_succ]))
      (refine wpTake_cons (v := ?_) (Or.inl ⟨by rfl, ?_⟩) ?_; rotate_left; (intro w' hSw; have yc := hSw.c.c; have e1 := ((bcell hSw.b).1 _ (off + k) hb0).trans hcell; have e2 := ((bcell hSw.b).1 _ (off2 + q) hb1).trans hcell1; have e3 := ((bcell hSw.b).1 _ (off2 + r) hb1).trans hcell2; clear hSw; go_simp; (try with_reducible rfl)); (try simp only [Act.put, List.setIfInBounds_toArray, List.set_cons_zero, List.set_cons_succ]))
      (refine wpTake_cons (v := ?_) (Or.inl ⟨by rfl, ?_⟩) ?_; rotate_left; (intro w' hSw; have yc := hSw.c.c; have e1 := ((bcell hSw.b).1 _ (off + k) hb0).trans hcell; have e2 := ((bcell hSw.b).1 _ (off2 + q) hb1).trans hcell1; have e3 := ((bcell hSw.b).1 _ (off2 + r) hb1).trans hcell2; clear hSw; go_simp; (try with_reducible rfl)); (try simp only [Act.put, List.setIfInBounds_toArray, List.set_cons_zero, List.set_cons_succ]))
      (refine wpTake_cons (v := ?_) (Or.inl ⟨by rfl, ?_⟩) ?_; rotate_left; (intro w' hSw; have yc := hSw.c.c; have e1 := ((bcell hSw.b).1 _ (off + k) hb0).trans hcell; have e2 := ((bcell hSw.b).1 _ (off2 + q) hb1).trans hcell1; have e3 := ((bcell hSw.b).1 _ (off2 + r) hb1).trans hcell2; clear hSw; go_simp; (try with_reducible rfl)); (try simp only [Act.put, List.setIfInBounds_toArray, List.set_cons_zero, List.set_cons_succ]))
      (refine wpTake_cons (v := ?_) (Or.inl ⟨by rfl, ?_⟩) ?_; rotate_left; (intro w' hSw; have yc := hSw.c.c; have e1 := ((bcell hSw.b).1 _ (off + k) hb0).trans hcell; have e2 := ((bcell hSw.b).1 _ (off2 + q) hb1).trans hcell1; have e3 := ((bcell hSw.b).1 _ (off2 + r) hb1).trans hcell2; clear hSw; go_simp; (try with_reducible rfl)); (try simp only [Act.put, List.setIfInBounds_toArray, List.set_cons_zero, List.set_cons_succ]))
      (refine wpTake_cons (v := ?_) (Or.inl ⟨by rfl, ?_⟩) ?_; rotate_left; (intro w' hSw; have yc := hSw.c.c; have e1 := ((bcell hSw.b).1 _ (off + k) hb0).trans hcell; have e2 := ((bcell hSw.b).1 _ (off2 + q) hb1).trans hcell1; have e3 := ((bcell hSw.b).1 _ (off2 + r) hb1).trans hcell2; clear hSw; go_simp; (try with_reducible rfl)); (try simp only [Act.put, List.setIfInBounds_toArray, List.set_cons_zero, List.set_cons_succ]))
      (refine wpTake_cons (v := ?_) (Or.inl ⟨by rfl, ?_⟩) ?_; rotate_left; (intro w' hSw; have yc := hSw.c.c; have e1 := ((bcell hSw.b).1 _ (off + k) hb0).trans hcell; have e2 := ((bcell hSw.b).1 _ (off2 + q) hb1).trans hcell1; have e3 := ((bcell hSw.b).1 _ (off2 + r) hb1).trans hcell2; clear hSw; go_simp; (try with_reducible rfl)); (try simp only [Act.put, List.setIfInBounds_toArray, List.set_cons_zero, List.set_cons_succ]))
      (refine wpTake_cons (v := ?_) (Or.inl ⟨by rfl, ?_⟩) ?_; rotate_left; (intro w' hSw; have yc := hSw.c.c; have e1 := ((bcell hSw.b).1 _ (off + k) hb0).trans hcell; have e2 := ((bcell hSw.b).1 _ (off2 + q) hb1).trans hcell1; have e3 := ((bcell hSw.b).1 _ (off2 + r) hb1).trans hcell2; clear hSw; go_simp; (try with_reducible rfl)); (try simp only [Act.put, List.setIfInBounds_toArray, List.set_cons_zero, List.set_cons_succ]))
      (refine wpTake_cons (v := ?_) (Or.inl ⟨by rfl, ?_⟩) ?_; rotate_left; (intro w' hSw; have yc := hSw.c.c; have e1 := ((bcell hSw.b).1 _ (off + k) hb0).trans hcell; have e2 := ((bcell hSw.b).1 _ (off2 + q) hb1).trans hcell1; have e3 := ((bcell hSw.b).1 _ (off2 + r) hb1).trans hcell2; clear hSw; go_simp; (try with_reducible rfl)); (try simp only [Act.put, List.setIfInBounds_toArray, List.set_cons_zero, List.set_cons_succ]))
      (refine wpTake_cons (v := ?_) (Or.inl ⟨by rfl, ?_⟩) ?_; rotate_left; (intro w' hSw; have yc := hSw.c.c; have e1 := ((bcell hSw.b).1 _ (off + k) hb0).trans hcell; have e2 := ((bcell hSw.b).1 _ (off2 + q) hb1).trans hcell1; have e3 := ((bcell hSw.b).1 _ (off2 + r) hb1).trans hcell2; clear hSw; go_simp; (try with_reducible rfl)); (try simp only [Act.put, List.setIfInBounds_toArray, List.set_cons_zero, List.set_cons_succ]))
      (refine wpTake_cons (v := ?_) (Or.inl ⟨by rfl, ?_⟩) ?_; rotate_left; (intro w' hSw; have yc := hSw.c.c; have e1 := ((bcell hSw.b).1 _ (off + k) hb0).trans hcell; have e2 := ((bcell hSw.b).1 _ (off2 + q) hb1).trans hcell1; have e3 := ((bcell hSw.b).1 _ (off2 + r) hb1).trans hcell2; clear hSw; go_simp; (try with_reducible rfl)); (try simp only [Act.put, List.setIfInBounds_toArray, List.set_cons_zero, List.set_cons_succ]))
      (refine wpTake_cons (v := ?_) (Or.inl ⟨by rfl, ?_⟩) ?_; rotate_left; (intro w' hSw; have yc := hSw.c.c; have e1 := ((bcell hSw.b).1 _ (off + k) hb0).trans hcell; have e2 := ((bcell hSw.b).1 _ (off2 + q) hb1).trans hcell1; have e3 := ((bcell hSw.b).1 _ (off2 + r) hb1).trans hcell2; clear hSw; go_simp; (try with_reducible rfl)); (try simp only [Act.put, List.setIfInBounds_toArray, List.set_cons_zero, List.set_cons_succ]))
      (refine wpTake_cons (v := ?_) (Or.inl ⟨by rfl, ?_⟩) ?_; rotate_left; (intro w' hSw; have yc := hSw.c.c; have e1 := ((bcell hSw.b).1 _ (off + k) hb0).trans hcell; have e2 := ((bcell hSw.b).1 _ (off2 + q) hb1).trans hcell1; have e3 := ((bcell hSw.b).1 _ (off2 + r) hb1).trans hcell2; clear hSw; go_simp; (try with_reducible rfl)); (try simp only [Act.put, List.setIfInBounds_toArray, List.set_cons_zero, List.set_cons_succ]))
      (refine wpTake_cons (v := ?_) (Or.inl ⟨by rfl, ?_⟩) ?_; rotate_left; (intro w' hSw; have yc := hSw.c.c; have e1 := ((bcell hSw.b).1 _ (off + k) hb0).trans hcell; have e2 := ((bcell hSw.b).1 _ (off2 + q) hb1).trans hcell1; have e3 := ((bcell hSw.b).1 _ (off2 + r) hb1).trans hcell2; clear hSw; go_simp; (try with_reducible rfl)); (try simp only [Act.put, List.setIfInBounds_toArray, List.set_cons_zero, List.set_cons_succ]))
      (refine wpTake_cons (v := ?_) (Or.inl ⟨by rfl, ?_⟩) ?_; rotate_left; (intro w' hSw; have yc := hSw.c.c; have e1 := ((bcell hSw.b).1 _ (off + k) hb0).trans hcell; have e2 := ((bcell hSw.b).1 _ (off2 + q) hb1).trans hcell1; have e3 := ((bcell hSw.b).1 _ (off2 + r) hb1).trans hcell2; clear hSw; go_simp; (try with_reducible rfl)); (try simp only [Act.put, List.setIfInBounds_toArray, List.set_cons_zero, List.set_cons_succ]))
      (refine wpTake_cons (v := ?_) (Or.inl ⟨by rfl, ?_⟩) ?_; rotate_left; (intro w' hSw; have yc := hSw.c.c; have e1 := ((bcell hSw.b).1 _ (off + k) hb0).trans hcell; have e2 := ((bcell hSw.b).1 _ (off2 + q) hb1).trans hcell1; have e3 := ((bcell hSw.b).1 _ (off2 + r) hb1).trans hcell2; clear hSw; go_simp; (try with_reducible rfl)); (try simp only [Act.put, List.setIfInBounds_toArray, List.set_cons_zero, List.set_cons_succ]))
      refine wpTake_nil ?_
      refine rg_one (fuel := 2) 0 rfl (by kernel_rfl) (by kernel_rfl) ?_
      simp only [pick1, wpHead]
      intro K' hK
      (first | rw [if_pos (by rfl)] | rw [if_neg (by intro h; cases h)] | skip)
      obtain ⟨lz, kz, fz⟩ := hs9
      have hs9 := Own.mk lz kz fz
      go_simp
      refine hK.out _ _ hS ?_
      clear hK lz kz fz
      (try simp only [Act.put, List.setIfInBounds_toArray, List.set_cons_zero, List.set_cons_succ])
      refine rg_one (fuel := 1) 19 rfl (by kernel_rfl) (by kernel_rfl) ?_
      simp only [pick1, wpHead]
      intro K' hK
      (first | rw [if_pos (by rfl)] | rw [if_neg (by intro h; cases h)] | skip)
      go_simp
      refine (wider59 lo hi (x2 - x1) _ _).mono ?_
      rintro e W' ⟨rfl, hb⟩
      go_simp
      replace hr9 := hr9.below hb hr9.lt
      replace hs9 := hs9.below hb hs9.lt
      replace hS := hS.below hb
      refine hK.out _ _ hS ?_
      clear hK hb
      (try simp only [Act.put, List.setIfInBounds_toArray, List.set_cons_zero, List.set_cons_succ])
      refine rg_one (fuel := 0) 20 rfl (by kernel_rfl) (by kernel_rfl) ?_
      simp only [pick1, wpHead]
      intro K' hK
      (first | rw [if_pos (by rfl)] | rw [if_neg (by intro h; cases h)] | skip)
      obtain ⟨lz, kz, fz⟩ := hs9
      have hs9 := Own.mk lz kz fz
      go_simp
      have hs10 := own_set2 hs9 rfl (.int .i64 (wdL lo (x2 - x1) ((k : Int) == 0))) (.int .i64 (wdH hi (x2 - x1) ((k : Int) == 0)))
      replace hr9 := (hr9.setOther (a := ⟨w2.heap.size, 0, none⟩) (show w2.heap.size ≠ _ by omega) (.int .i64 (wdL lo (x2 - x1) ((k : Int) == 0)))).setOther (a := ⟨w2.heap.size, 1, none⟩) (show w2.heap.size ≠ _ by omega) (.int .i64 (wdH hi (x2 - x1) ((k : Int) == 0)))
      replace hS := (hS.set (g := w2.heap.size) (by omega) 0 (.int .i64 (wdL lo (x2 - x1) ((k : Int) == 0)))).set (g := w2.heap.size) (by omega) 1 (.int .i64 (wdH hi (x2 - x1) ((k : Int) == 0)))
      refine hK.out _ _ hS ?_
      clear hK lz kz fz hs9
      (try simp only [Act.put, List.setIfInBounds_toArray, List.set_cons_zero, List.set_cons_succ])
      refine rg_done (by kernel_rfl) ?_
      refine ⟨rfl, ?_⟩
      have r1 := Lib.hid hS.c
      have r2 := Lib.hid hr9
      have r3 := Lib.hid hs10
      have r4 := Lib.hid hS.b
      clear hS hr9 hs10
      (try simp only [Exit.then, Exit.inBlock])
      go_wp2
      go_roundg (ls.length - (k + 1))
      case measure => omega
      case rel => exact ⟨k + 1, _, _, by omega, by go_num, r1, r2, r3, r4, (by have h9 := hsn; rw [HR.out] at h9; exact h9)⟩
    · obtain rfl : k = ls.length := by omega
      have hres : Hid (LeanR L sl rl rh wg ks p lo hi er) := Lib.hid ⟨hkn.out.1, fun he => by
        obtain ⟨hV, hp, hT⟩ := openR_zero hkn.out.1 he
        have e := hkn.out.2.1 he
        obtain ⟨hp0, hpL⟩ := btw_iff.1 hp
        rcases hsp.out.all with ⟨h0, _⟩ | ⟨_, h1⟩
        · rw [e] at h0; exact absurd hT (truL_nil.1 h0)
        · refine h1.congr fun s => ?_
          rw [e]
          constructor
          · rintro ⟨l, hl, rfl⟩
            exact ⟨_, (mem_truL.1 hl).2, rfl⟩
          · rintro ⟨h, hh, rfl⟩
            obtain ⟨k1, k2⟩ := truL_has hh
            exact ⟨_, k1, by rw [k2 _ (by omega), k2 _ (by omega)]⟩, fun he => by
        have e := hkn.out.2.2 he
        rcases hsp.out.all with ⟨_, h1, h2⟩ | ⟨h0, _⟩
        · exact ⟨h1, h2⟩
        · exact absurd e h0⟩
      have hBx := Lib.hid (hB2.out.trans (hbw.out.mono hB2.out.size))
      obtain ⟨lz, kz, fz⟩ := hos.out
      obtain ⟨ly, ky, fy⟩ := hor.out
      clear hoc hbw hsp hmem
      go_wp2
      (try simp only [Exit.inBlock, Exit.then])
      refine bodyPost_gen fun W6 hW6 => ?_
      have o6 : Own W6 (w.heap.size + 1) [.int .i64 lo, .int .i64 hi] := by rw [hW6]; exact own_set2 hor.out rfl _ _
      have hB6 : Below w.heap.size w W6 := by rw [hW6]; exact (hBx.out.setCell (by show w.heap.size ≤ w.heap.size + 1; omega) _).setCell (by show w.heap.size ≤ w.heap.size + 1; omega) _
      refine bodyPost_ret (results_cell (B := w.heap.size + 1) (vs := [.int .i64 lo, .int .i64 hi]) rfl rfl o6 (by kernel_rfl) (by kernel_rfl)) rfl ?_
      exact ⟨lo, hi, er, rfl, hres, hB6⟩
end Go.Proofs.Ytphcpphmoeiioaa
namespace Go.Proofs.Ytphcpphmoeiioaa
open Go.RowKit Go.Maps

/-- What Level gives. -/
def LvR (L sl rl rh wg : Int) (ks : List Kn) (lv a b v er : Int) : Prop :=
  OpenR L sl rl rh wg ks (btw lv (-100) 100 && (btw a 0 L && btw b a L)) er ∧ (er = 0 → LevelV (cvOf L sl rl rh wg ks) lv a b v) ∧ (er ≠ 0 → v = 0)
/-- How many of the first rows have the level. -/
def LvK (lv : Int) (a b : Nat) (ls : List (List Int)) (k m : Nat) : Prop := m ≤ k ∧ (m = k → ∀ l ∈ ls.take k, HasL l lv a b) ∧ (m ≠ k → ∃ l ∈ ls.take k, ¬ HasL l lv a b) ∧ (m = 0 → ∀ l ∈ ls.take k, ¬ HasL l lv a b) ∧ (m ≠ 0 → ∃ l ∈ ls.take k, HasL l lv a b)
theorem LvK.zero (lv : Int) (a b : Nat) (ls : List (List Int)) : LvK lv a b ls 0 0 := ⟨Nat.le_refl _, fun _ l h => (by simp at h), fun h => absurd rfl h, fun _ l h => (by simp at h), fun h => absurd rfl h⟩
theorem LvK.yes {lv : Int} {a b : Nat} {ls : List (List Int)} {k m : Nat} {l : List Int} (h : LvK lv a b ls k m) (hl : ls[k]? = some l) (y : HasL l lv a b) : LvK lv a b ls (k + 1) (m + 1) := by
  obtain ⟨h1, h2, h3, h4, h5⟩ := h
  rw [LvK, take_snoc hl]
  refine ⟨by omega, fun e x hx => ?_, fun e => ?_, fun e => by omega, fun _ => ⟨l, by simp, y⟩⟩
  · rcases List.mem_append.1 hx with hx | hx
    · exact h2 (by omega) x hx
    · simp only [List.mem_singleton] at hx; subst hx; exact y
  · obtain ⟨x, hx, q⟩ := h3 (by omega)
    exact ⟨x, List.mem_append_left _ hx, q⟩
theorem LvK.no {lv : Int} {a b : Nat} {ls : List (List Int)} {k m : Nat} {l : List Int} (h : LvK lv a b ls k m) (hl : ls[k]? = some l) (y : ¬ HasL l lv a b) : LvK lv a b ls (k + 1) m := by
  obtain ⟨h1, h2, h3, h4, h5⟩ := h
  rw [LvK, take_snoc hl]
  refine ⟨by omega, fun e x hx => by omega, fun e => ⟨l, by simp, y⟩, fun e x hx => ?_, fun e => ?_⟩
  · rcases List.mem_append.1 hx with hx | hx
    · exact h4 e x hx
    · simp only [List.mem_singleton] at hx; subst hx; exact y
  · obtain ⟨x, hx, q⟩ := h5 e
    exact ⟨x, List.mem_append_left _ hx, q⟩
theorem HasL.congr {l l' : List Int} {lv : Int} {a b n : Nat} (hb : b ≤ n) (e : ∀ i, i ≤ n → fnL l i = fnL l' i) (h : HasL l lv a b) : HasL l' lv a b := by
  obtain ⟨i, h1, h2, h3⟩ := h
  exact ⟨i, h1, h2, by rw [← e i (by omega)]; exact h3⟩
section
variable {L sl rl rh wg : Int} {ks : List Kn}
theorem lvK_bel {lv : Int} {a b m : Nat} (hb : (b : Int) ≤ L) (h : LvK lv a b (truL L sl rl rh wg ks) (truL L sl rl rh wg ks).length m) :
    (BelT (cvOf L sl rl rh wg ks) lv a b ↔ m ≠ (truL L sl rl rh wg ks).length) ∧ (AbvT (cvOf L sl rl rh wg ks) lv a b ↔ m ≠ 0) := by
  obtain ⟨h1, h2, h3, h4, h5⟩ := h
  rw [List.take_length] at h2 h3 h4 h5
  refine ⟨⟨?_, fun e => ?_⟩, ⟨?_, fun e => ?_⟩⟩
  · rintro ⟨h, hh, k⟩ e
    obtain ⟨t1, t2⟩ := truL_has hh
    obtain ⟨i, i1, i2, i3⟩ := h2 e _ t1
    rw [t2 i (by omega)] at i3
    have := k i (by show i ≤ L.toNat; omega) (by omega) (by omega)
    omega
  · obtain ⟨l, hl, q⟩ := h3 e
    exact ⟨_, (mem_truL.1 hl).2, fun i hi h1 h2 => by
      by_cases e : fnL l i < lv
      · exact e
      · exact absurd ⟨i, by omega, by omega, by omega⟩ q⟩
  · rintro ⟨p, p1, p2, x, ⟨h, hh, e⟩, q⟩ em
    obtain ⟨t1, t2⟩ := truL_has hh
    exact h4 em _ t1 ⟨p, by omega, by omega, by rw [t2 p (by omega), e]; exact q⟩
  · obtain ⟨l, hl, i, i1, i2, i3⟩ := h5 e
    exact ⟨i, by omega, by omega, _, ⟨_, (mem_truL.1 hl).2, rfl⟩, i3⟩
end
set_option maxRecDepth 100000 in
set_option maxHeartbeats 8000000 in
theorem rlevel43 (L sl rl rh wg : Int) (A0 : Option Addr) (n0 c0 : Nat) (ks : List Kn) (lv a b : Int) (w : World) (hA : Rd 3 w A0 (ks.map krow)) (hn : Hid (n0 = ks.length)) (hlen : n0 ≤ 9223372036854775807) (hfar : Hid (farB L sl rl rh wg ks = false)) :
    Calls Try.prog 43 #[.agg #[.int .i64 L, .int .i64 sl, .int .i64 rl, .int .i64 rh, .slice A0 n0 c0, .int .i64 wg], .int .i64 lv, .int .i64 a, .int .i64 b] w fun e w' => ∃ v er : Int, e = .returned (.tuple #[.int .i64 v, .int .i64 er]) ∧ Hid (LvR L sl rl rh wg ks lv a b v er) ∧ Below w.heap.size w w' := by
  have HA := Lib.hid hA
  clear hA
  cases hE : (btw a 0 L && btw b a L)
  · have HE := Lib.hid hE
    go_enter Try.func43, Try.ntmps43
    go_wp2
    have hS0 : OpI w w.heap.size w.heap.size [.int .i64 L, .int .i64 sl, .int .i64 rl, .int .i64 rh, .slice A0 n0 c0, .int .i64 wg] [.int .i64 L, .int .i64 sl, .int .i64 rl, .int .i64 rh, .slice A0 n0 c0, .int .i64 wg] (w.alloc (.cells #[.int .i64 L, .int .i64 sl, .int .i64 rl, .int .i64 rh, .slice A0 n0 c0, .int .i64 wg] 26)) := ⟨Own.new' _ _ rfl rfl, Own.new' _ _ rfl rfl, by (repeat' (first | (with_reducible exact Below.refl _ _) | (with_reducible assumption) | (with_reducible refine Below.drew ?_) | (with_reducible refine below_drewN ?_ _) | (with_reducible refine Below.setCell ?_ ?_ _) | (with_reducible refine Below.alloc ?_ ?_ _) | (refine Below.trans ?_ (Below.mono (by with_reducible assumption) ?_)) | omega | (exact Below.size (by with_reducible assumption)) | (simp; done) | (simp; omega)))⟩
    refine wp_nor ?_
    refine rg_start (OpI w w.heap.size w.heap.size [.int .i64 L, .int .i64 sl, .int .i64 rl, .int .i64 rh, .slice A0 n0 c0, .int .i64 wg] [.int .i64 L, .int .i64 sl, .int .i64 rl, .int .i64 rh, .slice A0 n0 c0, .int .i64 wg]) 15 (by kernel_rfl) rfl ?_
    have hS := hS0.drew
    clear hS0
    generalize World.drew _ = W at hS ⊢
    refine rg_take (fuel := 11) [0, 1, 2, 3] (by kernel_rfl) (by intro _ _ d _ _ h; first | (cases d <;> exact h) | cases h.1) rfl (by kernel_rfl) (by kernel_rfl) hS ?_
    simp only [pickL, pick1, List.cons_append, List.nil_append]
    (refine wpTake_cons (v := ?_) (Or.inl ⟨by rfl, ?_⟩) ?_; rotate_left; (intro w' hSw; have yc := hSw.c.c; have yd := hSw.d.c; clear hSw; go_simp; (try with_reducible rfl)); (try simp only [Act.put, List.setIfInBounds_toArray, List.set_cons_zero, List.set_cons_succ]))
    (refine wpTake_cons (v := ?_) (Or.inl ⟨by rfl, ?_⟩) ?_; rotate_left; (intro w' hSw; have yc := hSw.c.c; have yd := hSw.d.c; clear hSw; go_simp; (try with_reducible rfl)); (try simp only [Act.put, List.setIfInBounds_toArray, List.set_cons_zero, List.set_cons_succ]))
    (refine wpTake_cons (v := ?_) (Or.inl ⟨by rfl, ?_⟩) ?_; rotate_left; (intro w' hSw; have yc := hSw.c.c; have yd := hSw.d.c; clear hSw; go_simp; (try with_reducible rfl)); (try simp only [Act.put, List.setIfInBounds_toArray, List.set_cons_zero, List.set_cons_succ]))
    (refine wpTake_cons (v := ?_) (Or.inl ⟨by rfl, ?_⟩) ?_; rotate_left; (intro w' hSw; have yc := hSw.c.c; have yd := hSw.d.c; clear hSw; go_simp; (try with_reducible rfl)); (try simp only [Act.put, List.setIfInBounds_toArray, List.set_cons_zero, List.set_cons_succ]))
    refine wpTake_nil ?_
    refine rg_one (fuel := 10) 4 rfl (by kernel_rfl) (by kernel_rfl) ?_
    simp only [pick1, wpHead]
    intro K' hK
    (first | rw [if_pos (by rfl)] | rw [if_neg (by intro h; cases h)] | skip)
    go_simp
    refine (areEnds58 _ _ _ _ _ _ _ _ _).mono ?_
    rw [HE.out]
    rintro e W1 ⟨rfl, hb⟩
    go_simp
    replace hS := hS.below hb
    refine hK.out _ _ hS ?_
    clear hK hb
    (try simp only [Act.put, List.setIfInBounds_toArray, List.set_cons_zero, List.set_cons_succ])
    clear W
    refine rg_take (fuel := 6) [5, 6, 7, 8] (by kernel_rfl) (by intro _ _ d _ _ h; first | (cases d <;> exact h) | cases h.1) rfl (by kernel_rfl) (by kernel_rfl) hS ?_
    simp only [pickL, pick1, List.cons_append, List.nil_append]
    (refine wpTake_cons (v := ?_) (Or.inl ⟨by rfl, ?_⟩) ?_; rotate_left; (intro w' hSw; have yc := hSw.c.c; have yd := hSw.d.c; clear hSw; go_simp; (try with_reducible rfl)); (try simp only [Act.put, List.setIfInBounds_toArray, List.set_cons_zero, List.set_cons_succ]))
    (refine wpTake_cons (v := undef) (Or.inr ⟨by rfl, rfl⟩) ?_; (try simp only [Act.put, List.setIfInBounds_toArray, List.set_cons_zero, List.set_cons_succ]))
    (refine wpTake_cons (v := undef) (Or.inr ⟨by rfl, rfl⟩) ?_; (try simp only [Act.put, List.setIfInBounds_toArray, List.set_cons_zero, List.set_cons_succ]))
    (refine wpTake_cons (v := ?_) (Or.inl ⟨by rfl, ?_⟩) ?_; rotate_left; (intro w' hSw; have yc := hSw.c.c; have yd := hSw.d.c; clear hSw; go_simp; (try with_reducible rfl)); (try simp only [Act.put, List.setIfInBounds_toArray, List.set_cons_zero, List.set_cons_succ]))
    refine wpTake_nil ?_
    refine rg_one (fuel := 5) 9 rfl (by kernel_rfl) (by kernel_rfl) ?_
    simp only [pick1, wpHead]
    intro K' hK
    (first | rw [if_pos (by rfl)] | rw [if_neg (by intro h; cases h)] | skip)
    go_simp
    refine (known54 L sl rl rh wg A0 n0 c0 ks _ _ (HA.out.below hS.b (Nat.le_refl _)) hn hlen hfar).mono ?_
    rintro e w2 ⟨A, c, ls, er, rfl, hll, hkn, hl15, hb⟩
    go_simp
    replace hS := hS.below hb
    have HLL := Lib.hid hll
    refine hK.out _ _ hS ?_
    clear hK hb hll
    (try simp only [Act.put, List.setIfInBounds_toArray, List.set_cons_zero, List.set_cons_succ])
    refine rg_take (fuel := 2) [10, 11, 12] (by kernel_rfl) (by intro _ _ d _ _ h; first | (cases d <;> exact h) | cases h.1) rfl (by kernel_rfl) (by kernel_rfl) hS ?_
    simp only [pickL, pick1, List.cons_append, List.nil_append]
    (refine wpTake_cons (v := ?_) (Or.inl ⟨by rfl, ?_⟩) ?_; rotate_left; (intro w' hSw; have yc := hSw.c.c; have yd := hSw.d.c; clear hSw; go_simp; (try with_reducible rfl)); (try simp only [Act.put, List.setIfInBounds_toArray, List.set_cons_zero, List.set_cons_succ]))
    (refine wpTake_cons (v := ?_) (Or.inl ⟨by rfl, ?_⟩) ?_; rotate_left; (intro w' hSw; have yc := hSw.c.c; have yd := hSw.d.c; clear hSw; go_simp; (try with_reducible rfl)); (try simp only [Act.put, List.setIfInBounds_toArray, List.set_cons_zero, List.set_cons_succ]))
    (refine wpTake_cons (v := ?_) (Or.inl ⟨by rfl, ?_⟩) ?_; rotate_left; (intro w' hSw; have yc := hSw.c.c; have yd := hSw.d.c; clear hSw; go_simp; (try with_reducible rfl)); (try simp only [Act.put, List.setIfInBounds_toArray, List.set_cons_zero, List.set_cons_succ]))
    refine wpTake_nil ?_
    refine rg_one (fuel := 1) 13 rfl (by kernel_rfl) (by kernel_rfl) ?_
    simp only [pick1, wpHead]
    intro K' hK
    (first | rw [if_pos (by rfl)] | rw [if_neg (by intro h; cases h)] | skip)
    go_simp
    refine hK.out _ _ hS ?_
    clear hK
    (try simp only [Act.put, List.setIfInBounds_toArray, List.set_cons_zero, List.set_cons_succ])
    refine rg_one (fuel := 0) 14 rfl (by kernel_rfl) (by kernel_rfl) ?_
    simp only [pick1, wpHead]
    intro K' hK
    (first | rw [if_pos (by rfl)] | rw [if_neg (by intro h; cases h)] | skip)
    go_simp
    refine hK.out _ _ hS ?_
    clear hK
    (try simp only [Act.put, List.setIfInBounds_toArray, List.set_cons_zero, List.set_cons_succ])
    refine rg_done (by kernel_rfl) ?_
    refine ⟨rfl, ?_⟩
    (try simp only [Exit.then, Exit.inBlock])
    have hoc := Lib.hid hS.c
    have hB2 := Lib.hid hS.b
    clear hS
    have hne : er ≠ 0 := fun e => by have := (openR_zero hkn.out.1 e).2.1; cases this
    have hres : Hid (LvR L sl rl rh wg ks lv a b 0 er) := Lib.hid ⟨by rw [hE, Bool.and_false]; exact hkn.out.1, fun e => absurd e hne, fun _ => rfl⟩
    have HNE := Lib.hid hne
    have hoc1 := hoc.out.lt
    clear hE
    go_wp2
    go_ret2
    exact ⟨0, er, rfl, hres, hB2.out⟩
  · have HE := Lib.hid hE
    go_enter Try.func43, Try.ntmps43
    go_wp2
    have hS0 : OpI w w.heap.size w.heap.size [.int .i64 L, .int .i64 sl, .int .i64 rl, .int .i64 rh, .slice A0 n0 c0, .int .i64 wg] [.int .i64 L, .int .i64 sl, .int .i64 rl, .int .i64 rh, .slice A0 n0 c0, .int .i64 wg] (w.alloc (.cells #[.int .i64 L, .int .i64 sl, .int .i64 rl, .int .i64 rh, .slice A0 n0 c0, .int .i64 wg] 26)) := ⟨Own.new' _ _ rfl rfl, Own.new' _ _ rfl rfl, by (repeat' (first | (with_reducible exact Below.refl _ _) | (with_reducible assumption) | (with_reducible refine Below.drew ?_) | (with_reducible refine below_drewN ?_ _) | (with_reducible refine Below.setCell ?_ ?_ _) | (with_reducible refine Below.alloc ?_ ?_ _) | (refine Below.trans ?_ (Below.mono (by with_reducible assumption) ?_)) | omega | (exact Below.size (by with_reducible assumption)) | (simp; done) | (simp; omega)))⟩
    refine wp_nor ?_
    refine rg_start (OpI w w.heap.size w.heap.size [.int .i64 L, .int .i64 sl, .int .i64 rl, .int .i64 rh, .slice A0 n0 c0, .int .i64 wg] [.int .i64 L, .int .i64 sl, .int .i64 rl, .int .i64 rh, .slice A0 n0 c0, .int .i64 wg]) 15 (by kernel_rfl) rfl ?_
    have hS := hS0.drew
    clear hS0
    generalize World.drew _ = W at hS ⊢
    refine rg_take (fuel := 11) [0, 1, 2, 3] (by kernel_rfl) (by intro _ _ d _ _ h; first | (cases d <;> exact h) | cases h.1) rfl (by kernel_rfl) (by kernel_rfl) hS ?_
    simp only [pickL, pick1, List.cons_append, List.nil_append]
    (refine wpTake_cons (v := ?_) (Or.inl ⟨by rfl, ?_⟩) ?_; rotate_left; (intro w' hSw; have yc := hSw.c.c; have yd := hSw.d.c; clear hSw; go_simp; (try with_reducible rfl)); (try simp only [Act.put, List.setIfInBounds_toArray, List.set_cons_zero, List.set_cons_succ]))
    (refine wpTake_cons (v := ?_) (Or.inl ⟨by rfl, ?_⟩) ?_; rotate_left; (intro w' hSw; have yc := hSw.c.c; have yd := hSw.d.c; clear hSw; go_simp; (try with_reducible rfl)); (try simp only [Act.put, List.setIfInBounds_toArray, List.set_cons_zero, List.set_cons_succ]))
    (refine wpTake_cons (v := ?_) (Or.inl ⟨by rfl, ?_⟩) ?_; rotate_left; (intro w' hSw; have yc := hSw.c.c; have yd := hSw.d.c; clear hSw; go_simp; (try with_reducible rfl)); (try simp only [Act.put, List.setIfInBounds_toArray, List.set_cons_zero, List.set_cons_succ]))
    (refine wpTake_cons (v := ?_) (Or.inl ⟨by rfl, ?_⟩) ?_; rotate_left; (intro w' hSw; have yc := hSw.c.c; have yd := hSw.d.c; clear hSw; go_simp; (try with_reducible rfl)); (try simp only [Act.put, List.setIfInBounds_toArray, List.set_cons_zero, List.set_cons_succ]))
    refine wpTake_nil ?_
    refine rg_one (fuel := 10) 4 rfl (by kernel_rfl) (by kernel_rfl) ?_
    simp only [pick1, wpHead]
    intro K' hK
    (first | rw [if_pos (by rfl)] | rw [if_neg (by intro h; cases h)] | skip)
    go_simp
    refine (areEnds58 _ _ _ _ _ _ _ _ _).mono ?_
    rw [HE.out]
    rintro e W1 ⟨rfl, hb⟩
    go_simp
    replace hS := hS.below hb
    refine hK.out _ _ hS ?_
    clear hK hb
    (try simp only [Act.put, List.setIfInBounds_toArray, List.set_cons_zero, List.set_cons_succ])
    clear W
    refine rg_take (fuel := 8) [5, 6] (by kernel_rfl) (by intro _ _ d _ _ h; first | (cases d <;> exact h) | cases h.1) rfl (by kernel_rfl) (by kernel_rfl) hS ?_
    simp only [pickL, pick1, List.cons_append, List.nil_append]
    (refine wpTake_cons (v := ?_) (Or.inl ⟨by rfl, ?_⟩) ?_; rotate_left; (intro w' hSw; have yc := hSw.c.c; have yd := hSw.d.c; clear hSw; go_simp; (try with_reducible rfl)); (try simp only [Act.put, List.setIfInBounds_toArray, List.set_cons_zero, List.set_cons_succ]))
    (refine wpTake_cons (v := ?_) (Or.inl ⟨by rfl, ?_⟩) ?_; rotate_left; (intro w' hSw; have yc := hSw.c.c; have yd := hSw.d.c; clear hSw; go_simp; (try with_reducible rfl)); (try simp only [Act.put, List.setIfInBounds_toArray, List.set_cons_zero, List.set_cons_succ]))
    refine wpTake_nil ?_
    refine rg_one (fuel := 7) 7 rfl (by kernel_rfl) (by kernel_rfl) ?_
    simp only [pick1, wpHead]
    intro K' hK
    (first | rw [if_pos (by rfl)] | rw [if_neg (by intro h; cases h)] | skip)
    go_simp
    refine (within71 _ _ _ _).mono ?_
    rintro e W ⟨rfl, rfl⟩
    go_simp
    refine hK.out _ _ hS ?_
    clear hK
    (try simp only [Act.put, List.setIfInBounds_toArray, List.set_cons_zero, List.set_cons_succ])
    refine rg_take (fuel := 6) [8] (by kernel_rfl) (by intro _ _ d _ _ h; first | (cases d <;> exact h) | cases h.1) rfl (by kernel_rfl) (by kernel_rfl) hS ?_
    simp only [pickL, pick1, List.cons_append, List.nil_append]
    (refine wpTake_cons (v := ?_) (Or.inl ⟨by rfl, ?_⟩) ?_; rotate_left; (intro w' hSw; have yc := hSw.c.c; have yd := hSw.d.c; clear hSw; go_simp; (try with_reducible rfl)); (try simp only [Act.put, List.setIfInBounds_toArray, List.set_cons_zero, List.set_cons_succ]))
    refine wpTake_nil ?_
    refine rg_one (fuel := 5) 9 rfl (by kernel_rfl) (by kernel_rfl) ?_
    simp only [pick1, wpHead]
    intro K' hK
    (first | rw [if_pos (by rfl)] | rw [if_neg (by intro h; cases h)] | skip)
    go_simp
    refine (known54 L sl rl rh wg A0 n0 c0 ks _ _ (HA.out.below hS.b (Nat.le_refl _)) hn hlen hfar).mono ?_
    rintro e w2 ⟨A, c, ls, er, rfl, hll, hkn, hl15, hb⟩
    go_simp
    replace hS := hS.below hb
    have HLL := Lib.hid hll
    refine hK.out _ _ hS ?_
    clear hK hb hll
    (try simp only [Act.put, List.setIfInBounds_toArray, List.set_cons_zero, List.set_cons_succ])
    refine rg_take (fuel := 2) [10, 11, 12] (by kernel_rfl) (by intro _ _ d _ _ h; first | (cases d <;> exact h) | cases h.1) rfl (by kernel_rfl) (by kernel_rfl) hS ?_
    simp only [pickL, pick1, List.cons_append, List.nil_append]
    (refine wpTake_cons (v := ?_) (Or.inl ⟨by rfl, ?_⟩) ?_; rotate_left; (intro w' hSw; have yc := hSw.c.c; have yd := hSw.d.c; clear hSw; go_simp; (try with_reducible rfl)); (try simp only [Act.put, List.setIfInBounds_toArray, List.set_cons_zero, List.set_cons_succ]))
    (refine wpTake_cons (v := ?_) (Or.inl ⟨by rfl, ?_⟩) ?_; rotate_left; (intro w' hSw; have yc := hSw.c.c; have yd := hSw.d.c; clear hSw; go_simp; (try with_reducible rfl)); (try simp only [Act.put, List.setIfInBounds_toArray, List.set_cons_zero, List.set_cons_succ]))
    (refine wpTake_cons (v := ?_) (Or.inl ⟨by rfl, ?_⟩) ?_; rotate_left; (intro w' hSw; have yc := hSw.c.c; have yd := hSw.d.c; clear hSw; go_simp; (try with_reducible rfl)); (try simp only [Act.put, List.setIfInBounds_toArray, List.set_cons_zero, List.set_cons_succ]))
    refine wpTake_nil ?_
    refine rg_one (fuel := 1) 13 rfl (by kernel_rfl) (by kernel_rfl) ?_
    simp only [pick1, wpHead]
    intro K' hK
    (first | rw [if_pos (by rfl)] | rw [if_neg (by intro h; cases h)] | skip)
    go_simp
    refine hK.out _ _ hS ?_
    clear hK
    (try simp only [Act.put, List.setIfInBounds_toArray, List.set_cons_zero, List.set_cons_succ])
    refine rg_one (fuel := 0) 14 rfl (by kernel_rfl) (by kernel_rfl) ?_
    simp only [pick1, wpHead]
    intro K' hK
    (first | rw [if_pos (by rfl)] | rw [if_neg (by intro h; cases h)] | skip)
    go_simp
    refine hK.out _ _ hS ?_
    clear hK
    (try simp only [Act.put, List.setIfInBounds_toArray, List.set_cons_zero, List.set_cons_succ])
    refine rg_done (by kernel_rfl) ?_
    refine ⟨rfl, ?_⟩
    (try simp only [Exit.then, Exit.inBlock])
    have hoc := Lib.hid hS.c
    have hB2 := Lib.hid hS.b
    clear hS
    have hO : Hid (OpenR L sl rl rh wg ks (btw lv (-100) 100 && (btw a 0 L && btw b a L)) er) := Lib.hid (by rw [hE, Bool.and_true]; exact hkn.out.1)
    have hoc1 := hoc.out.lt
    rw [ends_eq] at hE
    have hab := ends_iff.1 hE
    clear hE
    obtain ⟨ha0, hab, hbL⟩ := hab
    obtain ⟨i, rfl⟩ : ∃ i : Nat, a = (i : Int) := ⟨a.toNat, by omega⟩
    obtain ⟨j, rfl⟩ : ∃ j : Nat, b = (j : Int) := ⟨b.toNat, by omega⟩
    by_cases he : er = 0
    rotate_left
    · have hres : Hid (LvR L sl rl rh wg ks lv i j 0 er) := Lib.hid ⟨hO.out, fun e => absurd e he, fun _ => rfl⟩
      go_wp2
      go_ret2
      exact ⟨0, er, rfl, hres, hB2.out⟩
    subst he
    obtain ⟨hV, hp, hT⟩ := openR_zero hkn.out.1 rfl
    have hL1 := hV.l1
    have hL2 := hV.l2
    have e9 := hkn.out.2.1 rfl
    have hmem : Hid (∀ l ∈ ls, l.length = L.toNat + 1) := Lib.hid fun l hl => by rw [e9] at hl; exact (mem_truL.1 hl).1
    have hfin : Hid (∀ m : Nat, LvK lv i j ls ls.length m → (BelT (cvOf L sl rl rh wg ks) lv i j ↔ m ≠ ls.length) ∧ (AbvT (cvOf L sl rl rh wg ks) lv i j ↔ m ≠ 0)) := Lib.hid fun m hm => by
      rw [e9] at hm ⊢
      exact lvK_bel hbL hm
    have hpos : 0 < ls.length := by
      rcases Nat.eq_zero_or_pos ls.length with h0 | h0
      · exact absurd hT (truL_nil.1 (by rw [← e9]; exact List.eq_nil_of_length_eq_zero h0))
      · exact h0
    clear e9 hkn hV hp hT
    go_wp2
    go_loopg [12, 13] ls.length (fun K y z w5 => ∃ (k m : Nat), K + k = ls.length ∧ z = .int .i64 k ∧ y = .int .i64 m ∧ Hid (LvK lv i j ls k m) ∧ m ≤ k ∧ Hid (Below w2.heap.size w2 w5))
    case atStart => exact ⟨0, 0, rfl, rfl, rfl, Lib.hid (LvK.zero _ _ _ _), Nat.le_refl _, Lib.hid (Below.refl _ _)⟩
    case round =>
      obtain ⟨k, m, hK, rfl, rfl, hm, hmk, hbw⟩ := hrel
      have hsz := hbw.out.size
      by_cases hlt : k < ls.length
      · obtain ⟨l, hl⟩ : ∃ l, Hid (ls[k]? = some l) := ⟨ls[k], by simp [Hid]⟩
        have hml := hmem.out l (List.mem_of_getElem? hl.out)
        obtain ⟨b9, off, A', c', hAe, hb0, hcell, hrl⟩ := (HLL.out.below hbw.out (Nat.le_refl _)).elem hl.out
        have hAE := Lib.hid hAe
        have hAA := hAE.out
        subst hAA
        have y0 : (k : Int) < (ls.length : Int) := by omega
        have HRL := Lib.hid hrl
        have h48 : l.length ≤ 40 ∧ j < l.length := by omega
        clear hAe hAE hrl hml
        go_wp2_with fail
        refine (has48 A' l.length c' l lv i j _ HRL.out (Lib.hid rfl) h48.1 (by omega) h48.2).mono ?_
        rintro e w6 ⟨v, rfl, hv, hb6⟩
        have hB6 := Lib.hid (hbw.out.trans (hb6.mono hsz))
        clear hb6 hcell
        rcases hv.out with ⟨rfl, hy⟩ | ⟨rfl, hy⟩
        · have hm' := Lib.hid (hm.out.yes hl.out hy)
          clear hv hy hm
          go_wp2
          go_roundg (ls.length - (k + 1))
          case measure => omega
          case rel => exact ⟨k + 1, m + 1, by omega, by go_num, by go_num, hm', by omega, hB6⟩
        · have hm' := Lib.hid (hm.out.no hl.out hy)
          clear hv hy hm
          go_wp2
          go_roundg (ls.length - (k + 1))
          case measure => omega
          case rel => exact ⟨k + 1, m, by omega, by go_num, rfl, hm', by omega, hB6⟩
      · obtain rfl : k = ls.length := by omega
        obtain ⟨f1, f2⟩ := hfin.out m hm.out
        have HBx := Lib.hid (hB2.out.trans (hbw.out.mono hB2.out.size))
        have F1 := Lib.hid f1
        have F2 := Lib.hid f2
        clear f1 f2 hm hfin hmem
        obtain ⟨N, hN⟩ : ∃ N, Hid (ls.length = N) := ⟨_, rfl⟩
        by_cases q1 : m = ls.length
        · have hres : Hid (LvR L sl rl rh wg ks lv i j 1 0) := Lib.hid ⟨hO.out, fun _ => Or.inl ⟨rfl, fun h => F1.out.1 h q1⟩, fun h => absurd rfl h⟩
          subst q1
          go_wp2
          go_ret2
          exact ⟨1, 0, rfl, hres, HBx.out⟩
        · have B1 := Lib.hid (F1.out.2 q1)
          have c1 : ¬ (m : Int) = (ls.length : Int) := by omega
          by_cases q2 : m = 0
          · have hres : Hid (LvR L sl rl rh wg ks lv i j 2 0) := Lib.hid ⟨hO.out, fun _ => Or.inr (Or.inl ⟨rfl, B1.out, fun h => F2.out.1 h q2⟩), fun h => absurd rfl h⟩
            subst q2
            go_wp2
            go_ret2
            exact ⟨2, 0, rfl, hres, HBx.out⟩
          · have hres : Hid (LvR L sl rl rh wg ks lv i j 3 0) := Lib.hid ⟨hO.out, fun _ => Or.inr (Or.inr ⟨rfl, B1.out, F2.out.2 q2⟩), fun h => absurd rfl h⟩
            have c2 : ¬ (m : Int) = 0 := by omega
            go_wp2
            go_ret2
            exact ⟨3, 0, rfl, hres, HBx.out⟩
end Go.Proofs.Ytphcpphmoeiioaa
