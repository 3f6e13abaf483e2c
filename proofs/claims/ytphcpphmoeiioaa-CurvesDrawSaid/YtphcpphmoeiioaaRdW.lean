/- Walks: Known, Draw, Best, Told of the reference. -/
import Derived.Test.YtphcpphmoeiioaaRiW
namespace Go.Proofs.Ytphcpphmoeiioaa
open Go.RowKit Go.Maps

set_option maxRecDepth 100000 in
set_option maxHeartbeats 4000000 in
theorem known60 (L sl rl rh wg : Int) (A : Option Addr) (n cap : Nat) (ks : List Kn) (w : World) (hA : Rd 3 w A (ks.map krow)) (hn : Hid (n = ks.length)) (hlen : n ≤ 9223372036854775807) (hfar : Hid (farB L sl rl rh wg ks = false)) :
    Calls Try.prog 60 #[.agg #[.int .i64 L, .int .i64 sl, .int .i64 rl, .int .i64 rh, .slice A n cap, .int .i64 wg]] w fun e w' => ∃ er : Int, e = .returned (.int .i64 er) ∧ Hid (OpenR L sl rl rh wg ks true er) ∧ Below w.heap.size w w' := by
  have HA := Lib.hid hA
  clear hA
  go_enter Try.func60, Try.ntmps60
  go_wp2_with fail
  refine (known54 L sl rl rh wg A n cap ks true _ (HA.out.below (B := w.heap.size) (by (repeat' (first | (with_reducible exact Below.refl _ _) | (with_reducible assumption) | (with_reducible refine Below.drew ?_) | (with_reducible refine below_drewN ?_ _) | (with_reducible refine Below.setCell ?_ ?_ _) | (with_reducible refine Below.alloc ?_ ?_ _) | (refine Below.trans ?_ (Below.mono (by with_reducible assumption) ?_)) | omega | (exact Below.size (by with_reducible assumption)) | (simp; done) | (simp; omega)))) (Nat.le_refl _)) hn hlen hfar).mono ?_
  rintro e w1 ⟨A1, c1, ls, er, rfl, hll, hkn, hl15, hb1⟩
  have hO := Lib.hid hkn.out.1
  have hB1 := Lib.hid (show Below w.heap.size w w1 by (repeat' (first | (with_reducible exact Below.refl _ _) | (with_reducible assumption) | (with_reducible refine Below.drew ?_) | (with_reducible refine below_drewN ?_ _) | (with_reducible refine Below.setCell ?_ ?_ _) | (with_reducible refine Below.alloc ?_ ?_ _) | (refine Below.trans ?_ (Below.mono (by with_reducible assumption) ?_)) | omega | (exact Below.size (by with_reducible assumption)) | (simp; done) | (simp; omega))))
  clear hb1 hkn hll
  go_wp2
  go_ret
  exact ⟨er, rfl, hO, hB1.out⟩
set_option maxRecDepth 100000 in
set_option maxHeartbeats 4000000 in
theorem rdraw24 (L sl rl rh wg : Int) (A : Option Addr) (n cap : Nat) (ks : List Kn) (w : World) (hA : Rd 3 w A (ks.map krow)) (hn : Hid (n = ks.length)) (hlen : n ≤ 9223372036854775807) (hfar : Hid (farB L sl rl rh wg ks = false)) :
    Calls Try.prog 24 #[.agg #[.int .i64 L, .int .i64 sl, .int .i64 rl, .int .i64 rh, .slice A n cap, .int .i64 wg]] w fun e w' => ∃ (A' : Option Addr) (cap' : Nat) (ls : List Sp) (er : Int), e = .returned (.tuple #[.slice A' ls.length cap', .int .i64 er]) ∧ Hid (DrawR L sl rl rh wg ks ls er) ∧ RdS w' A' ls ∧ ls.length ≤ 13 ∧ Below w.heap.size w w' := by
  have HA := Lib.hid hA
  obtain ⟨i0, hi0, hi1, hi2, hi3⟩ := info_parts inf23
  clear hA
  go_enter Try.func24, Try.ntmps24
  go_wp2_with fail
  refine (known60 L sl rl rh wg A n cap ks _ (HA.out.below (B := w.heap.size) (by (repeat' (first | (with_reducible exact Below.refl _ _) | (with_reducible assumption) | (with_reducible refine Below.drew ?_) | (with_reducible refine below_drewN ?_ _) | (with_reducible refine Below.setCell ?_ ?_ _) | (with_reducible refine Below.alloc ?_ ?_ _) | (refine Below.trans ?_ (Below.mono (by with_reducible assumption) ?_)) | omega | (exact Below.size (by with_reducible assumption)) | (simp; done) | (simp; omega)))) (Nat.le_refl _)) hn hlen hfar).mono ?_
  rintro e w1 ⟨er, rfl, hO, hb1⟩
  have hz1 := hb1.size
  simp only [World.size_alloc] at hz1
  have hB1 : Below w.heap.size w w1 := by (repeat' (first | (with_reducible exact Below.refl _ _) | (with_reducible assumption) | (with_reducible refine Below.drew ?_) | (with_reducible refine below_drewN ?_ _) | (with_reducible refine Below.setCell ?_ ?_ _) | (with_reducible refine Below.alloc ?_ ?_ _) | (refine Below.trans ?_ (Below.mono (by with_reducible assumption) ?_)) | omega | (exact Below.size (by with_reducible assumption)) | (simp; done) | (simp; omega)))
  have o1 : Own w1 w.heap.size [.int .i64 L, .int .i64 sl, .int .i64 rl, .int .i64 rh, .slice A n cap, .int .i64 wg] := (Own.new' _ _ rfl rfl).below hb1 (by simp)
  clear hb1
  by_cases he : er = 0
  · have hz := openR_zero hO.out he
    have hV := Lib.hid hz.1
    have HT := Lib.hid hz.2.2
    clear hz
    have hl1 := hV.out.l1
    have hl2 := hV.out.l2
    subst he
    have HC : Hid (chkV L sl rl rh wg ks = true) := Lib.hid (by
      rcases hO.out with ⟨_, h⟩ | ⟨_, _, h⟩ | ⟨_, _, h, _⟩ | ⟨h, _⟩
      · omega
      · omega
      · omega
      · exact h)
    have hO1 := Lib.hid o1
    obtain ⟨l1, k1, f1⟩ := o1
    go_wp2
    go_loopg [5, 6] (L.toNat + 1) (fun K y z w5 => ∃ ls : List Sp, K + ls.length = L.toNat + 1 ∧ z = .int .i64 (ls.length : Nat) ∧ Hid (DrawL (cvOf L sl rl rh wg ks) ls) ∧ Gro w5 w1.heap.size 23 2 y (ls.map srow) ∧ Own w5 w.heap.size [.int .i64 L, .int .i64 sl, .int .i64 rl, .int .i64 rh, .slice A n cap, .int .i64 wg] ∧ w1.heap.size ≤ w5.heap.size ∧ Below w.heap.size w w5)
    case atStart => exact ⟨[], rfl, rfl, (fun i s h => by simp at h), Gro.nil _ _ _ _, hO1.out, Nat.le_refl _, hB1⟩
    case round =>
      clear l1 k1 f1 hO1 hB1
      obtain ⟨ls, hK, rfl, hD, hg, ho1, hsz, hbw⟩ := hrel
      obtain ⟨l1, k1, f1⟩ := ho1
      have ho1 := Lib.hid (Own.mk l1 k1 f1)
      obtain ⟨PA, pc, rfl, hrd⟩ := hg.out
      by_cases hlt : ls.length < L.toNat + 1
      · clear hrd
        have HB := Lib.hid hbw
        have hszw := hbw.size
        clear hbw
        go_wp2_with fail
        refine (rintegral23 L sl rl rh wg A n cap ks 0 (ls.length : Nat) wr (HA.out.below HB.out (Nat.le_refl _)) hn hlen hfar).mono ?_
        rintro e w2 ⟨lo, hi, er2, rfl, hI, hb2⟩
        have he2 : er2 = 0 := openR_val hI.out.1 HC.out (ends_t (by omega) (by omega) (by omega)) HT.out
        have hs := Lib.hid (hI.out.2.1 he2)
        subst he2
        have hz2 := hb2.size
        have hg2 := hg.below hb2 (Nat.le_refl _)
        have hB2 := Lib.hid (HB.out.trans (hb2.mono hszw))
        have q1 := Lib.hid (ho1.out.below hb2 l1)
        clear hb2 hg l1 k1 f1 hI
        obtain ⟨l1, k1, f1⟩ := q1.out
        have hll : (ls.map srow).length = ls.length := List.length_map _
        rw [List.length_map] at hg2
        go_wp2_with (at_builtin; go_must (refine wpList_append_own _ rfl _ _ 39 rfl w1.heap.size 23 i0 (.agg #[.int .i64 0, .int .i64 0]) 2 16 Try.underlying39 hi0 hi1 hi2 hi3 rfl (by decide) (.slice PA ls.length pc) (ls.map srow).length _ rfl ((hg2.2.alloc _).alloc _) ⟨w2.heap.size + 1, 0, none⟩ 1 1 [.int .i64 lo, .int .i64 hi] rfl rfl ?_ (by simp [Value.oneCell']) (by unfold maxLen; omega) (by omega) (by simp; omega) ?_; rotate_left; intro v' w6 hown' hgrow hnil))
        · have hbA : Below w1.heap.size w2 w6 := (((Below.refl _ w2).alloc (by omega) _).alloc (by simp; omega) _).grown hgrow (by simp; omega) (fun i hi => (hg2.2.lt i hi).1)
          have hg6 : Gro w6 w1.heap.size 23 2 v' (ls.map srow ++ [srow (lo, hi)]) := Gro.grown hg2 rfl hown'
          have hz6 := hbA.size
          have r1 := q1.out.below hbA (by omega)
          have hB6 := hB2.out.trans (hbA.mono (by omega))
          clear hown' hgrow hnil hbA
          go_roundg (L.toNat + 1 - (ls.length + 1))
          case measure => omega
          case rel => exact ⟨ls ++ [(lo, hi)], by simp; omega, by simp, hD.out.snoc hs.out, by rw [List.map_append]; exact hg6, r1, by omega, hB6⟩
        · intro j u hj
          rcases j with _ | _ | j <;> simp at hj
          all_goals (subst hj; simp [Addr.add])
      · have hln : ls.length = L.toNat + 1 := by omega
        have hres : Hid (DrawR L sl rl rh wg ks ls 0) := ⟨hO.out, fun _ => ⟨hln, hD.out⟩, fun h => absurd rfl h⟩
        rw [List.length_map]
        go_wp2
        go_ret2
        exact ⟨PA, pc, ls, 0, rfl, hres, hrd, by omega, by (repeat' (first | (with_reducible exact Below.refl _ _) | (with_reducible assumption) | (with_reducible refine Below.drew ?_) | (with_reducible refine below_drewN ?_ _) | (with_reducible refine Below.setCell ?_ ?_ _) | (with_reducible refine Below.alloc ?_ ?_ _) | (refine Below.trans ?_ (Below.mono (by with_reducible assumption) ?_)) | omega | (exact Below.size (by with_reducible assumption)) | (simp; done) | (simp; omega)))⟩
  · have hres : Hid (DrawR L sl rl rh wg ks [] er) := ⟨hO.out, fun h => absurd h he, fun _ => rfl⟩
    go_wp2
    go_ret2
    exact ⟨none, 0, [], er, rfl, hres, Rd.nil _ _ _, by simp, by (repeat' (first | (with_reducible exact Below.refl _ _) | (with_reducible assumption) | (with_reducible refine Below.drew ?_) | (with_reducible refine below_drewN ?_ _) | (with_reducible refine Below.setCell ?_ ?_ _) | (with_reducible refine Below.alloc ?_ ?_ _) | (refine Below.trans ?_ (Below.mono (by with_reducible assumption) ?_)) | omega | (exact Below.size (by with_reducible assumption)) | (simp; done) | (simp; omega)))⟩
set_option maxHeartbeats 1000000 in
theorem half62 (n : Int) (w : World) (h : -10000 ≤ n ∧ n ≤ 10000) : Calls Try.prog 62 #[.int .i64 n] w fun e w' => e = .returned (.int .i64 (n / 2)) ∧ w = w' := by
  go_enter Try.func62, Try.ntmps62
  by_cases h0 : n < 0
  · go_wp2
    all_goals go_ret
    all_goals exact ⟨ret_int (by first | omega | (rw [Int.tdiv_eq_ediv_of_nonneg (by omega)]; omega)), rfl⟩
  · go_wp2
    all_goals go_ret
    all_goals exact ⟨ret_int (by first | omega | (rw [Int.tdiv_eq_ediv_of_nonneg (by omega)])), rfl⟩
set_option maxRecDepth 100000 in
set_option maxHeartbeats 8000000 in
theorem rbest26 (L sl rl rh wg : Int) (A : Option Addr) (n cap : Nat) (ks : List Kn) (w : World) (hA : Rd 3 w A (ks.map krow)) (hn : Hid (n = ks.length)) (hlen : n ≤ 9223372036854775807) (hfar : Hid (farB L sl rl rh wg ks = false)) :
    Calls Try.prog 26 #[.agg #[.int .i64 L, .int .i64 sl, .int .i64 rl, .int .i64 rh, .slice A n cap, .int .i64 wg]] w fun e w' => ∃ (A' : Option Addr) (cap' : Nat) (ls : List Sp) (er : Int), e = .returned (.tuple #[.slice A' (mids ls).length cap', .int .i64 er]) ∧ Hid (DrawR L sl rl rh wg ks ls er) ∧ RdI w' A' (mids ls) ∧ ls.length ≤ 13 ∧ Below w.heap.size w w' := by
  have HA := Lib.hid hA
  obtain ⟨i0, hi0, hi1, hi2, hi3⟩ := info_parts inf3
  clear hA
  go_enter Try.func26, Try.ntmps26
  go_wp2_with fail
  refine (rdraw24 L sl rl rh wg A n cap ks _ (HA.out.below (B := w.heap.size) (by (repeat' (first | (with_reducible exact Below.refl _ _) | (with_reducible assumption) | (with_reducible refine Below.drew ?_) | (with_reducible refine below_drewN ?_ _) | (with_reducible refine Below.setCell ?_ ?_ _) | (with_reducible refine Below.alloc ?_ ?_ _) | (refine Below.trans ?_ (Below.mono (by with_reducible assumption) ?_)) | omega | (exact Below.size (by with_reducible assumption)) | (simp; done) | (simp; omega)))) (Nat.le_refl _)) hn hlen hfar).mono ?_
  rintro e w1 ⟨A', cap', ls, er, rfl, hD, hrd, hll, hb1⟩
  have hz1 := hb1.size
  simp only [World.size_alloc] at hz1
  have hB1 := Lib.hid (show Below w.heap.size w w1 by (repeat' (first | (with_reducible exact Below.refl _ _) | (with_reducible assumption) | (with_reducible refine Below.drew ?_) | (with_reducible refine below_drewN ?_ _) | (with_reducible refine Below.setCell ?_ ?_ _) | (with_reducible refine Below.alloc ?_ ?_ _) | (refine Below.trans ?_ (Below.mono (by with_reducible assumption) ?_)) | omega | (exact Below.size (by with_reducible assumption)) | (simp; done) | (simp; omega))))
  have HR := Lib.hid hrd
  clear hb1 hrd
  go_wp2
  go_loopg [6, 7] ls.length (fun K y z w5 => ∃ k : Nat, K + k = ls.length ∧ z = .int .i64 k ∧ Gro w5 w1.heap.size 3 1 y ((mids (ls.take k)).map irow) ∧ w1.heap.size ≤ w5.heap.size ∧ Below w1.heap.size w1 w5)
  case atStart => exact ⟨0, rfl, rfl, Gro.nil _ _ _ _, Nat.le_refl _, Below.refl _ _⟩
  case round =>
    obtain ⟨k, hK, rfl, hg, hsz, hbw⟩ := hrel
    obtain ⟨PA, pc, rfl, hrd⟩ := hg.out
    have hmk : (mids (ls.take k)).length ≤ k := by rw [mids_len, List.length_take]; omega
    by_cases hlt : k < ls.length
    · clear hrd
      obtain ⟨s, hs⟩ : ∃ s, Hid (ls[k]? = some s) := ⟨ls[k]'hlt, by simp [Hid]⟩
      have hbd := drawR_bd hD.out s (List.mem_of_getElem? hs.out)
      obtain ⟨b, off, hAe, hb, hc0, hc1⟩ := rd_sp HR.out hs.out
      have hAE := Lib.hid hAe
      have hAA := hAE.out
      subst hAA
      have hsn := Lib.hid (show mids (ls.take (k + 1)) = mids (ls.take k) ++ [midI s.1 s.2] from mids_snoc hs.out)
      have hw1 := IntWalk.i64_in (s.1 + s.2) (by omega)
      have y0 : (k : Int) < (ls.length : Int) := by omega
      rw [List.length_map] at hg
      have HG := Lib.hid hg
      have HBW := Lib.hid hbw
      clear hg hbw hAe hAE
      go_wp2
      refine wp_nor ?_
      refine rg_start (fun w' => Below w1.heap.size w1 w') 16 (by kernel_rfl) rfl ?_
      have hS : Below w1.heap.size w1 wr.drew := HBW.out.drew
      have hG9 : Gro wr.drew _ _ _ _ _ := HG.out
      clear HBW HG
      generalize World.drew _ = W at hS hG9 ⊢
      refine rg_take (fuel := 4) [0, 1, 2, 3, 4, 5, 6, 7, 8, 9, 10, 11] (by kernel_rfl) (by intro _ _ d _ _ h; first | (cases d <;> exact h) | cases h.1) rfl (by kernel_rfl) (by kernel_rfl) hS ?_
      simp only [pickL, pick1, List.cons_append, List.nil_append]
      (refine wpTake_cons (v := ?_) (Or.inl ⟨by rfl, ?_⟩) ?_; rotate_left; (intro w' hSw; have e1 := ((bcell hSw).1 _ (off + k * 2) hb).trans hc0; have e2 := ((bcell hSw).1 _ (off + k * 2 + 1) hb).trans hc1; clear hSw; go_simp; (try with_reducible rfl)); (try simp only [Act.put, List.setIfInBounds_toArray, List.set_cons_zero, List.set_cons_succ]))
      (refine wpTake_cons (v := ?_) (Or.inl ⟨by rfl, ?_⟩) ?_; rotate_left; (intro w' hSw; have e1 := ((bcell hSw).1 _ (off + k * 2) hb).trans hc0; have e2 := ((bcell hSw).1 _ (off + k * 2 + 1) hb).trans hc1; clear hSw; go_simp; (try with_reducible rfl)); (try simp only [Act.put, List.setIfInBounds_toArray, List.set_cons_zero, List.set_cons_succ]))
      (refine wpTake_cons (v := ?_) (Or.inl ⟨by rfl, ?_⟩) ?_; rotate_left; (intro w' hSw; have e1 := ((bcell hSw).1 _ (off + k * 2) hb).trans hc0; have e2 := ((bcell hSw).1 _ (off + k * 2 + 1) hb).trans hc1; clear hSw; go_simp; (try with_reducible rfl)); (try simp only [Act.put, List.setIfInBounds_toArray, List.set_cons_zero, List.set_cons_succ]))
      (refine wpTake_cons (v := ?_) (Or.inl ⟨by rfl, ?_⟩) ?_; rotate_left; (intro w' hSw; have e1 := ((bcell hSw).1 _ (off + k * 2) hb).trans hc0; have e2 := ((bcell hSw).1 _ (off + k * 2 + 1) hb).trans hc1; clear hSw; go_simp; (try with_reducible rfl)); (try simp only [Act.put, List.setIfInBounds_toArray, List.set_cons_zero, List.set_cons_succ]))
      (refine wpTake_cons (v := ?_) (Or.inl ⟨by rfl, ?_⟩) ?_; rotate_left; (intro w' hSw; have e1 := ((bcell hSw).1 _ (off + k * 2) hb).trans hc0; have e2 := ((bcell hSw).1 _ (off + k * 2 + 1) hb).trans hc1; clear hSw; go_simp; (try with_reducible rfl)); (try simp only [Act.put, List.setIfInBounds_toArray, List.set_cons_zero, List.set_cons_succ]))
      (refine wpTake_cons (v := ?_) (Or.inl ⟨by rfl, ?_⟩) ?_; rotate_left; (intro w' hSw; have e1 := ((bcell hSw).1 _ (off + k * 2) hb).trans hc0; have e2 := ((bcell hSw).1 _ (off + k * 2 + 1) hb).trans hc1; clear hSw; go_simp; (try with_reducible rfl)); (try simp only [Act.put, List.setIfInBounds_toArray, List.set_cons_zero, List.set_cons_succ]))
      (refine wpTake_cons (v := ?_) (Or.inl ⟨by rfl, ?_⟩) ?_; rotate_left; (intro w' hSw; have e1 := ((bcell hSw).1 _ (off + k * 2) hb).trans hc0; have e2 := ((bcell hSw).1 _ (off + k * 2 + 1) hb).trans hc1; clear hSw; go_simp; (try with_reducible rfl)); (try simp only [Act.put, List.setIfInBounds_toArray, List.set_cons_zero, List.set_cons_succ]))
      (refine wpTake_cons (v := ?_) (Or.inl ⟨by rfl, ?_⟩) ?_; rotate_left; (intro w' hSw; have e1 := ((bcell hSw).1 _ (off + k * 2) hb).trans hc0; have e2 := ((bcell hSw).1 _ (off + k * 2 + 1) hb).trans hc1; clear hSw; go_simp; (try with_reducible rfl)); (try simp only [Act.put, List.setIfInBounds_toArray, List.set_cons_zero, List.set_cons_succ]))
      (refine wpTake_cons (v := ?_) (Or.inl ⟨by rfl, ?_⟩) ?_; rotate_left; (intro w' hSw; have e1 := ((bcell hSw).1 _ (off + k * 2) hb).trans hc0; have e2 := ((bcell hSw).1 _ (off + k * 2 + 1) hb).trans hc1; clear hSw; go_simp; (try with_reducible rfl)); (try simp only [Act.put, List.setIfInBounds_toArray, List.set_cons_zero, List.set_cons_succ]))
      (refine wpTake_cons (v := ?_) (Or.inl ⟨by rfl, ?_⟩) ?_; rotate_left; (intro w' hSw; have e1 := ((bcell hSw).1 _ (off + k * 2) hb).trans hc0; have e2 := ((bcell hSw).1 _ (off + k * 2 + 1) hb).trans hc1; clear hSw; go_simp; (try with_reducible rfl)); (try simp only [Act.put, List.setIfInBounds_toArray, List.set_cons_zero, List.set_cons_succ]))
      (refine wpTake_cons (v := ?_) (Or.inl ⟨by rfl, ?_⟩) ?_; rotate_left; (intro w' hSw; have e1 := ((bcell hSw).1 _ (off + k * 2) hb).trans hc0; have e2 := ((bcell hSw).1 _ (off + k * 2 + 1) hb).trans hc1; clear hSw; go_simp; (try with_reducible rfl)); (try simp only [Act.put, List.setIfInBounds_toArray, List.set_cons_zero, List.set_cons_succ]))
      (refine wpTake_cons (v := ?_) (Or.inl ⟨by rfl, ?_⟩) ?_; rotate_left; (intro w' hSw; have e1 := ((bcell hSw).1 _ (off + k * 2) hb).trans hc0; have e2 := ((bcell hSw).1 _ (off + k * 2 + 1) hb).trans hc1; clear hSw; go_simp; (try with_reducible rfl)); (try simp only [Act.put, List.setIfInBounds_toArray, List.set_cons_zero, List.set_cons_succ]))
      refine wpTake_nil ?_
      (try simp only [hw1])
      refine rg_one (fuel := 3) 12 rfl (by kernel_rfl) (by kernel_rfl) ?_
      simp only [pick1, wpHead]
      intro K' hK
      (first | rw [if_pos (by rfl)] | rw [if_neg (by intro h; cases h)] | skip)
      go_simp
      refine (half62 _ _ (by omega)).mono ?_
      rintro e w' ⟨rfl, rfl⟩
      go_simp
      refine hK.out _ _ hS ?_
      clear hK
      (try simp only [Act.put, List.setIfInBounds_toArray, List.set_cons_zero, List.set_cons_succ])
      refine rg_one (fuel := 2) 13 rfl (by kernel_rfl) (by kernel_rfl) ?_
      intro K hK
      simp only [pick1, wpHead]
      rw [if_pos (by rfl)]
      go_simp
      have T8 := (OwnT.new W #[.int .i64 (midI s.1 s.2)] 3).rdI
      have hb8 := (Below.refl W.heap.size W).alloc (Nat.le_refl _) (.cells #[.int .i64 (midI s.1 s.2)] 3)
      have hS8 := hS.trans (hb8.mono hS.size)
      replace hG9 := hG9.below hb8 (Nat.le_refl _)
      have hz8 := hS8.size
      rw [show (s.1 + s.2) / 2 = midI s.1 s.2 from rfl] at *
      generalize hg8 : W.heap.size = g8 at T8 ⊢
      generalize hWe : World.alloc W _ = W8 at hb8 hS8 hG9 T8 hz8 ⊢
      clear hWe hg8 hb8 hS
      have hS := hS8
      clear hS8
      refine hK.out _ _ hS ?_
      clear hK
      (try simp only [Act.put, List.setIfInBounds_toArray, List.set_cons_zero, List.set_cons_succ])
      refine rg_one (fuel := 1) 14 rfl (by kernel_rfl) (by kernel_rfl) ?_
      intro K hK
      simp only [pick1]
      refine step_app (K := K) rfl (.tmp 19) (.tmp 32) 44 rfl w1.heap.size 3 i0 (.int .i64 0) 1 8 (by kernel_rfl) hi0 hi1 hi2 hi3 rfl (by decide) _ ((mids (ls.take k)).map irow) rfl hG9 hz8 (some ⟨g8, 0, none⟩) 1 1 ([midI s.1 s.2].map irow) rfl rfl T8 irow_len irow_one (by rw [List.length_map]; unfold maxLen; omega) (by rw [List.length_map]; omega) ?_
      intro v9 W9 G9 hgr
      have hS9 := hG9.room hS hgr hz8
      rw [← List.map_append] at G9
      refine hK.out _ _ hS9 ?_
      clear hK hS hG9 hgr T8
      have hS := hS9
      clear hS9
      (try simp only [Act.put, List.setIfInBounds_toArray, List.set_cons_zero, List.set_cons_succ])
      refine rg_one (fuel := 0) 15 rfl (by kernel_rfl) (by kernel_rfl) ?_
      intro K hK
      simp only [pick1, wpHead]
      rw [if_pos (by rfl)]
      go_simp
      refine hK.out _ _ hS ?_
      clear hK
      (try simp only [Act.put, List.setIfInBounds_toArray, List.set_cons_zero, List.set_cons_succ])
      refine rg_done (by kernel_rfl) ?_
      refine ⟨rfl, ?_⟩
      have hSS := Lib.hid hS
      have hGG := Lib.hid G9
      have hzS := hS.size
      clear hS G9
      (try simp only [Exit.then, Exit.inBlock])
      go_wp2
      go_roundg (ls.length - (k + 1))
      case measure => omega
      case rel => exact ⟨k + 1, by omega, by go_num, by rw [hsn.out]; exact hGG.out, hzS, hSS.out⟩
    · obtain rfl : k = ls.length := by omega
      rw [List.length_map]
      rw [List.take_of_length_le (Nat.le_refl _)] at hrd ⊢
      have HBx := Lib.hid (hB1.out.trans (hbw.mono (by omega)))
      go_wp2
      go_ret2
      exact ⟨PA, pc, ls, er, rfl, hD, hrd, hll, HBx.out⟩
end Go.Proofs.Ytphcpphmoeiioaa
