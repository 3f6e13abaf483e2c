/- Walk: the theorem of the glances, where the settings' error is 0. -/
import Derived.Test.YtfboiplpfkommaaSf
namespace Go.Proofs.Ytfboiplpfkommaa
open Go.RowKit

set_option maxRecDepth 100000 in
set_option maxHeartbeats 40000000 in
theorem glances12_0 (A : Option Addr) (gs : List Gl) (n cap : Nat) (P S gm gl st : Int) (w : World) (hA : RdG w A gs) (hn : Hid (n = gs.length))
    (H1 : Hid (verB P S = true)) (H2 : Hid (glB P gs = true)) (H3 : Hid (btw st 0 10000 = true)) (hP : (2 ≤ P ∧ P ≤ 50) ∧ 0 ≤ S ∧ S ≤ P) (hn6 : 1 ≤ n ∧ n ≤ 6) (hst : 0 ≤ st ∧ st ≤ 10000)
    (H4 : Hid (∀ g ∈ gs, 0 ≤ g.m ∧ g.m ≤ 10000 ∧ 0 ≤ g.l ∧ g.l < P)) (hTe : Hid (settingsE P S gs = 0)) (hT0 : 0 < (settingsL P S gs).length) (hT50 : (settingsL P S gs).length ≤ 50) :
    Calls Try.prog 12 #[.agg #[.int .i64 P, .int .i64 S], .slice A n cap, .agg #[.int .i64 gm, .int .i64 gl, .int .i64 st]] w fun e w' => e = .returned (.bool true) ∧ Below w.heap.size w w' := by
  have HA := Lib.hid hA
  clear hA
  obtain ⟨⟨hP1, hP2⟩, hS0, hS1⟩ := hP
  obtain ⟨hn1, hn6⟩ := hn6
  obtain ⟨hst0, hst1⟩ := hst
  obtain ⟨i0, hi0, hi1, hi2, hi3⟩ := info_parts Try.info71
  go_enter Try.func12, Try.ntmps12
  go_wp2_with fail
  refine (isVernier47 _ _ _).mono ?_
  rw [H1.out]
  rintro e w1 ⟨rfl, hb1⟩
  (have hz1 := hb1.size; (try simp at hz1); have hc1_0 := fun o => (bcell hb1).1 (w.heap.size) o (by first | omega | (simp; done) | (simp; omega)); have hf1_0 := fun o => (bcell hb1).2 (w.heap.size) o (by first | omega | (simp; done) | (simp; omega)); have : w.heap.size < w1.heap.size := (by first | omega | (simp; done) | (simp; omega)); have : w.heap.size < w1.heap.size + 1 := (by first | omega | (simp; done) | (simp; omega)); have : w.heap.size < w1.heap.size + 2 := (by first | omega | (simp; done) | (simp; omega)); have : w.heap.size < w1.heap.size + 3 := (by first | omega | (simp; done) | (simp; omega)); have hc1_1 := fun o => (bcell hb1).1 (w.heap.size + 1) o (by first | omega | (simp; done) | (simp; omega)); have hf1_1 := fun o => (bcell hb1).2 (w.heap.size + 1) o (by first | omega | (simp; done) | (simp; omega)); have : w.heap.size + 1 < w1.heap.size := (by first | omega | (simp; done) | (simp; omega)); have : w.heap.size + 1 < w1.heap.size + 1 := (by first | omega | (simp; done) | (simp; omega)); have : w.heap.size + 1 < w1.heap.size + 2 := (by first | omega | (simp; done) | (simp; omega)); have : w.heap.size + 1 < w1.heap.size + 3 := (by first | omega | (simp; done) | (simp; omega)))
  have b1 : Below w.heap.size w w1 := by (repeat' (first | (with_reducible exact Below.refl _ _) | (with_reducible assumption) | (with_reducible refine Below.drew ?_) | (with_reducible refine below_drewN ?_ _) | (with_reducible refine Below.setCell ?_ ?_ _) | (with_reducible refine Below.alloc ?_ ?_ _) | (refine Below.trans ?_ (Below.mono (by with_reducible assumption) ?_)) | omega | (exact Below.size (by with_reducible assumption)) | (simp; done) | (simp; omega)))
  go_wp2_with fail
  refine (areGlances48 A gs n cap _ _ _ (HA.out.below b1 (Nat.le_refl _)) hn (by omega) hP1 hP2).mono ?_
  rw [H2.out]
  rintro e w2 ⟨rfl, hb2⟩
  (have hz2 := hb2.size; (try simp at hz2); have hc2_0 := fun o => (bcell hb2).1 (w.heap.size) o (by first | omega | (simp; done) | (simp; omega)); have hf2_0 := fun o => (bcell hb2).2 (w.heap.size) o (by first | omega | (simp; done) | (simp; omega)); have : w.heap.size < w2.heap.size := (by first | omega | (simp; done) | (simp; omega)); have : w.heap.size < w2.heap.size + 1 := (by first | omega | (simp; done) | (simp; omega)); have : w.heap.size < w2.heap.size + 2 := (by first | omega | (simp; done) | (simp; omega)); have : w.heap.size < w2.heap.size + 3 := (by first | omega | (simp; done) | (simp; omega)); have hc2_1 := fun o => (bcell hb2).1 (w.heap.size + 1) o (by first | omega | (simp; done) | (simp; omega)); have hf2_1 := fun o => (bcell hb2).2 (w.heap.size + 1) o (by first | omega | (simp; done) | (simp; omega)); have : w.heap.size + 1 < w2.heap.size := (by first | omega | (simp; done) | (simp; omega)); have : w.heap.size + 1 < w2.heap.size + 1 := (by first | omega | (simp; done) | (simp; omega)); have : w.heap.size + 1 < w2.heap.size + 2 := (by first | omega | (simp; done) | (simp; omega)); have : w.heap.size + 1 < w2.heap.size + 3 := (by first | omega | (simp; done) | (simp; omega)))
  have b2 : Below w.heap.size w w2 := by (repeat' (first | (with_reducible exact Below.refl _ _) | (with_reducible assumption) | (with_reducible refine Below.drew ?_) | (with_reducible refine below_drewN ?_ _) | (with_reducible refine Below.setCell ?_ ?_ _) | (with_reducible refine Below.alloc ?_ ?_ _) | (refine Below.trans ?_ (Below.mono (by with_reducible assumption) ?_)) | omega | (exact Below.size (by with_reducible assumption)) | (simp; done) | (simp; omega)))
  go_wp2_with fail
  refine (within26 _ _ _ _).mono ?_
  rw [H3.out]
  rintro e _ ⟨rfl, rfl⟩
  go_wp2_with fail
  refine (settings44 A gs n cap _ _ _ (HA.out.below b2 (Nat.le_refl _)) hn (by omega)).mono ?_
  rw [hTe.out]
  rintro e w3 ⟨A3, c3, rfl, r3, hb3⟩
  (have hz3 := hb3.size; (try simp at hz3); have hc3_0 := fun o => (bcell hb3).1 (w.heap.size) o (by first | omega | (simp; done) | (simp; omega)); have hf3_0 := fun o => (bcell hb3).2 (w.heap.size) o (by first | omega | (simp; done) | (simp; omega)); have : w.heap.size < w3.heap.size := (by first | omega | (simp; done) | (simp; omega)); have : w.heap.size < w3.heap.size + 1 := (by first | omega | (simp; done) | (simp; omega)); have : w.heap.size < w3.heap.size + 2 := (by first | omega | (simp; done) | (simp; omega)); have : w.heap.size < w3.heap.size + 3 := (by first | omega | (simp; done) | (simp; omega)); have hc3_1 := fun o => (bcell hb3).1 (w.heap.size + 1) o (by first | omega | (simp; done) | (simp; omega)); have hf3_1 := fun o => (bcell hb3).2 (w.heap.size + 1) o (by first | omega | (simp; done) | (simp; omega)); have : w.heap.size + 1 < w3.heap.size := (by first | omega | (simp; done) | (simp; omega)); have : w.heap.size + 1 < w3.heap.size + 1 := (by first | omega | (simp; done) | (simp; omega)); have : w.heap.size + 1 < w3.heap.size + 2 := (by first | omega | (simp; done) | (simp; omega)); have : w.heap.size + 1 < w3.heap.size + 3 := (by first | omega | (simp; done) | (simp; omega)))
  have b3 : Below w.heap.size w w3 := by (repeat' (first | (with_reducible exact Below.refl _ _) | (with_reducible assumption) | (with_reducible refine Below.drew ?_) | (with_reducible refine below_drewN ?_ _) | (with_reducible refine Below.setCell ?_ ?_ _) | (with_reducible refine Below.alloc ?_ ?_ _) | (refine Below.trans ?_ (Below.mono (by with_reducible assumption) ?_)) | omega | (exact Below.size (by with_reducible assumption)) | (simp; done) | (simp; omega)))
  have R3 := Lib.hid r3
  clear r3
  have sl : ((seenL P S st).length : Int) ≤ P := by
    have e : seenL P S st = linesL P S st P.toNat := by unfold seenL; rw [H1.out, H3.out]; rfl
    rw [e]
    have := linesL_len P S st P.toNat
    omega
  have sE : Hid (seenE P S st = 0) := by show _ = _; unfold seenE; rw [if_pos H1.out, if_pos H3.out]
  go_wp2_with fail
  refine (seen42 _ _ _ _).mono ?_
  rw [sE.out]
  rintro e w4 ⟨A4, c4, rfl, r4, hb4⟩
  (have hz4 := hb4.size; (try simp at hz4); have hc4_0 := fun o => (bcell hb4).1 (w.heap.size) o (by first | omega | (simp; done) | (simp; omega)); have hf4_0 := fun o => (bcell hb4).2 (w.heap.size) o (by first | omega | (simp; done) | (simp; omega)); have : w.heap.size < w4.heap.size := (by first | omega | (simp; done) | (simp; omega)); have : w.heap.size < w4.heap.size + 1 := (by first | omega | (simp; done) | (simp; omega)); have : w.heap.size < w4.heap.size + 2 := (by first | omega | (simp; done) | (simp; omega)); have : w.heap.size < w4.heap.size + 3 := (by first | omega | (simp; done) | (simp; omega)); have hc4_1 := fun o => (bcell hb4).1 (w.heap.size + 1) o (by first | omega | (simp; done) | (simp; omega)); have hf4_1 := fun o => (bcell hb4).2 (w.heap.size + 1) o (by first | omega | (simp; done) | (simp; omega)); have : w.heap.size + 1 < w4.heap.size := (by first | omega | (simp; done) | (simp; omega)); have : w.heap.size + 1 < w4.heap.size + 1 := (by first | omega | (simp; done) | (simp; omega)); have : w.heap.size + 1 < w4.heap.size + 2 := (by first | omega | (simp; done) | (simp; omega)); have : w.heap.size + 1 < w4.heap.size + 3 := (by first | omega | (simp; done) | (simp; omega)))
  have b4 : Below w.heap.size w w4 := by (repeat' (first | (with_reducible exact Below.refl _ _) | (with_reducible assumption) | (with_reducible refine Below.drew ?_) | (with_reducible refine below_drewN ?_ _) | (with_reducible refine Below.setCell ?_ ?_ _) | (with_reducible refine Below.alloc ?_ ?_ _) | (refine Below.trans ?_ (Below.mono (by with_reducible assumption) ?_)) | omega | (exact Below.size (by with_reducible assumption)) | (simp; done) | (simp; omega)))
  have R3' := Lib.hid (R3.out.below hb4 (Nat.le_refl _))
  have R4 := Lib.hid r4
  clear r4 R3
  have o0 : Own w4 w.heap.size [.int .i64 P, .int .i64 S] := by (clear b1 b2 b3 b4; (repeat' (first | (with_reducible assumption) | (with_reducible exact Own.mk (by with_reducible assumption) (by with_reducible assumption) (by with_reducible assumption)) | (with_reducible refine Own.new' _ _ (by first | rfl | (simp; done)) rfl) | (with_reducible refine Own.drew ?_) | (with_reducible refine Own.drewN ?_ _) | (with_reducible refine Own.alloc ?_ _) | (with_reducible refine Own.setOther ?_ ?_ _) | (refine Own.below ?_ (by with_reducible assumption) ?_) | omega | (simp; done) | (simp; omega))))
  have o1 : Own w4 (w.heap.size + 1) [.int .i64 gm, .int .i64 gl, .int .i64 st] := by (clear b1 b2 b3 b4 o0; (repeat' (first | (with_reducible assumption) | (with_reducible exact Own.mk (by with_reducible assumption) (by with_reducible assumption) (by with_reducible assumption)) | (with_reducible refine Own.new' _ _ (by first | rfl | (simp; done)) rfl) | (with_reducible refine Own.drew ?_) | (with_reducible refine Own.drewN ?_ _) | (with_reducible refine Own.alloc ?_ _) | (with_reducible refine Own.setOther ?_ ?_ _) | (refine Own.below ?_ (by with_reducible assumption) ?_) | omega | (simp; done) | (simp; omega))))
  clear hb1 hb2 hb3 hb4
  go_wp2_with fail
  go_loopg [11, 12, 13] n (fun K is back idx wr => ∃ (j : Nat) (x : Int), K + j = n ∧ idx = .int .i64 x ∧ x = (n : Int) - 1 - j ∧ is = .bool ((gs.reverse.take j).all (atB P S st)) ∧ Gro wr w4.heap.size 71 2 back ((gs.reverse.take j).map grow) ∧ Below w4.heap.size w4 wr)
  case atStart => exact ⟨0, (n : Int) - 1, by omega, by go_num, by omega, rfl, Gro.nil _ _ _ _, Below.refl _ _⟩
  case round =>
    obtain ⟨j, x, hj, rfl, hx, rfl, hg, bk⟩ := hrel
    by_cases hjn : j < n
    · obtain ⟨i, rfl⟩ : ∃ i : Nat, x = i := ⟨(n - 1 - j), by omega⟩
      obtain ⟨g, hgi, hgj⟩ := rev_get hn.out hjn
      have hgl := H4.out g (List.mem_of_getElem? hgi)
      obtain rfl : i = n - 1 - j := by omega
      generalize hii : n - 1 - j = i at *
      have hbw : Below w.heap.size w wr := b4.trans (bk.mono b4.size)
      obtain ⟨b, off, rfl, hb, hc0, hc1⟩ := (HA.out.below hbw (Nat.le_refl _)).elem hgi
      have t0 : Own wr w.heap.size [.int .i64 P, .int .i64 S] := o0.below bk o0.lt
      have t1 : Own wr (w.heap.size + 1) [.int .i64 gm, .int .i64 gl, .int .i64 st] := o1.below bk o1.lt
      have hx0 := Aft.cell t0
      have hx3 := Aft.cell t1
      have hx1 := fun x : Aft wr => (Aft.old x hb _).trans hc0
      have hx2 := fun x : Aft wr => (Aft.old x hb _).trans hc1
      have lt0 := t0.lt
      have lt1 := t1.lt
      have hdv := Int.ediv_nonneg (show (0 : Int) ≤ st by omega) (show 0 ≤ P by omega)
      have hdl : st / P ≤ st := Int.ediv_le_self _ (by omega)
      have hin : i < n := by omega
      have hsn : Hid ((gs.reverse.take (j + 1)).all (atB P S st) = ((gs.reverse.take j).all (atB P S st) && atB P S st g)) := by
        show _ = _
        rw [take_snoc hgj, List.all_append]; simp
      have htk : Hid ((gs.reverse.take (j + 1)).map grow = (gs.reverse.take j).map grow ++ [grow g]) := by
        show _ = _
        rw [take_snoc hgj, List.map_append]; rfl
      have hrl : ((gs.reverse.take j).map grow).length = j := by simp; have := hn.out; omega
      have q49 : ∀ x : Aft wr, Calls Try.prog 49 #[.slice A4 (seenL P S st).length c4, .int .i64 g.l] x.w fun e w'' => e = .returned (.bool (seemsB P S st g.l)) ∧ ∃ y : Aft wr, w'' = y.w := fun x => by
        have h := in49 A4 (seenL P S st) _ c4 g.l x.w (R4.out.below (bk.trans (x.h.mono bk.size)) (Nat.le_refl _)) rfl (by omega)
        rw [at_seen H1.out H3.out ⟨hgl.2.2.1, hgl.2.2.2⟩] at h
        exact aft_same h
      cases hall : (gs.reverse.take j).all (atB P S st)
      · rw [hall, Bool.false_and] at hsn
        go_wp2
        refine wp_region_aft (by kernel_rfl) (by kernel_rfl) ?_; (repeat (go_big_quiet_step ((fail)))); refine wpQuiet_nil ?_; rintro w5 ⟨⟨_, hb5⟩, rfl⟩
        have q1 : Below w4.heap.size w4 w5 := bk.trans (hb5.mono bk.size)
        have q2 : Gro w5 w4.heap.size 71 2 u12 ((gs.reverse.take j).map grow) := hg.below hb5 (Nat.le_refl _)
        have e1 := (bcell hb5).1 b (off + i * 2) hb
        have e2 := (bcell hb5).1 b (off + i * 2 + 1) hb
        rw [hc0] at e1
        rw [hc1] at e2
        have hsz := hb5.size
        clear hx0 hx1 hx2 hx3 t0 t1 hb5 hbw hg hc0 hc1 q49
        go_wp2_with (at_builtin; refine wpList_append_own _ rfl _ _ 64 rfl w4.heap.size 71 i0 (.agg #[.int .i64 0, .int .i64 0]) 2 16 Try.underlying64 hi0 hi1 hi2 hi3 rfl (by decide) _ _ _ rfl (q2.2.alloc _) ⟨w5.heap.size, 0, none⟩ 1 1 [.int .i64 g.m, .int .i64 g.l] rfl rfl (World.news_of_block (cs := #[.int .i64 g.m, .int .i64 g.l]) (t := 71) (fr := (0, 0)) (heap_alloc_new w5 _)) (by simp [Value.oneCell']) (by unfold maxLen; omega) (by omega) (by simp; have := q1.size; omega) ?_; intro v' w6 hown' hgrow hnil)
        have hbA : Below w4.heap.size w5 w6 := ((Below.refl _ w5).alloc q1.size _).grown hgrow (by simp; have := q1.size; omega) (fun i hi => (q2.2.lt i hi).1)
        have r1 : Below w4.heap.size w4 w6 := q1.trans hbA
        have r2 : Gro w6 w4.heap.size 71 2 v' (((gs.reverse.take j).map grow) ++ [grow g]) := Gro.grown q2 rfl hown'
        clear q1 q2 hown' hgrow hnil hbA e1 e2
        go_wp2
        go_roundg (n - (j + 1))
        case measure => omega
        case rel => exact ⟨j + 1, (i : Int) - 1, by omega, by go_num, by omega, by rw [hsn.out], by rw [htk.out]; exact r2, r1⟩
      · rw [hall, Bool.true_and] at hsn
        by_cases hm : g.m = st / P
        · have hmb : (st / P == g.m) = true := by simp [hm]
          have hat : Hid (atB P S st g = seemsB P S st g.l) := by show _ = _; unfold atB; rw [decide_eq_true hm, Bool.true_and]
          have hm' := Lib.hid hm
          clear hm
          rw [hat.out] at hsn
          clear hat hall
          go_wp2
          refine wp_region_aft (by kernel_rfl) (by kernel_rfl) ?_; (repeat (go_big_quiet_step ((go_at_call 49; exact q49 _)))); refine wpQuiet_nil ?_; rintro w5 ⟨⟨_, hb5⟩, rfl⟩
          have q1 : Below w4.heap.size w4 w5 := bk.trans (hb5.mono bk.size)
          have q2 : Gro w5 w4.heap.size 71 2 u12 ((gs.reverse.take j).map grow) := hg.below hb5 (Nat.le_refl _)
          have e1 := (bcell hb5).1 b (off + i * 2) hb
          have e2 := (bcell hb5).1 b (off + i * 2 + 1) hb
          rw [hc0] at e1
          rw [hc1] at e2
          have hsz := hb5.size
          clear hx0 hx1 hx2 hx3 t0 t1 hb5 hbw hg hc0 hc1 q49
          go_wp2_with (at_builtin; refine wpList_append_own _ rfl _ _ 64 rfl w4.heap.size 71 i0 (.agg #[.int .i64 0, .int .i64 0]) 2 16 Try.underlying64 hi0 hi1 hi2 hi3 rfl (by decide) _ _ _ rfl (q2.2.alloc _) ⟨w5.heap.size, 0, none⟩ 1 1 [.int .i64 g.m, .int .i64 g.l] rfl rfl (World.news_of_block (cs := #[.int .i64 g.m, .int .i64 g.l]) (t := 71) (fr := (0, 0)) (heap_alloc_new w5 _)) (by simp [Value.oneCell']) (by unfold maxLen; omega) (by omega) (by simp; have := q1.size; omega) ?_; intro v' w6 hown' hgrow hnil)
          have hbA : Below w4.heap.size w5 w6 := ((Below.refl _ w5).alloc q1.size _).grown hgrow (by simp; have := q1.size; omega) (fun i hi => (q2.2.lt i hi).1)
          have r1 : Below w4.heap.size w4 w6 := q1.trans hbA
          have r2 : Gro w6 w4.heap.size 71 2 v' (((gs.reverse.take j).map grow) ++ [grow g]) := Gro.grown q2 rfl hown'
          clear q1 q2 hown' hgrow hnil hbA e1 e2
          go_wp2
          go_roundg (n - (j + 1))
          case measure => omega
          case rel => exact ⟨j + 1, (i : Int) - 1, by omega, by go_num, by omega, by rw [hsn.out], by rw [htk.out]; exact r2, r1⟩
        · have hmb : (st / P == g.m) = false := by simp; omega
          have hat : Hid (atB P S st g = false) := by show _ = _; unfold atB; rw [decide_eq_false hm, Bool.false_and]
          have hm' := Lib.hid hm
          clear hm
          rw [hat.out] at hsn
          clear hat hall
          go_wp2
          refine wp_region_aft (by kernel_rfl) (by kernel_rfl) ?_; (repeat (go_big_quiet_step ((fail)))); refine wpQuiet_nil ?_; rintro w5 ⟨⟨_, hb5⟩, rfl⟩
          have q1 : Below w4.heap.size w4 w5 := bk.trans (hb5.mono bk.size)
          have q2 : Gro w5 w4.heap.size 71 2 u12 ((gs.reverse.take j).map grow) := hg.below hb5 (Nat.le_refl _)
          have e1 := (bcell hb5).1 b (off + i * 2) hb
          have e2 := (bcell hb5).1 b (off + i * 2 + 1) hb
          rw [hc0] at e1
          rw [hc1] at e2
          have hsz := hb5.size
          clear hx0 hx1 hx2 hx3 t0 t1 hb5 hbw hg hc0 hc1 q49
          go_wp2_with (at_builtin; refine wpList_append_own _ rfl _ _ 64 rfl w4.heap.size 71 i0 (.agg #[.int .i64 0, .int .i64 0]) 2 16 Try.underlying64 hi0 hi1 hi2 hi3 rfl (by decide) _ _ _ rfl (q2.2.alloc _) ⟨w5.heap.size, 0, none⟩ 1 1 [.int .i64 g.m, .int .i64 g.l] rfl rfl (World.news_of_block (cs := #[.int .i64 g.m, .int .i64 g.l]) (t := 71) (fr := (0, 0)) (heap_alloc_new w5 _)) (by simp [Value.oneCell']) (by unfold maxLen; omega) (by omega) (by simp; have := q1.size; omega) ?_; intro v' w6 hown' hgrow hnil)
          have hbA : Below w4.heap.size w5 w6 := ((Below.refl _ w5).alloc q1.size _).grown hgrow (by simp; have := q1.size; omega) (fun i hi => (q2.2.lt i hi).1)
          have r1 : Below w4.heap.size w4 w6 := q1.trans hbA
          have r2 : Gro w6 w4.heap.size 71 2 v' (((gs.reverse.take j).map grow) ++ [grow g]) := Gro.grown q2 rfl hown'
          clear q1 q2 hown' hgrow hnil hbA e1 e2
          go_wp2
          go_roundg (n - (j + 1))
          case measure => omega
          case rel => exact ⟨j + 1, (i : Int) - 1, by omega, by go_num, by omega, by rw [hsn.out], by rw [htk.out]; exact r2, r1⟩
    · obtain rfl : x = -1 := by omega
      have hall' : Hid ((gs.reverse.take j).all (atB P S st) = truthB P S st gs) := by
        show _ = _
        rw [List.take_of_length_le (by rw [List.length_reverse]; have := hn.out; omega)]
        exact truth_reverse P S st gs
      have htk : (gs.reverse.take j).map grow = gs.reverse.map grow := by
        rw [List.take_of_length_le (by rw [List.length_reverse]; have := hn.out; omega)]
      rw [htk] at hg
      obtain ⟨A5, c5, rfl, r5⟩ := hg.out
      have hl5 : (gs.reverse.map grow).length = n := by rw [List.length_map, List.length_reverse]; exact hn.out.symm
      rw [hl5, hall'.out]
      have R5 : Hid (RdG wr A5 gs.reverse) := r5
      clear htk hall' r5 hg hl5
      have t0 : Own wr w.heap.size [.int .i64 P, .int .i64 S] := o0.below bk o0.lt
      have t1 : Own wr (w.heap.size + 1) [.int .i64 gm, .int .i64 gl, .int .i64 st] := o1.below bk o1.lt
      have bW : Below w.heap.size w wr := b4.trans (bk.mono b4.size)
      have R3 := Lib.hid (R3'.out.below bk (Nat.le_refl _))
      clear R3' R4 b4
      obtain ⟨l0, d0, f0⟩ := t0
      obtain ⟨l1, d1, f1⟩ := t1
      go_wp2_with fail
      refine (settings44 A5 gs.reverse n c5 _ _ _ R5.out (by rw [List.length_reverse]; exact hn) (by omega)).mono ?_
      rw [(settings_reverse P S gs).1, (settings_reverse P S gs).2, hTe.out]
      rintro e w6 ⟨A6, c6, rfl, r6, hb6⟩
      (have hz6 := hb6.size; (try simp at hz6); have hc6_0 := fun o => (bcell hb6).1 (w.heap.size) o (by first | omega | (simp; done) | (simp; omega)); have hf6_0 := fun o => (bcell hb6).2 (w.heap.size) o (by first | omega | (simp; done) | (simp; omega)); have : w.heap.size < w6.heap.size := (by first | omega | (simp; done) | (simp; omega)); have : w.heap.size < w6.heap.size + 1 := (by first | omega | (simp; done) | (simp; omega)); have : w.heap.size < w6.heap.size + 2 := (by first | omega | (simp; done) | (simp; omega)); have : w.heap.size < w6.heap.size + 3 := (by first | omega | (simp; done) | (simp; omega)); have hc6_1 := fun o => (bcell hb6).1 (w.heap.size + 1) o (by first | omega | (simp; done) | (simp; omega)); have hf6_1 := fun o => (bcell hb6).2 (w.heap.size + 1) o (by first | omega | (simp; done) | (simp; omega)); have : w.heap.size + 1 < w6.heap.size := (by first | omega | (simp; done) | (simp; omega)); have : w.heap.size + 1 < w6.heap.size + 1 := (by first | omega | (simp; done) | (simp; omega)); have : w.heap.size + 1 < w6.heap.size + 2 := (by first | omega | (simp; done) | (simp; omega)); have : w.heap.size + 1 < w6.heap.size + 3 := (by first | omega | (simp; done) | (simp; omega)))
      have R3a := Lib.hid (R3.out.below hb6 (Nat.le_refl _))
      have b6 : Below w.heap.size w w6 := bW.trans (hb6.mono bW.size)
      have R6 := Lib.hid r6
      have p0 : Own w6 w.heap.size [.int .i64 P, .int .i64 S] := (Own.mk l0 d0 f0).below hb6 l0
      have p1 : Own w6 (w.heap.size + 1) [.int .i64 gm, .int .i64 gl, .int .i64 st] := (Own.mk l1 d1 f1).below hb6 l1
      clear r6 R5 R3
      have hmem : decide (st ∈ settingsL P S gs) = truthB P S st gs := by
        rw [Bool.eq_iff_iff, decide_eq_true_eq, (settings_ok H1.out H2.out).1]
        exact truths_mem ⟨hst0, hst1⟩
      have HM := Lib.hid hmem
      clear hmem
      go_wp2_with fail
      refine (in49 A3 (settingsL P S gs) _ c3 st _ R3a.out rfl (by omega)).mono ?_
      rw [HM.out]
      rintro e _ ⟨rfl, rfl⟩
      go_wp2_with fail
      refine (same46t A3 A6 _ _ c3 c6 _ R3a.out R6.out (by omega)).mono ?_
      rintro e w7 ⟨rfl, hb7⟩
      (have hz7 := hb7.size; (try simp at hz7))
      have R3b := Lib.hid (R3a.out.below hb7 (Nat.le_refl _))
      have b7 : Below w.heap.size w w7 := b6.trans (hb7.mono b6.size)
      clear R3a R6 hb6 HM
      have o0 : Own w7 w.heap.size [.int .i64 P, .int .i64 S] := p0.below hb7 p0.lt
      have o1 : Own w7 (w.heap.size + 1) [.int .i64 gm, .int .i64 gl, .int .i64 st] := p1.below hb7 p1.lt
      clear d0 f0 d1 f1 hb7 p0 p1
      go_upto_region 19 with fail
      go_cut [16] (fun p wx => ∃ S' : Int, p = .pointer (some ⟨w7.heap.size, 0, none⟩) ∧ S ≤ S' ∧ S' ≤ P ∧ Own wx w7.heap.size [.int .i64 P, .int .i64 S'] ∧ Below w7.heap.size w7 wx)
      case first =>
        have l0 := o0.lt
        have c0 := o0.c
        go_wp2_with fail
        all_goals
          go_meet
          refine ⟨_, rfl, ?_, ?_, Own.new' _ _ rfl rfl, (Below.refl _ _).alloc (Nat.le_refl _) _⟩ <;> omega
      case rest =>
        obtain ⟨S', rfl, hs1, hs2, o2, b8⟩ := hcut
        have hver : verB P S' = true := verB_iff.2 (by omega)
        obtain ⟨v1, v2, v3⟩ := settings_ok hver H2.out
        obtain ⟨v4, _, _⟩ := settings_ok H1.out H2.out
        have vs : subB (settingsL P S gs) (settingsL P S' gs) = true := by
          rw [v1, v4]
          exact truths_sub (fun s h => truth_mono hs1 h) _
        have VS := Lib.hid vs
        have ve : settingsE P S' gs = 0 ∨ settingsE P S' gs = 3 := by rcases v3 with h | h <;> simp [h.1]
        clear v1 v3 v4 hver vs
        have bw8 : Below w.heap.size w wc := b7.trans (b8.mono b7.size)
        have p0 : Own wc w.heap.size [.int .i64 P, .int .i64 S] := o0.below b8 o0.lt
        have p1 : Own wc (w.heap.size + 1) [.int .i64 gm, .int .i64 gl, .int .i64 st] := o1.below b8 o1.lt
        have R3c := Lib.hid (R3b.out.below b8 (Nat.le_refl _))
        clear o0 o1 R3b b8
        obtain ⟨l2, c2, f2⟩ := o2
        generalize hE : settingsE P S' gs = E at *
        have HE := Lib.hid hE
        clear hE
        go_wp2_with fail
        refine (settings44 A gs n cap _ _ _ (HA.out.below bw8 (Nat.le_refl _)) hn (by omega)).mono ?_
        rw [HE.out]
        rintro e w9 ⟨A9, c9, rfl, r9, hb9⟩
        have R3d := Lib.hid (R3c.out.below hb9 (Nat.le_refl _))
        have bw9 : Below w.heap.size w w9 := bw8.trans (hb9.mono bw8.size)
        have R9 := Lib.hid r9
        have o0 : Own w9 w.heap.size [.int .i64 P, .int .i64 S] := p0.below hb9 p0.lt
        have o1 : Own w9 (w.heap.size + 1) [.int .i64 gm, .int .i64 gl, .int .i64 st] := p1.below hb9 p1.lt
        clear r9 R3c hb9 p0 p1 c2 f2
        rcases ve with rfl | rfl
        · go_wp2_with fail
          refine (subset50 A3 A9 _ _ _ _ c3 c9 _ R3d.out R9.out rfl rfl (by omega) (by omega)).mono ?_
          rw [VS.out]
          rintro e _ ⟨rfl, rfl⟩
          go_upto_region 23 with fail
          go_cut [19] (fun p wx => ∃ (B : Option Addr) (cb : Nat), p = .slice B (n + 1) cb ∧ RdG wx B (gs ++ [⟨gm, gl⟩]) ∧ Below w9.heap.size w9 wx)
          case first =>
            cases A with
            | none => exfalso; obtain ⟨_, _, h, _⟩ := HA.out.at_ 0 (by have := hn.out; simp; omega); cases h
            | some a =>
              have hA9 := Lib.hid (HA.out.below bw9 (Nat.le_refl _))
              have hS0 : Below w9.heap.size w9 w9 := Below.refl _ _
              have hS1 := o1.c
              go_region_held3 (fun w' => Below w9.heap.size w9 w' ∧ (∀ i, w'.cell? ⟨w.heap.size + 1, i, none⟩ = [.int .i64 gm, .int .i64 gl, .int .i64 st][i]?)) ((refine keepS o1 ?_; (repeat' (first | (with_reducible exact Below.refl _ _) | (with_reducible assumption) | (with_reducible refine Below.drew ?_) | (with_reducible refine below_drewN ?_ _) | (with_reducible refine Below.setCell ?_ ?_ _) | (with_reducible refine Below.alloc ?_ ?_ _) | (refine Below.trans ?_ (Below.mono (by with_reducible assumption) ?_)) | omega | (exact Below.size (by with_reducible assumption)) | (simp; done) | (simp; omega)))))
                (first
                  | ((refine stepA (w9 := w9) (by rfl) _ _ (by rfl) (by rfl) (by rfl) hA9.out hn hn1 hn6 (by (repeat' (first | exact made0 (by simp) (by simp) | refine World.ownsRow.alloc ?_ _ | refine row_drew ?_ | refine row_drewN ?_ _))) (by (repeat' (first | (with_reducible exact Below.refl _ _) | (with_reducible assumption) | (with_reducible refine Below.drew ?_) | (with_reducible refine below_drewN ?_ _) | (with_reducible refine Below.setCell ?_ ?_ _) | (with_reducible refine Below.alloc ?_ ?_ _) | (refine Below.trans ?_ (Below.mono (by with_reducible assumption) ?_)) | omega | (exact Below.size (by with_reducible assumption)) | (simp; done) | (simp; omega)))) ?_; intro g1 cap1 x1 hown1 hbx1 hkeep1 hat1 hlt1))
                  | ((refine stepB (w9 := w9) (gm := gm) (gl := gl) (by rfl) _ _ (by rfl) (by rfl) (by rfl) hn hn6 (by (repeat' (first | assumption | refine World.ownsRow.alloc ?_ _ | refine row_drew ?_ | refine row_drewN ?_ _))) (by (first | ((repeat' (first | (with_reducible refine Own.new' _ _ (by first | rfl | (simp; done)) rfl) | (with_reducible refine Own.drew ?_) | (with_reducible refine Own.drewN ?_ _) | (with_reducible refine Own.alloc ?_ _))); done) | (refine hkeep1 _ _ (by (repeat' (first | (with_reducible refine Own.new' _ _ (by first | rfl | (simp; done)) rfl) | (with_reducible refine Own.drew ?_) | (with_reducible refine Own.drewN ?_ _) | (with_reducible refine Own.alloc ?_ _)))) (by first | omega | (simp; done) | (simp; omega))))) (by (repeat' (first | (with_reducible exact Below.refl _ _) | (with_reducible assumption) | (with_reducible refine Below.drew ?_) | (with_reducible refine below_drewN ?_ _) | (with_reducible refine Below.setCell ?_ ?_ _) | (with_reducible refine Below.alloc ?_ ?_ _) | (refine Below.trans ?_ (Below.mono (by with_reducible assumption) ?_)) | omega | (exact Below.size (by with_reducible assumption)) | (simp; done) | (simp; omega)))) ?_; intro g3 cap3 x3 hr3 hbx3)))
              all_goals
                go_wp2_with fail
                go_meet
                exact ⟨_, _, rfl, hr3, by assumption⟩
          case rest =>
            obtain ⟨B, cb, rfl, hB, hbB⟩ := hcut
            have HB := Lib.hid hB
            have p0 : Own wc w.heap.size [.int .i64 P, .int .i64 S] := o0.below hbB o0.lt
            have R3e := Lib.hid (R3d.out.below hbB (Nat.le_refl _))
            have bwc : Below w.heap.size w wc := bw9.trans (hbB.mono bw9.size)
            have hn' : Hid (n + 1 = (gs ++ [(⟨gm, gl⟩ : Gl)]).length) := by
              show _ = _
              rw [List.length_append, ← hn.out]; rfl
            clear hB hbB o0 o1 R3d R9
            obtain ⟨l3, d3, f3⟩ := p0
            cases hmo : glB P (gs ++ [(⟨gm, gl⟩ : Gl)])
            · have HM := Lib.hid hmo
              go_wp2_with fail
              refine (areGlances48 B _ (n + 1) cb P S _ HB.out hn' (by omega) hP1 hP2).mono ?_
              rw [HM.out]
              rintro e w10 ⟨rfl, hb10⟩
              (have hz10 := hb10.size; (try simp at hz10))
              go_wp2_with fail
              refine (works13 _).mono ?_
              rintro e w11 ⟨rfl, hb11⟩
              (have hz11 := hb11.size; (try simp at hz11))
              go_wp2
              go_ret
              exact ⟨rfl, by (repeat' (first | (with_reducible exact Below.refl _ _) | (with_reducible assumption) | (with_reducible refine Below.drew ?_) | (with_reducible refine below_drewN ?_ _) | (with_reducible refine Below.setCell ?_ ?_ _) | (with_reducible refine Below.alloc ?_ ?_ _) | (refine Below.trans ?_ (Below.mono (by with_reducible assumption) ?_)) | omega | (exact Below.size (by with_reducible assumption)) | (simp; done) | (simp; omega)))⟩
            · have HM := Lib.hid hmo
              obtain ⟨v1, v2, v3⟩ := settings_ok H1.out hmo
              obtain ⟨v4, _, _⟩ := settings_ok H1.out H2.out
              have vs : subB (settingsL P S (gs ++ [(⟨gm, gl⟩ : Gl)])) (settingsL P S gs) = true := by
                rw [v1, v4]
                refine truths_sub (fun s h => ?_) _
                unfold truthB at *
                rw [List.all_append, Bool.and_eq_true] at h
                exact h.1
              have VS2 := Lib.hid vs
              have ve2 : settingsE P S (gs ++ [(⟨gm, gl⟩ : Gl)]) = 0 ∨ settingsE P S (gs ++ [(⟨gm, gl⟩ : Gl)]) = 3 := by rcases v3 with h | h <;> simp [h.1]
              clear v1 v3 v4 vs hmo
              generalize hE2 : settingsE P S (gs ++ [(⟨gm, gl⟩ : Gl)]) = E2 at *
              have HE2 := Lib.hid hE2
              clear hE2
              go_wp2_with fail
              refine (areGlances48 B _ (n + 1) cb P S _ HB.out hn' (by omega) hP1 hP2).mono ?_
              rw [HM.out]
              rintro e w10 ⟨rfl, hb10⟩
              (have hz10 := hb10.size; (try simp at hz10); have hc10_0 := fun o => (bcell hb10).1 (w.heap.size) o (by first | omega | (simp; done) | (simp; omega)); have hf10_0 := fun o => (bcell hb10).2 (w.heap.size) o (by first | omega | (simp; done) | (simp; omega)); have : w.heap.size < w10.heap.size := (by first | omega | (simp; done) | (simp; omega)); have : w.heap.size < w10.heap.size + 1 := (by first | omega | (simp; done) | (simp; omega)); have : w.heap.size < w10.heap.size + 2 := (by first | omega | (simp; done) | (simp; omega)); have : w.heap.size < w10.heap.size + 3 := (by first | omega | (simp; done) | (simp; omega)))
              go_wp2_with fail
              refine (settings44 B (gs ++ [(⟨gm, gl⟩ : Gl)]) (n + 1) cb _ _ _ (HB.out.below hb10 (Nat.le_refl _)) hn' (by omega)).mono ?_
              rw [HE2.out]
              rintro e w11 ⟨A11, c11, rfl, r11, hb11⟩
              have hz11 := hb11.size
              have R11 := Lib.hid r11
              have R3f := Lib.hid ((R3e.out.below hb10 (Nat.le_refl _)).below hb11 (Nat.le_refl _))
              clear r11
              rcases ve2 with rfl | rfl
              all_goals
                go_wp2_with fail
                refine (subset50 A11 A3 _ _ _ _ c11 c3 _ R11.out R3f.out rfl rfl (by omega) (by omega)).mono ?_
                rw [VS2.out]
                rintro e _ ⟨rfl, rfl⟩
                go_wp2_with fail
                refine (works13 _).mono ?_
                rintro e w12 ⟨rfl, hb12⟩
                (have hz12 := hb12.size; (try simp at hz12))
                go_wp2
                go_ret
                exact ⟨rfl, by (repeat' (first | (with_reducible exact Below.refl _ _) | (with_reducible assumption) | (with_reducible refine Below.drew ?_) | (with_reducible refine below_drewN ?_ _) | (with_reducible refine Below.setCell ?_ ?_ _) | (with_reducible refine Below.alloc ?_ ?_ _) | (refine Below.trans ?_ (Below.mono (by with_reducible assumption) ?_)) | omega | (exact Below.size (by with_reducible assumption)) | (simp; done) | (simp; omega)))⟩
        · go_wp2_with fail
          refine (subset50 A3 A9 _ _ _ _ c3 c9 _ R3d.out R9.out rfl rfl (by omega) (by omega)).mono ?_
          rw [VS.out]
          rintro e _ ⟨rfl, rfl⟩
          go_upto_region 23 with fail
          go_cut [19] (fun p wx => ∃ (B : Option Addr) (cb : Nat), p = .slice B (n + 1) cb ∧ RdG wx B (gs ++ [⟨gm, gl⟩]) ∧ Below w9.heap.size w9 wx)
          case first =>
            cases A with
            | none => exfalso; obtain ⟨_, _, h, _⟩ := HA.out.at_ 0 (by have := hn.out; simp; omega); cases h
            | some a =>
              have hA9 := Lib.hid (HA.out.below bw9 (Nat.le_refl _))
              have hS0 : Below w9.heap.size w9 w9 := Below.refl _ _
              have hS1 := o1.c
              go_region_held3 (fun w' => Below w9.heap.size w9 w' ∧ (∀ i, w'.cell? ⟨w.heap.size + 1, i, none⟩ = [.int .i64 gm, .int .i64 gl, .int .i64 st][i]?)) ((refine keepS o1 ?_; (repeat' (first | (with_reducible exact Below.refl _ _) | (with_reducible assumption) | (with_reducible refine Below.drew ?_) | (with_reducible refine below_drewN ?_ _) | (with_reducible refine Below.setCell ?_ ?_ _) | (with_reducible refine Below.alloc ?_ ?_ _) | (refine Below.trans ?_ (Below.mono (by with_reducible assumption) ?_)) | omega | (exact Below.size (by with_reducible assumption)) | (simp; done) | (simp; omega)))))
                (first
                  | ((refine stepA (w9 := w9) (by rfl) _ _ (by rfl) (by rfl) (by rfl) hA9.out hn hn1 hn6 (by (repeat' (first | exact made0 (by simp) (by simp) | refine World.ownsRow.alloc ?_ _ | refine row_drew ?_ | refine row_drewN ?_ _))) (by (repeat' (first | (with_reducible exact Below.refl _ _) | (with_reducible assumption) | (with_reducible refine Below.drew ?_) | (with_reducible refine below_drewN ?_ _) | (with_reducible refine Below.setCell ?_ ?_ _) | (with_reducible refine Below.alloc ?_ ?_ _) | (refine Below.trans ?_ (Below.mono (by with_reducible assumption) ?_)) | omega | (exact Below.size (by with_reducible assumption)) | (simp; done) | (simp; omega)))) ?_; intro g1 cap1 x1 hown1 hbx1 hkeep1 hat1 hlt1))
                  | ((refine stepB (w9 := w9) (gm := gm) (gl := gl) (by rfl) _ _ (by rfl) (by rfl) (by rfl) hn hn6 (by (repeat' (first | assumption | refine World.ownsRow.alloc ?_ _ | refine row_drew ?_ | refine row_drewN ?_ _))) (by (first | ((repeat' (first | (with_reducible refine Own.new' _ _ (by first | rfl | (simp; done)) rfl) | (with_reducible refine Own.drew ?_) | (with_reducible refine Own.drewN ?_ _) | (with_reducible refine Own.alloc ?_ _))); done) | (refine hkeep1 _ _ (by (repeat' (first | (with_reducible refine Own.new' _ _ (by first | rfl | (simp; done)) rfl) | (with_reducible refine Own.drew ?_) | (with_reducible refine Own.drewN ?_ _) | (with_reducible refine Own.alloc ?_ _)))) (by first | omega | (simp; done) | (simp; omega))))) (by (repeat' (first | (with_reducible exact Below.refl _ _) | (with_reducible assumption) | (with_reducible refine Below.drew ?_) | (with_reducible refine below_drewN ?_ _) | (with_reducible refine Below.setCell ?_ ?_ _) | (with_reducible refine Below.alloc ?_ ?_ _) | (refine Below.trans ?_ (Below.mono (by with_reducible assumption) ?_)) | omega | (exact Below.size (by with_reducible assumption)) | (simp; done) | (simp; omega)))) ?_; intro g3 cap3 x3 hr3 hbx3)))
              all_goals
                go_wp2_with fail
                go_meet
                exact ⟨_, _, rfl, hr3, by assumption⟩
          case rest =>
            obtain ⟨B, cb, rfl, hB, hbB⟩ := hcut
            have HB := Lib.hid hB
            have p0 : Own wc w.heap.size [.int .i64 P, .int .i64 S] := o0.below hbB o0.lt
            have R3e := Lib.hid (R3d.out.below hbB (Nat.le_refl _))
            have bwc : Below w.heap.size w wc := bw9.trans (hbB.mono bw9.size)
            have hn' : Hid (n + 1 = (gs ++ [(⟨gm, gl⟩ : Gl)]).length) := by
              show _ = _
              rw [List.length_append, ← hn.out]; rfl
            clear hB hbB o0 o1 R3d R9
            obtain ⟨l3, d3, f3⟩ := p0
            cases hmo : glB P (gs ++ [(⟨gm, gl⟩ : Gl)])
            · have HM := Lib.hid hmo
              go_wp2_with fail
              refine (areGlances48 B _ (n + 1) cb P S _ HB.out hn' (by omega) hP1 hP2).mono ?_
              rw [HM.out]
              rintro e w10 ⟨rfl, hb10⟩
              (have hz10 := hb10.size; (try simp at hz10))
              go_wp2_with fail
              refine (works13 _).mono ?_
              rintro e w11 ⟨rfl, hb11⟩
              (have hz11 := hb11.size; (try simp at hz11))
              go_wp2
              go_ret
              exact ⟨rfl, by (repeat' (first | (with_reducible exact Below.refl _ _) | (with_reducible assumption) | (with_reducible refine Below.drew ?_) | (with_reducible refine below_drewN ?_ _) | (with_reducible refine Below.setCell ?_ ?_ _) | (with_reducible refine Below.alloc ?_ ?_ _) | (refine Below.trans ?_ (Below.mono (by with_reducible assumption) ?_)) | omega | (exact Below.size (by with_reducible assumption)) | (simp; done) | (simp; omega)))⟩
            · have HM := Lib.hid hmo
              obtain ⟨v1, v2, v3⟩ := settings_ok H1.out hmo
              obtain ⟨v4, _, _⟩ := settings_ok H1.out H2.out
              have vs : subB (settingsL P S (gs ++ [(⟨gm, gl⟩ : Gl)])) (settingsL P S gs) = true := by
                rw [v1, v4]
                refine truths_sub (fun s h => ?_) _
                unfold truthB at *
                rw [List.all_append, Bool.and_eq_true] at h
                exact h.1
              have VS2 := Lib.hid vs
              have ve2 : settingsE P S (gs ++ [(⟨gm, gl⟩ : Gl)]) = 0 ∨ settingsE P S (gs ++ [(⟨gm, gl⟩ : Gl)]) = 3 := by rcases v3 with h | h <;> simp [h.1]
              clear v1 v3 v4 vs hmo
              generalize hE2 : settingsE P S (gs ++ [(⟨gm, gl⟩ : Gl)]) = E2 at *
              have HE2 := Lib.hid hE2
              clear hE2
              go_wp2_with fail
              refine (areGlances48 B _ (n + 1) cb P S _ HB.out hn' (by omega) hP1 hP2).mono ?_
              rw [HM.out]
              rintro e w10 ⟨rfl, hb10⟩
              (have hz10 := hb10.size; (try simp at hz10); have hc10_0 := fun o => (bcell hb10).1 (w.heap.size) o (by first | omega | (simp; done) | (simp; omega)); have hf10_0 := fun o => (bcell hb10).2 (w.heap.size) o (by first | omega | (simp; done) | (simp; omega)); have : w.heap.size < w10.heap.size := (by first | omega | (simp; done) | (simp; omega)); have : w.heap.size < w10.heap.size + 1 := (by first | omega | (simp; done) | (simp; omega)); have : w.heap.size < w10.heap.size + 2 := (by first | omega | (simp; done) | (simp; omega)); have : w.heap.size < w10.heap.size + 3 := (by first | omega | (simp; done) | (simp; omega)))
              go_wp2_with fail
              refine (settings44 B (gs ++ [(⟨gm, gl⟩ : Gl)]) (n + 1) cb _ _ _ (HB.out.below hb10 (Nat.le_refl _)) hn' (by omega)).mono ?_
              rw [HE2.out]
              rintro e w11 ⟨A11, c11, rfl, r11, hb11⟩
              have hz11 := hb11.size
              have R11 := Lib.hid r11
              have R3f := Lib.hid ((R3e.out.below hb10 (Nat.le_refl _)).below hb11 (Nat.le_refl _))
              clear r11
              rcases ve2 with rfl | rfl
              all_goals
                go_wp2_with fail
                refine (subset50 A11 A3 _ _ _ _ c11 c3 _ R11.out R3f.out rfl rfl (by omega) (by omega)).mono ?_
                rw [VS2.out]
                rintro e _ ⟨rfl, rfl⟩
                go_wp2_with fail
                refine (works13 _).mono ?_
                rintro e w12 ⟨rfl, hb12⟩
                (have hz12 := hb12.size; (try simp at hz12))
                go_wp2
                go_ret
                exact ⟨rfl, by (repeat' (first | (with_reducible exact Below.refl _ _) | (with_reducible assumption) | (with_reducible refine Below.drew ?_) | (with_reducible refine below_drewN ?_ _) | (with_reducible refine Below.setCell ?_ ?_ _) | (with_reducible refine Below.alloc ?_ ?_ _) | (refine Below.trans ?_ (Below.mono (by with_reducible assumption) ?_)) | omega | (exact Below.size (by with_reducible assumption)) | (simp; done) | (simp; omega)))⟩

end Go.Proofs.Ytfboiplpfkommaa
