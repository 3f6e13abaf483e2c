/- Walks: Settings of the reference. -/
import Derived.Test.YtfboiplpfkommaaSb
namespace Go.Proofs.Ytfboiplpfkommaa
open Go.RowKit

set_option maxRecDepth 100000 in
set_option maxHeartbeats 4000000 in
theorem settings45_core (A : Option Addr) (gs : List Gl) (n cap : Nat) (P S : Int) (w : World) (hA : RdG w A gs) (hn : Hid (n = gs.length)) (hlen : n ≤ 140737488355328)
   (H1 : Hid (verB P S = true)) (H2 : Hid (glB P gs = true)) (hP : 2 ≤ P) (hP' : P ≤ 50) (hS : 0 ≤ S) (hn6 : n ≤ 6) (H4 : Hid (∀ g ∈ gs, 0 ≤ g.m ∧ g.m ≤ 10000 ∧ 0 ≤ g.l ∧ g.l < P)) :
    Calls Try.prog 45 #[.agg #[.int .i64 P, .int .i64 S], .slice A n cap] w fun e w' => ∃ (A' : Option Addr) (cap' : Nat), e = .returned (.tuple #[.slice A' (settingsL P S gs).length cap', .int .i64 (settingsE P S gs)]) ∧ RdI w' A' (settingsL P S gs) ∧ Below w.heap.size w w' := by
  obtain ⟨i0, hi0, hi1, hi2, hi3⟩ := info_parts Try.info3
  have HA := Lib.hid hA
  clear hA
  go_enter Try.func45, Try.ntmps45
  go_wp2_with fail
  refine (isVernier47 _ _ _).mono ?_
  rw [H1.out]
  rintro e w1 ⟨rfl, hb1⟩
  (have hz1 := hb1.size; (try simp at hz1); have hc1_0 := fun o => (bcell hb1).1 (w.heap.size) o (by first | omega | (simp; done) | (simp; omega)); have hf1_0 := fun o => (bcell hb1).2 (w.heap.size) o (by first | omega | (simp; done) | (simp; omega)); have : w.heap.size < w1.heap.size := (by first | omega | (simp; done) | (simp; omega)); have : w.heap.size < w1.heap.size + 1 := (by first | omega | (simp; done) | (simp; omega)); have : w.heap.size < w1.heap.size + 2 := (by first | omega | (simp; done) | (simp; omega)); have : w.heap.size < w1.heap.size + 3 := (by first | omega | (simp; done) | (simp; omega)))
  have hbw1 : Below w.heap.size w w1 := by (repeat' (first | (with_reducible exact Below.refl _ _) | (with_reducible assumption) | (with_reducible refine Below.drew ?_) | (with_reducible refine below_drewN ?_ _) | (with_reducible refine Below.setCell ?_ ?_ _) | (with_reducible refine Below.alloc ?_ ?_ _) | (refine Below.trans ?_ (Below.mono (by with_reducible assumption) ?_)) | omega | (exact Below.size (by with_reducible assumption)) | (simp; done) | (simp; omega)))
  have o1 : Own w1 w.heap.size [.int .i64 P, .int .i64 S] := (Own.new' _ _ rfl rfl).below hb1 (by simp)
  clear hb1
  go_wp2_with fail
  refine (areGlances48 A gs n cap P S _ (HA.out.below hbw1 (Nat.le_refl _)) hn (by omega) hP hP').mono ?_
  rw [H2.out]
  rintro e w2 ⟨rfl, hb2⟩
  have hbw2 : Below w.heap.size w w2 := by (repeat' (first | (with_reducible exact Below.refl _ _) | (with_reducible assumption) | (with_reducible refine Below.drew ?_) | (with_reducible refine below_drewN ?_ _) | (with_reducible refine Below.setCell ?_ ?_ _) | (with_reducible refine Below.alloc ?_ ?_ _) | (refine Below.trans ?_ (Below.mono (by with_reducible assumption) ?_)) | omega | (exact Below.size (by with_reducible assumption)) | (simp; done) | (simp; omega)))
  have o2 : Own w2 w.heap.size [.int .i64 P, .int .i64 S] := o1.below hb2 o1.lt
  clear o1 hb2 hbw1 hc1_0 hf1_0
  go_wp2_with fail
  go_loopg [6, 7] 10001 (fun K out cnt wr => ∃ k : Nat, K + k = 10001 ∧ cnt = .int .i64 k ∧ Gro wr (w.heap.size + 1) 3 1 out ((truths P S gs k).map irow) ∧ Own wr w.heap.size [.int .i64 P, .int .i64 S] ∧ Below w.heap.size w wr)
  case atStart => exact ⟨0, by omega, rfl, Gro.nil _ _ _ _, o2, hbw2⟩
  case round =>
    clear o2 hbw2
    obtain ⟨k, hk, rfl, hg, t0, hbw⟩ := hrel
    by_cases hlt : k < 10001
    · obtain ⟨wo, rfl⟩ : ∃ wo : World, wo = wr := ⟨_, rfl⟩
      have hltI : (k : Int) ≤ 10000 := by omega
      go_wp2_with fail
      go_loopg [8, 9] n (fun J is idx wi => ∃ j : Nat, J + j = n ∧ idx = .int .i64 j ∧ is = .bool ((gs.take j).all (atB P S k)) ∧ Gro wi (w.heap.size + 1) 3 1 u6 ((truths P S gs k).map irow) ∧ Own wi w.heap.size [.int .i64 P, .int .i64 S] ∧ Below w.heap.size w wi)
      case atStart => exact ⟨0, by omega, rfl, rfl, hg, t0, hbw⟩
      case round =>
        clear hg t0 hbw
        obtain ⟨j, hj, rfl, rfl, hg, t0, hbw⟩ := hrel
        by_cases hjn : j < n
        · obtain ⟨g, hgj⟩ : ∃ g, Hid (gs[j]? = some g) := ⟨gs[j]'(by have := hn.out; omega), by simp [Hid]⟩
          have hgl := H4.out g (List.mem_of_getElem? hgj.out)
          obtain ⟨b, off, rfl, hb, hc0, hc1⟩ := (HA.out.below hbw (Nat.le_refl _)).elem hgj.out
          have hx0 := Aft.cell t0
          have hx1 := fun x : Aft wr => (Aft.old x hb _).trans hc0
          have hx2 := fun x : Aft wr => (Aft.old x hb _).trans hc1
          have lt0 := t0.lt
          have hdv := Int.ediv_nonneg (show (0 : Int) ≤ k by omega) (show 0 ≤ P by omega)
          have hdl : (k : Int) / P ≤ k := Int.ediv_le_self _ (by omega)
          have hsn : Hid ((gs.take (j + 1)).all (atB P S k) = ((gs.take j).all (atB P S k) && atB P S k g)) := by
            show _ = _
            rw [take_snoc hgj.out, List.all_append]; simp
          cases hall : (gs.take j).all (atB P S k)
          · rw [hall] at hsn
            rw [Bool.false_and] at hsn
            go_wp2
            refine wp_region_aft (by kernel_rfl) (by kernel_rfl) ?_; (repeat (go_big_quiet_step ((fail)))); refine wpQuiet_nil ?_; rintro w5 ⟨⟨_, hb5⟩, rfl⟩
            have q0 : Own w5 w.heap.size [.int .i64 P, .int .i64 S] := t0.below hb5 t0.lt
            have q1 : Below w.heap.size w w5 := by (repeat' (first | (with_reducible exact Below.refl _ _) | (with_reducible assumption) | (with_reducible refine Below.drew ?_) | (with_reducible refine below_drewN ?_ _) | (with_reducible refine Below.setCell ?_ ?_ _) | (with_reducible refine Below.alloc ?_ ?_ _) | (refine Below.trans ?_ (Below.mono (by with_reducible assumption) ?_)) | omega | (exact Below.size (by with_reducible assumption)) | (simp; done) | (simp; omega)))
            have q2 : Gro w5 (w.heap.size + 1) 3 1 u6 ((truths P S gs k).map irow) := hg.below hb5 (Nat.le_refl _)
            clear hx0 hx1 hx2 t0 hb5 hbw hg hb hc0 hc1
            go_wp2
            go_roundg (n - (j + 1))
            case measure => omega
            case rel => exact ⟨j + 1, by omega, by go_num, by rw [hsn.out], q2, q0, q1⟩
          · rw [hall, Bool.true_and] at hsn
            by_cases hm : g.m = (k : Int) / P
            · have hmb : ((k : Int) / P == g.m) = true := by simp [hm]
              have hat : Hid (atB P S k g = seemsB P S k g.l) := by show _ = _; unfold atB; rw [decide_eq_true hm, Bool.true_and]
              have hm' := Lib.hid hm
              clear hm
              rw [hat.out] at hsn
              clear hat hall
              go_wp2
              refine wp_region_aft (by kernel_rfl) (by kernel_rfl) ?_; (repeat (go_big_quiet_step ((go_at_call 80; exact aft_of (fits80 _ _ _ _ _ hP hP' hS (by omega) (by omega) hgl.2.2.1 hgl.2.2.2))))); refine wpQuiet_nil ?_; rintro w5 ⟨⟨_, hb5⟩, rfl⟩
              have q0 : Own w5 w.heap.size [.int .i64 P, .int .i64 S] := t0.below hb5 t0.lt
              have q1 : Below w.heap.size w w5 := by (repeat' (first | (with_reducible exact Below.refl _ _) | (with_reducible assumption) | (with_reducible refine Below.drew ?_) | (with_reducible refine below_drewN ?_ _) | (with_reducible refine Below.setCell ?_ ?_ _) | (with_reducible refine Below.alloc ?_ ?_ _) | (refine Below.trans ?_ (Below.mono (by with_reducible assumption) ?_)) | omega | (exact Below.size (by with_reducible assumption)) | (simp; done) | (simp; omega)))
              have q2 : Gro w5 (w.heap.size + 1) 3 1 u6 ((truths P S gs k).map irow) := hg.below hb5 (Nat.le_refl _)
              clear hx0 hx1 hx2 t0 hb5 hbw hg hb hc0 hc1
              go_wp2
              go_roundg (n - (j + 1))
              case measure => omega
              case rel => exact ⟨j + 1, by omega, by go_num, by rw [hsn.out], q2, q0, q1⟩
            · have hmb : ((k : Int) / P == g.m) = false := by simp; omega
              have hat : Hid (atB P S k g = false) := by show _ = _; unfold atB; rw [decide_eq_false hm, Bool.false_and]
              have hm' := Lib.hid hm
              clear hm
              rw [hat.out] at hsn
              clear hat hall
              go_wp2
              refine wp_region_aft (by kernel_rfl) (by kernel_rfl) ?_; (repeat (go_big_quiet_step ((fail)))); refine wpQuiet_nil ?_; rintro w5 ⟨⟨_, hb5⟩, rfl⟩
              have q0 : Own w5 w.heap.size [.int .i64 P, .int .i64 S] := t0.below hb5 t0.lt
              have q1 : Below w.heap.size w w5 := by (repeat' (first | (with_reducible exact Below.refl _ _) | (with_reducible assumption) | (with_reducible refine Below.drew ?_) | (with_reducible refine below_drewN ?_ _) | (with_reducible refine Below.setCell ?_ ?_ _) | (with_reducible refine Below.alloc ?_ ?_ _) | (refine Below.trans ?_ (Below.mono (by with_reducible assumption) ?_)) | omega | (exact Below.size (by with_reducible assumption)) | (simp; done) | (simp; omega)))
              have q2 : Gro w5 (w.heap.size + 1) 3 1 u6 ((truths P S gs k).map irow) := hg.below hb5 (Nat.le_refl _)
              clear hx0 hx1 hx2 t0 hb5 hbw hg hb hc0 hc1
              go_wp2
              go_roundg (n - (j + 1))
              case measure => omega
              case rel => exact ⟨j + 1, by omega, by go_num, by rw [hsn.out], q2, q0, q1⟩
        · have hall' : Hid ((gs.take j).all (atB P S k) = truthB P S k gs) := by
            show _ = _
            rw [List.take_of_length_le (by have := hn.out; omega)]; rfl
          rw [hall'.out]
          have hlen' := truths_len P S gs k
          have hlen2 : ((truths P S gs k).map irow).length ≤ k := by simpa using hlen'
          have hsz : w.heap.size + 1 ≤ wr.heap.size := t0.lt
          cases htr : truthB P S k gs
          · go_wp2
            go_roundg (10001 - (k + 1))
            case measure => omega
            case rel =>
              refine ⟨k + 1, by omega, by go_num, ?_, t0, hbw⟩
              rw [truths_succ, htr]
              simpa using hg
          · go_wp2_with (at_builtin; refine wpList_append_own _ rfl _ _ 65 rfl (w.heap.size + 1) 3 i0 (.int .i64 0) 1 8 Try.underlying65 hi0 hi1 hi2 hi3 rfl (by decide) _ _ _ rfl (hg.2.alloc _) ⟨wr.heap.size, 0, none⟩ 1 1 [.int .i64 k] rfl rfl (cell_one_new _ _ _) (by intro u hu; simp at hu; subst hu; rfl) (by unfold maxLen; omega) (by omega) (by simp; omega) ?_; intro v' w5 hown' hgrow hnil)
            have hbA : Below (w.heap.size + 1) wr w5 := ((Below.refl _ wr).alloc hsz _).grown hgrow (by simp; omega) (fun i hi => (hg.2.lt i hi).1)
            have q0 : Own w5 w.heap.size [.int .i64 P, .int .i64 S] := t0.below hbA (by omega)
            have q1 : Below w.heap.size w w5 := hbw.trans (hbA.mono (by omega))
            have q2 : Gro w5 (w.heap.size + 1) 3 1 v' (((truths P S gs k).map irow) ++ [irow k]) := Gro.grown hg rfl hown'
            clear hg t0 hbw hown' hgrow hnil hbA
            go_wp2
            go_roundg (10001 - (k + 1))
            case measure => omega
            case rel =>
              refine ⟨k + 1, by omega, by go_num, ?_, q0, q1⟩
              rw [truths_succ, htr]
              simpa using q2
    · have hk1 : k = 10001 := by omega
      subst hk1
      obtain ⟨A', cap', rfl, hrd⟩ := hg.out
      have hE : Hid (settingsE P S gs = if truths P S gs 10001 = [] then 3 else 0) := by
        show _ = _
        unfold settingsE
        rw [H1.out, H2.out]; rfl
      have hL : Hid (settingsL P S gs = truths P S gs 10001) := by
        show _ = _
        unfold settingsL
        rw [H1.out, H2.out]; rfl
      by_cases hem : truths P S gs 10001 = []
      · have hl0 : ((truths P S gs 10001).map irow).length = 0 := by rw [hem]; rfl
        rw [hem] at hE hL
        have hl0' := Lib.hid hl0
        clear hem
        generalize ((truths P S gs 10001).map irow).length = L at *
        obtain rfl : L = 0 := hl0'.out
        clear hl0 hl0'
        go_wp2
        go_ret2
        refine ⟨none, ⟨0, ?_⟩, ?_, hbw⟩
        · rw [hE.out, hL.out, if_pos trivial]; rfl
        · rw [hL.out]; exact RdI.nil _ _
      · have hl0 : ((truths P S gs 10001).map irow).length = (settingsL P S gs).length := by rw [hL.out]; simp
        have hl1 : 0 < ((truths P S gs 10001).map irow).length := by
          rw [List.length_map]; exact List.length_pos_iff.2 hem
        have hrd' : RdI wr A' (settingsL P S gs) := by rw [hL.out]; exact hrd
        rw [if_neg hem] at hE
        clear hem hrd hg
        generalize ((truths P S gs 10001).map irow).length = L at *
        have hl0' := Lib.hid hl0
        clear hl0
        have hlb : ((L : Int) == 0) = false := by simp; omega
        go_wp2
        go_ret2
        refine ⟨A', cap', ?_, hrd', hbw⟩
        rw [hE.out, ← hl0'.out]; rfl

set_option maxRecDepth 100000 in
set_option maxHeartbeats 4000000 in
theorem settings45 (A : Option Addr) (gs : List Gl) (n cap : Nat) (P S : Int) (w : World) (hA : RdG w A gs) (hn : Hid (n = gs.length)) (hlen : n ≤ 140737488355328) :
    Calls Try.prog 45 #[.agg #[.int .i64 P, .int .i64 S], .slice A n cap] w fun e w' => ∃ (A' : Option Addr) (cap' : Nat), e = .returned (.tuple #[.slice A' (settingsL P S gs).length cap', .int .i64 (settingsE P S gs)]) ∧ RdI w' A' (settingsL P S gs) ∧ Below w.heap.size w w' := by
  cases h1 : verB P S
  · have hL := Lib.hid (settingsL_1 (gs := gs) h1)
    have H1 := Lib.hid h1
    clear h1 hA
    go_enter Try.func45, Try.ntmps45
    go_wp2_with fail
    refine (isVernier47 _ _ _).mono ?_
    rw [H1.out]
    rintro e w1 ⟨rfl, hb1⟩
    (have hz1 := hb1.size; (try simp at hz1))
    go_wp2
    go_ret2
    exact ⟨none, 0, by rw [hL.out.1, hL.out.2]; rfl, by rw [hL.out.1]; exact RdI.nil _ _, by (repeat' (first | (with_reducible exact Below.refl _ _) | (with_reducible assumption) | (with_reducible refine Below.drew ?_) | (with_reducible refine below_drewN ?_ _) | (with_reducible refine Below.setCell ?_ ?_ _) | (with_reducible refine Below.alloc ?_ ?_ _) | (refine Below.trans ?_ (Below.mono (by with_reducible assumption) ?_)) | omega | (exact Below.size (by with_reducible assumption)) | (simp; done) | (simp; omega)))⟩
  · have hP := verB_iff.1 h1
    cases h2 : glB P gs
    · have hL := Lib.hid (settingsL_2 (gs := gs) h1 h2)
      have H1 := Lib.hid h1
      have H2 := Lib.hid h2
      have HA := Lib.hid hA
      clear h1 h2 hA
      go_enter Try.func45, Try.ntmps45
      go_wp2_with fail
      refine (isVernier47 _ _ _).mono ?_
      rw [H1.out]
      rintro e w1 ⟨rfl, hb1⟩
      (have hz1 := hb1.size; (try simp at hz1); have hc1_0 := fun o => (bcell hb1).1 (w.heap.size) o (by first | omega | (simp; done) | (simp; omega)); have hf1_0 := fun o => (bcell hb1).2 (w.heap.size) o (by first | omega | (simp; done) | (simp; omega)); have : w.heap.size < w1.heap.size := (by first | omega | (simp; done) | (simp; omega)); have : w.heap.size < w1.heap.size + 1 := (by first | omega | (simp; done) | (simp; omega)); have : w.heap.size < w1.heap.size + 2 := (by first | omega | (simp; done) | (simp; omega)); have : w.heap.size < w1.heap.size + 3 := (by first | omega | (simp; done) | (simp; omega)))
      have hbw1 : Below w.heap.size w w1 := by (repeat' (first | (with_reducible exact Below.refl _ _) | (with_reducible assumption) | (with_reducible refine Below.drew ?_) | (with_reducible refine below_drewN ?_ _) | (with_reducible refine Below.setCell ?_ ?_ _) | (with_reducible refine Below.alloc ?_ ?_ _) | (refine Below.trans ?_ (Below.mono (by with_reducible assumption) ?_)) | omega | (exact Below.size (by with_reducible assumption)) | (simp; done) | (simp; omega)))
      go_wp2_with fail
      refine (areGlances48 A gs n cap P S _ (HA.out.below hbw1 (Nat.le_refl _)) hn (by omega) hP.1.1 hP.1.2).mono ?_
      rw [H2.out]
      rintro e w2 ⟨rfl, hb2⟩
      go_wp2
      go_ret2
      exact ⟨none, 0, by rw [hL.out.1, hL.out.2]; rfl, by rw [hL.out.1]; exact RdI.nil _ _, by (repeat' (first | (with_reducible exact Below.refl _ _) | (with_reducible assumption) | (with_reducible refine Below.drew ?_) | (with_reducible refine below_drewN ?_ _) | (with_reducible refine Below.setCell ?_ ?_ _) | (with_reducible refine Below.alloc ?_ ?_ _) | (refine Below.trans ?_ (Below.mono (by with_reducible assumption) ?_)) | omega | (exact Below.size (by with_reducible assumption)) | (simp; done) | (simp; omega)))⟩
    · have h2' := h2
      unfold glB at h2'
      simp only [Bool.and_eq_true, Bool.not_eq_true'] at h2'
      obtain ⟨h3, h4⟩ := h2'
      have h3 := btw_iff.1 h3
      have hn' := hn.out
      refine settings45_core A gs n cap P S w hA hn hlen h1 h2 hP.1.1 hP.1.2 hP.2.1 (by omega) ?_
      intro g hg
      have := List.any_eq_false.1 h4 g hg
      simp only [strangeB, Bool.or_eq_true, Bool.not_eq_true', not_or, Bool.not_eq_false] at this
      obtain ⟨e1, e2⟩ := this
      have e1 := btw_iff.1 e1
      have e2 := btw_iff.1 e2
      omega

end Go.Proofs.Ytfboiplpfkommaa
