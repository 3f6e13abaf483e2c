/- Walks: Settings of the program. -/
import Derived.Test.YtfboiplpfkommaaWp
import Derived.Deep.LoopGhost
namespace Go.Proofs.Ytfboiplpfkommaa
open Go.RowKit
theorem Try.info3 : (Try.prog.info? 3).map (fun i => (i.zero, i.size, i.bytes)) = some (some (.int .i64 0), 1, 8) := by kernel_rfl

set_option maxRecDepth 100000 in
set_option maxHeartbeats 4000000 in
theorem settings44_core (A : Option Addr) (gs : List Gl) (n cap : Nat) (P S : Int) (w : World) (hA : RdG w A gs) (hn : Hid (n = gs.length)) (hlen : n ≤ 140737488355328)
   (H1 : Hid (verB P S = true)) (H2 : Hid (btw n 1 6 = true)) (H3 : Hid (gs.any (strangeB P) = false)) (hP : 2 ≤ P) (hP' : P ≤ 50) (hn6 : n ≤ 6) (H4 : Hid (∀ g ∈ gs, 0 ≤ g.m ∧ g.m ≤ 10000 ∧ 0 ≤ g.l ∧ g.l < P)) :
    Calls Try.prog 44 #[.agg #[.int .i64 P, .int .i64 S], .slice A n cap] w fun e w' => ∃ (A' : Option Addr) (cap' : Nat), e = .returned (.tuple #[.slice A' (settingsL P S gs).length cap', .int .i64 (settingsE P S gs)]) ∧ RdI w' A' (settingsL P S gs) ∧ Below w.heap.size w w' := by
  obtain ⟨i0, hi0, hi1, hi2, hi3⟩ := info_parts Try.info3
  have HA := Lib.hid hA
  clear hA
  go_enter Try.func44, Try.ntmps44
  go_wp2_with fail
  go_step3
  go_wp2_with fail
  refine (isVernier77 _ _ _).mono ?_
  rw [H1.out]
  rintro e w1 ⟨rfl, hb1⟩
  (have hz1 := hb1.size; (try simp at hz1); have hc1_0 := fun o => (bcell hb1).1 (w.heap.size) o (by first | omega | (simp; done) | (simp; omega)); have hf1_0 := fun o => (bcell hb1).2 (w.heap.size) o (by first | omega | (simp; done) | (simp; omega)); have : w.heap.size < w1.heap.size := (by first | omega | (simp; done) | (simp; omega)); have : w.heap.size < w1.heap.size + 1 := (by first | omega | (simp; done) | (simp; omega)); have : w.heap.size < w1.heap.size + 2 := (by first | omega | (simp; done) | (simp; omega)); have : w.heap.size < w1.heap.size + 3 := (by first | omega | (simp; done) | (simp; omega)))
  go_wp2_with fail
  refine (within53 _ _ _ _).mono ?_
  rw [H2.out]
  rintro e _ ⟨rfl, rfl⟩
  have hbw1 : Below w.heap.size w w1 := by (repeat' (first | (with_reducible exact Below.refl _ _) | (with_reducible assumption) | (with_reducible refine Below.drew ?_) | (with_reducible refine below_drewN ?_ _) | (with_reducible refine Below.setCell ?_ ?_ _) | (with_reducible refine Below.alloc ?_ ?_ _) | (refine Below.trans ?_ (Below.mono (by with_reducible assumption) ?_)) | omega | (exact Below.size (by with_reducible assumption)) | (simp; done) | (simp; omega)))
  have o1 : Own w1 w.heap.size [.int .i64 P, .int .i64 S] := (Own.new' _ _ rfl rfl).below hb1 (by simp)
  clear hb1 hc1_0 hf1_0
  go_wp2_with fail
  refine (contains82 A gs n cap P S w.heap.size _ (HA.out.below hbw1 (Nat.le_refl _)) hn (by omega) hP hP' o1).mono ?_
  rw [H3.out]
  rintro e w2 ⟨rfl, hb2⟩
  have hbw2 : Below w.heap.size w w2 := by (repeat' (first | (with_reducible exact Below.refl _ _) | (with_reducible assumption) | (with_reducible refine Below.drew ?_) | (with_reducible refine below_drewN ?_ _) | (with_reducible refine Below.setCell ?_ ?_ _) | (with_reducible refine Below.alloc ?_ ?_ _) | (refine Below.trans ?_ (Below.mono (by with_reducible assumption) ?_)) | omega | (exact Below.size (by with_reducible assumption)) | (simp; done) | (simp; omega)))
  have o2 : Own w2 w.heap.size [.int .i64 P, .int .i64 S] := o1.below hb2 o1.lt
  clear o1 hb2 hbw1
  go_wp2_with fail
  go_step3
  go_wp2_with fail
  go_loopg [24, 7] 10001 (fun K cnt out wr => ∃ k : Nat, K + k = 10001 ∧ cnt = .int .i64 k ∧ Gro wr (w.heap.size + 1) 3 1 out ((truths P S gs k).map irow) ∧ Own wr w.heap.size [.int .i64 P, .int .i64 S] ∧ Below w.heap.size w wr)
  case atStart => exact ⟨0, by omega, rfl, Gro.nil _ _ _ _, o2, hbw2⟩
  case round =>
    clear o2 hbw2
    obtain ⟨k, hk, rfl, hg, t0, hbw⟩ := hrel
    by_cases hlt : k < 10001
    · obtain ⟨wo, rfl⟩ : ∃ wo : World, wo = wr := ⟨_, rfl⟩
      have hltI : (k : Int) < 10001 := by omega
      go_wp2_with fail
      go_loopg [29] n (fun J idx wi => ∃ j : Nat, J + j = n ∧ idx = .int .i64 j ∧ Hid ((gs.take j).all (atB P S k) = true) ∧ Gro wi (w.heap.size + 1) 3 1 u7 ((truths P S gs k).map irow) ∧ Own wi w.heap.size [.int .i64 P, .int .i64 S] ∧ Below w.heap.size w wi)
      case atStart => exact ⟨0, by omega, rfl, rfl, hg, t0, hbw⟩
      case round =>
        clear hg t0 hbw
        obtain ⟨j, hj, rfl, hall, hg, t0, hbw⟩ := hrel
        by_cases hjn : j < n
        · obtain ⟨g, hgj⟩ : ∃ g, Hid (gs[j]? = some g) := ⟨gs[j]'(by have := hn.out; omega), by simp [Hid]⟩
          have hgl := H4.out g (List.mem_of_getElem? hgj.out)
          obtain ⟨b, off, rfl, hb, hc0, hc1⟩ := (HA.out.below hbw (Nat.le_refl _)).elem hgj.out
          have t1 : Own (wr.alloc (.cells #[.int .i64 g.m, .int .i64 g.l] 71)) wr.heap.size [.int .i64 g.m, .int .i64 g.l] := Own.new' _ _ rfl rfl
          have t0' : Own (wr.alloc (.cells #[.int .i64 g.m, .int .i64 g.l] 71)) w.heap.size [.int .i64 P, .int .i64 S] := t0.alloc _
          have hx0 := Aft.cell t0'
          have hx1 := Aft.cell t1
          have lt0 := t0.lt
          have hdv := Int.ediv_nonneg (show (0 : Int) ≤ k by omega) (show 0 ≤ P by omega)
          have hdl : (k : Int) / P ≤ k := Int.ediv_le_self _ (by omega)
          by_cases hm : g.m = (k : Int) / P
          · have hmb : (g.m != (k : Int) / P) = false := by simp [hm]
            have hat : Hid (atB P S k g = seemsB P S k g.l) := by show _ = _; unfold atB; rw [decide_eq_true hm, Bool.true_and]
            have hm' := Lib.hid hm
            clear hm
            go_wp2
            refine wp_region_aft (by kernel_rfl) (by kernel_rfl) ?_; (repeat (go_big_quiet_step ((go_at_call 83; exact aft_of (seems83 _ _ _ _ _ hP hP' (by omega) (by omega) hgl.2.2.1 hgl.2.2.2))))); refine wpQuiet_nil ?_; rintro w5 ⟨⟨_, hb5⟩, rfl⟩
            have q0 : Own w5 w.heap.size [.int .i64 P, .int .i64 S] := t0'.below hb5 t0'.lt
            have q1 : Below w.heap.size w w5 := by (repeat' (first | (with_reducible exact Below.refl _ _) | (with_reducible assumption) | (with_reducible refine Below.drew ?_) | (with_reducible refine below_drewN ?_ _) | (with_reducible refine Below.setCell ?_ ?_ _) | (with_reducible refine Below.alloc ?_ ?_ _) | (refine Below.trans ?_ (Below.mono (by with_reducible assumption) ?_)) | omega | (exact Below.size (by with_reducible assumption)) | (simp; done) | (simp; omega)))
            have q2 : Gro w5 (w.heap.size + 1) 3 1 u7 ((truths P S gs k).map irow) := (hg.alloc _).below hb5 (Nat.le_refl _)
            clear hx0 hx1 t0 t0' t1 hb5 hbw hg
            cases hs : seemsB P S k g.l
            · rw [hs] at hat
              clear hs
              go_wp2
              go_roundg (10001 - (k + 1))
              case measure => omega
              case rel =>
                refine ⟨k + 1, by omega, by go_num, ?_, q0, q1⟩
                have : truthB P S k gs = false := List.all_eq_false.2 ⟨g, List.mem_of_getElem? hgj.out, by rw [hat.out]; simp⟩
                rw [truths_succ, this]
                simpa using q2
            · rw [hs] at hat
              clear hs
              go_wp2
              go_roundg (n - (j + 1))
              case measure => omega
              case rel =>
                refine ⟨j + 1, by omega, by go_num, ?_, q2, q0, q1⟩
                show (gs.take (j + 1)).all _ = true
                rw [take_snoc hgj.out, List.all_append, hall.out]
                simp only [List.all_cons, List.all_nil, hat.out, Bool.and_self]
          · have hmb : (g.m != (k : Int) / P) = true := by simp [hm]
            have hat : Hid (atB P S k g = false) := by show _ = _; unfold atB; rw [decide_eq_false hm, Bool.false_and]
            have hm' := Lib.hid hm
            clear hm
            go_wp2
            refine wp_region_aft (by kernel_rfl) (by kernel_rfl) ?_; (repeat (go_big_quiet_step ((fail)))); refine wpQuiet_nil ?_; rintro w5 ⟨⟨_, hb5⟩, rfl⟩
            have q0 : Own w5 w.heap.size [.int .i64 P, .int .i64 S] := t0'.below hb5 t0'.lt
            have q1 : Below w.heap.size w w5 := by (repeat' (first | (with_reducible exact Below.refl _ _) | (with_reducible assumption) | (with_reducible refine Below.drew ?_) | (with_reducible refine below_drewN ?_ _) | (with_reducible refine Below.setCell ?_ ?_ _) | (with_reducible refine Below.alloc ?_ ?_ _) | (refine Below.trans ?_ (Below.mono (by with_reducible assumption) ?_)) | omega | (exact Below.size (by with_reducible assumption)) | (simp; done) | (simp; omega)))
            have q2 : Gro w5 (w.heap.size + 1) 3 1 u7 ((truths P S gs k).map irow) := (hg.alloc _).below hb5 (Nat.le_refl _)
            clear hx0 hx1 t0 t0' t1 hb5 hbw hg
            go_wp2
            go_roundg (10001 - (k + 1))
            case measure => omega
            case rel =>
              refine ⟨k + 1, by omega, by go_num, ?_, q0, q1⟩
              have : truthB P S k gs = false := List.all_eq_false.2 ⟨g, List.mem_of_getElem? hgj.out, by rw [hat.out]; simp⟩
              rw [truths_succ, this]
              simpa using q2
        · have hall' : Hid (truthB P S k gs = true) := by
            have h := hall.out
            rw [List.take_of_length_le (by have := hn.out; omega)] at h
            exact h
          have hlen' := truths_len P S gs k
          have hlen2 : ((truths P S gs k).map irow).length ≤ k := by simpa using hlen'
          have hsz : w.heap.size + 1 ≤ wr.heap.size := t0.lt
          go_wp2_with (at_builtin; refine wpList_append_own _ rfl _ _ 65 rfl (w.heap.size + 1) 3 i0 (.int .i64 0) 1 8 Try.underlying65 hi0 hi1 hi2 hi3 rfl (by decide) _ _ _ rfl (hg.2.alloc _) ⟨wr.heap.size, 0, none⟩ 1 1 [.int .i64 k] rfl rfl (cell_one_new _ _ _) (by intro u hu; simp at hu; subst hu; rfl) (by unfold maxLen; omega) (by omega) (by simp; omega) ?_; intro v' w5 hown' hgrow hnil)
          have hbA : Below (w.heap.size + 1) wr w5 := ((Below.refl _ wr).alloc hsz _).grown hgrow (by simp; omega) (fun i hi => (hg.2.lt i hi).1)
          have q0 : Own w5 w.heap.size [.int .i64 P, .int .i64 S] := t0.below hbA (by omega)
          have q1 : Below w.heap.size w w5 := hbw.trans (hbA.mono (by omega))
          have q2 : Gro w5 (w.heap.size + 1) 3 1 v' (((truths P S gs k).map irow) ++ [irow k]) := Gro.grown hg rfl hown'
          clear hg t0 hbw hown' hgrow hnil hbA
          go_wp2
          go_roundg (10001 - (k + 1))
          case measure => omega
          case rel =>
            refine ⟨k + 1, by omega, by go_num, ?_, q0, q1⟩
            rw [truths_succ, hall'.out]
            simpa using q2
    · have hk1 : k = 10001 := by omega
      subst hk1
      obtain ⟨A', cap', rfl, hrd⟩ := hg.out
      have hE : Hid (settingsE P S gs = if truths P S gs 10001 = [] then 3 else 0) := by
        show _ = _
        unfold settingsE glB
        rw [H1.out, H3.out, ← hn.out, H2.out]; rfl
      have hL : Hid (settingsL P S gs = truths P S gs 10001) := by
        show _ = _
        unfold settingsL glB
        rw [H1.out, H3.out, ← hn.out, H2.out]; rfl
      by_cases hem : truths P S gs 10001 = []
      · have hl0 : ((truths P S gs 10001).map irow).length = 0 := by rw [hem]; rfl
        rw [hem] at hE hL
        have hl0' := Lib.hid hl0
        clear hem
        generalize ((truths P S gs 10001).map irow).length = L at *
        obtain rfl : L = 0 := hl0'.out
        clear hl0 hl0'
        go_wp2
        (try rw [Exit.noGoto_ret])
        go_ret2
        refine ⟨none, 0, ?_, ?_, hbw⟩
        · rw [hE.out, hL.out, if_pos trivial]; rfl
        · rw [hL.out]; exact RdI.nil _ _
      · have hl0 : ((truths P S gs 10001).map irow).length = (settingsL P S gs).length := by rw [hL.out]; simp
        have hl1 : 0 < ((truths P S gs 10001).map irow).length := by
          rw [List.length_map]; exact List.length_pos_iff.2 hem
        have hrd' : RdI wr A' (settingsL P S gs) := by rw [hL.out]; exact hrd
        rw [if_neg hem] at hE
        clear hem hrd hg
        generalize ((truths P S gs 10001).map irow).length = L at *
        have hl0' := Lib.hid hl0
        clear hl0
        have hlb : ((L : Int) == 0) = false := by simp; omega
        go_wp2
        (try rw [Exit.noGoto_ret])
        go_ret2
        refine ⟨A', cap', ?_, hrd', hbw⟩
        rw [hE.out, ← hl0'.out]; rfl

theorem settingsL_1 {P S : Int} {gs : List Gl} (h : verB P S = false) : settingsL P S gs = [] ∧ settingsE P S gs = 12 := by simp [settingsL, settingsE, h]
theorem settingsL_2 {P S : Int} {gs : List Gl} (h : verB P S = true) (k : glB P gs = false) : settingsL P S gs = [] ∧ settingsE P S gs = 1 := by simp [settingsL, settingsE, h, k]

set_option maxRecDepth 100000 in
set_option maxHeartbeats 4000000 in
theorem settings44 (A : Option Addr) (gs : List Gl) (n cap : Nat) (P S : Int) (w : World) (hA : RdG w A gs) (hn : Hid (n = gs.length)) (hlen : n ≤ 140737488355328) :
    Calls Try.prog 44 #[.agg #[.int .i64 P, .int .i64 S], .slice A n cap] w fun e w' => ∃ (A' : Option Addr) (cap' : Nat), e = .returned (.tuple #[.slice A' (settingsL P S gs).length cap', .int .i64 (settingsE P S gs)]) ∧ RdI w' A' (settingsL P S gs) ∧ Below w.heap.size w w' := by
  cases h1 : verB P S
  · have hL := Lib.hid (settingsL_1 (gs := gs) h1)
    have H1 := Lib.hid h1
    clear h1 hA
    go_enter Try.func44, Try.ntmps44
    go_wp2_with fail
    go_step3
    go_wp2_with fail
    refine (isVernier77 _ _ _).mono ?_
    rw [H1.out]
    rintro e w1 ⟨rfl, hb1⟩
    go_wp2
    (try rw [Exit.noGoto_ret])
    go_ret2
    exact ⟨none, 0, by rw [hL.out.1, hL.out.2]; rfl, by rw [hL.out.1]; exact RdI.nil _ _, by (repeat' (first | (with_reducible exact Below.refl _ _) | (with_reducible assumption) | (with_reducible refine Below.drew ?_) | (with_reducible refine below_drewN ?_ _) | (with_reducible refine Below.setCell ?_ ?_ _) | (with_reducible refine Below.alloc ?_ ?_ _) | (refine Below.trans ?_ (Below.mono (by with_reducible assumption) ?_)) | omega | (exact Below.size (by with_reducible assumption)) | (simp; done) | (simp; omega)))⟩
  · have hP := verB_iff.1 h1
    cases h2 : btw n 1 6
    · have hL := Lib.hid (settingsL_2 (gs := gs) h1 (by unfold glB; rw [← hn.out, h2]; rfl))
      have H1 := Lib.hid h1
      have H2 := Lib.hid h2
      clear h1 h2 hA
      go_enter Try.func44, Try.ntmps44
      go_wp2_with fail
      go_step3
      go_wp2_with fail
      refine (isVernier77 _ _ _).mono ?_
      rw [H1.out]
      rintro e w1 ⟨rfl, hb1⟩
      go_wp2_with fail
      refine (within53 _ _ _ _).mono ?_
      rw [H2.out]
      rintro e _ ⟨rfl, rfl⟩
      go_wp2
      (try rw [Exit.noGoto_ret])
      go_ret2
      exact ⟨none, 0, by rw [hL.out.1, hL.out.2]; rfl, by rw [hL.out.1]; exact RdI.nil _ _, by (repeat' (first | (with_reducible exact Below.refl _ _) | (with_reducible assumption) | (with_reducible refine Below.drew ?_) | (with_reducible refine below_drewN ?_ _) | (with_reducible refine Below.setCell ?_ ?_ _) | (with_reducible refine Below.alloc ?_ ?_ _) | (refine Below.trans ?_ (Below.mono (by with_reducible assumption) ?_)) | omega | (exact Below.size (by with_reducible assumption)) | (simp; done) | (simp; omega)))⟩
    · obtain ⟨hn0, hn6⟩ := btw_iff.1 h2
      cases h3 : gs.any (strangeB P)
      · refine settings44_core A gs n cap P S w hA hn hlen h1 h2 h3 hP.1.1 hP.1.2 (by omega) ?_
        intro g hg
        have := List.any_eq_false.1 h3 g hg
        simp only [strangeB, Bool.or_eq_true, Bool.not_eq_true', not_or, Bool.not_eq_false] at this
        obtain ⟨e1, e2⟩ := this
        have e1 := btw_iff.1 e1
        have e2 := btw_iff.1 e2
        omega
      · have hL := Lib.hid (settingsL_2 (gs := gs) h1 (by unfold glB; rw [h3]; simp))
        have H1 := Lib.hid h1
        have H2 := Lib.hid h2
        have H3 := Lib.hid h3
        have HA := Lib.hid hA
        clear h1 h2 h3 hA
        go_enter Try.func44, Try.ntmps44
        go_wp2_with fail
        go_step3
        go_wp2_with fail
        refine (isVernier77 _ _ _).mono ?_
        rw [H1.out]
        rintro e w1 ⟨rfl, hb1⟩
        have hbw1 : Below w.heap.size w w1 := by (repeat' (first | (with_reducible exact Below.refl _ _) | (with_reducible assumption) | (with_reducible refine Below.drew ?_) | (with_reducible refine below_drewN ?_ _) | (with_reducible refine Below.setCell ?_ ?_ _) | (with_reducible refine Below.alloc ?_ ?_ _) | (refine Below.trans ?_ (Below.mono (by with_reducible assumption) ?_)) | omega | (exact Below.size (by with_reducible assumption)) | (simp; done) | (simp; omega)))
        have o1 : Own w1 w.heap.size [.int .i64 P, .int .i64 S] := (Own.new' _ _ rfl rfl).below hb1 (by simp)
        clear hb1
        go_wp2_with fail
        refine (within53 _ _ _ _).mono ?_
        rw [H2.out]
        rintro e _ ⟨rfl, rfl⟩
        go_wp2_with fail
        refine (contains82 A gs n cap P S w.heap.size _ (HA.out.below hbw1 (Nat.le_refl _)) hn (by omega) hP.1.1 hP.1.2 o1).mono ?_
        rw [H3.out]
        rintro e w2 ⟨rfl, hb2⟩
        have hbw2 : Below w.heap.size w w2 := by (repeat' (first | (with_reducible exact Below.refl _ _) | (with_reducible assumption) | (with_reducible refine Below.drew ?_) | (with_reducible refine below_drewN ?_ _) | (with_reducible refine Below.setCell ?_ ?_ _) | (with_reducible refine Below.alloc ?_ ?_ _) | (refine Below.trans ?_ (Below.mono (by with_reducible assumption) ?_)) | omega | (exact Below.size (by with_reducible assumption)) | (simp; done) | (simp; omega)))
        go_wp2
        (try rw [Exit.noGoto_ret])
        go_ret2
        exact ⟨none, 0, by rw [hL.out.1, hL.out.2]; rfl, by rw [hL.out.1]; exact RdI.nil _ _, hbw2⟩

end Go.Proofs.Ytfboiplpfkommaa
