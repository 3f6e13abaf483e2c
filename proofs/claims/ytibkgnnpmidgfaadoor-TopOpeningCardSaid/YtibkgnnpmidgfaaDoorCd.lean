/- Walks: Check of the reference. -/
import Derived.Test.YtibkgnnpmidgfaaDoorCc
import Derived.Deep.DeepCutAuto
namespace Go.Proofs.YtibkgnnpmidgfaaDoor
open Go.RowKit

theorem chkE_bad {cw : Int} {B D : List Pt} {R : List Rep} (h : chkB cw B D R = false) : chkE cw B D R = 100 := by unfold chkE; rw [h]; rfl
theorem chk_1 {cw : Int} {B D : List Pt} {R : List Rep} (h : btw B.length 2 12 = false) : chkE cw B D R = 100 := chkE_bad (by unfold chkB; rw [h]; simp)
theorem chk_2 {cw : Int} {B D : List Pt} {R : List Rep} (h : ¬ D.length ≤ 4) : chkE cw B D R = 100 := chkE_bad (by unfold chkB; rw [decide_eq_false h]; simp)
theorem chk_3 {cw : Int} {B D : List Pt} {R : List Rep} (h : ¬ R.length ≤ 8) : chkE cw B D R = 100 := chkE_bad (by unfold chkB; rw [decide_eq_false h]; simp)
theorem chk_4 {cw : Int} {B D : List Pt} {R : List Rep} (h : btw cw 0 8 = false) : chkE cw B D R = 100 := chkE_bad (by unfold chkB; rw [h]; simp)
theorem chk_5 {cw : Int} {B D : List Pt} {R : List Rep} (h : okB B = false) : chkE cw B D R = 100 := chkE_bad (by unfold chkB; rw [h]; simp)
theorem chk_6 {cw : Int} {B D : List Pt} {R : List Rep} {s : Pt} (hs : s ∈ D) (h : okD s = false) : chkE cw B D R = 100 :=
  chkE_bad (by unfold chkB; rw [(List.all_eq_false (l := D)).2 ⟨s, hs, by rw [h]; simp⟩]; simp)
theorem chk_7 {cw : Int} {B D : List Pt} {R : List Rep} {r : Rep} (hs : r ∈ R) (h : okR B.length D.length r = false) : chkE cw B D R = 100 :=
  chkE_bad (by unfold chkB; rw [(List.all_eq_false (l := R)).2 ⟨r, hs, by rw [h]; simp⟩]; simp)
theorem chk_8 {cw : Int} {B D : List Pt} {R : List Rep} (h1 : btw B.length 2 12 = true) (h2 : D.length ≤ 4) (h3 : R.length ≤ 8) (h4 : btw cw 0 8 = true) (h5 : okB B = true) (h6 : D.all okD = true) (h7 : R.all (okR B.length D.length) = true) : chkE cw B D R = 0 := by
  unfold chkE chkB; rw [h1, h4, h5, h6, h7, decide_eq_true h2, decide_eq_true h3]; rfl

set_option maxRecDepth 100000 in
set_option maxHeartbeats 4000000 in
theorem check14 (A0 A1 A2 : Option Addr) (n0 n1 n2 c0 c1 c2 : Nat) (cw : Int) (B D : List Pt) (R : List Rep) (w : World) (hC : RdC w A0 A1 A2 n0 n1 n2 B D R) :
    Calls Tryd.prog 14 #[.agg #[.slice A0 n0 c0, .slice A1 n1 c1, .slice A2 n2 c2, .int .i64 cw]] w fun e w' => e = .returned (.int .i64 (chkE cw B D R)) ∧ Below w.heap.size w w' := by
  have HC := Lib.hid hC
  have l0 := hC.l0
  have l1 := hC.l1
  have l2 := hC.l2
  have HL := Lib.hid hC.h0
  have HL1 := Lib.hid hC.h1
  have HL2 := Lib.hid hC.h2
  clear hC
  have o0 : Own (w.alloc (.cells #[.slice A0 n0 c0, .slice A1 n1 c1, .slice A2 n2 c2, .int .i64 cw] 26)) w.heap.size [.slice A0 n0 c0, .slice A1 n1 c1, .slice A2 n2 c2, .int .i64 cw] := Own.new' _ _ rfl rfl
  have oB : Below w.heap.size w (w.alloc (.cells #[.slice A0 n0 c0, .slice A1 n1 c1, .slice A2 n2 c2, .int .i64 cw] 26)) := by (repeat' (first | (with_reducible exact Below.refl _ _) | (with_reducible assumption) | (with_reducible refine Below.drew ?_) | (with_reducible refine below_drewN ?_ _) | (with_reducible refine Below.setCell ?_ ?_ _) | (with_reducible refine Below.alloc ?_ ?_ _) | (refine Below.trans ?_ (Below.mono (by with_reducible assumption) ?_)) | omega | (exact Below.size (by with_reducible assumption)) | (simp; done) | (simp; omega)))
  cases h1 : btw n0 2 12
  · have hE := Lib.hid (chk_1 (cw := cw) (D := D) (R := R) (HL.out ▸ h1))
    have H1 := Lib.hid h1
    clear h1
    go_enter Tryd.func14, Tryd.ntmps14
    go_wp2_with (first | (go_at_call 52; refine (within52 _ _ _ _).mono ?_; rw [H1.out]; rintro e w1 ⟨rfl, rfl⟩))
    go_ret
    exact ⟨ret_int hE.out.symm, by (repeat' (first | (with_reducible exact Below.refl _ _) | (with_reducible assumption) | (with_reducible refine Below.drew ?_) | (with_reducible refine below_drewN ?_ _) | (with_reducible refine Below.setCell ?_ ?_ _) | (with_reducible refine Below.alloc ?_ ?_ _) | (refine Below.trans ?_ (Below.mono (by with_reducible assumption) ?_)) | omega | (exact Below.size (by with_reducible assumption)) | (simp; done) | (simp; omega)))⟩
  have H1 := Lib.hid h1
  clear h1
  by_cases h2 : n1 ≤ 4
  · by_cases h3 : n2 ≤ 8
    · cases h4 : btw cw 0 8
      · have hE := Lib.hid (chk_4 (B := B) (D := D) (R := R) h4)
        have H4 := Lib.hid h4
        clear h4
        go_enter Tryd.func14, Tryd.ntmps14
        go_wp2_with fail
        refine (within52 _ _ _ _).mono ?_
        rw [H1.out]
        rintro e w1 ⟨rfl, rfl⟩
        go_wp2_with (first | (go_at_call 52; refine (within52 _ _ _ _).mono ?_; rw [H4.out]; rintro e w1 ⟨rfl, rfl⟩))
        go_ret
        exact ⟨ret_int hE.out.symm, by (repeat' (first | (with_reducible exact Below.refl _ _) | (with_reducible assumption) | (with_reducible refine Below.drew ?_) | (with_reducible refine below_drewN ?_ _) | (with_reducible refine Below.setCell ?_ ?_ _) | (with_reducible refine Below.alloc ?_ ?_ _) | (refine Below.trans ?_ (Below.mono (by with_reducible assumption) ?_)) | omega | (exact Below.size (by with_reducible assumption)) | (simp; done) | (simp; omega)))⟩
      · have H4 := Lib.hid h4
        clear h4
        go_enter Tryd.func14, Tryd.ntmps14
        go_wp2_with fail
        refine (within52 _ _ _ _).mono ?_
        rw [H1.out]
        rintro e w1 ⟨rfl, rfl⟩
        go_wp2_with fail
        refine (within52 _ _ _ _).mono ?_
        rw [H4.out]
        rintro e w1 ⟨rfl, rfl⟩
        go_wp2_with fail
        go_loopg [3] n0 (fun K i wr => ∃ k : Nat, K + k = n0 ∧ i = .int .i64 k ∧ Hid ((List.range k).all (okAt B) = true) ∧ Own wr w.heap.size [.slice A0 n0 c0, .slice A1 n1 c1, .slice A2 n2 c2, .int .i64 cw] ∧ Below w.heap.size w wr)
        case atStart => exact ⟨0, rfl, rfl, by simp [Hid], o0, oB⟩
        case round =>
          clear o0 oB
          obtain ⟨k, hk, rfl, hno, hv, hbw⟩ := hrel
          by_cases hlt : k < n0
          · obtain ⟨g, hg⟩ : ∃ g, Hid (B[k]? = some g) := ⟨B[k]'(by have := HL.out; omega), by simp [Hid]⟩
            have ha := Lib.hid (atB_of hg.out)
            have hkB : Hid (k < B.length) := (List.getElem?_eq_some_iff.1 hg.out).1
            have hv' := hv
            obtain ⟨l00, k0, f0⟩ := hv'
            obtain ⟨b, off, rfl, hb, hc0, hc1⟩ := rd_pt (HC.out.below hbw (Nat.le_refl _)).r0 hg.out
            have hx0 := Aft.cell hv
            have hx1 := fun x : Aft wr => (Aft.old x hb _).trans hc0
            have hx2 := fun x : Aft wr => (Aft.old x hb _).trans hc1
            cases h1 : isPt (g.1, g.2)
            · have hE := Lib.hid (chk_5 (cw := cw) (D := D) (R := R) (all_false hkB.out (by unfold okAt; rw [ha.out, h1]; rfl)))
              go_wp2
              refine wp_region_aft (by kernel_rfl) (by kernel_rfl) ?_; (repeat (go_big_quiet_step ((go_at_call 53; exact aft_of (isPoint53 _ _ _))))); refine wpQuiet_nil ?_; rintro w5 ⟨⟨_, hb5⟩, rfl⟩
              go_wp2
              go_ret
              exact ⟨ret_int hE.out.symm, by (repeat' (first | (with_reducible exact Below.refl _ _) | (with_reducible assumption) | (with_reducible refine Below.drew ?_) | (with_reducible refine below_drewN ?_ _) | (with_reducible refine Below.setCell ?_ ?_ _) | (with_reducible refine Below.alloc ?_ ?_ _) | (refine Below.trans ?_ (Below.mono (by with_reducible assumption) ?_)) | omega | (exact Below.size (by with_reducible assumption)) | (simp; done) | (simp; omega)))⟩
            · by_cases hk0 : k = 0
              · have hok : Hid (okAt B k = true) := by show _ = _; unfold okAt; rw [ha.out, h1, hk0]; rfl
                have hk0' := Lib.hid hk0
                clear hk0
                go_wp2
                have hkd : decide (0 < k) = false := by have := hk0'.out; simp; omega
                refine wp_region_aft (by kernel_rfl) (by kernel_rfl) ?_; (repeat (go_big_quiet_step ((go_at_call 53; exact aft_of (isPoint53 _ _ _))))); refine wpQuiet_nil ?_; rintro w5 ⟨⟨_, hb5⟩, rfl⟩
                have q0 := hv.below hb5 l00
                have q1 : Below w.heap.size w w5 := by (repeat' (first | (with_reducible exact Below.refl _ _) | (with_reducible assumption) | (with_reducible refine Below.drew ?_) | (with_reducible refine below_drewN ?_ _) | (with_reducible refine Below.setCell ?_ ?_ _) | (with_reducible refine Below.alloc ?_ ?_ _) | (refine Below.trans ?_ (Below.mono (by with_reducible assumption) ?_)) | omega | (exact Below.size (by with_reducible assumption)) | (simp; done) | (simp; omega)))
                obtain rfl := hk0'.out
                clear hkd hk0' k0 f0 hx0 hx1 hx2 hbw hb5 hc0 hc1 hb hv
                go_wp2
                go_roundg (n0 - 1)
                case measure => omega
                case rel =>
                  refine ⟨1, by omega, rfl, ?_, q0, q1⟩
                  show (List.range (0 + 1)).all _ = true
                  rw [List.range_succ, List.all_append, hno.out]
                  simp only [List.all_cons, List.all_nil, hok.out, Bool.and_self]
              · obtain ⟨g', hg'⟩ : ∃ g, Hid (B[k - 1]? = some g) := ⟨B[k - 1]'(by have := HL.out; omega), by simp [Hid]⟩
                obtain ⟨b', off', hbb, hb', hc0', hc1'⟩ := rd_pt (HC.out.below hbw (Nat.le_refl _)).r0 hg'.out
                obtain ⟨rfl, rfl⟩ : b = b' ∧ off = off' := by simpa using hbb
                clear hbb
                have hx3 := fun x : Aft wr => (Aft.old x hb _).trans hc0'
                have hx4 := fun x : Aft wr => (Aft.old x hb _).trans hc1'
                have ha' := Lib.hid (atB_of hg'.out)
                have hkp : decide (0 < k) = true := by simp; omega
                have hkp' : 0 < k := by omega
                have hsum : IntKind.i64.wrap ((k : Int) - 1) = (k : Int) - 1 := IntWalk.i64_in _ (by omega)
                have hsn : ((k : Int) - 1).toNat = k - 1 := by omega
                have hs0 : (0 : Int) ≤ (k : Int) - 1 := by omega
                have hrun := fun w => eql_pt g g' w
                cases hgg : decide (g = g')
                · rw [hgg] at hrun
                  have hok : Hid (okAt B k = true) := by show _ = _; unfold okAt; rw [ha.out, ha'.out, h1, hkp, hgg]; rfl
                  have hgg' := Lib.hid hgg
                  clear hgg
                  go_wp2
                  refine wp_region_aft (by kernel_rfl) (by kernel_rfl) ?_; (repeat (go_big_quiet_step ((go_at_call 53; exact aft_of (isPoint53 _ _ _))))); refine wpQuiet_nil ?_; rintro w5 ⟨⟨_, hb5⟩, rfl⟩
                  have q0 := hv.below hb5 l00
                  have q1 : Below w.heap.size w w5 := by (repeat' (first | (with_reducible exact Below.refl _ _) | (with_reducible assumption) | (with_reducible refine Below.drew ?_) | (with_reducible refine below_drewN ?_ _) | (with_reducible refine Below.setCell ?_ ?_ _) | (with_reducible refine Below.alloc ?_ ?_ _) | (refine Below.trans ?_ (Below.mono (by with_reducible assumption) ?_)) | omega | (exact Below.size (by with_reducible assumption)) | (simp; done) | (simp; omega)))
                  clear k0 f0 hx0 hx1 hx2 hx3 hx4 hbw hb5 hc0 hc1 hc0' hc1' hb hb' hv hrun hsum hsn hs0
                  go_wp2
                  go_roundg (n0 - (k + 1))
                  case measure => omega
                  case rel =>
                    refine ⟨k + 1, by omega, by go_num, ?_, q0, q1⟩
                    show (List.range (k + 1)).all _ = true
                    rw [List.range_succ, List.all_append, hno.out]
                    simp only [List.all_cons, List.all_nil, hok.out, Bool.and_self]
                · rw [hgg] at hrun
                  have hE := Lib.hid (chk_5 (cw := cw) (D := D) (R := R) (all_false hkB.out (by unfold okAt; rw [ha.out, ha'.out, h1, hkp, hgg]; rfl)))
                  have hgg' := Lib.hid hgg
                  clear hgg
                  go_wp2
                  refine wp_region_aft (by kernel_rfl) (by kernel_rfl) ?_; (repeat (go_big_quiet_step ((go_at_call 53; exact aft_of (isPoint53 _ _ _))))); refine wpQuiet_nil ?_; rintro w5 ⟨⟨_, hb5⟩, rfl⟩
                  go_wp2
                  go_ret
                  exact ⟨ret_int hE.out.symm, by (repeat' (first | (with_reducible exact Below.refl _ _) | (with_reducible assumption) | (with_reducible refine Below.drew ?_) | (with_reducible refine below_drewN ?_ _) | (with_reducible refine Below.setCell ?_ ?_ _) | (with_reducible refine Below.alloc ?_ ?_ _) | (refine Below.trans ?_ (Below.mono (by with_reducible assumption) ?_)) | omega | (exact Below.size (by with_reducible assumption)) | (simp; done) | (simp; omega)))⟩
          · have hB : Hid (okB B = true) := by show _ = _; unfold okB; rw [← HL.out, show n0 = k by omega]; exact hno.out
            have hv' := hv
            obtain ⟨l00, k0, f0⟩ := hv'
            clear hno
            go_wp2_with fail
            go_loopg [4] n1 (fun K i wr => ∃ k : Nat, K + k = n1 ∧ i = .int .i64 k ∧ Hid ((D.take k).all okD = true) ∧ Own wr w.heap.size [.slice A0 n0 c0, .slice A1 n1 c1, .slice A2 n2 c2, .int .i64 cw] ∧ Below w.heap.size w wr)
            case atStart => exact ⟨0, rfl, rfl, by simp [Hid], hv, hbw⟩
            case round =>
              clear hbw hv k0 f0 l00
              obtain ⟨j, hj, rfl, hno, hv, hbw⟩ := hrel
              have hv' := hv
              obtain ⟨l00, k0, f0⟩ := hv'
              by_cases hjt : j < n1
              · obtain ⟨g, hg⟩ : ∃ g, Hid (D[j]? = some g) := ⟨D[j]'(by have := HL1.out; omega), by simp [Hid]⟩
                obtain ⟨b, off, rfl, hb, hc0, hc1⟩ := rd_pt (HC.out.below hbw (Nat.le_refl _)).r1 hg.out
                cases h1 : btw g.1 1 g.2
                · have hE := Lib.hid (chk_6 (cw := cw) (B := B) (R := R) (List.mem_of_getElem? hg.out) (by unfold okD; rw [h1]; rfl))
                  have H1' := Lib.hid h1
                  clear h1
                  go_wp2
                  go_quiet ((go_at_call 52; have h := within52 g.1 1 g.2; rw [H1'.out] at h; exact quiet_left (h _)))
                  go_wp2
                  go_ret
                  exact ⟨ret_int hE.out.symm, by (repeat' (first | (with_reducible exact Below.refl _ _) | (with_reducible assumption) | (with_reducible refine Below.drew ?_) | (with_reducible refine below_drewN ?_ _) | (with_reducible refine Below.setCell ?_ ?_ _) | (with_reducible refine Below.alloc ?_ ?_ _) | (refine Below.trans ?_ (Below.mono (by with_reducible assumption) ?_)) | omega | (exact Below.size (by with_reducible assumption)) | (simp; done) | (simp; omega)))⟩
                · have hg1 := btw_iff.1 h1
                  have H1' := Lib.hid h1
                  by_cases h60 : g.2 ≤ 60
                  · have hok : Hid (okD g = true) := by show _ = _; unfold okD; rw [h1, Bool.true_and, btw_iff]; omega
                    clear h1
                    go_wp2
                    go_quiet ((go_at_call 52; have h := within52 g.1 1 g.2; rw [H1'.out] at h; exact quiet_left (h _)))
                    have q1 : Below w.heap.size w wr := hbw
                    clear k0 f0 hc0 hc1 hb l00
                    go_wp2
                    go_roundg (n1 - (j + 1))
                    case measure => omega
                    case rel =>
                      refine ⟨j + 1, by omega, by go_num, ?_, by (repeat' (first | (with_reducible assumption) | (with_reducible exact Own.mk (by with_reducible assumption) (by with_reducible assumption) (by with_reducible assumption)) | (with_reducible refine Own.new' _ _ (by first | rfl | (simp; done)) rfl) | (with_reducible refine Own.drew ?_) | (with_reducible refine Own.drewN ?_ _) | (with_reducible refine Own.alloc ?_ _) | (with_reducible refine Own.setOther ?_ ?_ _) | (refine Own.below ?_ (by with_reducible assumption) ?_) | omega | (simp; done) | (simp; omega))), by (repeat' (first | (with_reducible exact Below.refl _ _) | (with_reducible assumption) | (with_reducible refine Below.drew ?_) | (with_reducible refine below_drewN ?_ _) | (with_reducible refine Below.setCell ?_ ?_ _) | (with_reducible refine Below.alloc ?_ ?_ _) | (refine Below.trans ?_ (Below.mono (by with_reducible assumption) ?_)) | omega | (exact Below.size (by with_reducible assumption)) | (simp; done) | (simp; omega)))⟩
                      show (D.take (j + 1)).all _ = true
                      rw [take_snoc hg.out, List.all_append, hno.out]
                      simp only [List.all_cons, List.all_nil, hok.out, Bool.and_self]
                  · have hE := Lib.hid (chk_6 (cw := cw) (B := B) (R := R) (List.mem_of_getElem? hg.out) (by unfold okD; rw [h1, Bool.true_and, btw_no]; omega))
                    clear h1
                    go_wp2
                    go_quiet ((go_at_call 52; have h := within52 g.1 1 g.2; rw [H1'.out] at h; exact quiet_left (h _)))
                    go_wp2
                    go_ret
                    exact ⟨ret_int hE.out.symm, by (repeat' (first | (with_reducible exact Below.refl _ _) | (with_reducible assumption) | (with_reducible refine Below.drew ?_) | (with_reducible refine below_drewN ?_ _) | (with_reducible refine Below.setCell ?_ ?_ _) | (with_reducible refine Below.alloc ?_ ?_ _) | (refine Below.trans ?_ (Below.mono (by with_reducible assumption) ?_)) | omega | (exact Below.size (by with_reducible assumption)) | (simp; done) | (simp; omega)))⟩
              · have hD : Hid (D.all okD = true) := by
                  have h := hno.out
                  rw [List.take_of_length_le (by have := HL1.out; omega)] at h
                  exact h
                clear hno
                go_wp2_with fail
                go_loopg [5] n2 (fun K i wr => ∃ k : Nat, K + k = n2 ∧ i = .int .i64 k ∧ Hid ((R.take k).all (okR n0 n1) = true) ∧ Own wr w.heap.size [.slice A0 n0 c0, .slice A1 n1 c1, .slice A2 n2 c2, .int .i64 cw] ∧ Below w.heap.size w wr)
                case atStart => exact ⟨0, rfl, rfl, by simp [Hid], hv, hbw⟩
                case round =>
                  clear hbw hv k0 f0 l00
                  obtain ⟨i, hi, rfl, hno, hv, hbw⟩ := hrel
                  have hv' := hv
                  obtain ⟨l00, k0, f0⟩ := hv'
                  by_cases hit : i < n2
                  · obtain ⟨g, hg⟩ : ∃ g, Hid (R[i]? = some g) := ⟨R[i]'(by have := HL2.out; omega), by simp [Hid]⟩
                    obtain ⟨b, off, rfl, hb, hc0, hc1, hc2, hc3⟩ := rd_rep (HC.out.below hbw (Nat.le_refl _)).r2 hg.out
                    have hbad : Hid (okR n0 n1 g = false → chkE cw B D R = 100) := fun h => chk_7 (List.mem_of_getElem? hg.out) (by rw [← HL.out, ← HL1.out]; exact h)
                    cases h1 : btw g.d 0 ((n1 : Int) - 1)
                    · have hE := Lib.hid (hbad.out (by unfold okR; rw [h1]; rfl))
                      have H1' := Lib.hid h1
                      clear h1
                      go_wp2_with fail
                      refine (isDivider32 _ _ _ _ _ _ _ _ _ _ _ _ l1).mono ?_
                      rw [H1'.out]
                      rintro e w1 ⟨rfl, hb1⟩
                      (have hz1 := hb1.size; (try simp at hz1); have hc1_0 := fun o => (bcell hb1).1 (w.heap.size) o (by first | omega | (simp; done) | (simp; omega)); have hf1_0 := fun o => (bcell hb1).2 (w.heap.size) o (by first | omega | (simp; done) | (simp; omega)); have : w.heap.size < w1.heap.size := (by first | omega | (simp; done) | (simp; omega)); have : w.heap.size < w1.heap.size + 1 := (by first | omega | (simp; done) | (simp; omega)); have : w.heap.size < w1.heap.size + 2 := (by first | omega | (simp; done) | (simp; omega)); have : w.heap.size < w1.heap.size + 3 := (by first | omega | (simp; done) | (simp; omega)); have hc1_1 := fun o => (bcell hb1).1 (wr.heap.size) o (by first | omega | (simp; done) | (simp; omega)); have hf1_1 := fun o => (bcell hb1).2 (wr.heap.size) o (by first | omega | (simp; done) | (simp; omega)); have : wr.heap.size < w1.heap.size := (by first | omega | (simp; done) | (simp; omega)); have : wr.heap.size < w1.heap.size + 1 := (by first | omega | (simp; done) | (simp; omega)); have : wr.heap.size < w1.heap.size + 2 := (by first | omega | (simp; done) | (simp; omega)); have : wr.heap.size < w1.heap.size + 3 := (by first | omega | (simp; done) | (simp; omega)))
                      go_wp2
                      go_ret
                      exact ⟨ret_int hE.out.symm, by (repeat' (first | (with_reducible exact Below.refl _ _) | (with_reducible assumption) | (with_reducible refine Below.drew ?_) | (with_reducible refine below_drewN ?_ _) | (with_reducible refine Below.setCell ?_ ?_ _) | (with_reducible refine Below.alloc ?_ ?_ _) | (refine Below.trans ?_ (Below.mono (by with_reducible assumption) ?_)) | omega | (exact Below.size (by with_reducible assumption)) | (simp; done) | (simp; omega)))⟩
                    · cases h2 : plB n0 g.f g.t
                      · have hE := Lib.hid (hbad.out (by unfold okR; rw [h1, h2]; rfl))
                        have H1' := Lib.hid h1
                        have H2' := Lib.hid h2
                        clear h1 h2
                        go_wp2_with fail
                        refine (isDivider32 _ _ _ _ _ _ _ _ _ _ _ _ l1).mono ?_
                        rw [H1'.out]
                        rintro e w1 ⟨rfl, hb1⟩
                        (have hz1 := hb1.size; (try simp at hz1); have hc1_0 := fun o => (bcell hb1).1 (w.heap.size) o (by first | omega | (simp; done) | (simp; omega)); have hf1_0 := fun o => (bcell hb1).2 (w.heap.size) o (by first | omega | (simp; done) | (simp; omega)); have : w.heap.size < w1.heap.size := (by first | omega | (simp; done) | (simp; omega)); have : w.heap.size < w1.heap.size + 1 := (by first | omega | (simp; done) | (simp; omega)); have : w.heap.size < w1.heap.size + 2 := (by first | omega | (simp; done) | (simp; omega)); have : w.heap.size < w1.heap.size + 3 := (by first | omega | (simp; done) | (simp; omega)); have hc1_1 := fun o => (bcell hb1).1 (wr.heap.size) o (by first | omega | (simp; done) | (simp; omega)); have hf1_1 := fun o => (bcell hb1).2 (wr.heap.size) o (by first | omega | (simp; done) | (simp; omega)); have : wr.heap.size < w1.heap.size := (by first | omega | (simp; done) | (simp; omega)); have : wr.heap.size < w1.heap.size + 1 := (by first | omega | (simp; done) | (simp; omega)); have : wr.heap.size < w1.heap.size + 2 := (by first | omega | (simp; done) | (simp; omega)); have : wr.heap.size < w1.heap.size + 3 := (by first | omega | (simp; done) | (simp; omega)))
                        go_wp2_with fail
                        refine (areBends15 _ _ _ _ _ _ _ _ _ _ _ _ _).mono ?_
                        rw [H2'.out]
                        rintro e w2 ⟨rfl, hb2⟩
                        (have hz2 := hb2.size; (try simp at hz2); have hc2_0 := fun o => (bcell hb2).1 (w.heap.size) o (by first | omega | (simp; done) | (simp; omega)); have hf2_0 := fun o => (bcell hb2).2 (w.heap.size) o (by first | omega | (simp; done) | (simp; omega)); have : w.heap.size < w2.heap.size := (by first | omega | (simp; done) | (simp; omega)); have : w.heap.size < w2.heap.size + 1 := (by first | omega | (simp; done) | (simp; omega)); have : w.heap.size < w2.heap.size + 2 := (by first | omega | (simp; done) | (simp; omega)); have : w.heap.size < w2.heap.size + 3 := (by first | omega | (simp; done) | (simp; omega)); have hc2_1 := fun o => (bcell hb2).1 (wr.heap.size) o (by first | omega | (simp; done) | (simp; omega)); have hf2_1 := fun o => (bcell hb2).2 (wr.heap.size) o (by first | omega | (simp; done) | (simp; omega)); have : wr.heap.size < w2.heap.size := (by first | omega | (simp; done) | (simp; omega)); have : wr.heap.size < w2.heap.size + 1 := (by first | omega | (simp; done) | (simp; omega)); have : wr.heap.size < w2.heap.size + 2 := (by first | omega | (simp; done) | (simp; omega)); have : wr.heap.size < w2.heap.size + 3 := (by first | omega | (simp; done) | (simp; omega)))
                        go_wp2
                        go_ret
                        exact ⟨ret_int hE.out.symm, by (repeat' (first | (with_reducible exact Below.refl _ _) | (with_reducible assumption) | (with_reducible refine Below.drew ?_) | (with_reducible refine below_drewN ?_ _) | (with_reducible refine Below.setCell ?_ ?_ _) | (with_reducible refine Below.alloc ?_ ?_ _) | (refine Below.trans ?_ (Below.mono (by with_reducible assumption) ?_)) | omega | (exact Below.size (by with_reducible assumption)) | (simp; done) | (simp; omega)))⟩
                      · cases h3 : btw g.s 1 12
                        · have hE := Lib.hid (hbad.out (by unfold okR; rw [h1, h2, h3]; rfl))
                          have H1' := Lib.hid h1
                          have H2' := Lib.hid h2
                          have H3' := Lib.hid h3
                          clear h1 h2 h3
                          go_wp2_with fail
                          refine (isDivider32 _ _ _ _ _ _ _ _ _ _ _ _ l1).mono ?_
                          rw [H1'.out]
                          rintro e w1 ⟨rfl, hb1⟩
                          (have hz1 := hb1.size; (try simp at hz1); have hc1_0 := fun o => (bcell hb1).1 (w.heap.size) o (by first | omega | (simp; done) | (simp; omega)); have hf1_0 := fun o => (bcell hb1).2 (w.heap.size) o (by first | omega | (simp; done) | (simp; omega)); have : w.heap.size < w1.heap.size := (by first | omega | (simp; done) | (simp; omega)); have : w.heap.size < w1.heap.size + 1 := (by first | omega | (simp; done) | (simp; omega)); have : w.heap.size < w1.heap.size + 2 := (by first | omega | (simp; done) | (simp; omega)); have : w.heap.size < w1.heap.size + 3 := (by first | omega | (simp; done) | (simp; omega)); have hc1_1 := fun o => (bcell hb1).1 (wr.heap.size) o (by first | omega | (simp; done) | (simp; omega)); have hf1_1 := fun o => (bcell hb1).2 (wr.heap.size) o (by first | omega | (simp; done) | (simp; omega)); have : wr.heap.size < w1.heap.size := (by first | omega | (simp; done) | (simp; omega)); have : wr.heap.size < w1.heap.size + 1 := (by first | omega | (simp; done) | (simp; omega)); have : wr.heap.size < w1.heap.size + 2 := (by first | omega | (simp; done) | (simp; omega)); have : wr.heap.size < w1.heap.size + 3 := (by first | omega | (simp; done) | (simp; omega)))
                          go_wp2_with fail
                          refine (areBends15 _ _ _ _ _ _ _ _ _ _ _ _ _).mono ?_
                          rw [H2'.out]
                          rintro e w2 ⟨rfl, hb2⟩
                          (have hz2 := hb2.size; (try simp at hz2); have hc2_0 := fun o => (bcell hb2).1 (w.heap.size) o (by first | omega | (simp; done) | (simp; omega)); have hf2_0 := fun o => (bcell hb2).2 (w.heap.size) o (by first | omega | (simp; done) | (simp; omega)); have : w.heap.size < w2.heap.size := (by first | omega | (simp; done) | (simp; omega)); have : w.heap.size < w2.heap.size + 1 := (by first | omega | (simp; done) | (simp; omega)); have : w.heap.size < w2.heap.size + 2 := (by first | omega | (simp; done) | (simp; omega)); have : w.heap.size < w2.heap.size + 3 := (by first | omega | (simp; done) | (simp; omega)); have hc2_1 := fun o => (bcell hb2).1 (wr.heap.size) o (by first | omega | (simp; done) | (simp; omega)); have hf2_1 := fun o => (bcell hb2).2 (wr.heap.size) o (by first | omega | (simp; done) | (simp; omega)); have : wr.heap.size < w2.heap.size := (by first | omega | (simp; done) | (simp; omega)); have : wr.heap.size < w2.heap.size + 1 := (by first | omega | (simp; done) | (simp; omega)); have : wr.heap.size < w2.heap.size + 2 := (by first | omega | (simp; done) | (simp; omega)); have : wr.heap.size < w2.heap.size + 3 := (by first | omega | (simp; done) | (simp; omega)))
                          go_wp2_with (first | (go_at_call 52; refine (within52 _ _ _ _).mono ?_; rw [H3'.out]; rintro e w1 ⟨rfl, rfl⟩))
                          go_ret
                          exact ⟨ret_int hE.out.symm, by (repeat' (first | (with_reducible exact Below.refl _ _) | (with_reducible assumption) | (with_reducible refine Below.drew ?_) | (with_reducible refine below_drewN ?_ _) | (with_reducible refine Below.setCell ?_ ?_ _) | (with_reducible refine Below.alloc ?_ ?_ _) | (refine Below.trans ?_ (Below.mono (by with_reducible assumption) ?_)) | omega | (exact Below.size (by with_reducible assumption)) | (simp; done) | (simp; omega)))⟩
                        · have hok : Hid (okR n0 n1 g = true) := by show _ = _; unfold okR; rw [h1, h2, h3]; rfl
                          have H1' := Lib.hid h1
                          have H2' := Lib.hid h2
                          have H3' := Lib.hid h3
                          clear h1 h2 h3
                          go_wp2_with fail
                          refine (isDivider32 _ _ _ _ _ _ _ _ _ _ _ _ l1).mono ?_
                          rw [H1'.out]
                          rintro e w1 ⟨rfl, hb1⟩
                          (have hz1 := hb1.size; (try simp at hz1); have hc1_0 := fun o => (bcell hb1).1 (w.heap.size) o (by first | omega | (simp; done) | (simp; omega)); have hf1_0 := fun o => (bcell hb1).2 (w.heap.size) o (by first | omega | (simp; done) | (simp; omega)); have : w.heap.size < w1.heap.size := (by first | omega | (simp; done) | (simp; omega)); have : w.heap.size < w1.heap.size + 1 := (by first | omega | (simp; done) | (simp; omega)); have : w.heap.size < w1.heap.size + 2 := (by first | omega | (simp; done) | (simp; omega)); have : w.heap.size < w1.heap.size + 3 := (by first | omega | (simp; done) | (simp; omega)); have hc1_1 := fun o => (bcell hb1).1 (wr.heap.size) o (by first | omega | (simp; done) | (simp; omega)); have hf1_1 := fun o => (bcell hb1).2 (wr.heap.size) o (by first | omega | (simp; done) | (simp; omega)); have : wr.heap.size < w1.heap.size := (by first | omega | (simp; done) | (simp; omega)); have : wr.heap.size < w1.heap.size + 1 := (by first | omega | (simp; done) | (simp; omega)); have : wr.heap.size < w1.heap.size + 2 := (by first | omega | (simp; done) | (simp; omega)); have : wr.heap.size < w1.heap.size + 3 := (by first | omega | (simp; done) | (simp; omega)))
                          go_wp2_with fail
                          refine (areBends15 _ _ _ _ _ _ _ _ _ _ _ _ _).mono ?_
                          rw [H2'.out]
                          rintro e w2 ⟨rfl, hb2⟩
                          (have hz2 := hb2.size; (try simp at hz2); have hc2_0 := fun o => (bcell hb2).1 (w.heap.size) o (by first | omega | (simp; done) | (simp; omega)); have hf2_0 := fun o => (bcell hb2).2 (w.heap.size) o (by first | omega | (simp; done) | (simp; omega)); have : w.heap.size < w2.heap.size := (by first | omega | (simp; done) | (simp; omega)); have : w.heap.size < w2.heap.size + 1 := (by first | omega | (simp; done) | (simp; omega)); have : w.heap.size < w2.heap.size + 2 := (by first | omega | (simp; done) | (simp; omega)); have : w.heap.size < w2.heap.size + 3 := (by first | omega | (simp; done) | (simp; omega)); have hc2_1 := fun o => (bcell hb2).1 (wr.heap.size) o (by first | omega | (simp; done) | (simp; omega)); have hf2_1 := fun o => (bcell hb2).2 (wr.heap.size) o (by first | omega | (simp; done) | (simp; omega)); have : wr.heap.size < w2.heap.size := (by first | omega | (simp; done) | (simp; omega)); have : wr.heap.size < w2.heap.size + 1 := (by first | omega | (simp; done) | (simp; omega)); have : wr.heap.size < w2.heap.size + 2 := (by first | omega | (simp; done) | (simp; omega)); have : wr.heap.size < w2.heap.size + 3 := (by first | omega | (simp; done) | (simp; omega)))
                          have q1 : Below w.heap.size w w2 := by (repeat' (first | (with_reducible exact Below.refl _ _) | (with_reducible assumption) | (with_reducible refine Below.drew ?_) | (with_reducible refine below_drewN ?_ _) | (with_reducible refine Below.setCell ?_ ?_ _) | (with_reducible refine Below.alloc ?_ ?_ _) | (refine Below.trans ?_ (Below.mono (by with_reducible assumption) ?_)) | omega | (exact Below.size (by with_reducible assumption)) | (simp; done) | (simp; omega)))
                          have q0 := ((hv.alloc _).below hb1 (by simp; omega)).below hb2 (by omega)
                          clear hb1 hb2 hbw hv
                          go_wp2_with (first | (go_at_call 52; refine (within52 _ _ _ _).mono ?_; rw [H3'.out]; rintro e w1 ⟨rfl, rfl⟩))
                          go_roundg (n2 - (i + 1))
                          case measure => omega
                          case rel =>
                            refine ⟨i + 1, by omega, by go_num, ?_, q0, q1⟩
                            show (R.take (i + 1)).all _ = true
                            rw [take_snoc hg.out, List.all_append, hno.out]
                            simp only [List.all_cons, List.all_nil, hok.out, Bool.and_self]
                  · have hR : Hid (R.all (okR n0 n1) = true) := by
                      have h := hno.out
                      rw [List.take_of_length_le (by have := HL2.out; omega)] at h
                      exact h
                    have hE : Hid (chkE cw B D R = 0) := chk_8 (HL.out ▸ H1.out) (HL1.out ▸ h2) (HL2.out ▸ h3) H4.out hB.out hD.out (by rw [← HL.out, ← HL1.out]; exact hR.out)
                    go_wp2
                    go_ret
                    exact ⟨ret_int hE.out.symm, by (repeat' (first | (with_reducible exact Below.refl _ _) | (with_reducible assumption) | (with_reducible refine Below.drew ?_) | (with_reducible refine below_drewN ?_ _) | (with_reducible refine Below.setCell ?_ ?_ _) | (with_reducible refine Below.alloc ?_ ?_ _) | (refine Below.trans ?_ (Below.mono (by with_reducible assumption) ?_)) | omega | (exact Below.size (by with_reducible assumption)) | (simp; done) | (simp; omega)))⟩
    · have hE := Lib.hid (chk_3 (cw := cw) (B := B) (D := D) (R := R) (HL2.out ▸ h3))
      go_enter Tryd.func14, Tryd.ntmps14
      go_wp2_with (first | (go_at_call 52; refine (within52 _ _ _ _).mono ?_; rw [H1.out]; rintro e w1 ⟨rfl, rfl⟩))
      go_ret
      exact ⟨ret_int hE.out.symm, by (repeat' (first | (with_reducible exact Below.refl _ _) | (with_reducible assumption) | (with_reducible refine Below.drew ?_) | (with_reducible refine below_drewN ?_ _) | (with_reducible refine Below.setCell ?_ ?_ _) | (with_reducible refine Below.alloc ?_ ?_ _) | (refine Below.trans ?_ (Below.mono (by with_reducible assumption) ?_)) | omega | (exact Below.size (by with_reducible assumption)) | (simp; done) | (simp; omega)))⟩
  · have hE := Lib.hid (chk_2 (cw := cw) (B := B) (D := D) (R := R) (HL1.out ▸ h2))
    go_enter Tryd.func14, Tryd.ntmps14
    go_wp2_with (first | (go_at_call 52; refine (within52 _ _ _ _).mono ?_; rw [H1.out]; rintro e w1 ⟨rfl, rfl⟩))
    go_ret
    exact ⟨ret_int hE.out.symm, by (repeat' (first | (with_reducible exact Below.refl _ _) | (with_reducible assumption) | (with_reducible refine Below.drew ?_) | (with_reducible refine below_drewN ?_ _) | (with_reducible refine Below.setCell ?_ ?_ _) | (with_reducible refine Below.alloc ?_ ?_ _) | (refine Below.trans ?_ (Below.mono (by with_reducible assumption) ?_)) | omega | (exact Below.size (by with_reducible assumption)) | (simp; done) | (simp; omega)))⟩

end Go.Proofs.YtibkgnnpmidgfaaDoor
