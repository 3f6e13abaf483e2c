/- Walks: Check of the program. -/
import Derived.Test.YtibkgnnpmidgfaaDoorCb
import Derived.Test.YtibkgnnpmidgfaaDoorEq
namespace Go.Proofs.YtibkgnnpmidgfaaDoor
open Go.RowKit

/-- Bend i is a point, and another one than that before. -/
def okAt (B : List Pt) (i : Nat) : Bool := isPt (atB B i) && !(decide (0 < i) && decide (atB B i = atB B (i - 1)))
def okB (B : List Pt) : Bool := (List.range B.length).all (okAt B)
def chkB (cw : Int) (B D : List Pt) (R : List Rep) : Bool :=
  okB B && btw B.length 2 12 && decide (D.length ≤ 4) && D.all okD && decide (R.length ≤ 8) && R.all (okR B.length D.length) && btw cw 0 8
def chkE (cw : Int) (B D : List Pt) (R : List Rep) : Int := if chkB cw B D R = true then 0 else 100
theorem atB_of {B : List Pt} {i : Nat} {p : Pt} (h : B[i]? = some p) : atB B i = p := by
  unfold atB; rw [List.getD_eq_getElem?_getD, h]; rfl
theorem all_false {B : List Pt} {i : Nat} (hi : i < B.length) (h : okAt B i = false) : okB B = false := by
  unfold okB
  rw [List.all_eq_false]
  exact ⟨i, List.mem_range.2 hi, by rw [h]; simp⟩

theorem within67x (n lo hi : Int) (w : World) :
    Calls Tryd.prog 67 #[.int .i64 n, .int .i64 lo, .int .i64 hi] w fun e w' => e = .returned (.bool (btw n lo hi)) ∧ Below w.heap.size w w' :=
  (within67 n lo hi w).mono fun _ _ ⟨h, hw⟩ => ⟨h, hw ▸ Below.refl _ _⟩
set_option maxRecDepth 100000 in
set_option maxHeartbeats 4000000 in
theorem check44 (A0 A1 A2 : Option Addr) (n0 n1 n2 c0 c1 c2 : Nat) (cw : Int) (B D : List Pt) (R : List Rep) (w : World) (hC : RdC w A0 A1 A2 n0 n1 n2 B D R) :
    Calls Tryd.prog 44 #[.agg #[.slice A0 n0 c0, .slice A1 n1 c1, .slice A2 n2 c2, .int .i64 cw]] w fun e w' => e = .returned (.int .i64 (chkE cw B D R)) ∧ Below w.heap.size w w' := by
  have HC := Lib.hid hC
  have l0 := hC.l0
  have l1 := hC.l1
  have l2 := hC.l2
  have HL := Lib.hid hC.h0
  clear hC
  have o0 : Own (w.alloc (.cells #[.slice A0 n0 c0, .slice A1 n1 c1, .slice A2 n2 c2, .int .i64 cw] 26)) w.heap.size [.slice A0 n0 c0, .slice A1 n1 c1, .slice A2 n2 c2, .int .i64 cw] := Own.new' _ _ rfl rfl
  have oB : Below w.heap.size w (w.alloc (.cells #[.slice A0 n0 c0, .slice A1 n1 c1, .slice A2 n2 c2, .int .i64 cw] 26)) := by (repeat' (first | (with_reducible exact Below.refl _ _) | (with_reducible assumption) | (with_reducible refine Below.drew ?_) | (with_reducible refine below_drewN ?_ _) | (with_reducible refine Below.setCell ?_ ?_ _) | (with_reducible refine Below.alloc ?_ ?_ _) | (refine Below.trans ?_ (Below.mono (by with_reducible assumption) ?_)) | omega | (exact Below.size (by with_reducible assumption)) | (simp; done) | (simp; omega)))
  go_enter Tryd.func44, Tryd.ntmps44
  go_wp2
  go_loopw [11] (fun i wr => ∃ k : Nat, k ≤ n0 ∧ i = .int .i64 k ∧ Hid ((List.range k).all (okAt B) = true) ∧ Own wr w.heap.size [.slice A0 n0 c0, .slice A1 n1 c1, .slice A2 n2 c2, .int .i64 cw] ∧ Below w.heap.size w wr) (fun i _ => n0 - (intOf i).toNat)
  case atStart => exact ⟨0, Nat.zero_le _, rfl, by simp [Hid], o0, oB⟩
  case round =>
    clear o0 oB
    obtain ⟨k, hk, rfl, hno, hv, hbw⟩ := hrel
    by_cases hlt : k < n0
    · obtain ⟨g, hg⟩ : ∃ g, Hid (B[k]? = some g) := ⟨B[k]'(by have := HL.out; omega), by simp [Hid]⟩
      have ha := Lib.hid (atB_of hg.out)
      have hkB : Hid (k < B.length) := (List.getElem?_eq_some_iff.1 hg.out).1
      obtain ⟨l0, k0, f0⟩ := hv
      obtain ⟨b, off, rfl, hb, hc0, hc1⟩ := rd_pt (HC.out.below hbw (Nat.le_refl _)).r0 hg.out
      cases h1 : btw g.1 (-200) 200
      · have hE : Hid (chkE cw B D R = 100) := by
          show _ = _
          unfold chkE chkB
          rw [all_false hkB.out (by unfold okAt isPt; rw [ha.out, h1]; rfl)]
          rfl
        go_wp2
        go_quiet ((go_at_call 85; exact quiet_left (isCoord85 _ _)))
        go_wp2
        go_ret
        exact ⟨ret_int hE.out.symm, by (repeat' (first | (with_reducible exact Below.refl _ _) | (with_reducible assumption) | (with_reducible refine Below.drew ?_) | (with_reducible refine below_drewN ?_ _) | (with_reducible refine Below.setCell ?_ ?_ _) | (with_reducible refine Below.alloc ?_ ?_ _) | (refine Below.trans ?_ (Below.mono (by with_reducible assumption) ?_)) | omega | (exact Below.size (by with_reducible assumption)) | (simp; done) | (simp; omega)))⟩
      · cases h2 : btw g.2 (-200) 200
        · have hE : Hid (chkE cw B D R = 100) := by
            show _ = _
            unfold chkE chkB
            rw [all_false hkB.out (by unfold okAt isPt; rw [ha.out, h1, h2]; rfl)]
            rfl
          go_wp2
          go_quiet ((go_at_call 85; exact quiet_left (isCoord85 _ _)))
          go_wp2
          go_ret
          exact ⟨ret_int hE.out.symm, by (repeat' (first | (with_reducible exact Below.refl _ _) | (with_reducible assumption) | (with_reducible refine Below.drew ?_) | (with_reducible refine below_drewN ?_ _) | (with_reducible refine Below.setCell ?_ ?_ _) | (with_reducible refine Below.alloc ?_ ?_ _) | (refine Below.trans ?_ (Below.mono (by with_reducible assumption) ?_)) | omega | (exact Below.size (by with_reducible assumption)) | (simp; done) | (simp; omega)))⟩
        · by_cases hk0 : k = 0
          · have hok : Hid (okAt B k = true) := by show _ = _; unfold okAt isPt; rw [ha.out, h1, h2, hk0]; rfl
            have hk0' := Lib.hid hk0
            clear hk0
            go_wp2
            have hkd : decide (0 < k) = false := by have := hk0'.out; simp; omega
            go_quiet ((go_at_call 85; exact quiet_left (isCoord85 _ _)))
            obtain rfl := hk0'.out
            clear hkd hk0'
            go_wp2
            go_roundw
            case rel =>
              refine ⟨1, by omega, rfl, ?_, by (repeat' (first | (with_reducible assumption) | (with_reducible exact Own.mk (by with_reducible assumption) (by with_reducible assumption) (by with_reducible assumption)) | (with_reducible refine Own.new' _ _ (by first | rfl | (simp; done)) rfl) | (with_reducible refine Own.drew ?_) | (with_reducible refine Own.drewN ?_ _) | (with_reducible refine Own.alloc ?_ _) | (with_reducible refine Own.setOther ?_ ?_ _) | (refine Own.below ?_ (by with_reducible assumption) ?_) | omega | (simp; done) | (simp; omega))), by (repeat' (first | (with_reducible exact Below.refl _ _) | (with_reducible assumption) | (with_reducible refine Below.drew ?_) | (with_reducible refine below_drewN ?_ _) | (with_reducible refine Below.setCell ?_ ?_ _) | (with_reducible refine Below.alloc ?_ ?_ _) | (refine Below.trans ?_ (Below.mono (by with_reducible assumption) ?_)) | omega | (exact Below.size (by with_reducible assumption)) | (simp; done) | (simp; omega)))⟩
              show (List.range (0 + 1)).all _ = true
              rw [List.range_succ, List.all_append, hno.out]
              simp only [List.all_cons, List.all_nil, hok.out, Bool.and_self]
            case measure => simp only [intOf]; omega
          · obtain ⟨g', hg'⟩ : ∃ g, Hid (B[k - 1]? = some g) := ⟨B[k - 1]'(by have := HL.out; omega), by simp [Hid]⟩
            obtain ⟨b', off', hbb, hb', hc0', hc1'⟩ := rd_pt (HC.out.below hbw (Nat.le_refl _)).r0 hg'.out
            obtain ⟨rfl, rfl⟩ : b = b' ∧ off = off' := by simpa using hbb
            clear hbb
            have ha' := Lib.hid (atB_of hg'.out)
            have hkp : decide (0 < k) = true := by simp; omega
            have hkp' : 0 < k := by omega
            by_cases hgg : g = g'
            · subst hgg
              have hE : Hid (chkE cw B D R = 100) := by
                show _ = _
                unfold chkE chkB
                rw [all_false hkB.out (by unfold okAt isPt; rw [ha.out, ha'.out, h1, h2, hkp]; simp)]
                rfl
              go_wp2
              go_quiet ((go_at_call 85; exact quiet_left (isCoord85 _ _)))
              go_wp2
              go_ret
              exact ⟨ret_int hE.out.symm, by (repeat' (first | (with_reducible exact Below.refl _ _) | (with_reducible assumption) | (with_reducible refine Below.drew ?_) | (with_reducible refine below_drewN ?_ _) | (with_reducible refine Below.setCell ?_ ?_ _) | (with_reducible refine Below.alloc ?_ ?_ _) | (refine Below.trans ?_ (Below.mono (by with_reducible assumption) ?_)) | omega | (exact Below.size (by with_reducible assumption)) | (simp; done) | (simp; omega)))⟩
            · have hok : Hid (okAt B k = true) := by show _ = _; unfold okAt isPt; rw [ha.out, ha'.out, h1, h2, hkp, decide_eq_false hgg]; rfl
              have hrun := fun w => eql_pt g g' w
              rw [decide_eq_false hgg] at hrun
              have hsum : IntKind.i64.wrap ((k : Int) - 1) = (k : Int) - 1 := IntWalk.i64_in _ (by omega)
              have hsn : ((k : Int) - 1).toNat = k - 1 := by omega
              have hs0 : (0 : Int) ≤ (k : Int) - 1 := by omega
              have hgg' := Lib.hid hgg
              clear hgg
              go_wp2
              go_quiet ((go_at_call 85; exact quiet_left (isCoord85 _ _)))
              go_wp2
              go_roundw
              case rel =>
                refine ⟨k + 1, by omega, by go_num, ?_, by (repeat' (first | (with_reducible assumption) | (with_reducible exact Own.mk (by with_reducible assumption) (by with_reducible assumption) (by with_reducible assumption)) | (with_reducible refine Own.new' _ _ (by first | rfl | (simp; done)) rfl) | (with_reducible refine Own.drew ?_) | (with_reducible refine Own.drewN ?_ _) | (with_reducible refine Own.alloc ?_ _) | (with_reducible refine Own.setOther ?_ ?_ _) | (refine Own.below ?_ (by with_reducible assumption) ?_) | omega | (simp; done) | (simp; omega))), by (repeat' (first | (with_reducible exact Below.refl _ _) | (with_reducible assumption) | (with_reducible refine Below.drew ?_) | (with_reducible refine below_drewN ?_ _) | (with_reducible refine Below.setCell ?_ ?_ _) | (with_reducible refine Below.alloc ?_ ?_ _) | (refine Below.trans ?_ (Below.mono (by with_reducible assumption) ?_)) | omega | (exact Below.size (by with_reducible assumption)) | (simp; done) | (simp; omega)))⟩
                show (List.range (k + 1)).all _ = true
                rw [List.range_succ, List.all_append, hno.out]
                simp only [List.all_cons, List.all_nil, hok.out, Bool.and_self]
              case measure => simp only [intOf]; omega
    · have hB : Hid (okB B = true) := by show _ = _; unfold okB; rw [← HL.out, show n0 = k by omega]; exact hno.out
      obtain rfl : k = n0 := by omega
      have HV := Lib.hid hv
      obtain ⟨l0, k0, f0⟩ := hv
      have hlz : ¬ ((k : Int) < k) := by omega
      have hC2 := HC.out.below hbw (Nat.le_refl _)
      have r1 := Lib.hid hC2.r1
      have r2 := Lib.hid hC2.r2
      have e1 : Hid (n1 = D.length) := hC2.h1
      have e2 : Hid (n2 = R.length) := hC2.h2
      have ewt := Lib.hid hC2.wt
      have hE : Hid (chkB cw B D R = (btw k 2 12 && decide (n1 ≤ 4) && D.all okD && decide (n2 ≤ 8) && R.all (okR k n1) && btw cw 0 8)) := by
        show _ = _
        unfold chkB
        rw [hB.out, ← HL.out, ← e1.out, ← e2.out]; rfl
      clear hno hC2
      have key : chkE cw B D R = if chkB cw B D R = true then 0 else 100 := rfl
      have KEY := Lib.hid key
      clear key
      cases h1 : btw k 2 12
      · rw [h1] at hE
        have H1 := Lib.hid h1
        clear h1
        go_wp2_with fail
        refine (within67x _ _ _ _).mono ?_
        rw [H1.out]
        rintro e w1 ⟨rfl, hb1⟩
        (have hz1 := hb1.size; (try simp at hz1); have hc1_0 := fun o => (bcell hb1).1 (w.heap.size) o (by first | omega | (simp; done) | (simp; omega)); have hf1_0 := fun o => (bcell hb1).2 (w.heap.size) o (by first | omega | (simp; done) | (simp; omega)); have : w.heap.size < w1.heap.size := (by first | omega | (simp; done) | (simp; omega)); have : w.heap.size < w1.heap.size + 1 := (by first | omega | (simp; done) | (simp; omega)); have : w.heap.size < w1.heap.size + 2 := (by first | omega | (simp; done) | (simp; omega)); have : w.heap.size < w1.heap.size + 3 := (by first | omega | (simp; done) | (simp; omega)))
        go_wp2
        go_ret
        exact ⟨ret_int (by rw [KEY.out, hE.out]; rfl), by (repeat' (first | (with_reducible exact Below.refl _ _) | (with_reducible assumption) | (with_reducible refine Below.drew ?_) | (with_reducible refine below_drewN ?_ _) | (with_reducible refine Below.setCell ?_ ?_ _) | (with_reducible refine Below.alloc ?_ ?_ _) | (refine Below.trans ?_ (Below.mono (by with_reducible assumption) ?_)) | omega | (exact Below.size (by with_reducible assumption)) | (simp; done) | (simp; omega)))⟩
      · rw [h1] at hE
        have H1 := Lib.hid h1
        clear h1
        by_cases h2 : n1 ≤ 4
        · have h2' : Hid (decide (n1 ≤ 4) = true) := decide_eq_true h2
          cases h3 : D.any badD
          · have h3' : Hid (D.all okD = true) := by
              show _ = _
              rw [List.all_eq_true]; intro x hx
              have := List.any_eq_false.1 h3 x hx
              simpa [badD] using this
            have H3 := Lib.hid h3
            clear h3
            by_cases h4 : n2 ≤ 8
            · have h4' : Hid (decide (n2 ≤ 8) = true) := decide_eq_true h4
              cases h5 : R.any (badR k n1)
              · have h5' : Hid (R.all (okR k n1) = true) := by
                  show _ = _
                  rw [List.all_eq_true]; intro x hx
                  have := List.any_eq_false.1 h5 x hx
                  simpa [badR] using this
                have H5 := Lib.hid h5
                clear h5
                rw [h2'.out, h3'.out, h4'.out, h5'.out] at hE
                cases h6 : btw cw 0 8
                all_goals
                  rw [h6] at hE
                  have H6 := Lib.hid h6
                  clear h6
                  go_wp2_with fail
                  refine (within67x _ _ _ _).mono ?_
                  rw [H1.out]
                  rintro e w1 ⟨rfl, hb1⟩
                  (have hz1 := hb1.size; (try simp at hz1); have hc1_0 := fun o => (bcell hb1).1 (w.heap.size) o (by first | omega | (simp; done) | (simp; omega)); have hf1_0 := fun o => (bcell hb1).2 (w.heap.size) o (by first | omega | (simp; done) | (simp; omega)); have : w.heap.size < w1.heap.size := (by first | omega | (simp; done) | (simp; omega)); have : w.heap.size < w1.heap.size + 1 := (by first | omega | (simp; done) | (simp; omega)); have : w.heap.size < w1.heap.size + 2 := (by first | omega | (simp; done) | (simp; omega)); have : w.heap.size < w1.heap.size + 3 := (by first | omega | (simp; done) | (simp; omega)))
                  go_wp2_with fail
                  refine (contains86 _ D _ _ _ (r1.out.below hb1 (Nat.le_refl _)) e1 l1).mono ?_
                  rw [H3.out]
                  rintro e w2 ⟨rfl, hb2⟩
                  (have hz2 := hb2.size; (try simp at hz2); have hc2_0 := fun o => (bcell hb2).1 (w.heap.size) o (by first | omega | (simp; done) | (simp; omega)); have hf2_0 := fun o => (bcell hb2).2 (w.heap.size) o (by first | omega | (simp; done) | (simp; omega)); have : w.heap.size < w2.heap.size := (by first | omega | (simp; done) | (simp; omega)); have : w.heap.size < w2.heap.size + 1 := (by first | omega | (simp; done) | (simp; omega)); have : w.heap.size < w2.heap.size + 2 := (by first | omega | (simp; done) | (simp; omega)); have : w.heap.size < w2.heap.size + 3 := (by first | omega | (simp; done) | (simp; omega)))
                  go_wp2_with fail
                  refine (contains87 w.heap.size _ R _ _ A0 A1 A2 k n1 n2 c0 c1 c2 cw _ ((r2.out.below hb1 (Nat.le_refl _)).below hb2 (Nat.le_refl _)) e2 l2 ((HV.out.below hb1 HV.out.lt).below hb2 (HV.out.below hb1 HV.out.lt).lt) (by omega) l1 ewt).mono ?_
                  rw [H5.out]
                  rintro e w3 ⟨rfl, hb3⟩
                  (have hz3 := hb3.size; (try simp at hz3); have hc3_0 := fun o => (bcell hb3).1 (w.heap.size) o (by first | omega | (simp; done) | (simp; omega)); have hf3_0 := fun o => (bcell hb3).2 (w.heap.size) o (by first | omega | (simp; done) | (simp; omega)); have : w.heap.size < w3.heap.size := (by first | omega | (simp; done) | (simp; omega)); have : w.heap.size < w3.heap.size + 1 := (by first | omega | (simp; done) | (simp; omega)); have : w.heap.size < w3.heap.size + 2 := (by first | omega | (simp; done) | (simp; omega)); have : w.heap.size < w3.heap.size + 3 := (by first | omega | (simp; done) | (simp; omega)))
                  go_wp2_with (first | (go_at_call 67; refine (within67 _ _ _ _).mono ?_; rw [H6.out]; rintro e w1 ⟨rfl, rfl⟩))
                  go_ret
                  exact ⟨ret_int (by rw [KEY.out, hE.out]; rfl), by (repeat' (first | (with_reducible exact Below.refl _ _) | (with_reducible assumption) | (with_reducible refine Below.drew ?_) | (with_reducible refine below_drewN ?_ _) | (with_reducible refine Below.setCell ?_ ?_ _) | (with_reducible refine Below.alloc ?_ ?_ _) | (refine Below.trans ?_ (Below.mono (by with_reducible assumption) ?_)) | omega | (exact Below.size (by with_reducible assumption)) | (simp; done) | (simp; omega)))⟩
              · have h5' : Hid (R.all (okR k n1) = false) := by
                  show _ = _
                  obtain ⟨x, hx, h⟩ := List.any_eq_true.1 h5
                  rw [List.all_eq_false]
                  exact ⟨x, hx, by simpa [badR] using h⟩
                have H5 := Lib.hid h5
                clear h5
                rw [h2'.out, h3'.out, h4'.out, h5'.out] at hE
                go_wp2_with fail
                refine (within67x _ _ _ _).mono ?_
                rw [H1.out]
                rintro e w1 ⟨rfl, hb1⟩
                (have hz1 := hb1.size; (try simp at hz1); have hc1_0 := fun o => (bcell hb1).1 (w.heap.size) o (by first | omega | (simp; done) | (simp; omega)); have hf1_0 := fun o => (bcell hb1).2 (w.heap.size) o (by first | omega | (simp; done) | (simp; omega)); have : w.heap.size < w1.heap.size := (by first | omega | (simp; done) | (simp; omega)); have : w.heap.size < w1.heap.size + 1 := (by first | omega | (simp; done) | (simp; omega)); have : w.heap.size < w1.heap.size + 2 := (by first | omega | (simp; done) | (simp; omega)); have : w.heap.size < w1.heap.size + 3 := (by first | omega | (simp; done) | (simp; omega)))
                go_wp2_with fail
                refine (contains86 _ D _ _ _ (r1.out.below hb1 (Nat.le_refl _)) e1 l1).mono ?_
                rw [H3.out]
                rintro e w2 ⟨rfl, hb2⟩
                (have hz2 := hb2.size; (try simp at hz2); have hc2_0 := fun o => (bcell hb2).1 (w.heap.size) o (by first | omega | (simp; done) | (simp; omega)); have hf2_0 := fun o => (bcell hb2).2 (w.heap.size) o (by first | omega | (simp; done) | (simp; omega)); have : w.heap.size < w2.heap.size := (by first | omega | (simp; done) | (simp; omega)); have : w.heap.size < w2.heap.size + 1 := (by first | omega | (simp; done) | (simp; omega)); have : w.heap.size < w2.heap.size + 2 := (by first | omega | (simp; done) | (simp; omega)); have : w.heap.size < w2.heap.size + 3 := (by first | omega | (simp; done) | (simp; omega)))
                go_wp2_with fail
                refine (contains87 w.heap.size _ R _ _ A0 A1 A2 k n1 n2 c0 c1 c2 cw _ ((r2.out.below hb1 (Nat.le_refl _)).below hb2 (Nat.le_refl _)) e2 l2 ((HV.out.below hb1 HV.out.lt).below hb2 (HV.out.below hb1 HV.out.lt).lt) (by omega) l1 ewt).mono ?_
                rw [H5.out]
                rintro e w3 ⟨rfl, hb3⟩
                (have hz3 := hb3.size; (try simp at hz3); have hc3_0 := fun o => (bcell hb3).1 (w.heap.size) o (by first | omega | (simp; done) | (simp; omega)); have hf3_0 := fun o => (bcell hb3).2 (w.heap.size) o (by first | omega | (simp; done) | (simp; omega)); have : w.heap.size < w3.heap.size := (by first | omega | (simp; done) | (simp; omega)); have : w.heap.size < w3.heap.size + 1 := (by first | omega | (simp; done) | (simp; omega)); have : w.heap.size < w3.heap.size + 2 := (by first | omega | (simp; done) | (simp; omega)); have : w.heap.size < w3.heap.size + 3 := (by first | omega | (simp; done) | (simp; omega)))
                go_wp2
                go_ret
                exact ⟨ret_int (by rw [KEY.out, hE.out]; rfl), by (repeat' (first | (with_reducible exact Below.refl _ _) | (with_reducible assumption) | (with_reducible refine Below.drew ?_) | (with_reducible refine below_drewN ?_ _) | (with_reducible refine Below.setCell ?_ ?_ _) | (with_reducible refine Below.alloc ?_ ?_ _) | (refine Below.trans ?_ (Below.mono (by with_reducible assumption) ?_)) | omega | (exact Below.size (by with_reducible assumption)) | (simp; done) | (simp; omega)))⟩
            · have h4' : Hid (decide (n2 ≤ 8) = false) := decide_eq_false h4
              rw [h2'.out, h3'.out, h4'.out] at hE
              go_wp2_with fail
              refine (within67x _ _ _ _).mono ?_
              rw [H1.out]
              rintro e w1 ⟨rfl, hb1⟩
              (have hz1 := hb1.size; (try simp at hz1); have hc1_0 := fun o => (bcell hb1).1 (w.heap.size) o (by first | omega | (simp; done) | (simp; omega)); have hf1_0 := fun o => (bcell hb1).2 (w.heap.size) o (by first | omega | (simp; done) | (simp; omega)); have : w.heap.size < w1.heap.size := (by first | omega | (simp; done) | (simp; omega)); have : w.heap.size < w1.heap.size + 1 := (by first | omega | (simp; done) | (simp; omega)); have : w.heap.size < w1.heap.size + 2 := (by first | omega | (simp; done) | (simp; omega)); have : w.heap.size < w1.heap.size + 3 := (by first | omega | (simp; done) | (simp; omega)))
              go_wp2_with fail
              refine (contains86 _ D _ _ _ (r1.out.below hb1 (Nat.le_refl _)) e1 l1).mono ?_
              rw [H3.out]
              rintro e w2 ⟨rfl, hb2⟩
              (have hz2 := hb2.size; (try simp at hz2); have hc2_0 := fun o => (bcell hb2).1 (w.heap.size) o (by first | omega | (simp; done) | (simp; omega)); have hf2_0 := fun o => (bcell hb2).2 (w.heap.size) o (by first | omega | (simp; done) | (simp; omega)); have : w.heap.size < w2.heap.size := (by first | omega | (simp; done) | (simp; omega)); have : w.heap.size < w2.heap.size + 1 := (by first | omega | (simp; done) | (simp; omega)); have : w.heap.size < w2.heap.size + 2 := (by first | omega | (simp; done) | (simp; omega)); have : w.heap.size < w2.heap.size + 3 := (by first | omega | (simp; done) | (simp; omega)))
              go_wp2
              go_ret
              exact ⟨ret_int (by rw [KEY.out, hE.out]; rfl), by (repeat' (first | (with_reducible exact Below.refl _ _) | (with_reducible assumption) | (with_reducible refine Below.drew ?_) | (with_reducible refine below_drewN ?_ _) | (with_reducible refine Below.setCell ?_ ?_ _) | (with_reducible refine Below.alloc ?_ ?_ _) | (refine Below.trans ?_ (Below.mono (by with_reducible assumption) ?_)) | omega | (exact Below.size (by with_reducible assumption)) | (simp; done) | (simp; omega)))⟩
          · have h3' : Hid (D.all okD = false) := by
              show _ = _
              obtain ⟨x, hx, h⟩ := List.any_eq_true.1 h3
              rw [List.all_eq_false]
              exact ⟨x, hx, by simpa [badD] using h⟩
            have H3 := Lib.hid h3
            clear h3
            rw [h2'.out, h3'.out] at hE
            go_wp2_with fail
            refine (within67x _ _ _ _).mono ?_
            rw [H1.out]
            rintro e w1 ⟨rfl, hb1⟩
            (have hz1 := hb1.size; (try simp at hz1); have hc1_0 := fun o => (bcell hb1).1 (w.heap.size) o (by first | omega | (simp; done) | (simp; omega)); have hf1_0 := fun o => (bcell hb1).2 (w.heap.size) o (by first | omega | (simp; done) | (simp; omega)); have : w.heap.size < w1.heap.size := (by first | omega | (simp; done) | (simp; omega)); have : w.heap.size < w1.heap.size + 1 := (by first | omega | (simp; done) | (simp; omega)); have : w.heap.size < w1.heap.size + 2 := (by first | omega | (simp; done) | (simp; omega)); have : w.heap.size < w1.heap.size + 3 := (by first | omega | (simp; done) | (simp; omega)))
            go_wp2_with fail
            refine (contains86 _ D _ _ _ (r1.out.below hb1 (Nat.le_refl _)) e1 l1).mono ?_
            rw [H3.out]
            rintro e w2 ⟨rfl, hb2⟩
            (have hz2 := hb2.size; (try simp at hz2); have hc2_0 := fun o => (bcell hb2).1 (w.heap.size) o (by first | omega | (simp; done) | (simp; omega)); have hf2_0 := fun o => (bcell hb2).2 (w.heap.size) o (by first | omega | (simp; done) | (simp; omega)); have : w.heap.size < w2.heap.size := (by first | omega | (simp; done) | (simp; omega)); have : w.heap.size < w2.heap.size + 1 := (by first | omega | (simp; done) | (simp; omega)); have : w.heap.size < w2.heap.size + 2 := (by first | omega | (simp; done) | (simp; omega)); have : w.heap.size < w2.heap.size + 3 := (by first | omega | (simp; done) | (simp; omega)))
            go_wp2
            go_ret
            exact ⟨ret_int (by rw [KEY.out, hE.out]; rfl), by (repeat' (first | (with_reducible exact Below.refl _ _) | (with_reducible assumption) | (with_reducible refine Below.drew ?_) | (with_reducible refine below_drewN ?_ _) | (with_reducible refine Below.setCell ?_ ?_ _) | (with_reducible refine Below.alloc ?_ ?_ _) | (refine Below.trans ?_ (Below.mono (by with_reducible assumption) ?_)) | omega | (exact Below.size (by with_reducible assumption)) | (simp; done) | (simp; omega)))⟩
        · have h2' : Hid (decide (n1 ≤ 4) = false) := decide_eq_false h2
          rw [h2'.out] at hE
          go_wp2_with fail
          refine (within67x _ _ _ _).mono ?_
          rw [H1.out]
          rintro e w1 ⟨rfl, hb1⟩
          (have hz1 := hb1.size; (try simp at hz1); have hc1_0 := fun o => (bcell hb1).1 (w.heap.size) o (by first | omega | (simp; done) | (simp; omega)); have hf1_0 := fun o => (bcell hb1).2 (w.heap.size) o (by first | omega | (simp; done) | (simp; omega)); have : w.heap.size < w1.heap.size := (by first | omega | (simp; done) | (simp; omega)); have : w.heap.size < w1.heap.size + 1 := (by first | omega | (simp; done) | (simp; omega)); have : w.heap.size < w1.heap.size + 2 := (by first | omega | (simp; done) | (simp; omega)); have : w.heap.size < w1.heap.size + 3 := (by first | omega | (simp; done) | (simp; omega)))
          go_wp2
          go_ret
          exact ⟨ret_int (by rw [KEY.out, hE.out]; rfl), by (repeat' (first | (with_reducible exact Below.refl _ _) | (with_reducible assumption) | (with_reducible refine Below.drew ?_) | (with_reducible refine below_drewN ?_ _) | (with_reducible refine Below.setCell ?_ ?_ _) | (with_reducible refine Below.alloc ?_ ?_ _) | (refine Below.trans ?_ (Below.mono (by with_reducible assumption) ?_)) | omega | (exact Below.size (by with_reducible assumption)) | (simp; done) | (simp; omega)))⟩

end Go.Proofs.YtibkgnnpmidgfaaDoor
