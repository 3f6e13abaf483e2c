/- Walks: ask, length of the program. -/
import Derived.Test.YtibkgnnpmidgfaaDoorCe
import Derived.Test.YtibkgnnpmidgfaaDoorCf
import Derived.Deep.RegionHeld3
namespace Go.Proofs.YtibkgnnpmidgfaaDoor
open Go.RowKit

/-- What a valid coast gives. -/
structure Val (cw : Int) (B D : List Pt) (R : List Rep) : Prop where
  b1 : 2 ≤ B.length
  b2 : B.length ≤ 12
  pts : ptsB B
  d : D.length ≤ 4
  ds : ∀ s ∈ D, 1 ≤ s.1 ∧ s.1 ≤ s.2 ∧ s.2 ≤ 60
  r : R.length ≤ 8
  rs : ∀ r ∈ R, 0 ≤ r.d ∧ r.d < D.length ∧ 0 ≤ r.f ∧ r.f < r.t ∧ r.t < B.length ∧ 1 ≤ r.s ∧ r.s ≤ 12
  w1 : 0 ≤ cw
  w2 : cw ≤ 8
theorem val_of {cw : Int} {B D : List Pt} {R : List Rep} (h : chkB cw B D R = true) : Val cw B D R := by
  unfold chkB at h
  simp only [Bool.and_eq_true, decide_eq_true_eq, List.all_eq_true, btw_iff] at h
  obtain ⟨⟨⟨⟨⟨⟨h1, h2⟩, h3⟩, h4⟩, h5⟩, h6⟩, h7⟩ := h
  refine ⟨by omega, by omega, fun i p hp => ?_, h3, fun s hs => ?_, h5, fun r hr => ?_, by omega, by omega⟩
  · unfold okB at h1
    have hi := (List.getElem?_eq_some_iff.1 hp).1
    have := List.all_eq_true.1 h1 i (List.mem_range.2 hi)
    unfold okAt isPt at this
    rw [atB_of hp] at this
    simp only [Bool.and_eq_true, btw_iff] at this
    omega
  · have := h4 s hs
    simp only [okD, Bool.and_eq_true, btw_iff] at this
    omega
  · have := h6 r hr
    simp only [okR, Bool.and_eq_true, btw_iff, plB_iff] at this
    omega

def askE (cw : Int) (B D : List Pt) (R : List Rep) (v : Bool) : Int := if chkE cw B D R ≠ 0 then 100 else if v = true then 0 else 1
theorem chkE_cases (cw : Int) (B D : List Pt) (R : List Rep) : chkE cw B D R = 0 ∨ chkE cw B D R = 100 := by unfold chkE; split <;> simp
theorem chk_ok {cw : Int} {B D : List Pt} {R : List Rep} (h : chkE cw B D R = 0) : chkB cw B D R = true := by unfold chkE at h; split at h <;> simp_all
theorem ask_bad {cw : Int} {B D : List Pt} {R : List Rep} {v : Bool} (h : chkE cw B D R = 100) : askE cw B D R v = 100 := by unfold askE; rw [h]; rfl
theorem ask_ok {cw : Int} {B D : List Pt} {R : List Rep} {v : Bool} (h : chkE cw B D R = 0) : askE cw B D R v = if v = true then 0 else 1 := by unfold askE; rw [h]; rfl

set_option maxHeartbeats 1000000 in
theorem ask61 (A0 A1 A2 : Option Addr) (n0 n1 n2 c0 c1 c2 : Nat) (cw : Int) (v : Bool) (B D : List Pt) (R : List Rep) (w : World) (hC : RdC w A0 A1 A2 n0 n1 n2 B D R) :
    Calls Tryd.prog 61 #[.agg #[.slice A0 n0 c0, .slice A1 n1 c1, .slice A2 n2 c2, .int .i64 cw], .bool v] w fun e w' => e = .returned (.int .i64 (askE cw B D R v)) ∧ Below w.heap.size w w' := by
  have HC := Lib.hid hC
  clear hC
  rcases chkE_cases cw B D R with h | h
  · have hE := ask_ok (v := v) h
    have HE := Lib.hid hE
    have H := Lib.hid h
    clear hE h
    go_enter Tryd.func61, Tryd.ntmps61
    go_wp2_with fail
    refine (check44 A0 A1 A2 n0 n1 n2 c0 c1 c2 cw B D R _ (HC.out.below (b := w.heap.size) (by (repeat' (first | (with_reducible exact Below.refl _ _) | (with_reducible assumption) | (with_reducible refine Below.drew ?_) | (with_reducible refine below_drewN ?_ _) | (with_reducible refine Below.setCell ?_ ?_ _) | (with_reducible refine Below.alloc ?_ ?_ _) | (refine Below.trans ?_ (Below.mono (by with_reducible assumption) ?_)) | omega | (exact Below.size (by with_reducible assumption)) | (simp; done) | (simp; omega)))) (Nat.le_refl _))).mono ?_
    rw [H.out]
    rintro e w1 ⟨rfl, hb1⟩
    (have hz1 := hb1.size; (try simp at hz1); have hc1_0 := fun o => (bcell hb1).1 (w.heap.size) o (by first | omega | (simp; done) | (simp; omega)); have hf1_0 := fun o => (bcell hb1).2 (w.heap.size) o (by first | omega | (simp; done) | (simp; omega)); have : w.heap.size < w1.heap.size := (by first | omega | (simp; done) | (simp; omega)); have : w.heap.size < w1.heap.size + 1 := (by first | omega | (simp; done) | (simp; omega)); have : w.heap.size < w1.heap.size + 2 := (by first | omega | (simp; done) | (simp; omega)); have : w.heap.size < w1.heap.size + 3 := (by first | omega | (simp; done) | (simp; omega)))
    cases v
    all_goals
      go_wp2
      go_ret
      exact ⟨ret_int HE.out.symm, by (repeat' (first | (with_reducible exact Below.refl _ _) | (with_reducible assumption) | (with_reducible refine Below.drew ?_) | (with_reducible refine below_drewN ?_ _) | (with_reducible refine Below.setCell ?_ ?_ _) | (with_reducible refine Below.alloc ?_ ?_ _) | (refine Below.trans ?_ (Below.mono (by with_reducible assumption) ?_)) | omega | (exact Below.size (by with_reducible assumption)) | (simp; done) | (simp; omega)))⟩
  · have hE := ask_bad (v := v) h
    have HE := Lib.hid hE
    have H := Lib.hid h
    clear hE h
    go_enter Tryd.func61, Tryd.ntmps61
    go_wp2_with fail
    refine (check44 A0 A1 A2 n0 n1 n2 c0 c1 c2 cw B D R _ (HC.out.below (b := w.heap.size) (by (repeat' (first | (with_reducible exact Below.refl _ _) | (with_reducible assumption) | (with_reducible refine Below.drew ?_) | (with_reducible refine below_drewN ?_ _) | (with_reducible refine Below.setCell ?_ ?_ _) | (with_reducible refine Below.alloc ?_ ?_ _) | (refine Below.trans ?_ (Below.mono (by with_reducible assumption) ?_)) | omega | (exact Below.size (by with_reducible assumption)) | (simp; done) | (simp; omega)))) (Nat.le_refl _))).mono ?_
    rw [H.out]
    rintro e w1 ⟨rfl, hb1⟩
    (have hz1 := hb1.size; (try simp at hz1); have hc1_0 := fun o => (bcell hb1).1 (w.heap.size) o (by first | omega | (simp; done) | (simp; omega)); have hf1_0 := fun o => (bcell hb1).2 (w.heap.size) o (by first | omega | (simp; done) | (simp; omega)); have : w.heap.size < w1.heap.size := (by first | omega | (simp; done) | (simp; omega)); have : w.heap.size < w1.heap.size + 1 := (by first | omega | (simp; done) | (simp; omega)); have : w.heap.size < w1.heap.size + 2 := (by first | omega | (simp; done) | (simp; omega)); have : w.heap.size < w1.heap.size + 3 := (by first | omega | (simp; done) | (simp; omega)))
    go_wp2
    go_ret
    exact ⟨ret_int HE.out.symm, by (repeat' (first | (with_reducible exact Below.refl _ _) | (with_reducible assumption) | (with_reducible refine Below.drew ?_) | (with_reducible refine below_drewN ?_ _) | (with_reducible refine Below.setCell ?_ ?_ _) | (with_reducible refine Below.alloc ?_ ?_ _) | (refine Below.trans ?_ (Below.mono (by with_reducible assumption) ?_)) | omega | (exact Below.size (by with_reducible assumption)) | (simp; done) | (simp; omega)))⟩

theorem masks_uv (B : List Pt) (o : Int) (f n t : Nat) (h : t < n) : ((masks B o f n).map uv)[t]? = some (.int .u64 (mk B o f t)) := by
  have hl : t < (masks B o f n).length := by rw [masks_len]; exact h
  rw [List.getElem?_map, List.getElem?_eq_getElem hl, ← masks_get B o f n t h, List.getD_eq_getElem?_getD, List.getElem?_eq_getElem hl]; rfl
theorem mk_lt13 (B : List Pt) (o : Int) (f t : Nat) (h : t < 12) : mk B o f t < 8192 := by
  have := mk_lt B o f t
  have h2 : 2 ^ (t + 1) ≤ 2 ^ 13 := Nat.pow_le_pow_right (by decide) (by omega)
  omega

set_option maxRecDepth 100000 in
set_option maxHeartbeats 2000000 in
theorem length74 (A0 A1 A2 : Option Addr) (n0 n1 n2 c0 c1 c2 : Nat) (cw : Int) (B D : List Pt) (R : List Rep) (o : Int) (w : World) (hC : RdC w A0 A1 A2 n0 n1 n2 B D R) (hT : Tab w) (hV : Hid (Val cw B D R)) (ho : 1 ≤ o ∧ o ≤ 60) :
    Calls Tryd.prog 74 #[.agg #[.slice A0 n0 c0, .slice A1 n1 c1, .slice A2 n2 c2, .int .i64 cw], .int .i64 o] w fun e w' => e = .returned (.int .i64 (o * lowN (mk B o 0 (n0 - 1)))) ∧ Below w.heap.size w w' := by
  have HC := Lib.hid hC
  have HT := Lib.hid hT
  have hn : n0 ≤ 12 := by have := hV.out.b2; have := hC.h0; omega
  have hn2 : 2 ≤ n0 := by have := hV.out.b1; have := hC.h0; omega
  clear hC hT
  have hm := mk_lt13 B o 0 (n0 - 1) (by omega)
  have hl := lowN_le hm
  have o0 : Own (w.alloc (.cells #[.slice A0 n0 c0, .slice A1 n1 c1, .slice A2 n2 c2, .int .i64 cw] 26)) w.heap.size [.slice A0 n0 c0, .slice A1 n1 c1, .slice A2 n2 c2, .int .i64 cw] := Own.new' _ _ rfl rfl
  have oB : Below w.heap.size w (w.alloc (.cells #[.slice A0 n0 c0, .slice A1 n1 c1, .slice A2 n2 c2, .int .i64 cw] 26)) := by (repeat' (first | (with_reducible exact Below.refl _ _) | (with_reducible assumption) | (with_reducible refine Below.drew ?_) | (with_reducible refine below_drewN ?_ _) | (with_reducible refine Below.setCell ?_ ?_ _) | (with_reducible refine Below.alloc ?_ ?_ _) | (refine Below.trans ?_ (Below.mono (by with_reducible assumption) ?_)) | omega | (exact Below.size (by with_reducible assumption)) | (simp; done) | (simp; omega)))
  have hsum : IntKind.i64.wrap ((n0 : Int) - 1) = (n0 : Int) - 1 := IntWalk.i64_in _ (by omega)
  have hs0 : (0 : Int) ≤ (n0 : Int) - 1 := by omega
  have hs1 : (n0 : Int) - 1 < n0 := by omega
  have hidx : ((n0 : Int) - 1).toNat = n0 - 1 := by omega
  have hmul : 0 ≤ o * lowN (mk B o 0 (n0 - 1)) ∧ o * lowN (mk B o 0 (n0 - 1)) ≤ 60 * 12 :=
    ⟨Int.mul_nonneg (by omega) (by omega), Int.mul_le_mul (by omega) (by omega) (by omega) (by omega)⟩
  have hwr : IntKind.i64.wrap (o * lowN (mk B o 0 (n0 - 1))) = o * lowN (mk B o 0 (n0 - 1)) := IntWalk.i64_in _ (by omega)
  go_enter Tryd.func74, Tryd.ntmps74
  go_wp2
  go_region_with ((first | (go_at_call 65; refine (counts65 A0 A1 A2 n0 n1 n2 c0 c1 c2 cw B D R o 0 _ (HC.out.below (b := w.heap.size) (by (repeat' (first | (with_reducible exact Below.refl _ _) | (with_reducible assumption) | (with_reducible refine Below.drew ?_) | (with_reducible refine below_drewN ?_ _) | (with_reducible refine Below.setCell ?_ ?_ _) | (with_reducible refine Below.alloc ?_ ?_ _) | (refine Below.trans ?_ (Below.mono (by with_reducible assumption) ?_)) | omega | (exact Below.size (by with_reducible assumption)) | (simp; done) | (simp; omega)))) (Nat.le_refl _)) hV.out.pts (by omega) hn (by omega)).mono ?_; rintro e w1 ⟨b, cap, hge, rfl, ho1, hb1⟩; have k1 := (ho1.c (n0 - 1)).trans (masks_uv B o 0 n0 (n0 - 1) (by omega)); have hc1 := fun i => (bcell hb1).1 w.heap.size i (by first | omega | (simp; done) | (simp; omega))) | (go_at_call 66; refine (least66 _ _ hm (HT.out.below (b := w.heap.size) (by (repeat' (first | (with_reducible exact Below.refl _ _) | (with_reducible assumption) | (with_reducible refine Below.drew ?_) | (with_reducible refine below_drewN ?_ _) | (with_reducible refine Below.setCell ?_ ?_ _) | (with_reducible refine Below.alloc ?_ ?_ _) | (refine Below.trans ?_ (Below.mono (by with_reducible assumption) ?_)) | omega | (exact Below.size (by with_reducible assumption)) | (simp; done) | (simp; omega)))) (Nat.le_refl _))).mono ?_; rintro e w2 ⟨rfl, rfl⟩)))
  all_goals
    go_wp2
    go_ret
    refine ⟨?_, by (repeat' (first | (with_reducible exact Below.refl _ _) | (with_reducible assumption) | (with_reducible refine Below.drew ?_) | (with_reducible refine below_drewN ?_ _) | (with_reducible refine Below.setCell ?_ ?_ _) | (with_reducible refine Below.alloc ?_ ?_ _) | (refine Below.trans ?_ (Below.mono (by with_reducible assumption) ?_)) | omega | (exact Below.size (by with_reducible assumption)) | (simp; done) | (simp; omega)))⟩
    first | rfl | (simp [Act.put]; done) | (go_frame; done)

end Go.Proofs.YtibkgnnpmidgfaaDoor
