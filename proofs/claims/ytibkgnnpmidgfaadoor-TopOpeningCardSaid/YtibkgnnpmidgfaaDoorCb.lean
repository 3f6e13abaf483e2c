/- Walks: is a coast valid? (the program) -/
import Derived.Test.YtibkgnnpmidgfaaDoorCa
namespace Go.Proofs.YtibkgnnpmidgfaaDoor
open Go.RowKit

def okD (s : Pt) : Bool := btw s.1 1 s.2 && btw s.2 1 60
def badD (s : Pt) : Bool := !okD s
def okR (n0 n1 : Nat) (r : Rep) : Bool := btw r.d 0 ((n1 : Int) - 1) && plB n0 r.f r.t && btw r.s 1 12
def badR (n0 n1 : Nat) (r : Rep) : Bool := !okR n0 n1 r
theorem badD_1 {s : Pt} (h : btw s.1 1 s.2 = false) : badD s = true := by simp [badD, okD, h]
theorem badD_2 {s : Pt} (h : btw s.1 1 s.2 = true) : badD s = !btw s.2 1 60 := by simp [badD, okD, h]
theorem badR_1 {n0 n1 : Nat} {r : Rep} (h : btw r.d 0 ((n1 : Int) - 1) = false) : badR n0 n1 r = true := by simp [badR, okR, h]
theorem badR_2 {n0 n1 : Nat} {r : Rep} (h : btw r.d 0 ((n1 : Int) - 1) = true) (h2 : plB n0 r.f r.t = false) : badR n0 n1 r = true := by simp [badR, okR, h, h2]
theorem badR_3 {n0 n1 : Nat} {r : Rep} (h : btw r.d 0 ((n1 : Int) - 1) = true) (h2 : plB n0 r.f r.t = true) : badR n0 n1 r = !btw r.s 1 12 := by simp [badR, okR, h, h2]

set_option maxHeartbeats 1000000 in
theorem badDivider83 (a b : Int) (w : World) :
    Calls Tryd.prog 83 #[.agg #[.int .i64 a, .int .i64 b]] w fun e w' => e = .returned (.bool (badD (a, b))) ∧ Below w.heap.size w w' := by
  cases h1 : btw a 1 b
  · rw [badD_1 (s := (a, b)) h1]
    have H := Lib.hid h1
    clear h1
    go_enter Tryd.func83, Tryd.ntmps83
    go_wp2_with fail
    refine (within67 _ _ _ _).mono ?_
    rw [H.out]
    rintro e w1 ⟨rfl, rfl⟩
    go_wp2
    go_ret
    exact ⟨rfl, by (repeat' (first | (with_reducible exact Below.refl _ _) | (with_reducible assumption) | (with_reducible refine Below.drew ?_) | (with_reducible refine below_drewN ?_ _) | (with_reducible refine Below.setCell ?_ ?_ _) | (with_reducible refine Below.alloc ?_ ?_ _) | (refine Below.trans ?_ (Below.mono (by with_reducible assumption) ?_)) | omega | (exact Below.size (by with_reducible assumption)) | (simp; done) | (simp; omega)))⟩
  · rw [badD_2 (s := (a, b)) h1]
    have H := Lib.hid h1
    clear h1
    go_enter Tryd.func83, Tryd.ntmps83
    go_wp2_with fail
    refine (within67 _ _ _ _).mono ?_
    rw [H.out]
    rintro e w1 ⟨rfl, rfl⟩
    go_wp2_with (first | (go_at_call 64; refine (isOpening64 _ _).mono ?_; rintro e w1 ⟨rfl, rfl⟩))
    go_ret
    exact ⟨rfl, by (repeat' (first | (with_reducible exact Below.refl _ _) | (with_reducible assumption) | (with_reducible refine Below.drew ?_) | (with_reducible refine below_drewN ?_ _) | (with_reducible refine Below.setCell ?_ ?_ _) | (with_reducible refine Below.alloc ?_ ?_ _) | (refine Below.trans ?_ (Below.mono (by with_reducible assumption) ?_)) | omega | (exact Below.size (by with_reducible assumption)) | (simp; done) | (simp; omega)))⟩

set_option maxHeartbeats 1000000 in
theorem badReport84 (d f t s : Int) (bv : Nat) (A0 A1 A2 : Option Addr) (n0 n1 n2 c0 c1 c2 : Nat) (cw : Int) (w : World) (hv : Own w bv [.slice A0 n0 c0, .slice A1 n1 c1, .slice A2 n2 c2, .int .i64 cw]) (hn0 : n0 ≤ 140737488355328) (hn1 : n1 ≤ 140737488355328) (ht1 : -9223372036854775808 ≤ t) (ht2 : t ≤ 9223372036854775807) :
    Calls Tryd.prog 84 #[.agg #[.int .i64 d, .int .i64 f, .int .i64 t, .int .i64 s], .pointer (some ⟨bv, 0, none⟩)] w fun e w' => e = .returned (.bool (badR n0 n1 ⟨d, f, t, s⟩)) ∧ Below w.heap.size w w' := by
  obtain ⟨l0, k0, f0⟩ := hv
  cases h1 : btw d 0 ((n1 : Int) - 1)
  · rw [badR_1 (r := ⟨d, f, t, s⟩) h1]
    have H := Lib.hid h1
    clear h1
    go_enter Tryd.func84, Tryd.ntmps84
    go_wp2_with fail
    refine (isDivider71 _ _ _ _ _ _ _ _ _ _ _ _ hn1).mono ?_
    rw [H.out]
    rintro e w1 ⟨rfl, hb1⟩
    (have hz1 := hb1.size; (try simp at hz1); have hc1_0 := fun o => (bcell hb1).1 (bv) o (by first | omega | (simp; done) | (simp; omega)); have hf1_0 := fun o => (bcell hb1).2 (bv) o (by first | omega | (simp; done) | (simp; omega)); have : bv < w1.heap.size := (by first | omega | (simp; done) | (simp; omega)); have : bv < w1.heap.size + 1 := (by first | omega | (simp; done) | (simp; omega)); have : bv < w1.heap.size + 2 := (by first | omega | (simp; done) | (simp; omega)); have : bv < w1.heap.size + 3 := (by first | omega | (simp; done) | (simp; omega)); have hc1_1 := fun o => (bcell hb1).1 (w.heap.size) o (by first | omega | (simp; done) | (simp; omega)); have hf1_1 := fun o => (bcell hb1).2 (w.heap.size) o (by first | omega | (simp; done) | (simp; omega)); have : w.heap.size < w1.heap.size := (by first | omega | (simp; done) | (simp; omega)); have : w.heap.size < w1.heap.size + 1 := (by first | omega | (simp; done) | (simp; omega)); have : w.heap.size < w1.heap.size + 2 := (by first | omega | (simp; done) | (simp; omega)); have : w.heap.size < w1.heap.size + 3 := (by first | omega | (simp; done) | (simp; omega)))
    go_wp2
    go_ret
    exact ⟨rfl, by (repeat' (first | (with_reducible exact Below.refl _ _) | (with_reducible assumption) | (with_reducible refine Below.drew ?_) | (with_reducible refine below_drewN ?_ _) | (with_reducible refine Below.setCell ?_ ?_ _) | (with_reducible refine Below.alloc ?_ ?_ _) | (refine Below.trans ?_ (Below.mono (by with_reducible assumption) ?_)) | omega | (exact Below.size (by with_reducible assumption)) | (simp; done) | (simp; omega)))⟩
  · cases h2 : plB n0 f t
    · rw [badR_2 (r := ⟨d, f, t, s⟩) h1 h2]
      have H := Lib.hid h1
      have H2 := Lib.hid h2
      clear h1 h2
      go_enter Tryd.func84, Tryd.ntmps84
      go_wp2_with fail
      refine (isDivider71 _ _ _ _ _ _ _ _ _ _ _ _ hn1).mono ?_
      rw [H.out]
      rintro e w1 ⟨rfl, hb1⟩
      (have hz1 := hb1.size; (try simp at hz1); have hc1_0 := fun o => (bcell hb1).1 (bv) o (by first | omega | (simp; done) | (simp; omega)); have hf1_0 := fun o => (bcell hb1).2 (bv) o (by first | omega | (simp; done) | (simp; omega)); have : bv < w1.heap.size := (by first | omega | (simp; done) | (simp; omega)); have : bv < w1.heap.size + 1 := (by first | omega | (simp; done) | (simp; omega)); have : bv < w1.heap.size + 2 := (by first | omega | (simp; done) | (simp; omega)); have : bv < w1.heap.size + 3 := (by first | omega | (simp; done) | (simp; omega)); have hc1_1 := fun o => (bcell hb1).1 (w.heap.size) o (by first | omega | (simp; done) | (simp; omega)); have hf1_1 := fun o => (bcell hb1).2 (w.heap.size) o (by first | omega | (simp; done) | (simp; omega)); have : w.heap.size < w1.heap.size := (by first | omega | (simp; done) | (simp; omega)); have : w.heap.size < w1.heap.size + 1 := (by first | omega | (simp; done) | (simp; omega)); have : w.heap.size < w1.heap.size + 2 := (by first | omega | (simp; done) | (simp; omega)); have : w.heap.size < w1.heap.size + 3 := (by first | omega | (simp; done) | (simp; omega)))
      go_wp2_with fail
      refine (arePlaces62 _ _ _ _ _ _ _ _ _ _ _ _ _ hn0 ht1 ht2).mono ?_
      rw [H2.out]
      rintro e w2 ⟨rfl, hb2⟩
      (have hz2 := hb2.size; (try simp at hz2); have hc2_0 := fun o => (bcell hb2).1 (bv) o (by first | omega | (simp; done) | (simp; omega)); have hf2_0 := fun o => (bcell hb2).2 (bv) o (by first | omega | (simp; done) | (simp; omega)); have : bv < w2.heap.size := (by first | omega | (simp; done) | (simp; omega)); have : bv < w2.heap.size + 1 := (by first | omega | (simp; done) | (simp; omega)); have : bv < w2.heap.size + 2 := (by first | omega | (simp; done) | (simp; omega)); have : bv < w2.heap.size + 3 := (by first | omega | (simp; done) | (simp; omega)); have hc2_1 := fun o => (bcell hb2).1 (w.heap.size) o (by first | omega | (simp; done) | (simp; omega)); have hf2_1 := fun o => (bcell hb2).2 (w.heap.size) o (by first | omega | (simp; done) | (simp; omega)); have : w.heap.size < w2.heap.size := (by first | omega | (simp; done) | (simp; omega)); have : w.heap.size < w2.heap.size + 1 := (by first | omega | (simp; done) | (simp; omega)); have : w.heap.size < w2.heap.size + 2 := (by first | omega | (simp; done) | (simp; omega)); have : w.heap.size < w2.heap.size + 3 := (by first | omega | (simp; done) | (simp; omega)))
      go_wp2
      go_ret
      exact ⟨rfl, by (repeat' (first | (with_reducible exact Below.refl _ _) | (with_reducible assumption) | (with_reducible refine Below.drew ?_) | (with_reducible refine below_drewN ?_ _) | (with_reducible refine Below.setCell ?_ ?_ _) | (with_reducible refine Below.alloc ?_ ?_ _) | (refine Below.trans ?_ (Below.mono (by with_reducible assumption) ?_)) | omega | (exact Below.size (by with_reducible assumption)) | (simp; done) | (simp; omega)))⟩
    · rw [badR_3 (r := ⟨d, f, t, s⟩) h1 h2]
      have H := Lib.hid h1
      have H2 := Lib.hid h2
      clear h1 h2
      go_enter Tryd.func84, Tryd.ntmps84
      go_wp2_with fail
      refine (isDivider71 _ _ _ _ _ _ _ _ _ _ _ _ hn1).mono ?_
      rw [H.out]
      rintro e w1 ⟨rfl, hb1⟩
      (have hz1 := hb1.size; (try simp at hz1); have hc1_0 := fun o => (bcell hb1).1 (bv) o (by first | omega | (simp; done) | (simp; omega)); have hf1_0 := fun o => (bcell hb1).2 (bv) o (by first | omega | (simp; done) | (simp; omega)); have : bv < w1.heap.size := (by first | omega | (simp; done) | (simp; omega)); have : bv < w1.heap.size + 1 := (by first | omega | (simp; done) | (simp; omega)); have : bv < w1.heap.size + 2 := (by first | omega | (simp; done) | (simp; omega)); have : bv < w1.heap.size + 3 := (by first | omega | (simp; done) | (simp; omega)); have hc1_1 := fun o => (bcell hb1).1 (w.heap.size) o (by first | omega | (simp; done) | (simp; omega)); have hf1_1 := fun o => (bcell hb1).2 (w.heap.size) o (by first | omega | (simp; done) | (simp; omega)); have : w.heap.size < w1.heap.size := (by first | omega | (simp; done) | (simp; omega)); have : w.heap.size < w1.heap.size + 1 := (by first | omega | (simp; done) | (simp; omega)); have : w.heap.size < w1.heap.size + 2 := (by first | omega | (simp; done) | (simp; omega)); have : w.heap.size < w1.heap.size + 3 := (by first | omega | (simp; done) | (simp; omega)))
      go_wp2_with fail
      refine (arePlaces62 _ _ _ _ _ _ _ _ _ _ _ _ _ hn0 ht1 ht2).mono ?_
      rw [H2.out]
      rintro e w2 ⟨rfl, hb2⟩
      (have hz2 := hb2.size; (try simp at hz2); have hc2_0 := fun o => (bcell hb2).1 (bv) o (by first | omega | (simp; done) | (simp; omega)); have hf2_0 := fun o => (bcell hb2).2 (bv) o (by first | omega | (simp; done) | (simp; omega)); have : bv < w2.heap.size := (by first | omega | (simp; done) | (simp; omega)); have : bv < w2.heap.size + 1 := (by first | omega | (simp; done) | (simp; omega)); have : bv < w2.heap.size + 2 := (by first | omega | (simp; done) | (simp; omega)); have : bv < w2.heap.size + 3 := (by first | omega | (simp; done) | (simp; omega)); have hc2_1 := fun o => (bcell hb2).1 (w.heap.size) o (by first | omega | (simp; done) | (simp; omega)); have hf2_1 := fun o => (bcell hb2).2 (w.heap.size) o (by first | omega | (simp; done) | (simp; omega)); have : w.heap.size < w2.heap.size := (by first | omega | (simp; done) | (simp; omega)); have : w.heap.size < w2.heap.size + 1 := (by first | omega | (simp; done) | (simp; omega)); have : w.heap.size < w2.heap.size + 2 := (by first | omega | (simp; done) | (simp; omega)); have : w.heap.size < w2.heap.size + 3 := (by first | omega | (simp; done) | (simp; omega)))
      go_wp2_with (first | (go_at_call 63; refine (isSteps63 _ _).mono ?_; rintro e w1 ⟨rfl, rfl⟩))
      go_ret
      exact ⟨rfl, by (repeat' (first | (with_reducible exact Below.refl _ _) | (with_reducible assumption) | (with_reducible refine Below.drew ?_) | (with_reducible refine below_drewN ?_ _) | (with_reducible refine Below.setCell ?_ ?_ _) | (with_reducible refine Below.alloc ?_ ?_ _) | (refine Below.trans ?_ (Below.mono (by with_reducible assumption) ?_)) | omega | (exact Below.size (by with_reducible assumption)) | (simp; done) | (simp; omega)))⟩

set_option maxHeartbeats 1000000 in
theorem index100 (A : Option Addr) (gs : List Pt) (n cap : Nat) (w : World) (hA : Rd 2 w A (gs.map prow)) (hn : Hid (n = gs.length)) (hlen : n ≤ 140737488355328) :
    Calls Tryd.prog 100 #[.slice A n cap, .func (.func 83) #[] #[]] w fun e w' => ∃ q : Int, Hid (decide (0 ≤ q) = gs.any badD) ∧ e = .returned (.int .i64 q) ∧ Below w.heap.size w w' := by
  have HA := Lib.hid hA
  clear hA
  go_enter Tryd.func100, Tryd.ntmps100
  go_wp2
  go_loopw [8] (fun i wr => ∃ k : Nat, k ≤ n ∧ i = .int .i64 k ∧ Hid ((gs.take k).any badD = false) ∧ Below w.heap.size w wr) (fun i _ => n - (intOf i).toNat)
  case atStart => exact ⟨0, Nat.zero_le _, rfl, by simp [Hid], Below.refl _ _⟩
  case round =>
    obtain ⟨k, hk, rfl, hno, hbw⟩ := hrel
    by_cases hlt : k < n
    · obtain ⟨g, hg⟩ : ∃ g, Hid (gs[k]? = some g) := ⟨gs[k]'(by have := hn.out; omega), by simp [Hid]⟩
      obtain ⟨b, off, rfl, hb, hc0, hc1⟩ := rd_pt (HA.out.below hbw (Nat.le_refl _)) hg.out
      go_wp2_with fail
      refine (badDivider83 g.1 g.2 _).mono ?_
      cases hs : badD (g.1, g.2)
      · rintro e w1 ⟨rfl, hb1⟩
        have hs' := Lib.hid hs
        clear hs
        go_wp2
        go_roundw
        case rel =>
          refine ⟨k + 1, by omega, by go_num, ?_, by (repeat' (first | (with_reducible exact Below.refl _ _) | (with_reducible assumption) | (with_reducible refine Below.drew ?_) | (with_reducible refine below_drewN ?_ _) | (with_reducible refine Below.setCell ?_ ?_ _) | (with_reducible refine Below.alloc ?_ ?_ _) | (refine Below.trans ?_ (Below.mono (by with_reducible assumption) ?_)) | omega | (exact Below.size (by with_reducible assumption)) | (simp; done) | (simp; omega)))⟩
          show (gs.take (k + 1)).any _ = false
          rw [take_snoc hg.out, List.any_append, hno.out]
          simp only [List.any_cons, List.any_nil, Bool.or_false, Bool.false_or]
          exact hs'.out
        case measure => simp only [intOf]; omega
      · rintro e w1 ⟨rfl, hb1⟩
        have hs' := Lib.hid hs
        clear hs
        go_wp2
        go_ret
        refine ⟨(k : Int), ?_, rfl, by (repeat' (first | (with_reducible exact Below.refl _ _) | (with_reducible assumption) | (with_reducible refine Below.drew ?_) | (with_reducible refine below_drewN ?_ _) | (with_reducible refine Below.setCell ?_ ?_ _) | (with_reducible refine Below.alloc ?_ ?_ _) | (refine Below.trans ?_ (Below.mono (by with_reducible assumption) ?_)) | omega | (exact Below.size (by with_reducible assumption)) | (simp; done) | (simp; omega)))⟩
        show decide ((0 : Int) ≤ k) = gs.any _
        rw [decide_eq_true (by omega)]
        refine (List.any_eq_true.2 ⟨g, List.mem_of_getElem? hg.out, hs'.out⟩).symm
    · go_wp2
      go_ret
      refine ⟨-1, ?_, rfl, hbw⟩
      show decide ((0 : Int) ≤ -1) = gs.any _
      have h := hno.out
      rw [List.take_of_length_le (by have := hn.out; omega)] at h
      rw [h]; rfl
set_option maxHeartbeats 1000000 in
theorem contains86 (A : Option Addr) (gs : List Pt) (n cap : Nat) (w : World) (hA : Rd 2 w A (gs.map prow)) (hn : Hid (n = gs.length)) (hlen : n ≤ 140737488355328) :
    Calls Tryd.prog 86 #[.slice A n cap, .func (.func 83) #[] #[]] w fun e w' => e = .returned (.bool (gs.any badD)) ∧ Below w.heap.size w w' := by
  have HA := Lib.hid hA
  clear hA
  go_enter Tryd.func86, Tryd.ntmps86
  go_wp2_with fail
  refine (index100 A gs n cap w HA.out hn hlen).mono ?_
  rintro e w1 ⟨q, hq, rfl, hb1⟩
  go_wp2
  go_ret
  exact ⟨ret_bool hq.out, hb1⟩

set_option maxHeartbeats 1000000 in
theorem index101 (bv : Nat) (A : Option Addr) (gs : List Rep) (n cap : Nat) (A0 A1 A2 : Option Addr) (n0 n1 n2 c0 c1 c2 : Nat) (cw : Int) (w : World) (hA : Rd 4 w A (gs.map rrow)) (hn : Hid (n = gs.length)) (hlen : n ≤ 140737488355328)
    (hv : Own w bv [.slice A0 n0 c0, .slice A1 n1 c1, .slice A2 n2 c2, .int .i64 cw]) (hn0 : n0 ≤ 140737488355328) (hn1 : n1 ≤ 140737488355328) (hwt : Hid (∀ r ∈ gs, -9223372036854775808 ≤ r.t ∧ r.t ≤ 9223372036854775807)) :
    Calls Tryd.prog 101 #[.slice A n cap, .func (.func 84) #[] #[.pointer (some ⟨bv, 0, none⟩)]] w fun e w' => ∃ q : Int, Hid (decide (0 ≤ q) = gs.any (badR n0 n1)) ∧ e = .returned (.int .i64 q) ∧ Below w.heap.size w w' := by
  have HA := Lib.hid hA
  clear hA
  go_enter Tryd.func101, Tryd.ntmps101
  go_wp2
  go_loopw [8] (fun i wr => ∃ k : Nat, k ≤ n ∧ i = .int .i64 k ∧ Hid ((gs.take k).any (badR n0 n1) = false) ∧ Own wr bv [.slice A0 n0 c0, .slice A1 n1 c1, .slice A2 n2 c2, .int .i64 cw] ∧ Below w.heap.size w wr) (fun i _ => n - (intOf i).toNat)
  case atStart => exact ⟨0, Nat.zero_le _, rfl, by simp [Hid], hv, Below.refl _ _⟩
  case round =>
    clear hv
    obtain ⟨k, hk, rfl, hno, hv, hbw⟩ := hrel
    by_cases hlt : k < n
    · obtain ⟨g, hg⟩ : ∃ g, Hid (gs[k]? = some g) := ⟨gs[k]'(by have := hn.out; omega), by simp [Hid]⟩
      obtain ⟨b, off, rfl, hb, hc0, hc1, hc2, hc3⟩ := rd_rep (HA.out.below hbw (Nat.le_refl _)) hg.out
      have ht := hwt.out g (List.mem_of_getElem? hg.out)
      go_wp2_with fail
      refine (badReport84 g.d g.f g.t g.s bv A0 A1 A2 n0 n1 n2 c0 c1 c2 cw _ hv hn0 hn1 ht.1 ht.2).mono ?_
      cases hs : badR n0 n1 ⟨g.d, g.f, g.t, g.s⟩
      · rintro e w1 ⟨rfl, hb1⟩
        have hs' := Lib.hid hs
        clear hs
        go_wp2
        go_roundw
        case rel =>
          refine ⟨k + 1, by omega, by go_num, ?_, hv.below hb1 hv.lt, by (repeat' (first | (with_reducible exact Below.refl _ _) | (with_reducible assumption) | (with_reducible refine Below.drew ?_) | (with_reducible refine below_drewN ?_ _) | (with_reducible refine Below.setCell ?_ ?_ _) | (with_reducible refine Below.alloc ?_ ?_ _) | (refine Below.trans ?_ (Below.mono (by with_reducible assumption) ?_)) | omega | (exact Below.size (by with_reducible assumption)) | (simp; done) | (simp; omega)))⟩
          show (gs.take (k + 1)).any _ = false
          rw [take_snoc hg.out, List.any_append, hno.out]
          simp only [List.any_cons, List.any_nil, Bool.or_false, Bool.false_or]
          exact hs'.out
        case measure => simp only [intOf]; omega
      · rintro e w1 ⟨rfl, hb1⟩
        have hs' := Lib.hid hs
        clear hs
        go_wp2
        go_ret
        refine ⟨(k : Int), ?_, rfl, by (repeat' (first | (with_reducible exact Below.refl _ _) | (with_reducible assumption) | (with_reducible refine Below.drew ?_) | (with_reducible refine below_drewN ?_ _) | (with_reducible refine Below.setCell ?_ ?_ _) | (with_reducible refine Below.alloc ?_ ?_ _) | (refine Below.trans ?_ (Below.mono (by with_reducible assumption) ?_)) | omega | (exact Below.size (by with_reducible assumption)) | (simp; done) | (simp; omega)))⟩
        show decide ((0 : Int) ≤ k) = gs.any _
        rw [decide_eq_true (by omega)]
        refine (List.any_eq_true.2 ⟨g, List.mem_of_getElem? hg.out, hs'.out⟩).symm
    · go_wp2
      go_ret
      refine ⟨-1, ?_, rfl, hbw⟩
      show decide ((0 : Int) ≤ -1) = gs.any _
      have h := hno.out
      rw [List.take_of_length_le (by have := hn.out; omega)] at h
      rw [h]; rfl
set_option maxHeartbeats 1000000 in
theorem contains87 (bv : Nat) (A : Option Addr) (gs : List Rep) (n cap : Nat) (A0 A1 A2 : Option Addr) (n0 n1 n2 c0 c1 c2 : Nat) (cw : Int) (w : World) (hA : Rd 4 w A (gs.map rrow)) (hn : Hid (n = gs.length)) (hlen : n ≤ 140737488355328)
    (hv : Own w bv [.slice A0 n0 c0, .slice A1 n1 c1, .slice A2 n2 c2, .int .i64 cw]) (hn0 : n0 ≤ 140737488355328) (hn1 : n1 ≤ 140737488355328) (hwt : Hid (∀ r ∈ gs, -9223372036854775808 ≤ r.t ∧ r.t ≤ 9223372036854775807)) :
    Calls Tryd.prog 87 #[.slice A n cap, .func (.func 84) #[] #[.pointer (some ⟨bv, 0, none⟩)]] w fun e w' => e = .returned (.bool (gs.any (badR n0 n1))) ∧ Below w.heap.size w w' := by
  have HA := Lib.hid hA
  clear hA
  go_enter Tryd.func87, Tryd.ntmps87
  go_wp2_with fail
  refine (index101 bv A gs n cap A0 A1 A2 n0 n1 n2 c0 c1 c2 cw w HA.out hn hlen hv hn0 hn1 hwt).mono ?_
  rintro e w1 ⟨q, hq, rfl, hb1⟩
  go_wp2
  go_ret
  exact ⟨ret_bool hq.out, hb1⟩

end Go.Proofs.YtibkgnnpmidgfaaDoor
