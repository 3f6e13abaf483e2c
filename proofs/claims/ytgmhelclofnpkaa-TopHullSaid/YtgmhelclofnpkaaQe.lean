/- Walks: whether a walk is right in a truth; how many are not. -/
import Derived.Test.YtgmhelclofnpkaaQd
namespace Go.Proofs.Ytgmhelclofnpkaa
open Go.RowKit

abbrev dkV (h : Wh) (A : Option Addr) (n cap : Nat) : Value := .agg #[.int .i64 h.full, .int .i64 h.read, .int .i64 h.slip, .int .i64 h.skew, .int .i64 h.circ, .int .i64 h.lo, .int .i64 h.hi, .int .i64 h.wrong, .slice A n cap]
abbrev dkC (h : Wh) (A : Option Addr) (n cap : Nat) : List Value := [.int .i64 h.full, .int .i64 h.read, .int .i64 h.slip, .int .i64 h.skew, .int .i64 h.circ, .int .i64 h.lo, .int .i64 h.hi, .int .i64 h.wrong, .slice A n cap]
abbrev trV (t : P2) : Value := .agg #[.int .i64 t.1, .int .i64 t.2]
theorem tmod_neg {a f : Int} (hf : 0 < f) (h : a.tmod f < 0) : a % f = a.tmod f + f := by
  have h1 := Int.mul_tdiv_add_tmod a f
  have h2 := Int.lt_tmod_of_pos a hf
  have e : a = (a.tmod f + f) + f * (a.tdiv f - 1) := by rw [Int.mul_sub]; omega
  have e2 : a % f = ((a.tmod f + f) + f * (a.tdiv f - 1)) % f := by rw [← e]
  rw [e2, Int.add_mul_emod_self_left, Int.emod_eq_of_lt (by omega) (by omega)]
theorem tmod_pos {a f : Int} (hf : 0 < f) (h : 0 ≤ a.tmod f) : a % f = a.tmod f := by
  have h1 := Int.mul_tdiv_add_tmod a f
  have h2 := Int.tmod_lt_of_pos a hf
  have e : a = a.tmod f + f * a.tdiv f := by omega
  have e2 : a % f = (a.tmod f + f * a.tdiv f) % f := by rw [← e]
  rw [e2, Int.add_mul_emod_self_left, Int.emod_eq_of_lt h h2]
set_option maxHeartbeats 1000000 in
theorem wturnsW (h : Wh) (A : Option Addr) (n cap : Nat) (m lo hi : Int) (w : World) (hf : 10 ≤ h.full ∧ h.full ≤ 10000) (hm : -1000000 ≤ m ∧ m ≤ 1000000) (hl : -1000 ≤ lo ∧ lo ≤ 1000) (hh : -1000 ≤ hi ∧ hi ≤ 1000) :
    Calls Try.prog 140 #[dkV h A n cap, .int .i64 m, .int .i64 lo, .int .i64 hi] w fun e w' => e = .returned (.bool (Wl.turnsB h.full m lo hi)) ∧ Below w.heap.size w w' := by
  unfold Wl.turnsB
  obtain ⟨full, read, slip, skew, circ, glo, ghi, wrong⟩ := h
  simp only at hf ⊢
  have e1 : IntKind.i64.wrap (m - lo) = m - lo := IntWalk.i64_in _ (by omega)
  have h1 := Int.lt_tmod_of_pos (m - lo) (show 0 < full by omega)
  have h2 := Int.tmod_lt_of_pos (m - lo) (show 0 < full by omega)
  have e2 : IntKind.i64.wrap ((m - lo).tmod full) = (m - lo).tmod full := IntWalk.i64_in _ (by omega)
  have e3 : IntKind.i64.wrap (hi - lo) = hi - lo := IntWalk.i64_in _ (by omega)
  have e4 : ¬ full = 0 := by omega
  by_cases hn : (m - lo).tmod full < 0
  · rw [tmod_neg (by omega) hn]
    obtain ⟨r, hr⟩ : ∃ r, (m - lo).tmod full = r := ⟨_, rfl⟩
    rw [hr] at e2 hn h1 h2 ⊢
    have e5 : IntKind.i64.wrap (r + full) = r + full := IntWalk.i64_in _ (by omega)
    go_enter Try.func140, Try.ntmps140
    go_wp2
    go_ret
    exact ⟨rfl, by (repeat' (first | (with_reducible exact Below.refl _ _) | (with_reducible assumption) | (with_reducible refine Below.drew ?_) | (with_reducible refine below_drewN ?_ _) | (with_reducible refine Below.setCell ?_ ?_ _) | (with_reducible refine Below.alloc ?_ ?_ _) | (refine Below.trans ?_ (Below.mono (by with_reducible assumption) ?_)) | omega | (exact Below.size (by with_reducible assumption)) | (simp; done) | (simp; omega)))⟩
  · rw [tmod_pos (by omega) (by omega)]
    obtain ⟨r, hr⟩ : ∃ r, (m - lo).tmod full = r := ⟨_, rfl⟩
    rw [hr] at e2 hn h1 h2 ⊢
    go_enter Try.func140, Try.ntmps140
    go_wp2
    go_ret
    exact ⟨rfl, by (repeat' (first | (with_reducible exact Below.refl _ _) | (with_reducible assumption) | (with_reducible refine Below.drew ?_) | (with_reducible refine below_drewN ?_ _) | (with_reducible refine Below.setCell ?_ ?_ _) | (with_reducible refine Below.alloc ?_ ?_ _) | (refine Below.trans ?_ (Below.mono (by with_reducible assumption) ?_)) | omega | (exact Below.size (by with_reducible assumption)) | (simp; done) | (simp; omega)))⟩
theorem mul_one_bd {s a : Int} {N : Int} (hs : s = 1 ∨ s = -1) (ha : -N ≤ a ∧ a ≤ N) : -N ≤ s * a ∧ s * a ≤ N := by
  rcases hs with rfl | rfl <;> omega
set_option maxHeartbeats 2000000 in
theorem wrightW (h : Wh) (A : Option Addr) (n cap : Nat) (x : Wk) (t : P2) (w : World) (hk : Wl.Ok h) (hx : Wl.OkK h x) (ht : (0 ≤ t.1 ∧ t.1 ≤ 9999) ∧ -20 ≤ t.2 ∧ t.2 ≤ 20) :
    Calls Try.prog 111 #[dkV h A n cap, wkV x, trV t] w fun e w' => e = .returned (.bool (Wl.rightB h x t)) ∧ Below w.heap.size w w' := by
  have hfull := hk.full
  have hread := hk.read
  have hslip := hk.slip
  have hcirc := hk.circ
  obtain ⟨k1, k2, k3, k4, k5⟩ := hx
  have b1 := Pl.mul_bd (a := x.ins) (b := h.circ) (A := 1) (B := 9999) (by omega) (by omega)
  have b2 := mul_one_bd (N := 20000) (a := t.1 - x.ins * h.circ) k1 (by omega)
  have b3 := mul_one_bd (N := 20) (a := t.2) k2 (by omega)
  have T := fun W => wturnsW h A n cap (x.en - x.st - Wl.rollV h x t) (Wl.lowV h x) (Wl.highV h x) W hfull (by unfold Wl.rollV; omega) (by unfold Wl.lowV; split <;> omega) (by unfold Wl.highV; split <;> omega)
  unfold Wl.rightB
  have hroll : Wl.rollV h x t = x.s * (t.1 - x.ins * h.circ) + x.sd * t.2 := rfl
  have w1 : IntKind.i64.wrap (x.ins * h.circ) = x.ins * h.circ := IntWalk.i64_in _ (by omega)
  have w2 : IntKind.i64.wrap (t.1 - x.ins * h.circ) = t.1 - x.ins * h.circ := IntWalk.i64_in _ (by omega)
  have w3 : IntKind.i64.wrap (x.s * (t.1 - x.ins * h.circ)) = x.s * (t.1 - x.ins * h.circ) := IntWalk.i64_in _ (by omega)
  have w4 : IntKind.i64.wrap (x.sd * t.2) = x.sd * t.2 := IntWalk.i64_in _ (by omega)
  have w5 : IntKind.i64.wrap (x.s * (t.1 - x.ins * h.circ) + x.sd * t.2) = x.s * (t.1 - x.ins * h.circ) + x.sd * t.2 := IntWalk.i64_in _ (by omega)
  have w6 : IntKind.i64.wrap (-2 * h.read) = -2 * h.read := IntWalk.i64_in _ (by omega)
  have w7 : IntKind.i64.wrap (2 * h.read) = 2 * h.read := IntWalk.i64_in _ (by omega)
  have w8 : IntKind.i64.wrap (-2 * h.read - h.slip) = -2 * h.read - h.slip := IntWalk.i64_in _ (by omega)
  have w9 : IntKind.i64.wrap (2 * h.read + h.slip) = 2 * h.read + h.slip := IntWalk.i64_in _ (by omega)
  have w10 : IntKind.i64.wrap (x.en - x.st) = x.en - x.st := IntWalk.i64_in _ (by omega)
  have w11 : IntKind.i64.wrap (x.en - x.st - (x.s * (t.1 - x.ins * h.circ) + x.sd * t.2)) = x.en - x.st - (x.s * (t.1 - x.ins * h.circ) + x.sd * t.2) := IntWalk.i64_in _ (by omega)
  rw [hroll] at T ⊢
  by_cases hs : 0 < x.s
  · have l1 : Wl.lowV h x = -2 * h.read - h.slip := by unfold Wl.lowV; rw [if_pos hs]
    have l2 : Wl.highV h x = 2 * h.read := by unfold Wl.highV; rw [if_pos hs]
    rw [l1, l2] at T ⊢
    have HT := Lib.hid T
    clear T l1 l2 hroll b1 b2 b3 k1 k2 k3 k4 k5 hfull hread hslip hcirc ht hk
    go_enter Try.func111, Try.ntmps111
    go_wp2
    go_quiet (fail)
    go_wp2_with fail
    refine (HT.out _).mono ?_
    rintro e w12 ⟨rfl, hb⟩
    go_wp2
    go_ret
    exact ⟨rfl, by (repeat' (first | (with_reducible exact Below.refl _ _) | (with_reducible assumption) | (with_reducible refine Below.drew ?_) | (with_reducible refine below_drewN ?_ _) | (with_reducible refine Below.setCell ?_ ?_ _) | (with_reducible refine Below.alloc ?_ ?_ _) | (refine Below.trans ?_ (Below.mono (by with_reducible assumption) ?_)) | omega | (exact Below.size (by with_reducible assumption)) | (simp; done) | (simp; omega)))⟩
  · have l1 : Wl.lowV h x = -2 * h.read := by unfold Wl.lowV; rw [if_neg hs]
    have l2 : Wl.highV h x = 2 * h.read + h.slip := by unfold Wl.highV; rw [if_neg hs]
    rw [l1, l2] at T ⊢
    have HT := Lib.hid T
    clear T l1 l2 hroll b1 b2 b3 k1 k2 k3 k4 k5 hfull hread hslip hcirc ht hk
    go_enter Try.func111, Try.ntmps111
    go_wp2
    go_quiet (fail)
    go_wp2_with fail
    refine (HT.out _).mono ?_
    rintro e w12 ⟨rfl, hb⟩
    go_wp2
    go_ret
    exact ⟨rfl, by (repeat' (first | (with_reducible exact Below.refl _ _) | (with_reducible assumption) | (with_reducible refine Below.drew ?_) | (with_reducible refine below_drewN ?_ _) | (with_reducible refine Below.setCell ?_ ?_ _) | (with_reducible refine Below.alloc ?_ ?_ _) | (refine Below.trans ?_ (Below.mono (by with_reducible assumption) ?_)) | omega | (exact Below.size (by with_reducible assumption)) | (simp; done) | (simp; omega)))⟩
set_option maxHeartbeats 2000000 in
theorem wwrongsW (h : Wh) (A : Option Addr) (l : List Wk) (n cap : Nat) (t : P2) (w : World) (hA : Rd 5 w A (l.map wkrow)) (hn : Hid (n = l.length)) (hn8 : n ≤ 8) (hk : Wl.Ok h) (hx : ∀ x ∈ l, Wl.OkK h x) (ht : (0 ≤ t.1 ∧ t.1 ≤ 9999) ∧ -20 ≤ t.2 ∧ t.2 ≤ 20) :
    Calls Try.prog 77 #[dkV h A n cap, trV t] w fun e w' => e = .returned (.int .i64 (Wl.wrongsN h l t)) ∧ Below w.heap.size w w' := by
  have HA := Lib.hid hA
  have HX := Lib.hid hx
  have HT := Lib.hid ht
  clear hA hx ht
  have o0 : Own ((w.alloc (.cells #[.int .i64 h.full, .int .i64 h.read, .int .i64 h.slip, .int .i64 h.skew, .int .i64 h.circ, .int .i64 h.lo, .int .i64 h.hi, .int .i64 h.wrong, .slice A n cap] 83)).alloc (.cells #[.int .i64 t.1, .int .i64 t.2] 90)) w.heap.size (dkC h A n cap) := (Own.new' _ _ rfl rfl).alloc _
  have o1 : Own ((w.alloc (.cells #[.int .i64 h.full, .int .i64 h.read, .int .i64 h.slip, .int .i64 h.skew, .int .i64 h.circ, .int .i64 h.lo, .int .i64 h.hi, .int .i64 h.wrong, .slice A n cap] 83)).alloc (.cells #[.int .i64 t.1, .int .i64 t.2] 90)) (w.heap.size + 1) [.int .i64 t.1, .int .i64 t.2] := Own.new' _ _ (by simp) rfl
  have oB : Below w.heap.size w ((w.alloc (.cells #[.int .i64 h.full, .int .i64 h.read, .int .i64 h.slip, .int .i64 h.skew, .int .i64 h.circ, .int .i64 h.lo, .int .i64 h.hi, .int .i64 h.wrong, .slice A n cap] 83)).alloc (.cells #[.int .i64 t.1, .int .i64 t.2] 90)) := by (repeat' (first | (with_reducible exact Below.refl _ _) | (with_reducible assumption) | (with_reducible refine Below.drew ?_) | (with_reducible refine below_drewN ?_ _) | (with_reducible refine Below.setCell ?_ ?_ _) | (with_reducible refine Below.alloc ?_ ?_ _) | (refine Below.trans ?_ (Below.mono (by with_reducible assumption) ?_)) | omega | (exact Below.size (by with_reducible assumption)) | (simp; done) | (simp; omega)))
  go_enter Try.func77, Try.ntmps77
  go_wp2
  go_loopg [5, 11] n (fun K c y wr => ∃ k : Nat, K + k = n ∧ y = .int .i64 k ∧ c = .int .i64 (Wl.wrongsN h (l.take k) t) ∧ Own wr w.heap.size (dkC h A n cap) ∧ Own wr (w.heap.size + 1) [.int .i64 t.1, .int .i64 t.2] ∧ Below w.heap.size w wr)
  case atStart => exact ⟨0, rfl, rfl, rfl, o0, o1, oB⟩
  case round =>
    clear o0 o1 oB
    obtain ⟨k, hk', rfl, rfl, o0, o1, hbw⟩ := hrel
    have hwl := Wl.wrongsN_le h (l.take k) t
    have htl : (l.take k).length ≤ 8 := by rw [List.length_take]; omega
    by_cases hlt : k < n
    · obtain ⟨g, hg⟩ : ∃ g, Hid (l[k]? = some g) := ⟨l[k]'(by have := hn.out; omega), by simp [Hid]⟩
      obtain ⟨b, off, rfl, hb, hc0, hc1, hc2, hc3, hc4⟩ := rd_wk (HA.out.below hbw (Nat.le_refl _)) hg.out
      have hstep := Wl.wrongsN_snoc h (l.take k) g t
      rw [← take_snoc hg.out] at hstep
      have Hstep := Lib.hid hstep
      have O0 := Lib.hid o0
      have O1 := Lib.hid o1
      obtain ⟨l0, c0, f0⟩ := o0
      obtain ⟨l1, c1, f1⟩ := o1
      have hR := fun W => wrightW h (some ⟨b, off, none⟩) n cap g t W hk (HX.out _ (List.mem_of_getElem? hg.out)) HT.out
      clear hstep
      cases hr : Wl.rightB h g t
      · rw [hr] at hR
        have HR := Lib.hid hR
        have Hr := Lib.hid hr
        clear hR hr
        go_wp2_with fail
        refine (HR.out _).mono ?_
        rintro e w1 ⟨rfl, hb1⟩
        have p0 := (O0.out.alloc (Obj.cells #[.int .i64 g.s, .int .i64 g.sd, .int .i64 g.ins, .int .i64 g.st, .int .i64 g.en] 36)).below hb1 (by simp; omega)
        have p1 := (O1.out.alloc (Obj.cells #[.int .i64 g.s, .int .i64 g.sd, .int .i64 g.ins, .int .i64 g.st, .int .i64 g.en] 36)).below hb1 (by simp; omega)
        have hB1 : Below w.heap.size w w1 := by (repeat' (first | (with_reducible exact Below.refl _ _) | (with_reducible assumption) | (with_reducible refine Below.drew ?_) | (with_reducible refine below_drewN ?_ _) | (with_reducible refine Below.setCell ?_ ?_ _) | (with_reducible refine Below.alloc ?_ ?_ _) | (refine Below.trans ?_ (Below.mono (by with_reducible assumption) ?_)) | omega | (exact Below.size (by with_reducible assumption)) | (simp; done) | (simp; omega)))
        clear O0 O1 l0 c0 f0 l1 c1 f1 hb1 hbw hc0 hc1 hc2 hc3 hc4 hb
        go_wp2
        go_roundg (n - (k + 1))
        case measure => omega
        case rel =>
          refine ⟨k + 1, by omega, by go_num, ?_, p0, p1, hB1⟩
          have := Hstep.out
          rw [Hr.out] at this
          simp only [Bool.false_eq_true, if_false] at this
          rw [this]; go_num
      · rw [hr] at hR
        have HR := Lib.hid hR
        have Hr := Lib.hid hr
        clear hR hr
        go_wp2_with fail
        refine (HR.out _).mono ?_
        rintro e w1 ⟨rfl, hb1⟩
        have p0 := (O0.out.alloc (Obj.cells #[.int .i64 g.s, .int .i64 g.sd, .int .i64 g.ins, .int .i64 g.st, .int .i64 g.en] 36)).below hb1 (by simp; omega)
        have p1 := (O1.out.alloc (Obj.cells #[.int .i64 g.s, .int .i64 g.sd, .int .i64 g.ins, .int .i64 g.st, .int .i64 g.en] 36)).below hb1 (by simp; omega)
        have hB1 : Below w.heap.size w w1 := by (repeat' (first | (with_reducible exact Below.refl _ _) | (with_reducible assumption) | (with_reducible refine Below.drew ?_) | (with_reducible refine below_drewN ?_ _) | (with_reducible refine Below.setCell ?_ ?_ _) | (with_reducible refine Below.alloc ?_ ?_ _) | (refine Below.trans ?_ (Below.mono (by with_reducible assumption) ?_)) | omega | (exact Below.size (by with_reducible assumption)) | (simp; done) | (simp; omega)))
        clear O0 O1 l0 c0 f0 l1 c1 f1 hb1 hbw hc0 hc1 hc2 hc3 hc4 hb
        go_wp2
        go_roundg (n - (k + 1))
        case measure => omega
        case rel =>
          refine ⟨k + 1, by omega, by go_num, ?_, p0, p1, hB1⟩
          have := Hstep.out
          rw [Hr.out] at this
          simp only [if_true] at this
          rw [this]; go_num
    · have hkk : Hid (Wl.wrongsN h (l.take k) t = Wl.wrongsN h l t) := by show _ = _; rw [List.take_of_length_le (by have := hn.out; omega)]
      go_wp2
      go_ret
      exact ⟨by rw [hkk.out]; rfl, hbw⟩
end Go.Proofs.Ytgmhelclofnpkaa
