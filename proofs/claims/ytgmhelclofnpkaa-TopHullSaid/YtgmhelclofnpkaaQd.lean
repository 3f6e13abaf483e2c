/- Walks: the test of a wheel and its walks, where they are valid. -/
import Derived.Test.YtgmhelclofnpkaaQp
import Derived.Test.YtgmhelclofnpkaaKc
import Derived.Deep.LoopGhost
import Derived.Deep.DeepCutAuto
namespace Go.Proofs.Ytgmhelclofnpkaa
open Go.RowKit

abbrev whV (h : Wh) : Value := .agg #[.int .i64 h.full, .int .i64 h.read, .int .i64 h.slip, .int .i64 h.skew, .int .i64 h.circ, .int .i64 h.lo, .int .i64 h.hi, .int .i64 h.wrong]
abbrev whC (h : Wh) : List Value := [.int .i64 h.full, .int .i64 h.read, .int .i64 h.slip, .int .i64 h.skew, .int .i64 h.circ, .int .i64 h.lo, .int .i64 h.hi, .int .i64 h.wrong]
abbrev wkV (x : Wk) : Value := .agg #[.int .i64 x.s, .int .i64 x.sd, .int .i64 x.ins, .int .i64 x.st, .int .i64 x.en]
def wkrow (x : Wk) : List Value := [.int .i64 x.s, .int .i64 x.sd, .int .i64 x.ins, .int .i64 x.st, .int .i64 x.en]
theorem rd_wk {w : World} {A : Option Addr} {l : List Wk} (h : Rd 5 w A (l.map wkrow)) {i : Nat} {x : Wk} (hi : l[i]? = some x) :
    ∃ b off, A = some ⟨b, off, none⟩ ∧ b < w.heap.size ∧ w.cell? ⟨b, off + i * 5, none⟩ = some (.int .i64 x.s) ∧ w.cell? ⟨b, off + i * 5 + 1, none⟩ = some (.int .i64 x.sd) ∧ w.cell? ⟨b, off + i * 5 + 2, none⟩ = some (.int .i64 x.ins) ∧ w.cell? ⟨b, off + i * 5 + 3, none⟩ = some (.int .i64 x.st) ∧ w.cell? ⟨b, off + i * 5 + 4, none⟩ = some (.int .i64 x.en) := by
  obtain ⟨b, off, e, hb, hc⟩ := Rd.elem h (i := i) (r := wkrow x) (by simp [hi])
  exact ⟨b, off, e, hb, hc 0 _ rfl, hc 1 _ rfl, hc 2 _ rfl, hc 3 _ rfl, hc 4 _ rfl⟩
set_option maxHeartbeats 400000 in
theorem wwithinW (n lo hi : Int) (w : World) (h : lo ≤ n ∧ n ≤ hi) :
    Calls Try.prog 109 #[.int .i64 n, .int .i64 lo, .int .i64 hi] w fun e w' => e = .returned (.bool true) ∧ w = w' := by
  obtain ⟨h1, h2⟩ := h
  go_enter Try.func109, Try.ntmps109
  go_wp2
  go_ret
  exact ⟨rfl, rfl⟩
set_option maxHeartbeats 400000 in
theorem wisOneW (n : Int) (w : World) (h : n = 1 ∨ n = -1) :
    Calls Try.prog 108 #[.int .i64 n] w fun e w' => e = .returned (.bool true) ∧ w = w' := by
  go_enter Try.func108, Try.ntmps108
  rcases h with rfl | rfl
  · go_wp2
    go_ret
    exact ⟨rfl, rfl⟩
  · go_wp2
    go_ret
    exact ⟨rfl, rfl⟩
set_option maxHeartbeats 1000000 in
theorem wisWheelW (h : Wh) (w : World) (hk : Wl.Ok h) : Calls Try.prog 106 #[whV h] w fun e w' => e = .returned (.bool true) ∧ Below w.heap.size w w' := by
  obtain ⟨full, read, slip, skew, circ, lo, hi, wrong⟩ := h
  obtain ⟨k1, k2, k3, k4, k5, k6, k7, k8⟩ := hk
  simp only at k1 k2 k3 k4 k5 k6 k7 k8
  have K1 := Lib.hid k1
  have K2 := Lib.hid k2
  have K3 := Lib.hid k3
  have K4 := Lib.hid k4
  have K5 := Lib.hid k5
  have K6 := Lib.hid k6
  have K8 := Lib.hid k8
  clear k1 k2 k3 k4 k5 k6 k8
  go_enter Try.func106, Try.ntmps106
  go_wp2_with fail
  refine (wwithinW _ _ _ _ K1.out).mono ?_
  rintro e w1 ⟨rfl, rfl⟩
  go_wp2_with fail
  refine (wwithinW _ _ _ _ K2.out).mono ?_
  rintro e w1 ⟨rfl, rfl⟩
  go_wp2_with fail
  refine (wwithinW _ _ _ _ K3.out).mono ?_
  rintro e w1 ⟨rfl, rfl⟩
  go_wp2_with fail
  refine (wwithinW _ _ _ _ K4.out).mono ?_
  rintro e w1 ⟨rfl, rfl⟩
  go_wp2_with fail
  refine (wwithinW _ _ _ _ K5.out).mono ?_
  rintro e w1 ⟨rfl, rfl⟩
  go_wp2_with fail
  refine (wwithinW _ _ _ _ K6.out).mono ?_
  rintro e w1 ⟨rfl, rfl⟩
  go_wp2_with fail
  refine (wwithinW _ _ _ _ K8.out).mono ?_
  rintro e w1 ⟨rfl, rfl⟩
  go_wp2
  go_ret
  exact ⟨rfl, by (repeat' (first | (with_reducible exact Below.refl _ _) | (with_reducible assumption) | (with_reducible refine Below.drew ?_) | (with_reducible refine below_drewN ?_ _) | (with_reducible refine Below.setCell ?_ ?_ _) | (with_reducible refine Below.alloc ?_ ?_ _) | (refine Below.trans ?_ (Below.mono (by with_reducible assumption) ?_)) | omega | (exact Below.size (by with_reducible assumption)) | (simp; done) | (simp; omega)))⟩
set_option maxHeartbeats 1000000 in
theorem wcheck1W (h : Wh) (x : Wk) (B : Nat) (w : World) (ho : Own w B (whC h)) (hk : Wl.Ok h) (hx : Wl.OkK h x) : Calls Try.prog 107 #[wkV x, .pointer (some ⟨B, 0, none⟩)] w fun e w' => e = .returned (.bool false) ∧ Below w.heap.size w w' := by
  obtain ⟨full, read, slip, skew, circ, lo, hi, wrong⟩ := h
  obtain ⟨xs, sd, ins, st, en⟩ := x
  obtain ⟨k1, k2, k3, k4, k5⟩ := hx
  have kf := hk.full
  simp only at k1 k2 k3 k4 k5 kf ho
  have hw : IntKind.i64.wrap (full - 1) = full - 1 := IntWalk.i64_in _ (by omega)
  have K1 := Lib.hid k1
  have K2 := Lib.hid k2
  have K3 := Lib.hid k3
  have K4 := Lib.hid k4
  have K5 := Lib.hid k5
  clear k1 k2 k3 k4 k5 kf hk
  obtain ⟨l0, c0, f0⟩ := ho
  go_enter Try.func107, Try.ntmps107
  go_wp2_with fail
  refine (wisOneW _ _ K1.out).mono ?_
  rintro e w1 ⟨rfl, rfl⟩
  go_wp2_with fail
  refine (wisOneW _ _ K2.out).mono ?_
  rintro e w1 ⟨rfl, rfl⟩
  go_wp2_with fail
  refine (wwithinW _ _ _ _ K3.out).mono ?_
  rintro e w1 ⟨rfl, rfl⟩
  go_wp2_with fail
  refine (wwithinW _ _ _ _ K4.out).mono ?_
  rintro e w1 ⟨rfl, rfl⟩
  go_wp2_with fail
  refine (wwithinW _ _ _ _ K5.out).mono ?_
  rintro e w1 ⟨rfl, rfl⟩
  go_wp2
  go_ret
  exact ⟨rfl, by (repeat' (first | (with_reducible exact Below.refl _ _) | (with_reducible assumption) | (with_reducible refine Below.drew ?_) | (with_reducible refine below_drewN ?_ _) | (with_reducible refine Below.setCell ?_ ?_ _) | (with_reducible refine Below.alloc ?_ ?_ _) | (refine Below.trans ?_ (Below.mono (by with_reducible assumption) ?_)) | omega | (exact Below.size (by with_reducible assumption)) | (simp; done) | (simp; omega)))⟩
set_option maxHeartbeats 1000000 in
theorem ifWkW (h : Wh) (A : Option Addr) (l : List Wk) (n cap B : Nat) (w : World) (hA : Rd 5 w A (l.map wkrow)) (hn : Hid (n = l.length)) (hlen : n ≤ 9223372036854775807) (ho : Own w B (whC h)) (hk : Wl.Ok h) (hx : ∀ x ∈ l, Wl.OkK h x) :
    Calls Try.prog 139 #[.slice A n cap, .func (.func 107) #[] #[.pointer (some ⟨B, 0, none⟩)]] w fun e w' => e = .returned (.int .i64 (-1)) ∧ Below w.heap.size w w' := by
  have HA := Lib.hid hA
  have HX := Lib.hid hx
  have HO := Lib.hid ho
  clear hA hx ho
  go_enter Try.func139, Try.ntmps139
  go_wp2
  go_loopw [8] (fun i wr => ∃ k : Nat, k ≤ n ∧ i = .int .i64 k ∧ Below w.heap.size w wr) (fun i _ => n - (intOf i).toNat)
  case atStart => exact ⟨0, Nat.zero_le _, rfl, Below.refl _ _⟩
  case round =>
    obtain ⟨k, hk', rfl, hbw⟩ := hrel
    by_cases hlt : k < n
    · obtain ⟨g, hg⟩ : ∃ g, Hid (l[k]? = some g) := ⟨l[k]'(by have := hn.out; omega), by simp [Hid]⟩
      obtain ⟨b, off, rfl, hb, hc0, hc1, hc2, hc3, hc4⟩ := rd_wk (HA.out.below hbw (Nat.le_refl _)) hg.out
      go_wp2_with fail
      refine (wcheck1W h g B _ (HO.out.below hbw HO.out.lt) hk (HX.out _ (List.mem_of_getElem? hg.out))).mono ?_
      rintro e w1 ⟨rfl, hb1⟩
      clear hc0 hc1 hc2 hc3 hc4 hb
      go_wp2
      go_roundw
      case rel => exact ⟨k + 1, by omega, by go_num, by (repeat' (first | (with_reducible exact Below.refl _ _) | (with_reducible assumption) | (with_reducible refine Below.drew ?_) | (with_reducible refine below_drewN ?_ _) | (with_reducible refine Below.setCell ?_ ?_ _) | (with_reducible refine Below.alloc ?_ ?_ _) | (refine Below.trans ?_ (Below.mono (by with_reducible assumption) ?_)) | omega | (exact Below.size (by with_reducible assumption)) | (simp; done) | (simp; omega)))⟩
      case measure => simp only [intOf]; omega
    · go_wp2
      go_ret
      exact ⟨rfl, hbw⟩
set_option maxHeartbeats 1000000 in
theorem cfWkW (h : Wh) (A : Option Addr) (l : List Wk) (n cap B : Nat) (w : World) (hA : Rd 5 w A (l.map wkrow)) (hn : Hid (n = l.length)) (hlen : n ≤ 9223372036854775807) (ho : Own w B (whC h)) (hk : Wl.Ok h) (hx : ∀ x ∈ l, Wl.OkK h x) :
    Calls Try.prog 110 #[.slice A n cap, .func (.func 107) #[] #[.pointer (some ⟨B, 0, none⟩)]] w fun e w' => e = .returned (.bool false) ∧ Below w.heap.size w w' := by
  have HI := Lib.hid (ifWkW h A l n cap B w hA hn hlen ho hk hx)
  clear hA hx ho
  go_enter Try.func110, Try.ntmps110
  go_wp2_with fail
  refine HI.out.mono ?_
  rintro e w1 ⟨rfl, hb1⟩
  go_wp2
  go_ret
  exact ⟨rfl, hb1⟩
set_option maxHeartbeats 1000000 in
theorem wCheckW (h : Wh) (A : Option Addr) (l : List Wk) (n cap : Nat) (w : World) (hA : Rd 5 w A (l.map wkrow)) (hn : Hid (n = l.length)) (hn8 : n ≤ 8) (hk : Wl.Ok h) (hx : ∀ x ∈ l, Wl.OkK h x) :
    Calls Try.prog 75 #[whV h, .slice A n cap] w fun e w' => e = .returned (.int .i64 0) ∧ Below w.heap.size w w' := by
  have HA := Lib.hid hA
  have HX := Lib.hid hx
  clear hA hx
  have o0 : Own (w.alloc (.cells #[.int .i64 h.full, .int .i64 h.read, .int .i64 h.slip, .int .i64 h.skew, .int .i64 h.circ, .int .i64 h.lo, .int .i64 h.hi, .int .i64 h.wrong] 34)) w.heap.size (whC h) := Own.new' _ _ rfl rfl
  have oB : Below w.heap.size w (w.alloc (.cells #[.int .i64 h.full, .int .i64 h.read, .int .i64 h.slip, .int .i64 h.skew, .int .i64 h.circ, .int .i64 h.lo, .int .i64 h.hi, .int .i64 h.wrong] 34)) := by (repeat' (first | (with_reducible exact Below.refl _ _) | (with_reducible assumption) | (with_reducible refine Below.drew ?_) | (with_reducible refine below_drewN ?_ _) | (with_reducible refine Below.setCell ?_ ?_ _) | (with_reducible refine Below.alloc ?_ ?_ _) | (refine Below.trans ?_ (Below.mono (by with_reducible assumption) ?_)) | omega | (exact Below.size (by with_reducible assumption)) | (simp; done) | (simp; omega)))
  go_enter Try.func75, Try.ntmps75
  go_wp2_with fail
  refine (wisWheelW h _ hk).mono ?_
  rintro e w1 ⟨rfl, hb1⟩
  have o1 := o0.below hb1 o0.lt
  have hB1 := oB.trans (hb1.mono oB.size)
  clear o0 oB hb1
  go_wp2_with fail
  refine (cfWkW h A l n cap w.heap.size _ (HA.out.below hB1 (Nat.le_refl _)) hn (by omega) o1 hk HX.out).mono ?_
  rintro e w2 ⟨rfl, hb2⟩
  go_wp2
  go_ret
  exact ⟨rfl, hB1.trans (hb2.mono hB1.size)⟩
end Go.Proofs.Ytgmhelclofnpkaa
