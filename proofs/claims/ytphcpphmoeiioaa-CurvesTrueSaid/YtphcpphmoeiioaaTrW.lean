/- Walks: CurvesTrue of the program. -/
import Derived.Test.YtphcpphmoeiioaaTrP
import Derived.Test.YtphcpphmoeiioaaLean
namespace Go.Proofs.Ytphcpphmoeiioaa
open Go.RowKit Go.Maps

def tx2 (x y : Int) : Int := max x y
theorem tx2_run (ats : Array TypeId) (ty : TypeId) (x y : Int) : Builtin.max_ ats ty #[.int .i64 x, .int .i64 y] = pure (.int .i64 (tx2 x y)) := by
  have e : (if x < y then y else x) = tx2 x y := by unfold tx2; split <;> omega
  simp [Builtin.max_, Builtin.max2, e]
theorem tx2_le {x y m : Int} (h1 : x ≤ m) (h2 : y ≤ m) : ¬ m < tx2 x y := by unfold tx2; omega
attribute [irreducible] tx2
attribute [local go_sem ↓] tx2_run
theorem sum46z (A : Option Addr) (n cap : Nat) (l : List Int) (b : Nat) (w : World) (hA : RdI w A l) (hn : Hid (n = l.length)) (hl : n ≤ 40) (hb : b < n) (hv : Hid (∀ x ∈ l, -100 ≤ x ∧ x ≤ 100)) :
    Calls Try.prog 46 #[.slice A n cap, .int .i64 0, .int .i64 b] w fun e w' => e = .returned (.int .i64 (sUp (fnL l) 0 b n)) ∧ Below w.heap.size w w' := by
  have := sum46 A n cap l 0 b w hA hn hl (Nat.zero_le _) hb hv
  simpa using this
set_option maxRecDepth 100000 in
set_option maxHeartbeats 16000000 in
theorem true11 (L sl rl rh wg : Int) (A : Option Addr) (n cap : Nat) (ks : List Kn) (A2 : Option Addr) (n2 cap2 : Nat) (l : List Int) (a b lv : Int) (w : World) (hA : Rd 3 w A (ks.map krow)) (hn : Hid (n = ks.length)) (hlen : n ≤ 9223372036854775807) (hL : RdI w A2 l) (hn2 : Hid (n2 = l.length)) (hlen2 : n2 ≤ 9223372036854775807) :
    Calls Try.prog 11 #[.agg #[.int .i64 L, .int .i64 sl, .int .i64 rl, .int .i64 rh, .slice A n cap, .int .i64 wg], .slice A2 n2 cap2, .agg #[.int .i64 a, .int .i64 b, .int .i64 lv]] w fun e w' => e = .returned (.bool true) ∧ Below w.heap.size w w' := by
  have HA := Lib.hid hA
  have HL := Lib.hid hL
  clear hA hL
  cases hr : readyB L sl rl rh wg ks
  · have HR := Lib.hid hr
    clear hr
    go_enter Try.func11, Try.ntmps11
    go_wp2_with fail
    refine calls_gen fun W1 hW => ?_
    have hB1 : Below w.heap.size w W1 := by rw [hW]; (repeat' (first | (with_reducible exact Below.refl _ _) | (with_reducible assumption) | (with_reducible refine Below.drew ?_) | (with_reducible refine below_drewN ?_ _) | (with_reducible refine Below.setCell ?_ ?_ _) | (with_reducible refine Below.alloc ?_ ?_ _) | (refine Below.trans ?_ (Below.mono (by with_reducible assumption) ?_)) | omega | (exact Below.size (by with_reducible assumption)) | (simp; done) | (simp; omega)))
    have pc : Own W1 (w.heap.size) [.int .i64 L, .int .i64 sl, .int .i64 rl, .int .i64 rh, .slice A n cap, .int .i64 wg] := by rw [hW]; exact (Own.new' _ _ rfl rfl).alloc _
    have px : Own W1 (w.heap.size + 1) [.int .i64 a, .int .i64 b, .int .i64 lv] := by rw [hW]; exact Own.new' _ _ (by simp) rfl
    try clear hBV
    try clear hB
    clear hW  
    refine (ready18v false L sl rl rh wg A n cap ks _ HR (HA.out.below hB1 (Nat.le_refl _)) hn hlen).mono ?_
    rintro e V1 ⟨rfl, hb⟩
    have hB := hB1.trans (hb.mono hB1.size)
    have qc := Lib.hid (pc.below hb pc.lt)
    have qx := Lib.hid (px.below hb px.lt)
    try clear hsz
    clear hb hB1 pc px 
    obtain ⟨lc, kc, fc⟩ := qc.out
    obtain ⟨lx, kx, fx⟩ := qx.out
    go_wp2_with fail
    refine calls_gen fun W2 hW => ?_
    have hB1 : Below w.heap.size w W2 := by rw [hW]; (repeat' (first | (with_reducible exact Below.refl _ _) | (with_reducible assumption) | (with_reducible refine Below.drew ?_) | (with_reducible refine below_drewN ?_ _) | (with_reducible refine Below.setCell ?_ ?_ _) | (with_reducible refine Below.alloc ?_ ?_ _) | (refine Below.trans ?_ (Below.mono (by with_reducible assumption) ?_)) | omega | (exact Below.size (by with_reducible assumption)) | (simp; done) | (simp; omega)))
    have pc : Own W2 (w.heap.size) [.int .i64 L, .int .i64 sl, .int .i64 rl, .int .i64 rh, .slice A n cap, .int .i64 wg] := by rw [hW]; exact qc.out
    have px : Own W2 (w.heap.size + 1) [.int .i64 a, .int .i64 b, .int .i64 lv] := by rw [hW]; exact qx.out
    try clear hBV
    try clear hB
    clear hW lc kc fc qc lx kx fx qx 
    refine (works13 _).mono ?_
    rintro e V2 ⟨rfl, hb⟩
    have hB := hB1.trans (hb.mono hB1.size)
    have qc := Lib.hid (pc.below hb pc.lt)
    have qx := Lib.hid (px.below hb px.lt)
    try clear hsz
    clear hb hB1 pc px 
    obtain ⟨lc, kc, fc⟩ := qc.out
    obtain ⟨lx, kx, fx⟩ := qx.out
    go_wp2
    go_ret
    exact ⟨rfl, hB⟩
  have HR := Lib.hid hr
  by_cases h40 : 40 < n2
  · have h40' : (40 : Int) < (n2 : Int) := by omega
    clear hr
    go_enter Try.func11, Try.ntmps11
    go_wp2_with fail
    refine calls_gen fun W1 hW => ?_
    have hB1 : Below w.heap.size w W1 := by rw [hW]; (repeat' (first | (with_reducible exact Below.refl _ _) | (with_reducible assumption) | (with_reducible refine Below.drew ?_) | (with_reducible refine below_drewN ?_ _) | (with_reducible refine Below.setCell ?_ ?_ _) | (with_reducible refine Below.alloc ?_ ?_ _) | (refine Below.trans ?_ (Below.mono (by with_reducible assumption) ?_)) | omega | (exact Below.size (by with_reducible assumption)) | (simp; done) | (simp; omega)))
    have pc : Own W1 (w.heap.size) [.int .i64 L, .int .i64 sl, .int .i64 rl, .int .i64 rh, .slice A n cap, .int .i64 wg] := by rw [hW]; exact (Own.new' _ _ rfl rfl).alloc _
    have px : Own W1 (w.heap.size + 1) [.int .i64 a, .int .i64 b, .int .i64 lv] := by rw [hW]; exact Own.new' _ _ (by simp) rfl
    try clear hBV
    try clear hB
    clear hW  
    refine (ready18v true L sl rl rh wg A n cap ks _ HR (HA.out.below hB1 (Nat.le_refl _)) hn hlen).mono ?_
    rintro e V1 ⟨rfl, hb⟩
    have hB := hB1.trans (hb.mono hB1.size)
    have qc := Lib.hid (pc.below hb pc.lt)
    have qx := Lib.hid (px.below hb px.lt)
    try clear hsz
    clear hb hB1 pc px 
    obtain ⟨lc, kc, fc⟩ := qc.out
    obtain ⟨lx, kx, fx⟩ := qx.out
    go_wp2_with fail
    refine calls_gen fun W2 hW => ?_
    have hB1 : Below w.heap.size w W2 := by rw [hW]; (repeat' (first | (with_reducible exact Below.refl _ _) | (with_reducible assumption) | (with_reducible refine Below.drew ?_) | (with_reducible refine below_drewN ?_ _) | (with_reducible refine Below.setCell ?_ ?_ _) | (with_reducible refine Below.alloc ?_ ?_ _) | (refine Below.trans ?_ (Below.mono (by with_reducible assumption) ?_)) | omega | (exact Below.size (by with_reducible assumption)) | (simp; done) | (simp; omega)))
    have pc : Own W2 (w.heap.size) [.int .i64 L, .int .i64 sl, .int .i64 rl, .int .i64 rh, .slice A n cap, .int .i64 wg] := by rw [hW]; exact qc.out
    have px : Own W2 (w.heap.size + 1) [.int .i64 a, .int .i64 b, .int .i64 lv] := by rw [hW]; exact qx.out
    try clear hBV
    try clear hB
    clear hW lc kc fc qc lx kx fx qx 
    refine (works13 _).mono ?_
    rintro e V2 ⟨rfl, hb⟩
    have hB := hB1.trans (hb.mono hB1.size)
    have qc := Lib.hid (pc.below hb pc.lt)
    have qx := Lib.hid (px.below hb px.lt)
    try clear hsz
    clear hb hB1 pc px 
    obtain ⟨lc, kc, fc⟩ := qc.out
    obtain ⟨lx, kx, fx⟩ := qx.out
    go_wp2
    go_ret
    exact ⟨rfl, hB⟩
  have h40' : ¬ (40 : Int) < (n2 : Int) := by omega
  cases hk : askB L a b lv
  · have HK := Lib.hid hk
    clear hr hk
    go_enter Try.func11, Try.ntmps11
    go_wp2_with fail
    refine calls_gen fun W1 hW => ?_
    have hB1 : Below w.heap.size w W1 := by rw [hW]; (repeat' (first | (with_reducible exact Below.refl _ _) | (with_reducible assumption) | (with_reducible refine Below.drew ?_) | (with_reducible refine below_drewN ?_ _) | (with_reducible refine Below.setCell ?_ ?_ _) | (with_reducible refine Below.alloc ?_ ?_ _) | (refine Below.trans ?_ (Below.mono (by with_reducible assumption) ?_)) | omega | (exact Below.size (by with_reducible assumption)) | (simp; done) | (simp; omega)))
    have pc : Own W1 (w.heap.size) [.int .i64 L, .int .i64 sl, .int .i64 rl, .int .i64 rh, .slice A n cap, .int .i64 wg] := by rw [hW]; exact (Own.new' _ _ rfl rfl).alloc _
    have px : Own W1 (w.heap.size + 1) [.int .i64 a, .int .i64 b, .int .i64 lv] := by rw [hW]; exact Own.new' _ _ (by simp) rfl
    try clear hBV
    try clear hB
    clear hW  
    refine (ready18v true L sl rl rh wg A n cap ks _ HR (HA.out.below hB1 (Nat.le_refl _)) hn hlen).mono ?_
    rintro e V1 ⟨rfl, hb⟩
    have hB := hB1.trans (hb.mono hB1.size)
    have qc := Lib.hid (pc.below hb pc.lt)
    have qx := Lib.hid (px.below hb px.lt)
    try clear hsz
    clear hb hB1 pc px 
    obtain ⟨lc, kc, fc⟩ := qc.out
    obtain ⟨lx, kx, fx⟩ := qx.out
    go_wp2_with fail
    refine calls_gen fun W2 hW => ?_
    have hB1 : Below w.heap.size w W2 := by rw [hW]; (repeat' (first | (with_reducible exact Below.refl _ _) | (with_reducible assumption) | (with_reducible refine Below.drew ?_) | (with_reducible refine below_drewN ?_ _) | (with_reducible refine Below.setCell ?_ ?_ _) | (with_reducible refine Below.alloc ?_ ?_ _) | (refine Below.trans ?_ (Below.mono (by with_reducible assumption) ?_)) | omega | (exact Below.size (by with_reducible assumption)) | (simp; done) | (simp; omega)))
    have pc : Own W2 (w.heap.size) [.int .i64 L, .int .i64 sl, .int .i64 rl, .int .i64 rh, .slice A n cap, .int .i64 wg] := by rw [hW]; exact qc.out
    have px : Own W2 (w.heap.size + 1) [.int .i64 a, .int .i64 b, .int .i64 lv] := by rw [hW]; exact qx.out
    try clear hBV
    try clear hB
    clear hW lc kc fc qc lx kx fx qx 
    refine (isAsk19v false L sl rl rh wg _ a b lv _ HK).mono ?_
    rintro e V2 ⟨rfl, hb⟩
    have hB := hB1.trans (hb.mono hB1.size)
    have qc := Lib.hid (pc.below hb pc.lt)
    have qx := Lib.hid (px.below hb px.lt)
    try clear hsz
    clear hb hB1 pc px 
    obtain ⟨lc, kc, fc⟩ := qc.out
    obtain ⟨lx, kx, fx⟩ := qx.out
    go_wp2_with fail
    refine calls_gen fun W3 hW => ?_
    have hB1 : Below w.heap.size w W3 := by rw [hW]; (repeat' (first | (with_reducible exact Below.refl _ _) | (with_reducible assumption) | (with_reducible refine Below.drew ?_) | (with_reducible refine below_drewN ?_ _) | (with_reducible refine Below.setCell ?_ ?_ _) | (with_reducible refine Below.alloc ?_ ?_ _) | (refine Below.trans ?_ (Below.mono (by with_reducible assumption) ?_)) | omega | (exact Below.size (by with_reducible assumption)) | (simp; done) | (simp; omega)))
    have pc : Own W3 (w.heap.size) [.int .i64 L, .int .i64 sl, .int .i64 rl, .int .i64 rh, .slice A n cap, .int .i64 wg] := by rw [hW]; exact qc.out
    have px : Own W3 (w.heap.size + 1) [.int .i64 a, .int .i64 b, .int .i64 lv] := by rw [hW]; exact qx.out
    try clear hBV
    try clear hB
    clear hW lc kc fc qc lx kx fx qx 
    refine (works13 _).mono ?_
    rintro e V3 ⟨rfl, hb⟩
    have hB := hB1.trans (hb.mono hB1.size)
    have qc := Lib.hid (pc.below hb pc.lt)
    have qx := Lib.hid (px.below hb px.lt)
    try clear hsz
    clear hb hB1 pc px 
    obtain ⟨lc, kc, fc⟩ := qc.out
    obtain ⟨lx, kx, fx⟩ := qx.out
    go_wp2
    go_ret
    exact ⟨rfl, hB⟩
  have HK := Lib.hid hk
  have HC := Lib.hid (ready_iff.1 hr).2
  have hV := Lib.hid (cvV_of HC.out)
  by_cases hT : (n2 : Int) = L + 1 ∧ Truth (cvOf L sl rl rh wg ks) (fnL l)
  rotate_left
  · have hc45 : ∀ W, Below w.heap.size w W → Calls Try.prog 44 #[.agg #[.int .i64 L, .int .i64 sl, .int .i64 rl, .int .i64 rh, .slice A n cap, .int .i64 wg], .slice A2 n2 cap2] W fun e w' => e = .returned (.bool false) ∧ Below W.heap.size W w' := fun W hB => by
      have h := isTruth44 L sl rl rh wg A n cap ks A2 n2 cap2 l W (HA.out.below hB (Nat.le_refl _)) hn hV (HL.out.below hB (Nat.le_refl _)) hn2 (by omega)
      refine h.mono ?_
      rintro e w' ⟨v, rfl, hv, hb⟩
      rcases hv.out with ⟨rfl, k⟩ | ⟨rfl, _⟩
      · exact absurd k hT
      · exact ⟨rfl, hb⟩
    clear hr hk hT
    go_enter Try.func11, Try.ntmps11
    go_wp2_with fail
    refine calls_gen fun W1 hW => ?_
    have hB1 : Below w.heap.size w W1 := by rw [hW]; (repeat' (first | (with_reducible exact Below.refl _ _) | (with_reducible assumption) | (with_reducible refine Below.drew ?_) | (with_reducible refine below_drewN ?_ _) | (with_reducible refine Below.setCell ?_ ?_ _) | (with_reducible refine Below.alloc ?_ ?_ _) | (refine Below.trans ?_ (Below.mono (by with_reducible assumption) ?_)) | omega | (exact Below.size (by with_reducible assumption)) | (simp; done) | (simp; omega)))
    have pc : Own W1 (w.heap.size) [.int .i64 L, .int .i64 sl, .int .i64 rl, .int .i64 rh, .slice A n cap, .int .i64 wg] := by rw [hW]; exact (Own.new' _ _ rfl rfl).alloc _
    have px : Own W1 (w.heap.size + 1) [.int .i64 a, .int .i64 b, .int .i64 lv] := by rw [hW]; exact Own.new' _ _ (by simp) rfl
    try clear hBV
    try clear hB
    clear hW  
    refine (ready18v true L sl rl rh wg A n cap ks _ HR (HA.out.below hB1 (Nat.le_refl _)) hn hlen).mono ?_
    rintro e V1 ⟨rfl, hb⟩
    have hB := hB1.trans (hb.mono hB1.size)
    have qc := Lib.hid (pc.below hb pc.lt)
    have qx := Lib.hid (px.below hb px.lt)
    try clear hsz
    clear hb hB1 pc px 
    obtain ⟨lc, kc, fc⟩ := qc.out
    obtain ⟨lx, kx, fx⟩ := qx.out
    go_wp2_with fail
    refine calls_gen fun W2 hW => ?_
    have hB1 : Below w.heap.size w W2 := by rw [hW]; (repeat' (first | (with_reducible exact Below.refl _ _) | (with_reducible assumption) | (with_reducible refine Below.drew ?_) | (with_reducible refine below_drewN ?_ _) | (with_reducible refine Below.setCell ?_ ?_ _) | (with_reducible refine Below.alloc ?_ ?_ _) | (refine Below.trans ?_ (Below.mono (by with_reducible assumption) ?_)) | omega | (exact Below.size (by with_reducible assumption)) | (simp; done) | (simp; omega)))
    have pc : Own W2 (w.heap.size) [.int .i64 L, .int .i64 sl, .int .i64 rl, .int .i64 rh, .slice A n cap, .int .i64 wg] := by rw [hW]; exact qc.out
    have px : Own W2 (w.heap.size + 1) [.int .i64 a, .int .i64 b, .int .i64 lv] := by rw [hW]; exact qx.out
    try clear hBV
    try clear hB
    clear hW lc kc fc qc lx kx fx qx 
    refine (isAsk19v true L sl rl rh wg _ a b lv _ HK).mono ?_
    rintro e V2 ⟨rfl, hb⟩
    have hB := hB1.trans (hb.mono hB1.size)
    have qc := Lib.hid (pc.below hb pc.lt)
    have qx := Lib.hid (px.below hb px.lt)
    try clear hsz
    clear hb hB1 pc px 
    obtain ⟨lc, kc, fc⟩ := qc.out
    obtain ⟨lx, kx, fx⟩ := qx.out
    go_wp2_with fail
    refine calls_gen fun W3 hW => ?_
    have hB1 : Below w.heap.size w W3 := by rw [hW]; (repeat' (first | (with_reducible exact Below.refl _ _) | (with_reducible assumption) | (with_reducible refine Below.drew ?_) | (with_reducible refine below_drewN ?_ _) | (with_reducible refine Below.setCell ?_ ?_ _) | (with_reducible refine Below.alloc ?_ ?_ _) | (refine Below.trans ?_ (Below.mono (by with_reducible assumption) ?_)) | omega | (exact Below.size (by with_reducible assumption)) | (simp; done) | (simp; omega)))
    have pc : Own W3 (w.heap.size) [.int .i64 L, .int .i64 sl, .int .i64 rl, .int .i64 rh, .slice A n cap, .int .i64 wg] := by rw [hW]; exact qc.out
    have px : Own W3 (w.heap.size + 1) [.int .i64 a, .int .i64 b, .int .i64 lv] := by rw [hW]; exact qx.out
    try clear hBV
    try clear hB
    clear hW lc kc fc qc lx kx fx qx 
    refine (hc45 _ hB1).mono ?_
    rintro e V3 ⟨rfl, hb⟩
    have hB := hB1.trans (hb.mono hB1.size)
    have qc := Lib.hid (pc.below hb pc.lt)
    have qx := Lib.hid (px.below hb px.lt)
    try clear hsz
    clear hb hB1 pc px 
    obtain ⟨lc, kc, fc⟩ := qc.out
    obtain ⟨lx, kx, fx⟩ := qx.out
    go_wp2_with fail
    refine calls_gen fun W4 hW => ?_
    have hB1 : Below w.heap.size w W4 := by rw [hW]; (repeat' (first | (with_reducible exact Below.refl _ _) | (with_reducible assumption) | (with_reducible refine Below.drew ?_) | (with_reducible refine below_drewN ?_ _) | (with_reducible refine Below.setCell ?_ ?_ _) | (with_reducible refine Below.alloc ?_ ?_ _) | (refine Below.trans ?_ (Below.mono (by with_reducible assumption) ?_)) | omega | (exact Below.size (by with_reducible assumption)) | (simp; done) | (simp; omega)))
    have pc : Own W4 (w.heap.size) [.int .i64 L, .int .i64 sl, .int .i64 rl, .int .i64 rh, .slice A n cap, .int .i64 wg] := by rw [hW]; exact qc.out
    have px : Own W4 (w.heap.size + 1) [.int .i64 a, .int .i64 b, .int .i64 lv] := by rw [hW]; exact qx.out
    try clear hBV
    try clear hB
    clear hW lc kc fc qc lx kx fx qx 
    refine (works13 _).mono ?_
    rintro e V4 ⟨rfl, hb⟩
    have hB := hB1.trans (hb.mono hB1.size)
    have qc := Lib.hid (pc.below hb pc.lt)
    have qx := Lib.hid (px.below hb px.lt)
    try clear hsz
    clear hb hB1 pc px 
    obtain ⟨lc, kc, fc⟩ := qc.out
    obtain ⟨lx, kx, fx⟩ := qx.out
    go_wp2
    go_ret
    exact ⟨rfl, hB⟩
  have hc45 : ∀ W, Below w.heap.size w W → Calls Try.prog 44 #[.agg #[.int .i64 L, .int .i64 sl, .int .i64 rl, .int .i64 rh, .slice A n cap, .int .i64 wg], .slice A2 n2 cap2] W fun e w' => e = .returned (.bool true) ∧ Below W.heap.size W w' := fun W hB => by
    have h := isTruth44 L sl rl rh wg A n cap ks A2 n2 cap2 l W (HA.out.below hB (Nat.le_refl _)) hn hV (HL.out.below hB (Nat.le_refl _)) hn2 (by omega)
    refine h.mono ?_
    rintro e w' ⟨v, rfl, hv, hb⟩
    rcases hv.out with ⟨rfl, _⟩ | ⟨rfl, k⟩
    · exact ⟨rfl, hb⟩
    · exact absurd hT k
  obtain ⟨hnL, hT⟩ := hT
  have HTr := Lib.hid hT
  have HT : Hid (∃ h, Truth (cvOf L sl rl rh wg ks) h) := Lib.hid ⟨_, hT⟩
  obtain ⟨ha0, hab, hbL, hlv1, hlv2⟩ := askB_iff.1 hk
  have hl1 := hV.out.l1
  have hl2 := hV.out.l2
  have hvr := Lib.hid (tr_rng hT (by have := hn2.out; omega) hV.out)
  have hLn := Lib.hid hnL
  have h13 : n2 ≤ 13 := by omega
  obtain ⟨a, rfl⟩ : ∃ a' : Nat, a = (a' : Int) := ⟨a.toNat, by omega⟩
  obtain ⟨b, rfl⟩ : ∃ b' : Nat, b = (b' : Int) := ⟨b.toNat, by omega⟩
  have hLL : Hid (1 ≤ L ∧ L ≤ 12) := ⟨hl1, hl2⟩
  have hSS := Lib.hid (show 0 ≤ sl ∧ sl ≤ 20 from ⟨hV.out.s1, hV.out.s2⟩)
  have han : a < n2 := by omega
  have hbn : b < n2 := by omega
  have hab' : a ≤ b := by omega
  clear hr hk hT hnL h40 h40'
  have h40' : ¬ (40 : Int) < (n2 : Int) := by omega
  go_enter Try.func11, Try.ntmps11
  go_wp2_with fail
  refine calls_gen fun W1 hW => ?_
  have hB1 : Below w.heap.size w W1 := by rw [hW]; (repeat' (first | (with_reducible exact Below.refl _ _) | (with_reducible assumption) | (with_reducible refine Below.drew ?_) | (with_reducible refine below_drewN ?_ _) | (with_reducible refine Below.setCell ?_ ?_ _) | (with_reducible refine Below.alloc ?_ ?_ _) | (refine Below.trans ?_ (Below.mono (by with_reducible assumption) ?_)) | omega | (exact Below.size (by with_reducible assumption)) | (simp; done) | (simp; omega)))
  have pc : Own W1 (w.heap.size) [.int .i64 L, .int .i64 sl, .int .i64 rl, .int .i64 rh, .slice A n cap, .int .i64 wg] := by rw [hW]; exact (Own.new' _ _ rfl rfl).alloc _
  have px : Own W1 (w.heap.size + 1) [.int .i64 a, .int .i64 b, .int .i64 lv] := by rw [hW]; exact Own.new' _ _ (by simp) rfl
  try clear hBV
  try clear hB
  clear hW  
  refine (ready18v true L sl rl rh wg A n cap ks _ HR (HA.out.below hB1 (Nat.le_refl _)) hn hlen).mono ?_
  rintro e V1 ⟨rfl, hb⟩
  have hB := hB1.trans (hb.mono hB1.size)
  have qc := Lib.hid (pc.below hb pc.lt)
  have qx := Lib.hid (px.below hb px.lt)
  try clear hsz
  clear hb hB1 pc px 
  obtain ⟨lc, kc, fc⟩ := qc.out
  obtain ⟨lx, kx, fx⟩ := qx.out
  go_wp2_with fail
  refine calls_gen fun W2 hW => ?_
  have hB1 : Below w.heap.size w W2 := by rw [hW]; (repeat' (first | (with_reducible exact Below.refl _ _) | (with_reducible assumption) | (with_reducible refine Below.drew ?_) | (with_reducible refine below_drewN ?_ _) | (with_reducible refine Below.setCell ?_ ?_ _) | (with_reducible refine Below.alloc ?_ ?_ _) | (refine Below.trans ?_ (Below.mono (by with_reducible assumption) ?_)) | omega | (exact Below.size (by with_reducible assumption)) | (simp; done) | (simp; omega)))
  have pc : Own W2 (w.heap.size) [.int .i64 L, .int .i64 sl, .int .i64 rl, .int .i64 rh, .slice A n cap, .int .i64 wg] := by rw [hW]; exact qc.out
  have px : Own W2 (w.heap.size + 1) [.int .i64 a, .int .i64 b, .int .i64 lv] := by rw [hW]; exact qx.out
  try clear hBV
  try clear hB
  clear hW lc kc fc qc lx kx fx qx 
  refine (isAsk19v true L sl rl rh wg _ a b lv _ HK).mono ?_
  rintro e V2 ⟨rfl, hb⟩
  have hB := hB1.trans (hb.mono hB1.size)
  have qc := Lib.hid (pc.below hb pc.lt)
  have qx := Lib.hid (px.below hb px.lt)
  try clear hsz
  clear hb hB1 pc px 
  obtain ⟨lc, kc, fc⟩ := qc.out
  obtain ⟨lx, kx, fx⟩ := qx.out
  go_wp2_with fail
  refine calls_gen fun W3 hW => ?_
  have hB1 : Below w.heap.size w W3 := by rw [hW]; (repeat' (first | (with_reducible exact Below.refl _ _) | (with_reducible assumption) | (with_reducible refine Below.drew ?_) | (with_reducible refine below_drewN ?_ _) | (with_reducible refine Below.setCell ?_ ?_ _) | (with_reducible refine Below.alloc ?_ ?_ _) | (refine Below.trans ?_ (Below.mono (by with_reducible assumption) ?_)) | omega | (exact Below.size (by with_reducible assumption)) | (simp; done) | (simp; omega)))
  have pc : Own W3 (w.heap.size) [.int .i64 L, .int .i64 sl, .int .i64 rl, .int .i64 rh, .slice A n cap, .int .i64 wg] := by rw [hW]; exact qc.out
  have px : Own W3 (w.heap.size + 1) [.int .i64 a, .int .i64 b, .int .i64 lv] := by rw [hW]; exact qx.out
  try clear hBV
  try clear hB
  clear hW lc kc fc qc lx kx fx qx 
  refine (hc45 _ hB1).mono ?_
  rintro e V3 ⟨rfl, hb⟩
  have hB := hB1.trans (hb.mono hB1.size)
  have qc := Lib.hid (pc.below hb pc.lt)
  have qx := Lib.hid (px.below hb px.lt)
  try clear hsz
  clear hb hB1 pc px 
  obtain ⟨lc, kc, fc⟩ := qc.out
  obtain ⟨lx, kx, fx⟩ := qx.out
  clear HR HK hc45
  go_wp2_with fail
  refine calls_gen fun W4 hW => ?_
  have hB1 : Below w.heap.size w W4 := by rw [hW]; (repeat' (first | (with_reducible exact Below.refl _ _) | (with_reducible assumption) | (with_reducible refine Below.drew ?_) | (with_reducible refine below_drewN ?_ _) | (with_reducible refine Below.setCell ?_ ?_ _) | (with_reducible refine Below.alloc ?_ ?_ _) | (refine Below.trans ?_ (Below.mono (by with_reducible assumption) ?_)) | omega | (exact Below.size (by with_reducible assumption)) | (simp; done) | (simp; omega)))
  have pc : Own W4 (w.heap.size) [.int .i64 L, .int .i64 sl, .int .i64 rl, .int .i64 rh, .slice A n cap, .int .i64 wg] := by rw [hW]; exact qc.out
  have px : Own W4 (w.heap.size + 1) [.int .i64 a, .int .i64 b, .int .i64 lv] := by rw [hW]; exact qx.out
  try clear hBV
  try clear hB
  clear hW lc kc fc qc lx kx fx qx 
  refine (height31 L sl rl rh wg A n cap ks a _ (HA.out.below hB1 (Nat.le_refl _)) hn hlen).mono ?_
  rintro e V4 ⟨lo1, hi1, er1, rfl, hR1, hb⟩
  obtain ⟨rfl, hs1, b1, b2, b3⟩ := ht_T HC.out HT.out hR1.out ha0 (by omega)
  have i1 := Lib.hid (tr_ht HTr.out hs1)
  simp only [Int.toNat_natCast] at i1
  clear hR1 hs1
  have hB := hB1.trans (hb.mono hB1.size)
  have qc := Lib.hid (pc.below hb pc.lt)
  have qx := Lib.hid (px.below hb px.lt)
  try clear hsz
  clear hb hB1 pc px 
  obtain ⟨lc, kc, fc⟩ := qc.out
  obtain ⟨lx, kx, fx⟩ := qx.out
  go_wp2_with fail
  refine calls_gen fun W5 hW => ?_
  have hB1 : Below w.heap.size w W5 := by rw [hW]; (repeat' (first | (with_reducible exact Below.refl _ _) | (with_reducible assumption) | (with_reducible refine Below.drew ?_) | (with_reducible refine below_drewN ?_ _) | (with_reducible refine Below.setCell ?_ ?_ _) | (with_reducible refine Below.alloc ?_ ?_ _) | (refine Below.trans ?_ (Below.mono (by with_reducible assumption) ?_)) | omega | (exact Below.size (by with_reducible assumption)) | (simp; done) | (simp; omega)))
  have pc : Own W5 (w.heap.size) [.int .i64 L, .int .i64 sl, .int .i64 rl, .int .i64 rh, .slice A n cap, .int .i64 wg] := by rw [hW]; exact (qc.out.alloc _)
  have px : Own W5 (w.heap.size + 1) [.int .i64 a, .int .i64 b, .int .i64 lv] := by rw [hW]; exact (qx.out.alloc _)
  have ps1 : Own W5 (V4.heap.size) [.int .i64 lo1, .int .i64 hi1] := by rw [hW]; exact Own.new' _ _ rfl rfl
  try clear hBV
  try clear hB
  clear hW lc kc fc qc lx kx fx qx 
  refine (integral20 L sl rl rh wg A n cap ks a b _ (HA.out.below hB1 (Nat.le_refl _)) hn hlen).mono ?_
  rintro e V5 ⟨lo2, hi2, er2, rfl, hR2, hb⟩
  obtain ⟨rfl, hs2, b4, b5, b6⟩ := int_T HC.out HT.out hR2.out ha0 hab hbL
  have i2 := Lib.hid (tr_in HTr.out hLn.out (by omega) hbL hs2)
  clear hR2 hs2
  have hB := hB1.trans (hb.mono hB1.size)
  have qc := Lib.hid (pc.below hb pc.lt)
  have qx := Lib.hid (px.below hb px.lt)
  have qs1 := Lib.hid (ps1.below hb ps1.lt)
  try clear hsz
  clear hb hB1 pc px ps1 
  obtain ⟨lc, kc, fc⟩ := qc.out
  obtain ⟨lx, kx, fx⟩ := qx.out
  obtain ⟨ls1, ks1, fs1⟩ := qs1.out
  go_wp2_with fail
  refine calls_gen fun W6 hW => ?_
  have hB1 : Below w.heap.size w W6 := by rw [hW]; (repeat' (first | (with_reducible exact Below.refl _ _) | (with_reducible assumption) | (with_reducible refine Below.drew ?_) | (with_reducible refine below_drewN ?_ _) | (with_reducible refine Below.setCell ?_ ?_ _) | (with_reducible refine Below.alloc ?_ ?_ _) | (refine Below.trans ?_ (Below.mono (by with_reducible assumption) ?_)) | omega | (exact Below.size (by with_reducible assumption)) | (simp; done) | (simp; omega)))
  have pc : Own W6 (w.heap.size) [.int .i64 L, .int .i64 sl, .int .i64 rl, .int .i64 rh, .slice A n cap, .int .i64 wg] := by rw [hW]; exact (qc.out.alloc _)
  have px : Own W6 (w.heap.size + 1) [.int .i64 a, .int .i64 b, .int .i64 lv] := by rw [hW]; exact (qx.out.alloc _)
  have ps1 : Own W6 (V4.heap.size) [.int .i64 lo1, .int .i64 hi1] := by rw [hW]; exact (qs1.out.alloc _)
  have pt1 : Own W6 (V5.heap.size) [.int .i64 lo2, .int .i64 hi2] := by rw [hW]; exact Own.new' _ _ rfl rfl
  try clear hBV
  try clear hB
  clear hW lc kc fc qc lx kx fx qx ls1 ks1 fs1 qs1 
  refine (level42t L sl rl rh wg A n cap ks lv a b _ (HA.out.below hB1 (Nat.le_refl _)) hn hlen HC HT ⟨hlv1, hlv2⟩ ha0 hab hbL).mono ?_
  rintro e V6 ⟨v, rfl, hv, hb⟩
  obtain ⟨⟨hv1, hv2⟩, hv3, hv4⟩ := tr_lv HTr.out hbL hv.out
  have hv3' := Lib.hid hv3
  have hv4' := Lib.hid hv4
  clear hv hv3 hv4
  have hB := hB1.trans (hb.mono hB1.size)
  have qc := Lib.hid (pc.below hb pc.lt)
  have qx := Lib.hid (px.below hb px.lt)
  have qs1 := Lib.hid (ps1.below hb ps1.lt)
  have qt1 := Lib.hid (pt1.below hb pt1.lt)
  try clear hsz
  clear hb hB1 pc px ps1 pt1 
  obtain ⟨lc, kc, fc⟩ := qc.out
  obtain ⟨lx, kx, fx⟩ := qx.out
  obtain ⟨ls1, ks1, fs1⟩ := qs1.out
  obtain ⟨lt1, kt1, ft1⟩ := qt1.out
  go_wp2_with fail
  refine calls_gen fun W7 hW => ?_
  have hB1 : Below w.heap.size w W7 := by rw [hW]; (repeat' (first | (with_reducible exact Below.refl _ _) | (with_reducible assumption) | (with_reducible refine Below.drew ?_) | (with_reducible refine below_drewN ?_ _) | (with_reducible refine Below.setCell ?_ ?_ _) | (with_reducible refine Below.alloc ?_ ?_ _) | (refine Below.trans ?_ (Below.mono (by with_reducible assumption) ?_)) | omega | (exact Below.size (by with_reducible assumption)) | (simp; done) | (simp; omega)))
  have pc : Own W7 (w.heap.size) [.int .i64 L, .int .i64 sl, .int .i64 rl, .int .i64 rh, .slice A n cap, .int .i64 wg] := by rw [hW]; exact qc.out
  have px : Own W7 (w.heap.size + 1) [.int .i64 a, .int .i64 b, .int .i64 lv] := by rw [hW]; exact qx.out
  have ps1 : Own W7 (V4.heap.size) [.int .i64 lo1, .int .i64 hi1] := by rw [hW]; exact qs1.out
  have pt1 : Own W7 (V5.heap.size) [.int .i64 lo2, .int .i64 hi2] := by rw [hW]; exact qt1.out
  try clear hBV
  try clear hB
  clear hW lc kc fc qc lx kx fx qx ls1 ks1 fs1 qs1 lt1 kt1 ft1 qt1 
  refine (best25 L sl rl rh wg A n cap ks _ (HA.out.below hB1 (Nat.le_refl _)) hn hlen).mono ?_
  rintro e V7 ⟨A3, cap3, ls, er3, rfl, hD, hM0, hl3, hb⟩
  obtain ⟨rfl, hd5, he5⟩ := draw_T HC.out HT.out hD.out
  have hmb := Lib.hid (mids_bd hD.out)
  have HD := Lib.hid he5
  have hml : (mids ls).length = n2 := by rw [mids_len, hd5]; have := hLn.out; omega
  have HD5 := Lib.hid hd5
  have HM := Lib.hid hM0
  clear hD he5 hd5 hM0
  have hB := hB1.trans (hb.mono hB1.size)
  have qc := Lib.hid (pc.below hb pc.lt)
  have qx := Lib.hid (px.below hb px.lt)
  have qs1 := Lib.hid (ps1.below hb ps1.lt)
  have qt1 := Lib.hid (pt1.below hb pt1.lt)
  try clear hsz
  clear hb hB1 pc px ps1 pt1 
  obtain ⟨lc, kc, fc⟩ := qc.out
  obtain ⟨lx, kx, fx⟩ := qx.out
  obtain ⟨ls1, ks1, fs1⟩ := qs1.out
  obtain ⟨lt1, kt1, ft1⟩ := qt1.out
  go_wp2_with fail
  refine calls_gen fun W8 hW => ?_
  have hB1 : Below w.heap.size w W8 := by rw [hW]; (repeat' (first | (with_reducible exact Below.refl _ _) | (with_reducible assumption) | (with_reducible refine Below.drew ?_) | (with_reducible refine below_drewN ?_ _) | (with_reducible refine Below.setCell ?_ ?_ _) | (with_reducible refine Below.alloc ?_ ?_ _) | (refine Below.trans ?_ (Below.mono (by with_reducible assumption) ?_)) | omega | (exact Below.size (by with_reducible assumption)) | (simp; done) | (simp; omega)))
  have hBV : Below V7.heap.size V7 W8 := by rw [hW]; (repeat' (first | (with_reducible exact Below.refl _ _) | (with_reducible assumption) | (with_reducible refine Below.drew ?_) | (with_reducible refine below_drewN ?_ _) | (with_reducible refine Below.setCell ?_ ?_ _) | (with_reducible refine Below.alloc ?_ ?_ _) | (refine Below.trans ?_ (Below.mono (by with_reducible assumption) ?_)) | omega | (exact Below.size (by with_reducible assumption)) | (simp; done) | (simp; omega)))
  have hsz := hBV.size
  have HM1 := Lib.hid (HM.out.below hBV (Nat.le_refl _))
  have pc : Own W8 (w.heap.size) [.int .i64 L, .int .i64 sl, .int .i64 rl, .int .i64 rh, .slice A n cap, .int .i64 wg] := by rw [hW]; exact qc.out
  have px : Own W8 (w.heap.size + 1) [.int .i64 a, .int .i64 b, .int .i64 lv] := by rw [hW]; exact qx.out
  have ps1 : Own W8 (V4.heap.size) [.int .i64 lo1, .int .i64 hi1] := by rw [hW]; exact qs1.out
  have pt1 : Own W8 (V5.heap.size) [.int .i64 lo2, .int .i64 hi2] := by rw [hW]; exact qt1.out
  try clear hBV
  try clear hB
  clear hW lc kc fc qc lx kx fx qx ls1 ks1 fs1 qs1 lt1 kt1 ft1 qt1 HM
  refine (told27 L sl rl rh wg A n cap ks _ (HA.out.below hB1 (Nat.le_refl _)) hn hlen).mono ?_
  rintro e V8 ⟨ls6, m, er4, rfl, hD6, hT6, hb⟩
  obtain ⟨rfl, hd6, he6⟩ := draw_T HC.out HT.out hD6.out
  obtain rfl : ls = ls6 := draw_eq HD.out he6 (by rw [HD5.out, hd6])
  have htold := Lib.hid (fun (k : Nat) (hk : (k : Int) ≤ L) => tr_told HTr.out hLn.out HD5.out HD.out hT6.out hk)
  have hmb2 := hT6.out.1
  clear hD6 hd6 he6 hT6
  have hB := hB1.trans (hb.mono hB1.size)
  have HM := Lib.hid (HM1.out.below hb (Nat.le_refl _))
  have qc := Lib.hid (pc.below hb pc.lt)
  have qx := Lib.hid (px.below hb px.lt)
  have qs1 := Lib.hid (ps1.below hb ps1.lt)
  have qt1 := Lib.hid (pt1.below hb pt1.lt)
  try clear hsz
  clear hb hB1 pc px ps1 pt1 HM1
  obtain ⟨lc, kc, fc⟩ := qc.out
  obtain ⟨lx, kx, fx⟩ := qx.out
  obtain ⟨ls1, ks1, fs1⟩ := qs1.out
  obtain ⟨lt1, kt1, ft1⟩ := qt1.out
  go_wp2_with fail
  refine calls_gen fun W9 hW => ?_
  have hB1 : Below w.heap.size w W9 := by rw [hW]; (repeat' (first | (with_reducible exact Below.refl _ _) | (with_reducible assumption) | (with_reducible refine Below.drew ?_) | (with_reducible refine below_drewN ?_ _) | (with_reducible refine Below.setCell ?_ ?_ _) | (with_reducible refine Below.alloc ?_ ?_ _) | (refine Below.trans ?_ (Below.mono (by with_reducible assumption) ?_)) | omega | (exact Below.size (by with_reducible assumption)) | (simp; done) | (simp; omega)))
  have hBV : Below V8.heap.size V8 W9 := by rw [hW]; (repeat' (first | (with_reducible exact Below.refl _ _) | (with_reducible assumption) | (with_reducible refine Below.drew ?_) | (with_reducible refine below_drewN ?_ _) | (with_reducible refine Below.setCell ?_ ?_ _) | (with_reducible refine Below.alloc ?_ ?_ _) | (refine Below.trans ?_ (Below.mono (by with_reducible assumption) ?_)) | omega | (exact Below.size (by with_reducible assumption)) | (simp; done) | (simp; omega)))
  have hsz := hBV.size
  have HM1 := Lib.hid (HM.out.below hBV (Nat.le_refl _))
  have pc : Own W9 (w.heap.size) [.int .i64 L, .int .i64 sl, .int .i64 rl, .int .i64 rh, .slice A n cap, .int .i64 wg] := by rw [hW]; exact qc.out
  have px : Own W9 (w.heap.size + 1) [.int .i64 a, .int .i64 b, .int .i64 lv] := by rw [hW]; exact qx.out
  have ps1 : Own W9 (V4.heap.size) [.int .i64 lo1, .int .i64 hi1] := by rw [hW]; exact qs1.out
  have pt1 : Own W9 (V5.heap.size) [.int .i64 lo2, .int .i64 hi2] := by rw [hW]; exact qt1.out
  try clear hBV
  try clear hB
  clear hW lc kc fc qc lx kx fx qx ls1 ks1 fs1 qs1 lt1 kt1 ft1 qt1 HM
  refine (fewest34 L sl rl rh wg A n cap ks _ (HA.out.below hB1 (Nat.le_refl _)) hn hlen).mono ?_
  rintro e V9 ⟨k, er5, rfl, hR5, hb⟩
  obtain ⟨rfl, hf⟩ := fewR_few HC.out hR5.out
  have hfw := tr_few HTr.out hf
  clear hR5 hf
  have hB := hB1.trans (hb.mono hB1.size)
  have HM := Lib.hid (HM1.out.below hb (Nat.le_refl _))
  have qc := Lib.hid (pc.below hb pc.lt)
  have qx := Lib.hid (px.below hb px.lt)
  have qs1 := Lib.hid (ps1.below hb ps1.lt)
  have qt1 := Lib.hid (pt1.below hb pt1.lt)
  try clear hsz
  clear hb hB1 pc px ps1 pt1 HM1
  obtain ⟨lc, kc, fc⟩ := qc.out
  obtain ⟨lx, kx, fx⟩ := qx.out
  obtain ⟨ls1, ks1, fs1⟩ := qs1.out
  obtain ⟨lt1, kt1, ft1⟩ := qt1.out
  have hml' := Lib.hid hml
  have q1 : (n2 : Int) = L + 1 := hLn.out
  have q2 : ((n2 : Int) != L + 1) = false := by simpa using q1
  have q3 : decide (k < 0) = false := decide_eq_false (by omega)
  have q4 : decide (((wUp ks (fnL l) L.toNat : Nat) : Int) < k) = false := decide_eq_false (by omega)
  have q5 : IntKind.i64.wrap (L + 1) = L + 1 := IntWalk.i64_in _ (by omega)
  clear hml q1
  go_wp2
  refine wp_gen fun R10 hW => ?_
  have hB1 : Below w.heap.size w R10 := by rw [hW]; (repeat' (first | (with_reducible exact Below.refl _ _) | (with_reducible assumption) | (with_reducible refine Below.drew ?_) | (with_reducible refine below_drewN ?_ _) | (with_reducible refine Below.setCell ?_ ?_ _) | (with_reducible refine Below.alloc ?_ ?_ _) | (refine Below.trans ?_ (Below.mono (by with_reducible assumption) ?_)) | omega | (exact Below.size (by with_reducible assumption)) | (simp; done) | (simp; omega)))
  have hBV : Below V9.heap.size V9 R10 := by rw [hW]; (repeat' (first | (with_reducible exact Below.refl _ _) | (with_reducible assumption) | (with_reducible refine Below.drew ?_) | (with_reducible refine below_drewN ?_ _) | (with_reducible refine Below.setCell ?_ ?_ _) | (with_reducible refine Below.alloc ?_ ?_ _) | (refine Below.trans ?_ (Below.mono (by with_reducible assumption) ?_)) | omega | (exact Below.size (by with_reducible assumption)) | (simp; done) | (simp; omega)))
  have hsz := hBV.size
  have HM1 := Lib.hid (HM.out.below hBV (Nat.le_refl _))
  have pc : Own R10 (w.heap.size) [.int .i64 L, .int .i64 sl, .int .i64 rl, .int .i64 rh, .slice A n cap, .int .i64 wg] := by rw [hW]; exact qc.out
  have px : Own R10 (w.heap.size + 1) [.int .i64 a, .int .i64 b, .int .i64 lv] := by rw [hW]; exact qx.out
  have ps1 : Own R10 (V4.heap.size) [.int .i64 lo1, .int .i64 hi1] := by rw [hW]; exact qs1.out
  have pt1 : Own R10 (V5.heap.size) [.int .i64 lo2, .int .i64 hi2] := by rw [hW]; exact qt1.out
  try clear hBV
  try clear hB
  clear hW lc kc fc qc lx kx fx qx ls1 ks1 fs1 qs1 lt1 kt1 ft1 qt1 HM
  have hxc := Aft.cell (W := R10) pc
  obtain ⟨lc, kc, fc⟩ := pc
  have pc := Own.mk lc kc fc
  have hxx := Aft.cell (W := R10) px
  obtain ⟨lx, kx, fx⟩ := px
  have px := Own.mk lx kx fx
  have hxs1 := Aft.cell (W := R10) ps1
  obtain ⟨ls1, ks1, fs1⟩ := ps1
  have ps1 := Own.mk ls1 ks1 fs1
  have hxt1 := Aft.cell (W := R10) pt1
  obtain ⟨lt1, kt1, ft1⟩ := pt1
  have pt1 := Own.mk lt1 kt1 ft1
  have ea := Lib.hid (fnL_at (l := l) (i := a) (by have := hn2.out; omega))
  obtain ⟨b0, off, rfl, hb0, c0⟩ := HL.out.elem ea.out
  have hsW := hB1.size
  have hy0 := fun x : Aft R10 => (Aft.old x (by omega) _).trans (((bcell hB1).1 _ (off + a) hb0).trans c0)
  have hc46 : ∀ x5 : Aft R10, Calls Try.prog 46 #[.slice (some ⟨b0, off, none⟩) n2 cap2, .int .i64 a, .int .i64 b] x5.w fun e w' => e = .returned (.int .i64 (sUp (fnL l) a b n2)) ∧ Below x5.w.heap.size x5.w w' := fun x5 =>
    sum46 _ n2 cap2 l a b _ (HL.out.below (hB1.trans (x5.h.mono hB1.size)) (Nat.le_refl _)) hn2 (by omega) hab' hbn hvr
  have hc47 : ∀ x5 : Aft R10, Calls Try.prog 47 #[.agg #[.int .i64 L, .int .i64 sl, .int .i64 rl, .int .i64 rh, .slice A n cap, .int .i64 wg], .slice (some ⟨b0, off, none⟩) n2 cap2] x5.w fun e w' => e = .returned (.int .i64 (wUp ks (fnL l) L.toNat : Nat)) ∧ Below x5.w.heap.size x5.w w' := fun x5 =>
    wrongs47 L sl rl rh wg A n cap ks _ n2 cap2 l _ (HA.out.below (hB1.trans (x5.h.mono hB1.size)) (Nat.le_refl _)) hn hV (HL.out.below (hB1.trans (x5.h.mono hB1.size)) (Nat.le_refl _)) hn2 hLn.out
  have y0 : (a : Int) < (n2 : Int) := by omega
  generalize hxa : fnL l a = xa at *
  generalize hsm : sUp (fnL l) a b n2 = sm at *
  generalize hwu : wUp ks (fnL l) L.toNat = wu at *
  refine wp_region_aft (by kernel_rfl) (by kernel_rfl) ?_; (repeat (go_big_quiet_step ((first | (go_at_call 46; exact aft_of (hc46 _)) | (go_at_call 47; exact aft_of (hc47 _)) | (go_at_call 45; refine aft_of (holds45 _ _ _ _ ?_); first | exact i1.out | exact i2.out) | fail)))); refine wpQuiet_nil ?_; rintro w9 ⟨⟨_, hb9⟩, rfl⟩
  clear hy0 hc46 hc47 hxa hsm hwu y0 c0
  clear hxc lc kc fc
  clear hxx lx kx fx
  clear hxs1 ls1 ks1 fs1
  clear hxt1 lt1 kt1 ft1
  have hB := hB1.trans (hb9.mono hB1.size)
  have HM := Lib.hid (HM1.out.below hb9 (Nat.le_refl _))
  have qc := Lib.hid (pc.below hb9 pc.lt)
  have qx := Lib.hid (px.below hb9 px.lt)
  have qs1 := Lib.hid (ps1.below hb9 ps1.lt)
  have qt1 := Lib.hid (pt1.below hb9 pt1.lt)
  try clear hsz
  clear hb9 hB1 pc px ps1 pt1 HM1
  obtain ⟨lc, kc, fc⟩ := qc.out
  obtain ⟨lx, kx, fx⟩ := qx.out
  obtain ⟨ls1, ks1, fs1⟩ := qs1.out
  obtain ⟨lt1, kt1, ft1⟩ := qt1.out
  go_wp2_with fail
  refine calls_gen fun W11 hW => ?_
  have hB1 : Below w.heap.size w W11 := by rw [hW]; (repeat' (first | (with_reducible exact Below.refl _ _) | (with_reducible assumption) | (with_reducible refine Below.drew ?_) | (with_reducible refine below_drewN ?_ _) | (with_reducible refine Below.setCell ?_ ?_ _) | (with_reducible refine Below.alloc ?_ ?_ _) | (refine Below.trans ?_ (Below.mono (by with_reducible assumption) ?_)) | omega | (exact Below.size (by with_reducible assumption)) | (simp; done) | (simp; omega)))
  have hBV : Below w9.heap.size w9 W11 := by rw [hW]; (repeat' (first | (with_reducible exact Below.refl _ _) | (with_reducible assumption) | (with_reducible refine Below.drew ?_) | (with_reducible refine below_drewN ?_ _) | (with_reducible refine Below.setCell ?_ ?_ _) | (with_reducible refine Below.alloc ?_ ?_ _) | (refine Below.trans ?_ (Below.mono (by with_reducible assumption) ?_)) | omega | (exact Below.size (by with_reducible assumption)) | (simp; done) | (simp; omega)))
  have hsz := hBV.size
  have HM1 := Lib.hid (HM.out.below hBV (Nat.le_refl _))
  have pc : Own W11 (w.heap.size) [.int .i64 L, .int .i64 sl, .int .i64 rl, .int .i64 rh, .slice A n cap, .int .i64 wg] := by rw [hW]; exact qc.out
  have px : Own W11 (w.heap.size + 1) [.int .i64 a, .int .i64 b, .int .i64 lv] := by rw [hW]; exact qx.out
  have ps1 : Own W11 (V4.heap.size) [.int .i64 lo1, .int .i64 hi1] := by rw [hW]; exact qs1.out
  have pt1 : Own W11 (V5.heap.size) [.int .i64 lo2, .int .i64 hi2] := by rw [hW]; exact qt1.out
  try clear hBV
  try clear hB
  clear hW lc kc fc qc lx kx fx qx ls1 ks1 fs1 qs1 lt1 kt1 ft1 qt1 HM
  refine (has48 _ n2 cap2 l lv a b _ (HL.out.below hB1 (Nat.le_refl _)) hn2 (by omega) hab' hbn).mono ?_
  rintro e V11 ⟨hv9, rfl, hh, hb⟩
  have hB := hB1.trans (hb.mono hB1.size)
  have HM := Lib.hid (HM1.out.below hb (Nat.le_refl _))
  have qc := Lib.hid (pc.below hb pc.lt)
  have qx := Lib.hid (px.below hb px.lt)
  have qs1 := Lib.hid (ps1.below hb ps1.lt)
  have qt1 := Lib.hid (pt1.below hb pt1.lt)
  try clear hsz
  clear hb hB1 pc px ps1 pt1 HM1
  obtain ⟨lc, kc, fc⟩ := qc.out
  obtain ⟨lx, kx, fx⟩ := qx.out
  obtain ⟨ls1, ks1, fs1⟩ := qs1.out
  obtain ⟨lt1, kt1, ft1⟩ := qt1.out
  have hcase : (hv9 = .bool true ∧ ¬ v = 2) ∨ (hv9 = .bool false ∧ ¬ v = 1) := by
    rcases hh.out with ⟨rfl, h⟩ | ⟨rfl, h⟩
    · exact Or.inl ⟨rfl, fun e => hv4'.out e h⟩
    · exact Or.inr ⟨rfl, fun e => h (hv3'.out e)⟩
  clear hh hv3' hv4'
  have hLn' := hLn.out
  have hc4 : (hv9 = .bool true ∧ v = 1) ∨ (hv9 = .bool true ∧ v = 3) ∨ (hv9 = .bool false ∧ v = 2) ∨ (hv9 = .bool false ∧ v = 3) := by
    rcases hcase with ⟨rfl, h⟩ | ⟨rfl, h⟩
    · rcases (show v = 1 ∨ v = 3 by omega) with e | e <;> simp [e]
    · rcases (show v = 2 ∨ v = 3 by omega) with e | e <;> simp [e]
  clear hcase
  rcases hc4 with ⟨rfl, rfl⟩ | ⟨rfl, rfl⟩ | ⟨rfl, rfl⟩ | ⟨rfl, rfl⟩
  · clear hv1 hv2
    go_wp2
    go_loopg [20] (L.toNat + 1) (fun K z w5 => ∃ k : Nat, K + k = L.toNat + 1 ∧ z = .int .i64 k ∧ Hid (Own w5 (w.heap.size) [.int .i64 L, .int .i64 sl, .int .i64 rl, .int .i64 rh, .slice A n cap, .int .i64 wg]) ∧ Hid (Own w5 (w.heap.size + 1) [.int .i64 a, .int .i64 b, .int .i64 lv]) ∧ Hid (Own w5 (V4.heap.size) [.int .i64 lo1, .int .i64 hi1]) ∧ Hid (Own w5 (V5.heap.size) [.int .i64 lo2, .int .i64 hi2]) ∧ Hid (RdI w5 A3 (mids ls)) ∧ Hid (Below w.heap.size w w5) ∧ Hid (V11.heap.size ≤ w5.heap.size))
    case atStart => exact ⟨0, rfl, rfl, qc, qx, qs1, qt1, HM, Lib.hid hB, Lib.hid (Nat.le_refl _)⟩
    case round =>
      clear HM hB lc kc fc qc lx kx fx qx ls1 ks1 fs1 qs1 lt1 kt1 ft1 qt1
      obtain ⟨p, hK, rfl, qc, qx, qs1, qt1, HM, HB, HS⟩ := hrel
      have hB := HB.out
      obtain ⟨lc, kc, fc⟩ := qc.out
      obtain ⟨lx, kx, fx⟩ := qx.out
      obtain ⟨ls1, ks1, fs1⟩ := qs1.out
      obtain ⟨lt1, kt1, ft1⟩ := qt1.out
      by_cases hlt : (p : Int) ≤ L
      · have hpn : p < n2 := by omega
        obtain ⟨d, hd, hd1, hd2⟩ := htold.out p hlt
        have hdb := hmb.out d (List.mem_of_getElem? hd)
        have HDD := Lib.hid hd
        have hd3 := Lib.hid hd1
        have hd4 := Lib.hid hd2
        clear hd hd1 hd2
        go_wp2_with fail
        refine calls_gen fun W101 hW => ?_
        have hB1 : Below w.heap.size w W101 := by rw [hW]; (repeat' (first | (with_reducible exact Below.refl _ _) | (with_reducible assumption) | (with_reducible refine Below.drew ?_) | (with_reducible refine below_drewN ?_ _) | (with_reducible refine Below.setCell ?_ ?_ _) | (with_reducible refine Below.alloc ?_ ?_ _) | (refine Below.trans ?_ (Below.mono (by with_reducible assumption) ?_)) | omega | (exact Below.size (by with_reducible assumption)) | (simp; done) | (simp; omega)))
        have hBV : Below wr.heap.size wr W101 := by rw [hW]; (repeat' (first | (with_reducible exact Below.refl _ _) | (with_reducible assumption) | (with_reducible refine Below.drew ?_) | (with_reducible refine below_drewN ?_ _) | (with_reducible refine Below.setCell ?_ ?_ _) | (with_reducible refine Below.alloc ?_ ?_ _) | (refine Below.trans ?_ (Below.mono (by with_reducible assumption) ?_)) | omega | (exact Below.size (by with_reducible assumption)) | (simp; done) | (simp; omega)))
        have hsz := hBV.size
        have HM1 := Lib.hid (HM.out.below hBV (Nat.le_refl _))
        have pc : Own W101 (w.heap.size) [.int .i64 L, .int .i64 sl, .int .i64 rl, .int .i64 rh, .slice A n cap, .int .i64 wg] := by rw [hW]; exact qc.out
        have px : Own W101 (w.heap.size + 1) [.int .i64 a, .int .i64 b, .int .i64 lv] := by rw [hW]; exact qx.out
        have ps1 : Own W101 (V4.heap.size) [.int .i64 lo1, .int .i64 hi1] := by rw [hW]; exact qs1.out
        have pt1 : Own W101 (V5.heap.size) [.int .i64 lo2, .int .i64 hi2] := by rw [hW]; exact qt1.out
        try clear hBV
        try clear hB
        clear hW lc kc fc qc lx kx fx qx ls1 ks1 fs1 qs1 lt1 kt1 ft1 qt1 HM
        refine (sum46z _ n2 cap2 l p _ (HL.out.below hB1 (Nat.le_refl _)) hn2 (by omega) hpn hvr).mono ?_
        rintro e V101 ⟨rfl, hb⟩
        have hsw := Nat.le_trans hsz hb.size
        have hB := hB1.trans (hb.mono hB1.size)
        have HM := Lib.hid (HM1.out.below hb (Nat.le_refl _))
        have qc := Lib.hid (pc.below hb pc.lt)
        have qx := Lib.hid (px.below hb px.lt)
        have qs1 := Lib.hid (ps1.below hb ps1.lt)
        have qt1 := Lib.hid (pt1.below hb pt1.lt)
        try clear hsz
        clear hb hB1 pc px ps1 pt1 HM1
        obtain ⟨lc, kc, fc⟩ := qc.out
        obtain ⟨lx, kx, fx⟩ := qx.out
        obtain ⟨ls1, ks1, fs1⟩ := qs1.out
        obtain ⟨lt1, kt1, ft1⟩ := qt1.out
        generalize hsm : sUp (fnL l) 0 p n2 = sm at *
        have hd3' := hd3.out
        have hd4' := hd4.out
        obtain ⟨b3, off3, hA3, hb3, c3⟩ := HM.out.elem HDD.out
        have hA3' := Lib.hid hA3
        have y1 : (p : Int) < (n2 : Int) := by omega
        have y2 : p < n2 := by omega
        have z1 : decide (d < -100000) = false := decide_eq_false (by omega)
        have z2 : decide (100000 < d) = false := decide_eq_false (by omega)
        have z3 : decide (m < tx2 (sm - d) (d - sm)) = false := decide_eq_false (tx2_le hd3' hd4')
        have z4 := IntWalk.i64_in (sm - d) (by omega)
        have z5 := IntWalk.i64_in (d - sm) (by omega)
        clear hA3 hsm hd3 hd4
        have hAA := hA3'.out
        subst hAA
        have hy0 := fun x : Aft V101 => (Aft.old x hb3 _).trans c3
        go_wp2
        refine wp_region_aft (by kernel_rfl) (by kernel_rfl) ?_; (repeat (go_big_quiet_step (fail))); refine wpQuiet_nil ?_; rintro w18 ⟨⟨_, hb18⟩, rfl⟩
        have hszV := hB.size
        clear hy0 c3 z1 z2 z3 z4 z5 y1 y2 HDD
        have hB18 := Lib.hid (hB.trans (hb18.mono hszV))
        have HM18 := Lib.hid (HM.out.below hb18 (Nat.le_refl _))
        have HS18 := Lib.hid (Nat.le_trans HS.out (Nat.le_trans hsw hb18.size))
        have rc := Lib.hid (qc.out.below hb18 lc)
        have rx := Lib.hid (qx.out.below hb18 lx)
        have rs1 := Lib.hid (qs1.out.below hb18 ls1)
        have rt1 := Lib.hid (qt1.out.below hb18 lt1)
        clear hb18 hB lc kc fc qc lx kx fx qx ls1 ks1 fs1 qs1 lt1 kt1 ft1 qt1 hszV HB HS
        go_wp2
        go_roundg (L.toNat + 1 - (p + 1))
        case measure => omega
        case rel => exact ⟨p + 1, by omega, by go_num, rc, rx, rs1, rt1, HM18, hB18, HS18⟩
      · have hpx : p = L.toNat + 1 := by omega
        clear HM HB htold
        by_cases haL : (a : Int) = L
        · have haE : ((a : Int) == L) = true := by simpa using haL
          clear haL
          go_wp2_with fail
          refine calls_gen fun W121 hW => ?_
          have hB1 : Below w.heap.size w W121 := by rw [hW]; (repeat' (first | (with_reducible exact Below.refl _ _) | (with_reducible assumption) | (with_reducible refine Below.drew ?_) | (with_reducible refine below_drewN ?_ _) | (with_reducible refine Below.setCell ?_ ?_ _) | (with_reducible refine Below.alloc ?_ ?_ _) | (refine Below.trans ?_ (Below.mono (by with_reducible assumption) ?_)) | omega | (exact Below.size (by with_reducible assumption)) | (simp; done) | (simp; omega)))
          have pc : Own W121 (w.heap.size) [.int .i64 L, .int .i64 sl, .int .i64 rl, .int .i64 rh, .slice A n cap, .int .i64 wg] := by rw [hW]; exact qc.out
          have px : Own W121 (w.heap.size + 1) [.int .i64 a, .int .i64 b, .int .i64 lv] := by rw [hW]; exact qx.out
          have ps1 : Own W121 (V4.heap.size) [.int .i64 lo1, .int .i64 hi1] := by rw [hW]; exact qs1.out
          have pt1 : Own W121 (V5.heap.size) [.int .i64 lo2, .int .i64 hi2] := by rw [hW]; exact qt1.out
          try clear hBV
          try clear hB
          clear hW lc kc fc qc lx kx fx qx ls1 ks1 fs1 qs1 lt1 kt1 ft1 qt1 
          refine (works13 _).mono ?_
          rintro e V121 ⟨rfl, hb⟩
          have hB := hB1.trans (hb.mono hB1.size)
          have qc := Lib.hid (pc.below hb pc.lt)
          have qx := Lib.hid (px.below hb px.lt)
          have qs1 := Lib.hid (ps1.below hb ps1.lt)
          have qt1 := Lib.hid (pt1.below hb pt1.lt)
          try clear hsz
          clear hb hB1 pc px ps1 pt1 
          obtain ⟨lc, kc, fc⟩ := qc.out
          obtain ⟨lx, kx, fx⟩ := qx.out
          obtain ⟨ls1, ks1, fs1⟩ := qs1.out
          obtain ⟨lt1, kt1, ft1⟩ := qt1.out
          go_wp2
          go_ret
          exact ⟨rfl, hB⟩
        · have haE : ((a : Int) == L) = false := by simpa using haL
          have haM : (a : Int) < L := by omega
          clear haL
          go_wp2_with fail
          refine calls_gen fun W121 hW => ?_
          have hB1 : Below w.heap.size w W121 := by rw [hW]; (repeat' (first | (with_reducible exact Below.refl _ _) | (with_reducible assumption) | (with_reducible refine Below.drew ?_) | (with_reducible refine below_drewN ?_ _) | (with_reducible refine Below.setCell ?_ ?_ _) | (with_reducible refine Below.alloc ?_ ?_ _) | (refine Below.trans ?_ (Below.mono (by with_reducible assumption) ?_)) | omega | (exact Below.size (by with_reducible assumption)) | (simp; done) | (simp; omega)))
          have pc : Own W121 (w.heap.size) [.int .i64 L, .int .i64 sl, .int .i64 rl, .int .i64 rh, .slice A n cap, .int .i64 wg] := by rw [hW]; exact qc.out
          have px : Own W121 (w.heap.size + 1) [.int .i64 a, .int .i64 b, .int .i64 lv] := by rw [hW]; exact qx.out
          have ps1 : Own W121 (V4.heap.size) [.int .i64 lo1, .int .i64 hi1] := by rw [hW]; exact qs1.out
          have pt1 : Own W121 (V5.heap.size) [.int .i64 lo2, .int .i64 hi2] := by rw [hW]; exact qt1.out
          try clear hBV
          try clear hB
          clear hW lc kc fc qc lx kx fx qx ls1 ks1 fs1 qs1 lt1 kt1 ft1 qt1 
          refine (lean35 L sl rl rh wg A n cap ks a _ (HA.out.below hB1 (Nat.le_refl _)) hn hlen hLL.out hSS.out).mono ?_
          rintro e V121 ⟨lo7, hi7, er7, rfl, hR7, hb⟩
          obtain ⟨rfl, hs7⟩ := lean_T HC.out HT.out hR7.out ha0 haM
          have i7 := Lib.hid (tr_ln HTr.out hs7)
          simp only [Int.toNat_natCast] at i7
          clear hR7 hs7
          have hB := hB1.trans (hb.mono hB1.size)
          have qc := Lib.hid (pc.below hb pc.lt)
          have qx := Lib.hid (px.below hb px.lt)
          have qs1 := Lib.hid (ps1.below hb ps1.lt)
          have qt1 := Lib.hid (pt1.below hb pt1.lt)
          try clear hsz
          clear hb hB1 pc px ps1 pt1 
          obtain ⟨lc, kc, fc⟩ := qc.out
          obtain ⟨lx, kx, fx⟩ := qx.out
          obtain ⟨ls1, ks1, fs1⟩ := qs1.out
          obtain ⟨lt1, kt1, ft1⟩ := qt1.out
          go_wp2
          refine wp_gen fun R122 hW => ?_
          have hB1 : Below w.heap.size w R122 := by rw [hW]; (repeat' (first | (with_reducible exact Below.refl _ _) | (with_reducible assumption) | (with_reducible refine Below.drew ?_) | (with_reducible refine below_drewN ?_ _) | (with_reducible refine Below.setCell ?_ ?_ _) | (with_reducible refine Below.alloc ?_ ?_ _) | (refine Below.trans ?_ (Below.mono (by with_reducible assumption) ?_)) | omega | (exact Below.size (by with_reducible assumption)) | (simp; done) | (simp; omega)))
          have pc : Own R122 (w.heap.size) [.int .i64 L, .int .i64 sl, .int .i64 rl, .int .i64 rh, .slice A n cap, .int .i64 wg] := by rw [hW]; exact (qc.out.alloc _)
          have px : Own R122 (w.heap.size + 1) [.int .i64 a, .int .i64 b, .int .i64 lv] := by rw [hW]; exact (qx.out.alloc _)
          have ps1 : Own R122 (V4.heap.size) [.int .i64 lo1, .int .i64 hi1] := by rw [hW]; exact (qs1.out.alloc _)
          have pt1 : Own R122 (V5.heap.size) [.int .i64 lo2, .int .i64 hi2] := by rw [hW]; exact (qt1.out.alloc _)
          have pu1 : Own R122 (V121.heap.size) [.int .i64 lo7, .int .i64 hi7] := by rw [hW]; exact Own.new' _ _ rfl rfl
          try clear hBV
          try clear hB
          clear hW lc kc fc qc lx kx fx qx ls1 ks1 fs1 qs1 lt1 kt1 ft1 qt1 
          have hxc := Aft.cell (W := R122) pc
          obtain ⟨lc, kc, fc⟩ := pc
          have pc := Own.mk lc kc fc
          have hxx := Aft.cell (W := R122) px
          obtain ⟨lx, kx, fx⟩ := px
          have px := Own.mk lx kx fx
          have hxs1 := Aft.cell (W := R122) ps1
          obtain ⟨ls1, ks1, fs1⟩ := ps1
          have ps1 := Own.mk ls1 ks1 fs1
          have hxt1 := Aft.cell (W := R122) pt1
          obtain ⟨lt1, kt1, ft1⟩ := pt1
          have pt1 := Own.mk lt1 kt1 ft1
          have hxu1 := Aft.cell (W := R122) pu1
          obtain ⟨lu1, ku1, fu1⟩ := pu1
          have pu1 := Own.mk lu1 ku1 fu1
          have e0 := Lib.hid (fnL_at (l := l) (i := a) (by have := hn2.out; omega))
          have e1 := Lib.hid (fnL_at (l := l) (i := a + 1) (by have := hn2.out; omega))
          obtain ⟨d0, of0, hA4, hd0, c0⟩ := HL.out.elem e0.out
          obtain ⟨d1, of1, hA5, hd1, c1⟩ := HL.out.elem e1.out
          cases hA4
          cases hA5
          have v0 := hvr.out _ (List.mem_of_getElem? e0.out)
          have v1 := hvr.out _ (List.mem_of_getElem? e1.out)
          have hsW := hB1.size
          have hy0 := fun x : Aft R122 => (Aft.old x (by omega) _).trans (((bcell hB1).1 _ _ hd0).trans c0)
          have hy1 := fun x : Aft R122 => (Aft.old x (by omega) _).trans (((bcell hB1).1 _ _ hd0).trans c1)
          have y0 : (a : Int) < (n2 : Int) := by omega
          have y1 : (a : Int) + 1 < (n2 : Int) := by omega
          have y2 : a + 1 < n2 := by omega
          have z1 := IntWalk.i64_in ((a : Int) + 1) (by omega)
          have z2 := IntWalk.i64_in (fnL l (a + 1) - fnL l a) (by omega)
          generalize hxa : fnL l a = xa at *
          generalize hxb : fnL l (a + 1) = xb at *
          clear e0 e1 hxa hxb c0 c1
          refine wp_region_aft (by kernel_rfl) (by kernel_rfl) ?_; (repeat (go_big_quiet_step ((first | (go_at_call 45; exact aft_of (holds45 _ _ _ _ i7.out)) | (go_at_call 13; exact aft_of (works13 _)) | fail)))); refine wpQuiet_nil ?_; rintro w23 ⟨⟨_, hb23⟩, rfl⟩
          clear hy0 hy1
          clear hxc lc kc fc
          clear hxx lx kx fx
          clear hxs1 ls1 ks1 fs1
          clear hxt1 lt1 kt1 ft1
          clear hxu1 lu1 ku1 fu1
          have hB := hB1.trans (hb23.mono hB1.size)
          have qc := Lib.hid (pc.below hb23 pc.lt)
          have qx := Lib.hid (px.below hb23 px.lt)
          have qs1 := Lib.hid (ps1.below hb23 ps1.lt)
          have qt1 := Lib.hid (pt1.below hb23 pt1.lt)
          have qu1 := Lib.hid (pu1.below hb23 pu1.lt)
          try clear hsz
          clear hb23 hB1 pc px ps1 pt1 pu1 
          obtain ⟨lc, kc, fc⟩ := qc.out
          obtain ⟨lx, kx, fx⟩ := qx.out
          obtain ⟨ls1, ks1, fs1⟩ := qs1.out
          obtain ⟨lt1, kt1, ft1⟩ := qt1.out
          obtain ⟨lu1, ku1, fu1⟩ := qu1.out
          go_wp2
          go_ret
          exact ⟨rfl, hB⟩
  · clear hv1 hv2
    go_wp2
    go_loopg [20] (L.toNat + 1) (fun K z w5 => ∃ k : Nat, K + k = L.toNat + 1 ∧ z = .int .i64 k ∧ Hid (Own w5 (w.heap.size) [.int .i64 L, .int .i64 sl, .int .i64 rl, .int .i64 rh, .slice A n cap, .int .i64 wg]) ∧ Hid (Own w5 (w.heap.size + 1) [.int .i64 a, .int .i64 b, .int .i64 lv]) ∧ Hid (Own w5 (V4.heap.size) [.int .i64 lo1, .int .i64 hi1]) ∧ Hid (Own w5 (V5.heap.size) [.int .i64 lo2, .int .i64 hi2]) ∧ Hid (RdI w5 A3 (mids ls)) ∧ Hid (Below w.heap.size w w5) ∧ Hid (V11.heap.size ≤ w5.heap.size))
    case atStart => exact ⟨0, rfl, rfl, qc, qx, qs1, qt1, HM, Lib.hid hB, Lib.hid (Nat.le_refl _)⟩
    case round =>
      clear HM hB lc kc fc qc lx kx fx qx ls1 ks1 fs1 qs1 lt1 kt1 ft1 qt1
      obtain ⟨p, hK, rfl, qc, qx, qs1, qt1, HM, HB, HS⟩ := hrel
      have hB := HB.out
      obtain ⟨lc, kc, fc⟩ := qc.out
      obtain ⟨lx, kx, fx⟩ := qx.out
      obtain ⟨ls1, ks1, fs1⟩ := qs1.out
      obtain ⟨lt1, kt1, ft1⟩ := qt1.out
      by_cases hlt : (p : Int) ≤ L
      · have hpn : p < n2 := by omega
        obtain ⟨d, hd, hd1, hd2⟩ := htold.out p hlt
        have hdb := hmb.out d (List.mem_of_getElem? hd)
        have HDD := Lib.hid hd
        have hd3 := Lib.hid hd1
        have hd4 := Lib.hid hd2
        clear hd hd1 hd2
        go_wp2_with fail
        refine calls_gen fun W101 hW => ?_
        have hB1 : Below w.heap.size w W101 := by rw [hW]; (repeat' (first | (with_reducible exact Below.refl _ _) | (with_reducible assumption) | (with_reducible refine Below.drew ?_) | (with_reducible refine below_drewN ?_ _) | (with_reducible refine Below.setCell ?_ ?_ _) | (with_reducible refine Below.alloc ?_ ?_ _) | (refine Below.trans ?_ (Below.mono (by with_reducible assumption) ?_)) | omega | (exact Below.size (by with_reducible assumption)) | (simp; done) | (simp; omega)))
        have hBV : Below wr.heap.size wr W101 := by rw [hW]; (repeat' (first | (with_reducible exact Below.refl _ _) | (with_reducible assumption) | (with_reducible refine Below.drew ?_) | (with_reducible refine below_drewN ?_ _) | (with_reducible refine Below.setCell ?_ ?_ _) | (with_reducible refine Below.alloc ?_ ?_ _) | (refine Below.trans ?_ (Below.mono (by with_reducible assumption) ?_)) | omega | (exact Below.size (by with_reducible assumption)) | (simp; done) | (simp; omega)))
        have hsz := hBV.size
        have HM1 := Lib.hid (HM.out.below hBV (Nat.le_refl _))
        have pc : Own W101 (w.heap.size) [.int .i64 L, .int .i64 sl, .int .i64 rl, .int .i64 rh, .slice A n cap, .int .i64 wg] := by rw [hW]; exact qc.out
        have px : Own W101 (w.heap.size + 1) [.int .i64 a, .int .i64 b, .int .i64 lv] := by rw [hW]; exact qx.out
        have ps1 : Own W101 (V4.heap.size) [.int .i64 lo1, .int .i64 hi1] := by rw [hW]; exact qs1.out
        have pt1 : Own W101 (V5.heap.size) [.int .i64 lo2, .int .i64 hi2] := by rw [hW]; exact qt1.out
        try clear hBV
        try clear hB
        clear hW lc kc fc qc lx kx fx qx ls1 ks1 fs1 qs1 lt1 kt1 ft1 qt1 HM
        refine (sum46z _ n2 cap2 l p _ (HL.out.below hB1 (Nat.le_refl _)) hn2 (by omega) hpn hvr).mono ?_
        rintro e V101 ⟨rfl, hb⟩
        have hsw := Nat.le_trans hsz hb.size
        have hB := hB1.trans (hb.mono hB1.size)
        have HM := Lib.hid (HM1.out.below hb (Nat.le_refl _))
        have qc := Lib.hid (pc.below hb pc.lt)
        have qx := Lib.hid (px.below hb px.lt)
        have qs1 := Lib.hid (ps1.below hb ps1.lt)
        have qt1 := Lib.hid (pt1.below hb pt1.lt)
        try clear hsz
        clear hb hB1 pc px ps1 pt1 HM1
        obtain ⟨lc, kc, fc⟩ := qc.out
        obtain ⟨lx, kx, fx⟩ := qx.out
        obtain ⟨ls1, ks1, fs1⟩ := qs1.out
        obtain ⟨lt1, kt1, ft1⟩ := qt1.out
        generalize hsm : sUp (fnL l) 0 p n2 = sm at *
        have hd3' := hd3.out
        have hd4' := hd4.out
        obtain ⟨b3, off3, hA3, hb3, c3⟩ := HM.out.elem HDD.out
        have hA3' := Lib.hid hA3
        have y1 : (p : Int) < (n2 : Int) := by omega
        have y2 : p < n2 := by omega
        have z1 : decide (d < -100000) = false := decide_eq_false (by omega)
        have z2 : decide (100000 < d) = false := decide_eq_false (by omega)
        have z3 : decide (m < tx2 (sm - d) (d - sm)) = false := decide_eq_false (tx2_le hd3' hd4')
        have z4 := IntWalk.i64_in (sm - d) (by omega)
        have z5 := IntWalk.i64_in (d - sm) (by omega)
        clear hA3 hsm hd3 hd4
        have hAA := hA3'.out
        subst hAA
        have hy0 := fun x : Aft V101 => (Aft.old x hb3 _).trans c3
        go_wp2
        refine wp_region_aft (by kernel_rfl) (by kernel_rfl) ?_; (repeat (go_big_quiet_step (fail))); refine wpQuiet_nil ?_; rintro w18 ⟨⟨_, hb18⟩, rfl⟩
        have hszV := hB.size
        clear hy0 c3 z1 z2 z3 z4 z5 y1 y2 HDD
        have hB18 := Lib.hid (hB.trans (hb18.mono hszV))
        have HM18 := Lib.hid (HM.out.below hb18 (Nat.le_refl _))
        have HS18 := Lib.hid (Nat.le_trans HS.out (Nat.le_trans hsw hb18.size))
        have rc := Lib.hid (qc.out.below hb18 lc)
        have rx := Lib.hid (qx.out.below hb18 lx)
        have rs1 := Lib.hid (qs1.out.below hb18 ls1)
        have rt1 := Lib.hid (qt1.out.below hb18 lt1)
        clear hb18 hB lc kc fc qc lx kx fx qx ls1 ks1 fs1 qs1 lt1 kt1 ft1 qt1 hszV HB HS
        go_wp2
        go_roundg (L.toNat + 1 - (p + 1))
        case measure => omega
        case rel => exact ⟨p + 1, by omega, by go_num, rc, rx, rs1, rt1, HM18, hB18, HS18⟩
      · have hpx : p = L.toNat + 1 := by omega
        clear HM HB htold
        by_cases haL : (a : Int) = L
        · have haE : ((a : Int) == L) = true := by simpa using haL
          clear haL
          go_wp2_with fail
          refine calls_gen fun W121 hW => ?_
          have hB1 : Below w.heap.size w W121 := by rw [hW]; (repeat' (first | (with_reducible exact Below.refl _ _) | (with_reducible assumption) | (with_reducible refine Below.drew ?_) | (with_reducible refine below_drewN ?_ _) | (with_reducible refine Below.setCell ?_ ?_ _) | (with_reducible refine Below.alloc ?_ ?_ _) | (refine Below.trans ?_ (Below.mono (by with_reducible assumption) ?_)) | omega | (exact Below.size (by with_reducible assumption)) | (simp; done) | (simp; omega)))
          have pc : Own W121 (w.heap.size) [.int .i64 L, .int .i64 sl, .int .i64 rl, .int .i64 rh, .slice A n cap, .int .i64 wg] := by rw [hW]; exact qc.out
          have px : Own W121 (w.heap.size + 1) [.int .i64 a, .int .i64 b, .int .i64 lv] := by rw [hW]; exact qx.out
          have ps1 : Own W121 (V4.heap.size) [.int .i64 lo1, .int .i64 hi1] := by rw [hW]; exact qs1.out
          have pt1 : Own W121 (V5.heap.size) [.int .i64 lo2, .int .i64 hi2] := by rw [hW]; exact qt1.out
          try clear hBV
          try clear hB
          clear hW lc kc fc qc lx kx fx qx ls1 ks1 fs1 qs1 lt1 kt1 ft1 qt1 
          refine (works13 _).mono ?_
          rintro e V121 ⟨rfl, hb⟩
          have hB := hB1.trans (hb.mono hB1.size)
          have qc := Lib.hid (pc.below hb pc.lt)
          have qx := Lib.hid (px.below hb px.lt)
          have qs1 := Lib.hid (ps1.below hb ps1.lt)
          have qt1 := Lib.hid (pt1.below hb pt1.lt)
          try clear hsz
          clear hb hB1 pc px ps1 pt1 
          obtain ⟨lc, kc, fc⟩ := qc.out
          obtain ⟨lx, kx, fx⟩ := qx.out
          obtain ⟨ls1, ks1, fs1⟩ := qs1.out
          obtain ⟨lt1, kt1, ft1⟩ := qt1.out
          go_wp2
          go_ret
          exact ⟨rfl, hB⟩
        · have haE : ((a : Int) == L) = false := by simpa using haL
          have haM : (a : Int) < L := by omega
          clear haL
          go_wp2_with fail
          refine calls_gen fun W121 hW => ?_
          have hB1 : Below w.heap.size w W121 := by rw [hW]; (repeat' (first | (with_reducible exact Below.refl _ _) | (with_reducible assumption) | (with_reducible refine Below.drew ?_) | (with_reducible refine below_drewN ?_ _) | (with_reducible refine Below.setCell ?_ ?_ _) | (with_reducible refine Below.alloc ?_ ?_ _) | (refine Below.trans ?_ (Below.mono (by with_reducible assumption) ?_)) | omega | (exact Below.size (by with_reducible assumption)) | (simp; done) | (simp; omega)))
          have pc : Own W121 (w.heap.size) [.int .i64 L, .int .i64 sl, .int .i64 rl, .int .i64 rh, .slice A n cap, .int .i64 wg] := by rw [hW]; exact qc.out
          have px : Own W121 (w.heap.size + 1) [.int .i64 a, .int .i64 b, .int .i64 lv] := by rw [hW]; exact qx.out
          have ps1 : Own W121 (V4.heap.size) [.int .i64 lo1, .int .i64 hi1] := by rw [hW]; exact qs1.out
          have pt1 : Own W121 (V5.heap.size) [.int .i64 lo2, .int .i64 hi2] := by rw [hW]; exact qt1.out
          try clear hBV
          try clear hB
          clear hW lc kc fc qc lx kx fx qx ls1 ks1 fs1 qs1 lt1 kt1 ft1 qt1 
          refine (lean35 L sl rl rh wg A n cap ks a _ (HA.out.below hB1 (Nat.le_refl _)) hn hlen hLL.out hSS.out).mono ?_
          rintro e V121 ⟨lo7, hi7, er7, rfl, hR7, hb⟩
          obtain ⟨rfl, hs7⟩ := lean_T HC.out HT.out hR7.out ha0 haM
          have i7 := Lib.hid (tr_ln HTr.out hs7)
          simp only [Int.toNat_natCast] at i7
          clear hR7 hs7
          have hB := hB1.trans (hb.mono hB1.size)
          have qc := Lib.hid (pc.below hb pc.lt)
          have qx := Lib.hid (px.below hb px.lt)
          have qs1 := Lib.hid (ps1.below hb ps1.lt)
          have qt1 := Lib.hid (pt1.below hb pt1.lt)
          try clear hsz
          clear hb hB1 pc px ps1 pt1 
          obtain ⟨lc, kc, fc⟩ := qc.out
          obtain ⟨lx, kx, fx⟩ := qx.out
          obtain ⟨ls1, ks1, fs1⟩ := qs1.out
          obtain ⟨lt1, kt1, ft1⟩ := qt1.out
          go_wp2
          refine wp_gen fun R122 hW => ?_
          have hB1 : Below w.heap.size w R122 := by rw [hW]; (repeat' (first | (with_reducible exact Below.refl _ _) | (with_reducible assumption) | (with_reducible refine Below.drew ?_) | (with_reducible refine below_drewN ?_ _) | (with_reducible refine Below.setCell ?_ ?_ _) | (with_reducible refine Below.alloc ?_ ?_ _) | (refine Below.trans ?_ (Below.mono (by with_reducible assumption) ?_)) | omega | (exact Below.size (by with_reducible assumption)) | (simp; done) | (simp; omega)))
          have pc : Own R122 (w.heap.size) [.int .i64 L, .int .i64 sl, .int .i64 rl, .int .i64 rh, .slice A n cap, .int .i64 wg] := by rw [hW]; exact (qc.out.alloc _)
          have px : Own R122 (w.heap.size + 1) [.int .i64 a, .int .i64 b, .int .i64 lv] := by rw [hW]; exact (qx.out.alloc _)
          have ps1 : Own R122 (V4.heap.size) [.int .i64 lo1, .int .i64 hi1] := by rw [hW]; exact (qs1.out.alloc _)
          have pt1 : Own R122 (V5.heap.size) [.int .i64 lo2, .int .i64 hi2] := by rw [hW]; exact (qt1.out.alloc _)
          have pu1 : Own R122 (V121.heap.size) [.int .i64 lo7, .int .i64 hi7] := by rw [hW]; exact Own.new' _ _ rfl rfl
          try clear hBV
          try clear hB
          clear hW lc kc fc qc lx kx fx qx ls1 ks1 fs1 qs1 lt1 kt1 ft1 qt1 
          have hxc := Aft.cell (W := R122) pc
          obtain ⟨lc, kc, fc⟩ := pc
          have pc := Own.mk lc kc fc
          have hxx := Aft.cell (W := R122) px
          obtain ⟨lx, kx, fx⟩ := px
          have px := Own.mk lx kx fx
          have hxs1 := Aft.cell (W := R122) ps1
          obtain ⟨ls1, ks1, fs1⟩ := ps1
          have ps1 := Own.mk ls1 ks1 fs1
          have hxt1 := Aft.cell (W := R122) pt1
          obtain ⟨lt1, kt1, ft1⟩ := pt1
          have pt1 := Own.mk lt1 kt1 ft1
          have hxu1 := Aft.cell (W := R122) pu1
          obtain ⟨lu1, ku1, fu1⟩ := pu1
          have pu1 := Own.mk lu1 ku1 fu1
          have e0 := Lib.hid (fnL_at (l := l) (i := a) (by have := hn2.out; omega))
          have e1 := Lib.hid (fnL_at (l := l) (i := a + 1) (by have := hn2.out; omega))
          obtain ⟨d0, of0, hA4, hd0, c0⟩ := HL.out.elem e0.out
          obtain ⟨d1, of1, hA5, hd1, c1⟩ := HL.out.elem e1.out
          cases hA4
          cases hA5
          have v0 := hvr.out _ (List.mem_of_getElem? e0.out)
          have v1 := hvr.out _ (List.mem_of_getElem? e1.out)
          have hsW := hB1.size
          have hy0 := fun x : Aft R122 => (Aft.old x (by omega) _).trans (((bcell hB1).1 _ _ hd0).trans c0)
          have hy1 := fun x : Aft R122 => (Aft.old x (by omega) _).trans (((bcell hB1).1 _ _ hd0).trans c1)
          have y0 : (a : Int) < (n2 : Int) := by omega
          have y1 : (a : Int) + 1 < (n2 : Int) := by omega
          have y2 : a + 1 < n2 := by omega
          have z1 := IntWalk.i64_in ((a : Int) + 1) (by omega)
          have z2 := IntWalk.i64_in (fnL l (a + 1) - fnL l a) (by omega)
          generalize hxa : fnL l a = xa at *
          generalize hxb : fnL l (a + 1) = xb at *
          clear e0 e1 hxa hxb c0 c1
          refine wp_region_aft (by kernel_rfl) (by kernel_rfl) ?_; (repeat (go_big_quiet_step ((first | (go_at_call 45; exact aft_of (holds45 _ _ _ _ i7.out)) | (go_at_call 13; exact aft_of (works13 _)) | fail)))); refine wpQuiet_nil ?_; rintro w23 ⟨⟨_, hb23⟩, rfl⟩
          clear hy0 hy1
          clear hxc lc kc fc
          clear hxx lx kx fx
          clear hxs1 ls1 ks1 fs1
          clear hxt1 lt1 kt1 ft1
          clear hxu1 lu1 ku1 fu1
          have hB := hB1.trans (hb23.mono hB1.size)
          have qc := Lib.hid (pc.below hb23 pc.lt)
          have qx := Lib.hid (px.below hb23 px.lt)
          have qs1 := Lib.hid (ps1.below hb23 ps1.lt)
          have qt1 := Lib.hid (pt1.below hb23 pt1.lt)
          have qu1 := Lib.hid (pu1.below hb23 pu1.lt)
          try clear hsz
          clear hb23 hB1 pc px ps1 pt1 pu1 
          obtain ⟨lc, kc, fc⟩ := qc.out
          obtain ⟨lx, kx, fx⟩ := qx.out
          obtain ⟨ls1, ks1, fs1⟩ := qs1.out
          obtain ⟨lt1, kt1, ft1⟩ := qt1.out
          obtain ⟨lu1, ku1, fu1⟩ := qu1.out
          go_wp2
          go_ret
          exact ⟨rfl, hB⟩
  · clear hv1 hv2
    go_wp2
    go_loopg [20] (L.toNat + 1) (fun K z w5 => ∃ k : Nat, K + k = L.toNat + 1 ∧ z = .int .i64 k ∧ Hid (Own w5 (w.heap.size) [.int .i64 L, .int .i64 sl, .int .i64 rl, .int .i64 rh, .slice A n cap, .int .i64 wg]) ∧ Hid (Own w5 (w.heap.size + 1) [.int .i64 a, .int .i64 b, .int .i64 lv]) ∧ Hid (Own w5 (V4.heap.size) [.int .i64 lo1, .int .i64 hi1]) ∧ Hid (Own w5 (V5.heap.size) [.int .i64 lo2, .int .i64 hi2]) ∧ Hid (RdI w5 A3 (mids ls)) ∧ Hid (Below w.heap.size w w5) ∧ Hid (V11.heap.size ≤ w5.heap.size))
    case atStart => exact ⟨0, rfl, rfl, qc, qx, qs1, qt1, HM, Lib.hid hB, Lib.hid (Nat.le_refl _)⟩
    case round =>
      clear HM hB lc kc fc qc lx kx fx qx ls1 ks1 fs1 qs1 lt1 kt1 ft1 qt1
      obtain ⟨p, hK, rfl, qc, qx, qs1, qt1, HM, HB, HS⟩ := hrel
      have hB := HB.out
      obtain ⟨lc, kc, fc⟩ := qc.out
      obtain ⟨lx, kx, fx⟩ := qx.out
      obtain ⟨ls1, ks1, fs1⟩ := qs1.out
      obtain ⟨lt1, kt1, ft1⟩ := qt1.out
      by_cases hlt : (p : Int) ≤ L
      · have hpn : p < n2 := by omega
        obtain ⟨d, hd, hd1, hd2⟩ := htold.out p hlt
        have hdb := hmb.out d (List.mem_of_getElem? hd)
        have HDD := Lib.hid hd
        have hd3 := Lib.hid hd1
        have hd4 := Lib.hid hd2
        clear hd hd1 hd2
        go_wp2_with fail
        refine calls_gen fun W101 hW => ?_
        have hB1 : Below w.heap.size w W101 := by rw [hW]; (repeat' (first | (with_reducible exact Below.refl _ _) | (with_reducible assumption) | (with_reducible refine Below.drew ?_) | (with_reducible refine below_drewN ?_ _) | (with_reducible refine Below.setCell ?_ ?_ _) | (with_reducible refine Below.alloc ?_ ?_ _) | (refine Below.trans ?_ (Below.mono (by with_reducible assumption) ?_)) | omega | (exact Below.size (by with_reducible assumption)) | (simp; done) | (simp; omega)))
        have hBV : Below wr.heap.size wr W101 := by rw [hW]; (repeat' (first | (with_reducible exact Below.refl _ _) | (with_reducible assumption) | (with_reducible refine Below.drew ?_) | (with_reducible refine below_drewN ?_ _) | (with_reducible refine Below.setCell ?_ ?_ _) | (with_reducible refine Below.alloc ?_ ?_ _) | (refine Below.trans ?_ (Below.mono (by with_reducible assumption) ?_)) | omega | (exact Below.size (by with_reducible assumption)) | (simp; done) | (simp; omega)))
        have hsz := hBV.size
        have HM1 := Lib.hid (HM.out.below hBV (Nat.le_refl _))
        have pc : Own W101 (w.heap.size) [.int .i64 L, .int .i64 sl, .int .i64 rl, .int .i64 rh, .slice A n cap, .int .i64 wg] := by rw [hW]; exact qc.out
        have px : Own W101 (w.heap.size + 1) [.int .i64 a, .int .i64 b, .int .i64 lv] := by rw [hW]; exact qx.out
        have ps1 : Own W101 (V4.heap.size) [.int .i64 lo1, .int .i64 hi1] := by rw [hW]; exact qs1.out
        have pt1 : Own W101 (V5.heap.size) [.int .i64 lo2, .int .i64 hi2] := by rw [hW]; exact qt1.out
        try clear hBV
        try clear hB
        clear hW lc kc fc qc lx kx fx qx ls1 ks1 fs1 qs1 lt1 kt1 ft1 qt1 HM
        refine (sum46z _ n2 cap2 l p _ (HL.out.below hB1 (Nat.le_refl _)) hn2 (by omega) hpn hvr).mono ?_
        rintro e V101 ⟨rfl, hb⟩
        have hsw := Nat.le_trans hsz hb.size
        have hB := hB1.trans (hb.mono hB1.size)
        have HM := Lib.hid (HM1.out.below hb (Nat.le_refl _))
        have qc := Lib.hid (pc.below hb pc.lt)
        have qx := Lib.hid (px.below hb px.lt)
        have qs1 := Lib.hid (ps1.below hb ps1.lt)
        have qt1 := Lib.hid (pt1.below hb pt1.lt)
        try clear hsz
        clear hb hB1 pc px ps1 pt1 HM1
        obtain ⟨lc, kc, fc⟩ := qc.out
        obtain ⟨lx, kx, fx⟩ := qx.out
        obtain ⟨ls1, ks1, fs1⟩ := qs1.out
        obtain ⟨lt1, kt1, ft1⟩ := qt1.out
        generalize hsm : sUp (fnL l) 0 p n2 = sm at *
        have hd3' := hd3.out
        have hd4' := hd4.out
        obtain ⟨b3, off3, hA3, hb3, c3⟩ := HM.out.elem HDD.out
        have hA3' := Lib.hid hA3
        have y1 : (p : Int) < (n2 : Int) := by omega
        have y2 : p < n2 := by omega
        have z1 : decide (d < -100000) = false := decide_eq_false (by omega)
        have z2 : decide (100000 < d) = false := decide_eq_false (by omega)
        have z3 : decide (m < tx2 (sm - d) (d - sm)) = false := decide_eq_false (tx2_le hd3' hd4')
        have z4 := IntWalk.i64_in (sm - d) (by omega)
        have z5 := IntWalk.i64_in (d - sm) (by omega)
        clear hA3 hsm hd3 hd4
        have hAA := hA3'.out
        subst hAA
        have hy0 := fun x : Aft V101 => (Aft.old x hb3 _).trans c3
        go_wp2
        refine wp_region_aft (by kernel_rfl) (by kernel_rfl) ?_; (repeat (go_big_quiet_step (fail))); refine wpQuiet_nil ?_; rintro w18 ⟨⟨_, hb18⟩, rfl⟩
        have hszV := hB.size
        clear hy0 c3 z1 z2 z3 z4 z5 y1 y2 HDD
        have hB18 := Lib.hid (hB.trans (hb18.mono hszV))
        have HM18 := Lib.hid (HM.out.below hb18 (Nat.le_refl _))
        have HS18 := Lib.hid (Nat.le_trans HS.out (Nat.le_trans hsw hb18.size))
        have rc := Lib.hid (qc.out.below hb18 lc)
        have rx := Lib.hid (qx.out.below hb18 lx)
        have rs1 := Lib.hid (qs1.out.below hb18 ls1)
        have rt1 := Lib.hid (qt1.out.below hb18 lt1)
        clear hb18 hB lc kc fc qc lx kx fx qx ls1 ks1 fs1 qs1 lt1 kt1 ft1 qt1 hszV HB HS
        go_wp2
        go_roundg (L.toNat + 1 - (p + 1))
        case measure => omega
        case rel => exact ⟨p + 1, by omega, by go_num, rc, rx, rs1, rt1, HM18, hB18, HS18⟩
      · have hpx : p = L.toNat + 1 := by omega
        clear HM HB htold
        by_cases haL : (a : Int) = L
        · have haE : ((a : Int) == L) = true := by simpa using haL
          clear haL
          go_wp2_with fail
          refine calls_gen fun W121 hW => ?_
          have hB1 : Below w.heap.size w W121 := by rw [hW]; (repeat' (first | (with_reducible exact Below.refl _ _) | (with_reducible assumption) | (with_reducible refine Below.drew ?_) | (with_reducible refine below_drewN ?_ _) | (with_reducible refine Below.setCell ?_ ?_ _) | (with_reducible refine Below.alloc ?_ ?_ _) | (refine Below.trans ?_ (Below.mono (by with_reducible assumption) ?_)) | omega | (exact Below.size (by with_reducible assumption)) | (simp; done) | (simp; omega)))
          have pc : Own W121 (w.heap.size) [.int .i64 L, .int .i64 sl, .int .i64 rl, .int .i64 rh, .slice A n cap, .int .i64 wg] := by rw [hW]; exact qc.out
          have px : Own W121 (w.heap.size + 1) [.int .i64 a, .int .i64 b, .int .i64 lv] := by rw [hW]; exact qx.out
          have ps1 : Own W121 (V4.heap.size) [.int .i64 lo1, .int .i64 hi1] := by rw [hW]; exact qs1.out
          have pt1 : Own W121 (V5.heap.size) [.int .i64 lo2, .int .i64 hi2] := by rw [hW]; exact qt1.out
          try clear hBV
          try clear hB
          clear hW lc kc fc qc lx kx fx qx ls1 ks1 fs1 qs1 lt1 kt1 ft1 qt1 
          refine (works13 _).mono ?_
          rintro e V121 ⟨rfl, hb⟩
          have hB := hB1.trans (hb.mono hB1.size)
          have qc := Lib.hid (pc.below hb pc.lt)
          have qx := Lib.hid (px.below hb px.lt)
          have qs1 := Lib.hid (ps1.below hb ps1.lt)
          have qt1 := Lib.hid (pt1.below hb pt1.lt)
          try clear hsz
          clear hb hB1 pc px ps1 pt1 
          obtain ⟨lc, kc, fc⟩ := qc.out
          obtain ⟨lx, kx, fx⟩ := qx.out
          obtain ⟨ls1, ks1, fs1⟩ := qs1.out
          obtain ⟨lt1, kt1, ft1⟩ := qt1.out
          go_wp2
          go_ret
          exact ⟨rfl, hB⟩
        · have haE : ((a : Int) == L) = false := by simpa using haL
          have haM : (a : Int) < L := by omega
          clear haL
          go_wp2_with fail
          refine calls_gen fun W121 hW => ?_
          have hB1 : Below w.heap.size w W121 := by rw [hW]; (repeat' (first | (with_reducible exact Below.refl _ _) | (with_reducible assumption) | (with_reducible refine Below.drew ?_) | (with_reducible refine below_drewN ?_ _) | (with_reducible refine Below.setCell ?_ ?_ _) | (with_reducible refine Below.alloc ?_ ?_ _) | (refine Below.trans ?_ (Below.mono (by with_reducible assumption) ?_)) | omega | (exact Below.size (by with_reducible assumption)) | (simp; done) | (simp; omega)))
          have pc : Own W121 (w.heap.size) [.int .i64 L, .int .i64 sl, .int .i64 rl, .int .i64 rh, .slice A n cap, .int .i64 wg] := by rw [hW]; exact qc.out
          have px : Own W121 (w.heap.size + 1) [.int .i64 a, .int .i64 b, .int .i64 lv] := by rw [hW]; exact qx.out
          have ps1 : Own W121 (V4.heap.size) [.int .i64 lo1, .int .i64 hi1] := by rw [hW]; exact qs1.out
          have pt1 : Own W121 (V5.heap.size) [.int .i64 lo2, .int .i64 hi2] := by rw [hW]; exact qt1.out
          try clear hBV
          try clear hB
          clear hW lc kc fc qc lx kx fx qx ls1 ks1 fs1 qs1 lt1 kt1 ft1 qt1 
          refine (lean35 L sl rl rh wg A n cap ks a _ (HA.out.below hB1 (Nat.le_refl _)) hn hlen hLL.out hSS.out).mono ?_
          rintro e V121 ⟨lo7, hi7, er7, rfl, hR7, hb⟩
          obtain ⟨rfl, hs7⟩ := lean_T HC.out HT.out hR7.out ha0 haM
          have i7 := Lib.hid (tr_ln HTr.out hs7)
          simp only [Int.toNat_natCast] at i7
          clear hR7 hs7
          have hB := hB1.trans (hb.mono hB1.size)
          have qc := Lib.hid (pc.below hb pc.lt)
          have qx := Lib.hid (px.below hb px.lt)
          have qs1 := Lib.hid (ps1.below hb ps1.lt)
          have qt1 := Lib.hid (pt1.below hb pt1.lt)
          try clear hsz
          clear hb hB1 pc px ps1 pt1 
          obtain ⟨lc, kc, fc⟩ := qc.out
          obtain ⟨lx, kx, fx⟩ := qx.out
          obtain ⟨ls1, ks1, fs1⟩ := qs1.out
          obtain ⟨lt1, kt1, ft1⟩ := qt1.out
          go_wp2
          refine wp_gen fun R122 hW => ?_
          have hB1 : Below w.heap.size w R122 := by rw [hW]; (repeat' (first | (with_reducible exact Below.refl _ _) | (with_reducible assumption) | (with_reducible refine Below.drew ?_) | (with_reducible refine below_drewN ?_ _) | (with_reducible refine Below.setCell ?_ ?_ _) | (with_reducible refine Below.alloc ?_ ?_ _) | (refine Below.trans ?_ (Below.mono (by with_reducible assumption) ?_)) | omega | (exact Below.size (by with_reducible assumption)) | (simp; done) | (simp; omega)))
          have pc : Own R122 (w.heap.size) [.int .i64 L, .int .i64 sl, .int .i64 rl, .int .i64 rh, .slice A n cap, .int .i64 wg] := by rw [hW]; exact (qc.out.alloc _)
          have px : Own R122 (w.heap.size + 1) [.int .i64 a, .int .i64 b, .int .i64 lv] := by rw [hW]; exact (qx.out.alloc _)
          have ps1 : Own R122 (V4.heap.size) [.int .i64 lo1, .int .i64 hi1] := by rw [hW]; exact (qs1.out.alloc _)
          have pt1 : Own R122 (V5.heap.size) [.int .i64 lo2, .int .i64 hi2] := by rw [hW]; exact (qt1.out.alloc _)
          have pu1 : Own R122 (V121.heap.size) [.int .i64 lo7, .int .i64 hi7] := by rw [hW]; exact Own.new' _ _ rfl rfl
          try clear hBV
          try clear hB
          clear hW lc kc fc qc lx kx fx qx ls1 ks1 fs1 qs1 lt1 kt1 ft1 qt1 
          have hxc := Aft.cell (W := R122) pc
          obtain ⟨lc, kc, fc⟩ := pc
          have pc := Own.mk lc kc fc
          have hxx := Aft.cell (W := R122) px
          obtain ⟨lx, kx, fx⟩ := px
          have px := Own.mk lx kx fx
          have hxs1 := Aft.cell (W := R122) ps1
          obtain ⟨ls1, ks1, fs1⟩ := ps1
          have ps1 := Own.mk ls1 ks1 fs1
          have hxt1 := Aft.cell (W := R122) pt1
          obtain ⟨lt1, kt1, ft1⟩ := pt1
          have pt1 := Own.mk lt1 kt1 ft1
          have hxu1 := Aft.cell (W := R122) pu1
          obtain ⟨lu1, ku1, fu1⟩ := pu1
          have pu1 := Own.mk lu1 ku1 fu1
          have e0 := Lib.hid (fnL_at (l := l) (i := a) (by have := hn2.out; omega))
          have e1 := Lib.hid (fnL_at (l := l) (i := a + 1) (by have := hn2.out; omega))
          obtain ⟨d0, of0, hA4, hd0, c0⟩ := HL.out.elem e0.out
          obtain ⟨d1, of1, hA5, hd1, c1⟩ := HL.out.elem e1.out
          cases hA4
          cases hA5
          have v0 := hvr.out _ (List.mem_of_getElem? e0.out)
          have v1 := hvr.out _ (List.mem_of_getElem? e1.out)
          have hsW := hB1.size
          have hy0 := fun x : Aft R122 => (Aft.old x (by omega) _).trans (((bcell hB1).1 _ _ hd0).trans c0)
          have hy1 := fun x : Aft R122 => (Aft.old x (by omega) _).trans (((bcell hB1).1 _ _ hd0).trans c1)
          have y0 : (a : Int) < (n2 : Int) := by omega
          have y1 : (a : Int) + 1 < (n2 : Int) := by omega
          have y2 : a + 1 < n2 := by omega
          have z1 := IntWalk.i64_in ((a : Int) + 1) (by omega)
          have z2 := IntWalk.i64_in (fnL l (a + 1) - fnL l a) (by omega)
          generalize hxa : fnL l a = xa at *
          generalize hxb : fnL l (a + 1) = xb at *
          clear e0 e1 hxa hxb c0 c1
          refine wp_region_aft (by kernel_rfl) (by kernel_rfl) ?_; (repeat (go_big_quiet_step ((first | (go_at_call 45; exact aft_of (holds45 _ _ _ _ i7.out)) | (go_at_call 13; exact aft_of (works13 _)) | fail)))); refine wpQuiet_nil ?_; rintro w23 ⟨⟨_, hb23⟩, rfl⟩
          clear hy0 hy1
          clear hxc lc kc fc
          clear hxx lx kx fx
          clear hxs1 ls1 ks1 fs1
          clear hxt1 lt1 kt1 ft1
          clear hxu1 lu1 ku1 fu1
          have hB := hB1.trans (hb23.mono hB1.size)
          have qc := Lib.hid (pc.below hb23 pc.lt)
          have qx := Lib.hid (px.below hb23 px.lt)
          have qs1 := Lib.hid (ps1.below hb23 ps1.lt)
          have qt1 := Lib.hid (pt1.below hb23 pt1.lt)
          have qu1 := Lib.hid (pu1.below hb23 pu1.lt)
          try clear hsz
          clear hb23 hB1 pc px ps1 pt1 pu1 
          obtain ⟨lc, kc, fc⟩ := qc.out
          obtain ⟨lx, kx, fx⟩ := qx.out
          obtain ⟨ls1, ks1, fs1⟩ := qs1.out
          obtain ⟨lt1, kt1, ft1⟩ := qt1.out
          obtain ⟨lu1, ku1, fu1⟩ := qu1.out
          go_wp2
          go_ret
          exact ⟨rfl, hB⟩
  · clear hv1 hv2
    go_wp2
    go_loopg [20] (L.toNat + 1) (fun K z w5 => ∃ k : Nat, K + k = L.toNat + 1 ∧ z = .int .i64 k ∧ Hid (Own w5 (w.heap.size) [.int .i64 L, .int .i64 sl, .int .i64 rl, .int .i64 rh, .slice A n cap, .int .i64 wg]) ∧ Hid (Own w5 (w.heap.size + 1) [.int .i64 a, .int .i64 b, .int .i64 lv]) ∧ Hid (Own w5 (V4.heap.size) [.int .i64 lo1, .int .i64 hi1]) ∧ Hid (Own w5 (V5.heap.size) [.int .i64 lo2, .int .i64 hi2]) ∧ Hid (RdI w5 A3 (mids ls)) ∧ Hid (Below w.heap.size w w5) ∧ Hid (V11.heap.size ≤ w5.heap.size))
    case atStart => exact ⟨0, rfl, rfl, qc, qx, qs1, qt1, HM, Lib.hid hB, Lib.hid (Nat.le_refl _)⟩
    case round =>
      clear HM hB lc kc fc qc lx kx fx qx ls1 ks1 fs1 qs1 lt1 kt1 ft1 qt1
      obtain ⟨p, hK, rfl, qc, qx, qs1, qt1, HM, HB, HS⟩ := hrel
      have hB := HB.out
      obtain ⟨lc, kc, fc⟩ := qc.out
      obtain ⟨lx, kx, fx⟩ := qx.out
      obtain ⟨ls1, ks1, fs1⟩ := qs1.out
      obtain ⟨lt1, kt1, ft1⟩ := qt1.out
      by_cases hlt : (p : Int) ≤ L
      · have hpn : p < n2 := by omega
        obtain ⟨d, hd, hd1, hd2⟩ := htold.out p hlt
        have hdb := hmb.out d (List.mem_of_getElem? hd)
        have HDD := Lib.hid hd
        have hd3 := Lib.hid hd1
        have hd4 := Lib.hid hd2
        clear hd hd1 hd2
        go_wp2_with fail
        refine calls_gen fun W101 hW => ?_
        have hB1 : Below w.heap.size w W101 := by rw [hW]; (repeat' (first | (with_reducible exact Below.refl _ _) | (with_reducible assumption) | (with_reducible refine Below.drew ?_) | (with_reducible refine below_drewN ?_ _) | (with_reducible refine Below.setCell ?_ ?_ _) | (with_reducible refine Below.alloc ?_ ?_ _) | (refine Below.trans ?_ (Below.mono (by with_reducible assumption) ?_)) | omega | (exact Below.size (by with_reducible assumption)) | (simp; done) | (simp; omega)))
        have hBV : Below wr.heap.size wr W101 := by rw [hW]; (repeat' (first | (with_reducible exact Below.refl _ _) | (with_reducible assumption) | (with_reducible refine Below.drew ?_) | (with_reducible refine below_drewN ?_ _) | (with_reducible refine Below.setCell ?_ ?_ _) | (with_reducible refine Below.alloc ?_ ?_ _) | (refine Below.trans ?_ (Below.mono (by with_reducible assumption) ?_)) | omega | (exact Below.size (by with_reducible assumption)) | (simp; done) | (simp; omega)))
        have hsz := hBV.size
        have HM1 := Lib.hid (HM.out.below hBV (Nat.le_refl _))
        have pc : Own W101 (w.heap.size) [.int .i64 L, .int .i64 sl, .int .i64 rl, .int .i64 rh, .slice A n cap, .int .i64 wg] := by rw [hW]; exact qc.out
        have px : Own W101 (w.heap.size + 1) [.int .i64 a, .int .i64 b, .int .i64 lv] := by rw [hW]; exact qx.out
        have ps1 : Own W101 (V4.heap.size) [.int .i64 lo1, .int .i64 hi1] := by rw [hW]; exact qs1.out
        have pt1 : Own W101 (V5.heap.size) [.int .i64 lo2, .int .i64 hi2] := by rw [hW]; exact qt1.out
        try clear hBV
        try clear hB
        clear hW lc kc fc qc lx kx fx qx ls1 ks1 fs1 qs1 lt1 kt1 ft1 qt1 HM
        refine (sum46z _ n2 cap2 l p _ (HL.out.below hB1 (Nat.le_refl _)) hn2 (by omega) hpn hvr).mono ?_
        rintro e V101 ⟨rfl, hb⟩
        have hsw := Nat.le_trans hsz hb.size
        have hB := hB1.trans (hb.mono hB1.size)
        have HM := Lib.hid (HM1.out.below hb (Nat.le_refl _))
        have qc := Lib.hid (pc.below hb pc.lt)
        have qx := Lib.hid (px.below hb px.lt)
        have qs1 := Lib.hid (ps1.below hb ps1.lt)
        have qt1 := Lib.hid (pt1.below hb pt1.lt)
        try clear hsz
        clear hb hB1 pc px ps1 pt1 HM1
        obtain ⟨lc, kc, fc⟩ := qc.out
        obtain ⟨lx, kx, fx⟩ := qx.out
        obtain ⟨ls1, ks1, fs1⟩ := qs1.out
        obtain ⟨lt1, kt1, ft1⟩ := qt1.out
        generalize hsm : sUp (fnL l) 0 p n2 = sm at *
        have hd3' := hd3.out
        have hd4' := hd4.out
        obtain ⟨b3, off3, hA3, hb3, c3⟩ := HM.out.elem HDD.out
        have hA3' := Lib.hid hA3
        have y1 : (p : Int) < (n2 : Int) := by omega
        have y2 : p < n2 := by omega
        have z1 : decide (d < -100000) = false := decide_eq_false (by omega)
        have z2 : decide (100000 < d) = false := decide_eq_false (by omega)
        have z3 : decide (m < tx2 (sm - d) (d - sm)) = false := decide_eq_false (tx2_le hd3' hd4')
        have z4 := IntWalk.i64_in (sm - d) (by omega)
        have z5 := IntWalk.i64_in (d - sm) (by omega)
        clear hA3 hsm hd3 hd4
        have hAA := hA3'.out
        subst hAA
        have hy0 := fun x : Aft V101 => (Aft.old x hb3 _).trans c3
        go_wp2
        refine wp_region_aft (by kernel_rfl) (by kernel_rfl) ?_; (repeat (go_big_quiet_step (fail))); refine wpQuiet_nil ?_; rintro w18 ⟨⟨_, hb18⟩, rfl⟩
        have hszV := hB.size
        clear hy0 c3 z1 z2 z3 z4 z5 y1 y2 HDD
        have hB18 := Lib.hid (hB.trans (hb18.mono hszV))
        have HM18 := Lib.hid (HM.out.below hb18 (Nat.le_refl _))
        have HS18 := Lib.hid (Nat.le_trans HS.out (Nat.le_trans hsw hb18.size))
        have rc := Lib.hid (qc.out.below hb18 lc)
        have rx := Lib.hid (qx.out.below hb18 lx)
        have rs1 := Lib.hid (qs1.out.below hb18 ls1)
        have rt1 := Lib.hid (qt1.out.below hb18 lt1)
        clear hb18 hB lc kc fc qc lx kx fx qx ls1 ks1 fs1 qs1 lt1 kt1 ft1 qt1 hszV HB HS
        go_wp2
        go_roundg (L.toNat + 1 - (p + 1))
        case measure => omega
        case rel => exact ⟨p + 1, by omega, by go_num, rc, rx, rs1, rt1, HM18, hB18, HS18⟩
      · have hpx : p = L.toNat + 1 := by omega
        clear HM HB htold
        by_cases haL : (a : Int) = L
        · have haE : ((a : Int) == L) = true := by simpa using haL
          clear haL
          go_wp2_with fail
          refine calls_gen fun W121 hW => ?_
          have hB1 : Below w.heap.size w W121 := by rw [hW]; (repeat' (first | (with_reducible exact Below.refl _ _) | (with_reducible assumption) | (with_reducible refine Below.drew ?_) | (with_reducible refine below_drewN ?_ _) | (with_reducible refine Below.setCell ?_ ?_ _) | (with_reducible refine Below.alloc ?_ ?_ _) | (refine Below.trans ?_ (Below.mono (by with_reducible assumption) ?_)) | omega | (exact Below.size (by with_reducible assumption)) | (simp; done) | (simp; omega)))
          have pc : Own W121 (w.heap.size) [.int .i64 L, .int .i64 sl, .int .i64 rl, .int .i64 rh, .slice A n cap, .int .i64 wg] := by rw [hW]; exact qc.out
          have px : Own W121 (w.heap.size + 1) [.int .i64 a, .int .i64 b, .int .i64 lv] := by rw [hW]; exact qx.out
          have ps1 : Own W121 (V4.heap.size) [.int .i64 lo1, .int .i64 hi1] := by rw [hW]; exact qs1.out
          have pt1 : Own W121 (V5.heap.size) [.int .i64 lo2, .int .i64 hi2] := by rw [hW]; exact qt1.out
          try clear hBV
          try clear hB
          clear hW lc kc fc qc lx kx fx qx ls1 ks1 fs1 qs1 lt1 kt1 ft1 qt1 
          refine (works13 _).mono ?_
          rintro e V121 ⟨rfl, hb⟩
          have hB := hB1.trans (hb.mono hB1.size)
          have qc := Lib.hid (pc.below hb pc.lt)
          have qx := Lib.hid (px.below hb px.lt)
          have qs1 := Lib.hid (ps1.below hb ps1.lt)
          have qt1 := Lib.hid (pt1.below hb pt1.lt)
          try clear hsz
          clear hb hB1 pc px ps1 pt1 
          obtain ⟨lc, kc, fc⟩ := qc.out
          obtain ⟨lx, kx, fx⟩ := qx.out
          obtain ⟨ls1, ks1, fs1⟩ := qs1.out
          obtain ⟨lt1, kt1, ft1⟩ := qt1.out
          go_wp2
          go_ret
          exact ⟨rfl, hB⟩
        · have haE : ((a : Int) == L) = false := by simpa using haL
          have haM : (a : Int) < L := by omega
          clear haL
          go_wp2_with fail
          refine calls_gen fun W121 hW => ?_
          have hB1 : Below w.heap.size w W121 := by rw [hW]; (repeat' (first | (with_reducible exact Below.refl _ _) | (with_reducible assumption) | (with_reducible refine Below.drew ?_) | (with_reducible refine below_drewN ?_ _) | (with_reducible refine Below.setCell ?_ ?_ _) | (with_reducible refine Below.alloc ?_ ?_ _) | (refine Below.trans ?_ (Below.mono (by with_reducible assumption) ?_)) | omega | (exact Below.size (by with_reducible assumption)) | (simp; done) | (simp; omega)))
          have pc : Own W121 (w.heap.size) [.int .i64 L, .int .i64 sl, .int .i64 rl, .int .i64 rh, .slice A n cap, .int .i64 wg] := by rw [hW]; exact qc.out
          have px : Own W121 (w.heap.size + 1) [.int .i64 a, .int .i64 b, .int .i64 lv] := by rw [hW]; exact qx.out
          have ps1 : Own W121 (V4.heap.size) [.int .i64 lo1, .int .i64 hi1] := by rw [hW]; exact qs1.out
          have pt1 : Own W121 (V5.heap.size) [.int .i64 lo2, .int .i64 hi2] := by rw [hW]; exact qt1.out
          try clear hBV
          try clear hB
          clear hW lc kc fc qc lx kx fx qx ls1 ks1 fs1 qs1 lt1 kt1 ft1 qt1 
          refine (lean35 L sl rl rh wg A n cap ks a _ (HA.out.below hB1 (Nat.le_refl _)) hn hlen hLL.out hSS.out).mono ?_
          rintro e V121 ⟨lo7, hi7, er7, rfl, hR7, hb⟩
          obtain ⟨rfl, hs7⟩ := lean_T HC.out HT.out hR7.out ha0 haM
          have i7 := Lib.hid (tr_ln HTr.out hs7)
          simp only [Int.toNat_natCast] at i7
          clear hR7 hs7
          have hB := hB1.trans (hb.mono hB1.size)
          have qc := Lib.hid (pc.below hb pc.lt)
          have qx := Lib.hid (px.below hb px.lt)
          have qs1 := Lib.hid (ps1.below hb ps1.lt)
          have qt1 := Lib.hid (pt1.below hb pt1.lt)
          try clear hsz
          clear hb hB1 pc px ps1 pt1 
          obtain ⟨lc, kc, fc⟩ := qc.out
          obtain ⟨lx, kx, fx⟩ := qx.out
          obtain ⟨ls1, ks1, fs1⟩ := qs1.out
          obtain ⟨lt1, kt1, ft1⟩ := qt1.out
          go_wp2
          refine wp_gen fun R122 hW => ?_
          have hB1 : Below w.heap.size w R122 := by rw [hW]; (repeat' (first | (with_reducible exact Below.refl _ _) | (with_reducible assumption) | (with_reducible refine Below.drew ?_) | (with_reducible refine below_drewN ?_ _) | (with_reducible refine Below.setCell ?_ ?_ _) | (with_reducible refine Below.alloc ?_ ?_ _) | (refine Below.trans ?_ (Below.mono (by with_reducible assumption) ?_)) | omega | (exact Below.size (by with_reducible assumption)) | (simp; done) | (simp; omega)))
          have pc : Own R122 (w.heap.size) [.int .i64 L, .int .i64 sl, .int .i64 rl, .int .i64 rh, .slice A n cap, .int .i64 wg] := by rw [hW]; exact (qc.out.alloc _)
          have px : Own R122 (w.heap.size + 1) [.int .i64 a, .int .i64 b, .int .i64 lv] := by rw [hW]; exact (qx.out.alloc _)
          have ps1 : Own R122 (V4.heap.size) [.int .i64 lo1, .int .i64 hi1] := by rw [hW]; exact (qs1.out.alloc _)
          have pt1 : Own R122 (V5.heap.size) [.int .i64 lo2, .int .i64 hi2] := by rw [hW]; exact (qt1.out.alloc _)
          have pu1 : Own R122 (V121.heap.size) [.int .i64 lo7, .int .i64 hi7] := by rw [hW]; exact Own.new' _ _ rfl rfl
          try clear hBV
          try clear hB
          clear hW lc kc fc qc lx kx fx qx ls1 ks1 fs1 qs1 lt1 kt1 ft1 qt1 
          have hxc := Aft.cell (W := R122) pc
          obtain ⟨lc, kc, fc⟩ := pc
          have pc := Own.mk lc kc fc
          have hxx := Aft.cell (W := R122) px
          obtain ⟨lx, kx, fx⟩ := px
          have px := Own.mk lx kx fx
          have hxs1 := Aft.cell (W := R122) ps1
          obtain ⟨ls1, ks1, fs1⟩ := ps1
          have ps1 := Own.mk ls1 ks1 fs1
          have hxt1 := Aft.cell (W := R122) pt1
          obtain ⟨lt1, kt1, ft1⟩ := pt1
          have pt1 := Own.mk lt1 kt1 ft1
          have hxu1 := Aft.cell (W := R122) pu1
          obtain ⟨lu1, ku1, fu1⟩ := pu1
          have pu1 := Own.mk lu1 ku1 fu1
          have e0 := Lib.hid (fnL_at (l := l) (i := a) (by have := hn2.out; omega))
          have e1 := Lib.hid (fnL_at (l := l) (i := a + 1) (by have := hn2.out; omega))
          obtain ⟨d0, of0, hA4, hd0, c0⟩ := HL.out.elem e0.out
          obtain ⟨d1, of1, hA5, hd1, c1⟩ := HL.out.elem e1.out
          cases hA4
          cases hA5
          have v0 := hvr.out _ (List.mem_of_getElem? e0.out)
          have v1 := hvr.out _ (List.mem_of_getElem? e1.out)
          have hsW := hB1.size
          have hy0 := fun x : Aft R122 => (Aft.old x (by omega) _).trans (((bcell hB1).1 _ _ hd0).trans c0)
          have hy1 := fun x : Aft R122 => (Aft.old x (by omega) _).trans (((bcell hB1).1 _ _ hd0).trans c1)
          have y0 : (a : Int) < (n2 : Int) := by omega
          have y1 : (a : Int) + 1 < (n2 : Int) := by omega
          have y2 : a + 1 < n2 := by omega
          have z1 := IntWalk.i64_in ((a : Int) + 1) (by omega)
          have z2 := IntWalk.i64_in (fnL l (a + 1) - fnL l a) (by omega)
          generalize hxa : fnL l a = xa at *
          generalize hxb : fnL l (a + 1) = xb at *
          clear e0 e1 hxa hxb c0 c1
          refine wp_region_aft (by kernel_rfl) (by kernel_rfl) ?_; (repeat (go_big_quiet_step ((first | (go_at_call 45; exact aft_of (holds45 _ _ _ _ i7.out)) | (go_at_call 13; exact aft_of (works13 _)) | fail)))); refine wpQuiet_nil ?_; rintro w23 ⟨⟨_, hb23⟩, rfl⟩
          clear hy0 hy1
          clear hxc lc kc fc
          clear hxx lx kx fx
          clear hxs1 ls1 ks1 fs1
          clear hxt1 lt1 kt1 ft1
          clear hxu1 lu1 ku1 fu1
          have hB := hB1.trans (hb23.mono hB1.size)
          have qc := Lib.hid (pc.below hb23 pc.lt)
          have qx := Lib.hid (px.below hb23 px.lt)
          have qs1 := Lib.hid (ps1.below hb23 ps1.lt)
          have qt1 := Lib.hid (pt1.below hb23 pt1.lt)
          have qu1 := Lib.hid (pu1.below hb23 pu1.lt)
          try clear hsz
          clear hb23 hB1 pc px ps1 pt1 pu1 
          obtain ⟨lc, kc, fc⟩ := qc.out
          obtain ⟨lx, kx, fx⟩ := qx.out
          obtain ⟨ls1, ks1, fs1⟩ := qs1.out
          obtain ⟨lt1, kt1, ft1⟩ := qt1.out
          obtain ⟨lu1, ku1, fu1⟩ := qu1.out
          go_wp2
          go_ret
          exact ⟨rfl, hB⟩
end Go.Proofs.Ytphcpphmoeiioaa
