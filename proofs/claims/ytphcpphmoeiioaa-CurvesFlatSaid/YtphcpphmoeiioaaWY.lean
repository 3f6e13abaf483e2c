/- CurvesFlat: flat curves, and what is known for sure. -/
import Derived.Test.YtphcpphmoeiioaaFlP
namespace Go.Proofs.Ytphcpphmoeiioaa
open Go.RowKit Go.Maps

theorem isKnown22t (er : Int) (h : Hid (knB er = true)) (w : World) : Calls Try.prog 22 #[.int .i64 er] w fun e w' => e = .returned (.bool true) ∧ Below w.heap.size w w' :=
  (isKnown22 er w).mono fun _ _ ⟨h1, h2⟩ => ⟨by rw [← h.out]; exact h1, h2 ▸ Below.refl _ _⟩
set_option maxRecDepth 100000 in
set_option maxHeartbeats 8000000 in
theorem flat6 (L sl rl rh wg : Int) (A : Option Addr) (n cap : Nat) (ks : List Kn) (a b lv : Int) (w : World) (hA : Rd 3 w A (ks.map krow)) (hn : Hid (n = ks.length)) (hlen : n ≤ 9223372036854775807) :
    Calls Try.prog 6 #[.agg #[.int .i64 L, .int .i64 sl, .int .i64 rl, .int .i64 rh, .slice A n cap, .int .i64 wg], .agg #[.int .i64 a, .int .i64 b, .int .i64 lv]] w fun e w' => e = .returned (.bool true) ∧ Below w.heap.size w w' := by
  have HA := Lib.hid hA
  clear hA
  cases hr : readyB L sl rl rh wg ks
  · have HR := Lib.hid hr
    clear hr
    go_enter Try.func6, Try.ntmps6
    go_wp2_with fail
    refine calls_gen fun W1 hW => ?_
    have hB : Below w.heap.size w W1 := by rw [hW]; (repeat' (first | (with_reducible exact Below.refl _ _) | (with_reducible assumption) | (with_reducible refine Below.drew ?_) | (with_reducible refine below_drewN ?_ _) | (with_reducible refine Below.setCell ?_ ?_ _) | (with_reducible refine Below.alloc ?_ ?_ _) | (refine Below.trans ?_ (Below.mono (by with_reducible assumption) ?_)) | omega | (exact Below.size (by with_reducible assumption)) | (simp; done) | (simp; omega)))
    have pc : Own W1 (w.heap.size) [.int .i64 L, .int .i64 sl, .int .i64 rl, .int .i64 rh, .slice A n cap, .int .i64 wg] := by rw [hW]; exact (Own.new' _ _ rfl rfl).alloc _
    have px : Own W1 (w.heap.size + 1) [.int .i64 a, .int .i64 b, .int .i64 lv] := by rw [hW]; exact Own.new' _ _ (by simp) rfl
    clear hW 
    refine (ready18v false L sl rl rh wg A n cap ks _ HR (HA.out.below hB (Nat.le_refl _)) hn hlen).mono ?_
    rintro e V1 ⟨rfl, hb⟩
    have hB' := hB.trans (hb.mono hB.size)
    have qc := Lib.hid (pc.below hb pc.lt)
    have qx := Lib.hid (px.below hb px.lt)
    clear hb hB pc px
    have hB := hB'
    clear hB'
    obtain ⟨lc, kc, fc⟩ := qc.out
    obtain ⟨lx, kx, fx⟩ := qx.out
    go_wp2_with fail
    refine calls_gen fun W2 hW => ?_
    have hB : Below w.heap.size w W2 := by rw [hW]; (repeat' (first | (with_reducible exact Below.refl _ _) | (with_reducible assumption) | (with_reducible refine Below.drew ?_) | (with_reducible refine below_drewN ?_ _) | (with_reducible refine Below.setCell ?_ ?_ _) | (with_reducible refine Below.alloc ?_ ?_ _) | (refine Below.trans ?_ (Below.mono (by with_reducible assumption) ?_)) | omega | (exact Below.size (by with_reducible assumption)) | (simp; done) | (simp; omega)))
    have hBV : Below V1.heap.size V1 W2 := by rw [hW]; (repeat' (first | (with_reducible exact Below.refl _ _) | (with_reducible assumption) | (with_reducible refine Below.drew ?_) | (with_reducible refine below_drewN ?_ _) | (with_reducible refine Below.setCell ?_ ?_ _) | (with_reducible refine Below.alloc ?_ ?_ _) | (refine Below.trans ?_ (Below.mono (by with_reducible assumption) ?_)) | omega | (exact Below.size (by with_reducible assumption)) | (simp; done) | (simp; omega)))
    have pc : Own W2 (w.heap.size) [.int .i64 L, .int .i64 sl, .int .i64 rl, .int .i64 rh, .slice A n cap, .int .i64 wg] := by rw [hW]; exact qc.out
    have px : Own W2 (w.heap.size + 1) [.int .i64 a, .int .i64 b, .int .i64 lv] := by rw [hW]; exact qx.out
    clear hW lc kc fc qc lx kx fx qx
    refine (works13 _).mono ?_
    rintro e V2 ⟨rfl, hb⟩
    have hB' := hB.trans (hb.mono hB.size)
    have qc := Lib.hid (pc.below hb pc.lt)
    have qx := Lib.hid (px.below hb px.lt)
    clear hb hB hBV pc px
    have hB := hB'
    clear hB'
    obtain ⟨lc, kc, fc⟩ := qc.out
    obtain ⟨lx, kx, fx⟩ := qx.out
    go_wp2
    go_ret
    exact ⟨rfl, hB⟩
  have HR := Lib.hid hr
  cases hk : askB L a b lv
  · have HK := Lib.hid hk
    clear hr hk
    go_enter Try.func6, Try.ntmps6
    go_wp2_with fail
    refine calls_gen fun W1 hW => ?_
    have hB : Below w.heap.size w W1 := by rw [hW]; (repeat' (first | (with_reducible exact Below.refl _ _) | (with_reducible assumption) | (with_reducible refine Below.drew ?_) | (with_reducible refine below_drewN ?_ _) | (with_reducible refine Below.setCell ?_ ?_ _) | (with_reducible refine Below.alloc ?_ ?_ _) | (refine Below.trans ?_ (Below.mono (by with_reducible assumption) ?_)) | omega | (exact Below.size (by with_reducible assumption)) | (simp; done) | (simp; omega)))
    have pc : Own W1 (w.heap.size) [.int .i64 L, .int .i64 sl, .int .i64 rl, .int .i64 rh, .slice A n cap, .int .i64 wg] := by rw [hW]; exact (Own.new' _ _ rfl rfl).alloc _
    have px : Own W1 (w.heap.size + 1) [.int .i64 a, .int .i64 b, .int .i64 lv] := by rw [hW]; exact Own.new' _ _ (by simp) rfl
    clear hW 
    refine (ready18v true L sl rl rh wg A n cap ks _ HR (HA.out.below hB (Nat.le_refl _)) hn hlen).mono ?_
    rintro e V1 ⟨rfl, hb⟩
    have hB' := hB.trans (hb.mono hB.size)
    have qc := Lib.hid (pc.below hb pc.lt)
    have qx := Lib.hid (px.below hb px.lt)
    clear hb hB pc px
    have hB := hB'
    clear hB'
    obtain ⟨lc, kc, fc⟩ := qc.out
    obtain ⟨lx, kx, fx⟩ := qx.out
    go_wp2_with fail
    refine calls_gen fun W2 hW => ?_
    have hB : Below w.heap.size w W2 := by rw [hW]; (repeat' (first | (with_reducible exact Below.refl _ _) | (with_reducible assumption) | (with_reducible refine Below.drew ?_) | (with_reducible refine below_drewN ?_ _) | (with_reducible refine Below.setCell ?_ ?_ _) | (with_reducible refine Below.alloc ?_ ?_ _) | (refine Below.trans ?_ (Below.mono (by with_reducible assumption) ?_)) | omega | (exact Below.size (by with_reducible assumption)) | (simp; done) | (simp; omega)))
    have hBV : Below V1.heap.size V1 W2 := by rw [hW]; (repeat' (first | (with_reducible exact Below.refl _ _) | (with_reducible assumption) | (with_reducible refine Below.drew ?_) | (with_reducible refine below_drewN ?_ _) | (with_reducible refine Below.setCell ?_ ?_ _) | (with_reducible refine Below.alloc ?_ ?_ _) | (refine Below.trans ?_ (Below.mono (by with_reducible assumption) ?_)) | omega | (exact Below.size (by with_reducible assumption)) | (simp; done) | (simp; omega)))
    have pc : Own W2 (w.heap.size) [.int .i64 L, .int .i64 sl, .int .i64 rl, .int .i64 rh, .slice A n cap, .int .i64 wg] := by rw [hW]; exact qc.out
    have px : Own W2 (w.heap.size + 1) [.int .i64 a, .int .i64 b, .int .i64 lv] := by rw [hW]; exact qx.out
    clear hW lc kc fc qc lx kx fx qx
    refine (isAsk19v false L sl rl rh wg _ a b lv _ HK).mono ?_
    rintro e V2 ⟨rfl, hb⟩
    have hB' := hB.trans (hb.mono hB.size)
    have qc := Lib.hid (pc.below hb pc.lt)
    have qx := Lib.hid (px.below hb px.lt)
    clear hb hB hBV pc px
    have hB := hB'
    clear hB'
    obtain ⟨lc, kc, fc⟩ := qc.out
    obtain ⟨lx, kx, fx⟩ := qx.out
    go_wp2_with fail
    refine calls_gen fun W3 hW => ?_
    have hB : Below w.heap.size w W3 := by rw [hW]; (repeat' (first | (with_reducible exact Below.refl _ _) | (with_reducible assumption) | (with_reducible refine Below.drew ?_) | (with_reducible refine below_drewN ?_ _) | (with_reducible refine Below.setCell ?_ ?_ _) | (with_reducible refine Below.alloc ?_ ?_ _) | (refine Below.trans ?_ (Below.mono (by with_reducible assumption) ?_)) | omega | (exact Below.size (by with_reducible assumption)) | (simp; done) | (simp; omega)))
    have hBV : Below V2.heap.size V2 W3 := by rw [hW]; (repeat' (first | (with_reducible exact Below.refl _ _) | (with_reducible assumption) | (with_reducible refine Below.drew ?_) | (with_reducible refine below_drewN ?_ _) | (with_reducible refine Below.setCell ?_ ?_ _) | (with_reducible refine Below.alloc ?_ ?_ _) | (refine Below.trans ?_ (Below.mono (by with_reducible assumption) ?_)) | omega | (exact Below.size (by with_reducible assumption)) | (simp; done) | (simp; omega)))
    have pc : Own W3 (w.heap.size) [.int .i64 L, .int .i64 sl, .int .i64 rl, .int .i64 rh, .slice A n cap, .int .i64 wg] := by rw [hW]; exact qc.out
    have px : Own W3 (w.heap.size + 1) [.int .i64 a, .int .i64 b, .int .i64 lv] := by rw [hW]; exact qx.out
    clear hW lc kc fc qc lx kx fx qx
    refine (works13 _).mono ?_
    rintro e V3 ⟨rfl, hb⟩
    have hB' := hB.trans (hb.mono hB.size)
    have qc := Lib.hid (pc.below hb pc.lt)
    have qx := Lib.hid (px.below hb px.lt)
    clear hb hB hBV pc px
    have hB := hB'
    clear hB'
    obtain ⟨lc, kc, fc⟩ := qc.out
    obtain ⟨lx, kx, fx⟩ := qx.out
    go_wp2
    go_ret
    exact ⟨rfl, hB⟩
  have HK := Lib.hid hk
  have hc := (ready_iff.1 hr).2
  obtain ⟨ha0, hab, hbL, _, _⟩ := askB_iff.1 hk
  have HC := Lib.hid hc
  have hV := Lib.hid (cvV_of hc)
  have hl2 := hV.out.l2
  have hl1 := hV.out.l1
  have hs1 := hV.out.s1
  clear hr hk hc
  by_cases hT : ∃ h, Truth (cvOf L sl rl rh wg ks) h
  rotate_left
  · have HT := Lib.hid hT
    clear hT
    go_enter Try.func6, Try.ntmps6
    go_wp2_with fail
    refine calls_gen fun W1 hW => ?_
    have hB : Below w.heap.size w W1 := by rw [hW]; (repeat' (first | (with_reducible exact Below.refl _ _) | (with_reducible assumption) | (with_reducible refine Below.drew ?_) | (with_reducible refine below_drewN ?_ _) | (with_reducible refine Below.setCell ?_ ?_ _) | (with_reducible refine Below.alloc ?_ ?_ _) | (refine Below.trans ?_ (Below.mono (by with_reducible assumption) ?_)) | omega | (exact Below.size (by with_reducible assumption)) | (simp; done) | (simp; omega)))
    have pc : Own W1 (w.heap.size) [.int .i64 L, .int .i64 sl, .int .i64 rl, .int .i64 rh, .slice A n cap, .int .i64 wg] := by rw [hW]; exact (Own.new' _ _ rfl rfl).alloc _
    have px : Own W1 (w.heap.size + 1) [.int .i64 a, .int .i64 b, .int .i64 lv] := by rw [hW]; exact Own.new' _ _ (by simp) rfl
    clear hW 
    refine (ready18v true L sl rl rh wg A n cap ks _ HR (HA.out.below hB (Nat.le_refl _)) hn hlen).mono ?_
    rintro e V1 ⟨rfl, hb⟩
    have hB' := hB.trans (hb.mono hB.size)
    have qc := Lib.hid (pc.below hb pc.lt)
    have qx := Lib.hid (px.below hb px.lt)
    clear hb hB pc px
    have hB := hB'
    clear hB'
    obtain ⟨lc, kc, fc⟩ := qc.out
    obtain ⟨lx, kx, fx⟩ := qx.out
    go_wp2_with fail
    refine calls_gen fun W2 hW => ?_
    have hB : Below w.heap.size w W2 := by rw [hW]; (repeat' (first | (with_reducible exact Below.refl _ _) | (with_reducible assumption) | (with_reducible refine Below.drew ?_) | (with_reducible refine below_drewN ?_ _) | (with_reducible refine Below.setCell ?_ ?_ _) | (with_reducible refine Below.alloc ?_ ?_ _) | (refine Below.trans ?_ (Below.mono (by with_reducible assumption) ?_)) | omega | (exact Below.size (by with_reducible assumption)) | (simp; done) | (simp; omega)))
    have hBV : Below V1.heap.size V1 W2 := by rw [hW]; (repeat' (first | (with_reducible exact Below.refl _ _) | (with_reducible assumption) | (with_reducible refine Below.drew ?_) | (with_reducible refine below_drewN ?_ _) | (with_reducible refine Below.setCell ?_ ?_ _) | (with_reducible refine Below.alloc ?_ ?_ _) | (refine Below.trans ?_ (Below.mono (by with_reducible assumption) ?_)) | omega | (exact Below.size (by with_reducible assumption)) | (simp; done) | (simp; omega)))
    have pc : Own W2 (w.heap.size) [.int .i64 L, .int .i64 sl, .int .i64 rl, .int .i64 rh, .slice A n cap, .int .i64 wg] := by rw [hW]; exact qc.out
    have px : Own W2 (w.heap.size + 1) [.int .i64 a, .int .i64 b, .int .i64 lv] := by rw [hW]; exact qx.out
    clear hW lc kc fc qc lx kx fx qx
    refine (isAsk19v true L sl rl rh wg _ a b lv _ HK).mono ?_
    rintro e V2 ⟨rfl, hb⟩
    have hB' := hB.trans (hb.mono hB.size)
    have qc := Lib.hid (pc.below hb pc.lt)
    have qx := Lib.hid (px.below hb px.lt)
    clear hb hB hBV pc px
    have hB := hB'
    clear hB'
    obtain ⟨lc, kc, fc⟩ := qc.out
    obtain ⟨lx, kx, fx⟩ := qx.out
    go_wp2_with fail
    refine calls_gen fun W3 hW => ?_
    have hB : Below w.heap.size w W3 := by rw [hW]; (repeat' (first | (with_reducible exact Below.refl _ _) | (with_reducible assumption) | (with_reducible refine Below.drew ?_) | (with_reducible refine below_drewN ?_ _) | (with_reducible refine Below.setCell ?_ ?_ _) | (with_reducible refine Below.alloc ?_ ?_ _) | (refine Below.trans ?_ (Below.mono (by with_reducible assumption) ?_)) | omega | (exact Below.size (by with_reducible assumption)) | (simp; done) | (simp; omega)))
    have hBV : Below V2.heap.size V2 W3 := by rw [hW]; (repeat' (first | (with_reducible exact Below.refl _ _) | (with_reducible assumption) | (with_reducible refine Below.drew ?_) | (with_reducible refine below_drewN ?_ _) | (with_reducible refine Below.setCell ?_ ?_ _) | (with_reducible refine Below.alloc ?_ ?_ _) | (refine Below.trans ?_ (Below.mono (by with_reducible assumption) ?_)) | omega | (exact Below.size (by with_reducible assumption)) | (simp; done) | (simp; omega)))
    have pc : Own W3 (w.heap.size) [.int .i64 L, .int .i64 sl, .int .i64 rl, .int .i64 rh, .slice A n cap, .int .i64 wg] := by rw [hW]; exact qc.out
    have px : Own W3 (w.heap.size + 1) [.int .i64 a, .int .i64 b, .int .i64 lv] := by rw [hW]; exact qx.out
    clear hW lc kc fc qc lx kx fx qx
    refine (told27 L sl rl rh wg A n cap ks _ (HA.out.below hB (Nat.le_refl _)) hn hlen).mono ?_
    rintro e V3 ⟨ls, m, er, rfl, hR, hM, hb⟩
    obtain ⟨rfl, rfl⟩ := draw_F HC.out HT.out hR.out
    obtain rfl : m = 0 := by
      rcases hM.out.2.1 with h | ⟨_, h, _⟩
      · exact h
      · cases h
    clear hR hM
    have hB' := hB.trans (hb.mono hB.size)
    have qc := Lib.hid (pc.below hb pc.lt)
    have qx := Lib.hid (px.below hb px.lt)
    clear hb hB hBV pc px
    have hB := hB'
    clear hB'
    obtain ⟨lc, kc, fc⟩ := qc.out
    obtain ⟨lx, kx, fx⟩ := qx.out
    go_wp2_with fail
    refine calls_gen fun W4 hW => ?_
    have hB : Below w.heap.size w W4 := by rw [hW]; (repeat' (first | (with_reducible exact Below.refl _ _) | (with_reducible assumption) | (with_reducible refine Below.drew ?_) | (with_reducible refine below_drewN ?_ _) | (with_reducible refine Below.setCell ?_ ?_ _) | (with_reducible refine Below.alloc ?_ ?_ _) | (refine Below.trans ?_ (Below.mono (by with_reducible assumption) ?_)) | omega | (exact Below.size (by with_reducible assumption)) | (simp; done) | (simp; omega)))
    have hBV : Below V3.heap.size V3 W4 := by rw [hW]; (repeat' (first | (with_reducible exact Below.refl _ _) | (with_reducible assumption) | (with_reducible refine Below.drew ?_) | (with_reducible refine below_drewN ?_ _) | (with_reducible refine Below.setCell ?_ ?_ _) | (with_reducible refine Below.alloc ?_ ?_ _) | (refine Below.trans ?_ (Below.mono (by with_reducible assumption) ?_)) | omega | (exact Below.size (by with_reducible assumption)) | (simp; done) | (simp; omega)))
    have pc : Own W4 (w.heap.size) [.int .i64 L, .int .i64 sl, .int .i64 rl, .int .i64 rh, .slice A n cap, .int .i64 wg] := by rw [hW]; exact qc.out
    have px : Own W4 (w.heap.size + 1) [.int .i64 a, .int .i64 b, .int .i64 lv] := by rw [hW]; exact qx.out
    clear hW lc kc fc qc lx kx fx qx
    refine (draw21 L sl rl rh wg A n cap ks _ (HA.out.below hB (Nat.le_refl _)) hn hlen).mono ?_
    rintro e V4 ⟨A5, c5, ls, er5, rfl, hR, hrd, hll, hb⟩
    obtain ⟨rfl, rfl⟩ := draw_F HC.out HT.out hR.out
    clear hR hrd
    have hB' := hB.trans (hb.mono hB.size)
    have qc := Lib.hid (pc.below hb pc.lt)
    have qx := Lib.hid (px.below hb px.lt)
    clear hb hB hBV pc px
    have hB := hB'
    clear hB'
    obtain ⟨lc, kc, fc⟩ := qc.out
    obtain ⟨lx, kx, fx⟩ := qx.out
    go_wp2_with fail
    refine calls_gen fun W5 hW => ?_
    have hB : Below w.heap.size w W5 := by rw [hW]; (repeat' (first | (with_reducible exact Below.refl _ _) | (with_reducible assumption) | (with_reducible refine Below.drew ?_) | (with_reducible refine below_drewN ?_ _) | (with_reducible refine Below.setCell ?_ ?_ _) | (with_reducible refine Below.alloc ?_ ?_ _) | (refine Below.trans ?_ (Below.mono (by with_reducible assumption) ?_)) | omega | (exact Below.size (by with_reducible assumption)) | (simp; done) | (simp; omega)))
    have hBV : Below V4.heap.size V4 W5 := by rw [hW]; (repeat' (first | (with_reducible exact Below.refl _ _) | (with_reducible assumption) | (with_reducible refine Below.drew ?_) | (with_reducible refine below_drewN ?_ _) | (with_reducible refine Below.setCell ?_ ?_ _) | (with_reducible refine Below.alloc ?_ ?_ _) | (refine Below.trans ?_ (Below.mono (by with_reducible assumption) ?_)) | omega | (exact Below.size (by with_reducible assumption)) | (simp; done) | (simp; omega)))
    have pc : Own W5 (w.heap.size) [.int .i64 L, .int .i64 sl, .int .i64 rl, .int .i64 rh, .slice A n cap, .int .i64 wg] := by rw [hW]; exact qc.out
    have px : Own W5 (w.heap.size + 1) [.int .i64 a, .int .i64 b, .int .i64 lv] := by rw [hW]; exact qx.out
    clear hW lc kc fc qc lx kx fx qx
    refine (next15 L sl rl rh wg A n cap ks _ (HA.out.below hB (Nat.le_refl _)) hn hlen).mono ?_
    rintro e V5 ⟨nx, er, rfl, hR, hb⟩
    obtain ⟨rfl, rfl⟩ := next_F HC.out HT.out hR.out
    clear hR
    have hB' := hB.trans (hb.mono hB.size)
    have qc := Lib.hid (pc.below hb pc.lt)
    have qx := Lib.hid (px.below hb px.lt)
    clear hb hB hBV pc px
    have hB := hB'
    clear hB'
    obtain ⟨lc, kc, fc⟩ := qc.out
    obtain ⟨lx, kx, fx⟩ := qx.out
    go_wp2_with fail
    refine calls_gen fun W6 hW => ?_
    have hB : Below w.heap.size w W6 := by rw [hW]; (repeat' (first | (with_reducible exact Below.refl _ _) | (with_reducible assumption) | (with_reducible refine Below.drew ?_) | (with_reducible refine below_drewN ?_ _) | (with_reducible refine Below.setCell ?_ ?_ _) | (with_reducible refine Below.alloc ?_ ?_ _) | (refine Below.trans ?_ (Below.mono (by with_reducible assumption) ?_)) | omega | (exact Below.size (by with_reducible assumption)) | (simp; done) | (simp; omega)))
    have hBV : Below V5.heap.size V5 W6 := by rw [hW]; (repeat' (first | (with_reducible exact Below.refl _ _) | (with_reducible assumption) | (with_reducible refine Below.drew ?_) | (with_reducible refine below_drewN ?_ _) | (with_reducible refine Below.setCell ?_ ?_ _) | (with_reducible refine Below.alloc ?_ ?_ _) | (refine Below.trans ?_ (Below.mono (by with_reducible assumption) ?_)) | omega | (exact Below.size (by with_reducible assumption)) | (simp; done) | (simp; omega)))
    have pc : Own W6 (w.heap.size) [.int .i64 L, .int .i64 sl, .int .i64 rl, .int .i64 rh, .slice A n cap, .int .i64 wg] := by rw [hW]; exact qc.out
    have px : Own W6 (w.heap.size + 1) [.int .i64 a, .int .i64 b, .int .i64 lv] := by rw [hW]; exact qx.out
    clear hW lc kc fc qc lx kx fx qx
    refine (isKnown22w _ _).mono ?_
    rintro e V6 ⟨rfl, hb⟩
    have hB' := hB.trans (hb.mono hB.size)
    have qc := Lib.hid (pc.below hb pc.lt)
    have qx := Lib.hid (px.below hb px.lt)
    clear hb hB hBV pc px
    have hB := hB'
    clear hB'
    obtain ⟨lc, kc, fc⟩ := qc.out
    obtain ⟨lx, kx, fx⟩ := qx.out
    go_wp2_with fail
    refine calls_gen fun W7 hW => ?_
    have hB : Below w.heap.size w W7 := by rw [hW]; (repeat' (first | (with_reducible exact Below.refl _ _) | (with_reducible assumption) | (with_reducible refine Below.drew ?_) | (with_reducible refine below_drewN ?_ _) | (with_reducible refine Below.setCell ?_ ?_ _) | (with_reducible refine Below.alloc ?_ ?_ _) | (refine Below.trans ?_ (Below.mono (by with_reducible assumption) ?_)) | omega | (exact Below.size (by with_reducible assumption)) | (simp; done) | (simp; omega)))
    have hBV : Below V6.heap.size V6 W7 := by rw [hW]; (repeat' (first | (with_reducible exact Below.refl _ _) | (with_reducible assumption) | (with_reducible refine Below.drew ?_) | (with_reducible refine below_drewN ?_ _) | (with_reducible refine Below.setCell ?_ ?_ _) | (with_reducible refine Below.alloc ?_ ?_ _) | (refine Below.trans ?_ (Below.mono (by with_reducible assumption) ?_)) | omega | (exact Below.size (by with_reducible assumption)) | (simp; done) | (simp; omega)))
    have pc : Own W7 (w.heap.size) [.int .i64 L, .int .i64 sl, .int .i64 rl, .int .i64 rh, .slice A n cap, .int .i64 wg] := by rw [hW]; exact qc.out
    have px : Own W7 (w.heap.size + 1) [.int .i64 a, .int .i64 b, .int .i64 lv] := by rw [hW]; exact qx.out
    clear hW lc kc fc qc lx kx fx qx
    refine (isKnown22w _ _).mono ?_
    rintro e V7 ⟨rfl, hb⟩
    have hB' := hB.trans (hb.mono hB.size)
    have qc := Lib.hid (pc.below hb pc.lt)
    have qx := Lib.hid (px.below hb px.lt)
    clear hb hB hBV pc px
    have hB := hB'
    clear hB'
    obtain ⟨lc, kc, fc⟩ := qc.out
    obtain ⟨lx, kx, fx⟩ := qx.out
    go_wp2_with fail
    refine calls_gen fun W8 hW => ?_
    have hB : Below w.heap.size w W8 := by rw [hW]; (repeat' (first | (with_reducible exact Below.refl _ _) | (with_reducible assumption) | (with_reducible refine Below.drew ?_) | (with_reducible refine below_drewN ?_ _) | (with_reducible refine Below.setCell ?_ ?_ _) | (with_reducible refine Below.alloc ?_ ?_ _) | (refine Below.trans ?_ (Below.mono (by with_reducible assumption) ?_)) | omega | (exact Below.size (by with_reducible assumption)) | (simp; done) | (simp; omega)))
    have hBV : Below V7.heap.size V7 W8 := by rw [hW]; (repeat' (first | (with_reducible exact Below.refl _ _) | (with_reducible assumption) | (with_reducible refine Below.drew ?_) | (with_reducible refine below_drewN ?_ _) | (with_reducible refine Below.setCell ?_ ?_ _) | (with_reducible refine Below.alloc ?_ ?_ _) | (refine Below.trans ?_ (Below.mono (by with_reducible assumption) ?_)) | omega | (exact Below.size (by with_reducible assumption)) | (simp; done) | (simp; omega)))
    have pc : Own W8 (w.heap.size) [.int .i64 L, .int .i64 sl, .int .i64 rl, .int .i64 rh, .slice A n cap, .int .i64 wg] := by rw [hW]; exact qc.out
    have px : Own W8 (w.heap.size + 1) [.int .i64 a, .int .i64 b, .int .i64 lv] := by rw [hW]; exact qx.out
    clear hW lc kc fc qc lx kx fx qx
    refine (works13 _).mono ?_
    rintro e V8 ⟨rfl, hb⟩
    have hB' := hB.trans (hb.mono hB.size)
    have qc := Lib.hid (pc.below hb pc.lt)
    have qx := Lib.hid (px.below hb px.lt)
    clear hb hB hBV pc px
    have hB := hB'
    clear hB'
    obtain ⟨lc, kc, fc⟩ := qc.out
    obtain ⟨lx, kx, fx⟩ := qx.out
    go_wp2
    go_ret
    exact ⟨rfl, hB⟩
  · have HT := Lib.hid hT
    clear hT
    go_enter Try.func6, Try.ntmps6
    go_wp2_with fail
    refine calls_gen fun W1 hW => ?_
    have hB : Below w.heap.size w W1 := by rw [hW]; (repeat' (first | (with_reducible exact Below.refl _ _) | (with_reducible assumption) | (with_reducible refine Below.drew ?_) | (with_reducible refine below_drewN ?_ _) | (with_reducible refine Below.setCell ?_ ?_ _) | (with_reducible refine Below.alloc ?_ ?_ _) | (refine Below.trans ?_ (Below.mono (by with_reducible assumption) ?_)) | omega | (exact Below.size (by with_reducible assumption)) | (simp; done) | (simp; omega)))
    have pc : Own W1 (w.heap.size) [.int .i64 L, .int .i64 sl, .int .i64 rl, .int .i64 rh, .slice A n cap, .int .i64 wg] := by rw [hW]; exact (Own.new' _ _ rfl rfl).alloc _
    have px : Own W1 (w.heap.size + 1) [.int .i64 a, .int .i64 b, .int .i64 lv] := by rw [hW]; exact Own.new' _ _ (by simp) rfl
    clear hW 
    refine (ready18v true L sl rl rh wg A n cap ks _ HR (HA.out.below hB (Nat.le_refl _)) hn hlen).mono ?_
    rintro e V1 ⟨rfl, hb⟩
    have hB' := hB.trans (hb.mono hB.size)
    have qc := Lib.hid (pc.below hb pc.lt)
    have qx := Lib.hid (px.below hb px.lt)
    clear hb hB pc px
    have hB := hB'
    clear hB'
    obtain ⟨lc, kc, fc⟩ := qc.out
    obtain ⟨lx, kx, fx⟩ := qx.out
    go_wp2_with fail
    refine calls_gen fun W2 hW => ?_
    have hB : Below w.heap.size w W2 := by rw [hW]; (repeat' (first | (with_reducible exact Below.refl _ _) | (with_reducible assumption) | (with_reducible refine Below.drew ?_) | (with_reducible refine below_drewN ?_ _) | (with_reducible refine Below.setCell ?_ ?_ _) | (with_reducible refine Below.alloc ?_ ?_ _) | (refine Below.trans ?_ (Below.mono (by with_reducible assumption) ?_)) | omega | (exact Below.size (by with_reducible assumption)) | (simp; done) | (simp; omega)))
    have hBV : Below V1.heap.size V1 W2 := by rw [hW]; (repeat' (first | (with_reducible exact Below.refl _ _) | (with_reducible assumption) | (with_reducible refine Below.drew ?_) | (with_reducible refine below_drewN ?_ _) | (with_reducible refine Below.setCell ?_ ?_ _) | (with_reducible refine Below.alloc ?_ ?_ _) | (refine Below.trans ?_ (Below.mono (by with_reducible assumption) ?_)) | omega | (exact Below.size (by with_reducible assumption)) | (simp; done) | (simp; omega)))
    have pc : Own W2 (w.heap.size) [.int .i64 L, .int .i64 sl, .int .i64 rl, .int .i64 rh, .slice A n cap, .int .i64 wg] := by rw [hW]; exact qc.out
    have px : Own W2 (w.heap.size + 1) [.int .i64 a, .int .i64 b, .int .i64 lv] := by rw [hW]; exact qx.out
    clear hW lc kc fc qc lx kx fx qx
    refine (isAsk19v true L sl rl rh wg _ a b lv _ HK).mono ?_
    rintro e V2 ⟨rfl, hb⟩
    have hB' := hB.trans (hb.mono hB.size)
    have qc := Lib.hid (pc.below hb pc.lt)
    have qx := Lib.hid (px.below hb px.lt)
    clear hb hB hBV pc px
    have hB := hB'
    clear hB'
    obtain ⟨lc, kc, fc⟩ := qc.out
    obtain ⟨lx, kx, fx⟩ := qx.out
    go_wp2_with fail
    refine calls_gen fun W3 hW => ?_
    have hB : Below w.heap.size w W3 := by rw [hW]; (repeat' (first | (with_reducible exact Below.refl _ _) | (with_reducible assumption) | (with_reducible refine Below.drew ?_) | (with_reducible refine below_drewN ?_ _) | (with_reducible refine Below.setCell ?_ ?_ _) | (with_reducible refine Below.alloc ?_ ?_ _) | (refine Below.trans ?_ (Below.mono (by with_reducible assumption) ?_)) | omega | (exact Below.size (by with_reducible assumption)) | (simp; done) | (simp; omega)))
    have hBV : Below V2.heap.size V2 W3 := by rw [hW]; (repeat' (first | (with_reducible exact Below.refl _ _) | (with_reducible assumption) | (with_reducible refine Below.drew ?_) | (with_reducible refine below_drewN ?_ _) | (with_reducible refine Below.setCell ?_ ?_ _) | (with_reducible refine Below.alloc ?_ ?_ _) | (refine Below.trans ?_ (Below.mono (by with_reducible assumption) ?_)) | omega | (exact Below.size (by with_reducible assumption)) | (simp; done) | (simp; omega)))
    have pc : Own W3 (w.heap.size) [.int .i64 L, .int .i64 sl, .int .i64 rl, .int .i64 rh, .slice A n cap, .int .i64 wg] := by rw [hW]; exact qc.out
    have px : Own W3 (w.heap.size + 1) [.int .i64 a, .int .i64 b, .int .i64 lv] := by rw [hW]; exact qx.out
    clear hW lc kc fc qc lx kx fx qx
    refine (told27 L sl rl rh wg A n cap ks _ (HA.out.below hB (Nat.le_refl _)) hn hlen).mono ?_
    rintro e V3 ⟨ls, m, er, rfl, hR, hM, hb⟩
    obtain ⟨rfl, hlen5, hD⟩ := draw_T HC.out HT.out hR.out
    replace hD := Lib.hid hD
    replace hlen5 := Lib.hid hlen5
    have hmb := hM.out.1
    clear hR
    have hB' := hB.trans (hb.mono hB.size)
    have qc := Lib.hid (pc.below hb pc.lt)
    have qx := Lib.hid (px.below hb px.lt)
    clear hb hB hBV pc px
    have hB := hB'
    clear hB'
    obtain ⟨lc, kc, fc⟩ := qc.out
    obtain ⟨lx, kx, fx⟩ := qx.out
    go_wp2_with fail
    refine calls_gen fun W4 hW => ?_
    have hB : Below w.heap.size w W4 := by rw [hW]; (repeat' (first | (with_reducible exact Below.refl _ _) | (with_reducible assumption) | (with_reducible refine Below.drew ?_) | (with_reducible refine below_drewN ?_ _) | (with_reducible refine Below.setCell ?_ ?_ _) | (with_reducible refine Below.alloc ?_ ?_ _) | (refine Below.trans ?_ (Below.mono (by with_reducible assumption) ?_)) | omega | (exact Below.size (by with_reducible assumption)) | (simp; done) | (simp; omega)))
    have hBV : Below V3.heap.size V3 W4 := by rw [hW]; (repeat' (first | (with_reducible exact Below.refl _ _) | (with_reducible assumption) | (with_reducible refine Below.drew ?_) | (with_reducible refine below_drewN ?_ _) | (with_reducible refine Below.setCell ?_ ?_ _) | (with_reducible refine Below.alloc ?_ ?_ _) | (refine Below.trans ?_ (Below.mono (by with_reducible assumption) ?_)) | omega | (exact Below.size (by with_reducible assumption)) | (simp; done) | (simp; omega)))
    have pc : Own W4 (w.heap.size) [.int .i64 L, .int .i64 sl, .int .i64 rl, .int .i64 rh, .slice A n cap, .int .i64 wg] := by rw [hW]; exact qc.out
    have px : Own W4 (w.heap.size + 1) [.int .i64 a, .int .i64 b, .int .i64 lv] := by rw [hW]; exact qx.out
    clear hW lc kc fc qc lx kx fx qx
    refine (draw21 L sl rl rh wg A n cap ks _ (HA.out.below hB (Nat.le_refl _)) hn hlen).mono ?_
    rintro e V4 ⟨A5, c5, ls', er5, rfl, hR, hrd, hll, hb⟩
    obtain ⟨rfl, hl6, hD6⟩ := draw_T HC.out HT.out hR.out
    obtain rfl := draw_eq hD.out hD6 (hlen5.out.trans hl6.symm)
    clear hR hl6 hD6
    have hB' := hB.trans (hb.mono hB.size)
    have qc := Lib.hid (pc.below hb pc.lt)
    have qx := Lib.hid (px.below hb px.lt)
    clear hb hB hBV pc px
    have hB := hB'
    clear hB'
    obtain ⟨lc, kc, fc⟩ := qc.out
    obtain ⟨lx, kx, fx⟩ := qx.out
    have HRd := Lib.hid hrd
    clear hrd
    go_wp2_with fail
    refine calls_gen fun W5 hW => ?_
    have hB : Below w.heap.size w W5 := by rw [hW]; (repeat' (first | (with_reducible exact Below.refl _ _) | (with_reducible assumption) | (with_reducible refine Below.drew ?_) | (with_reducible refine below_drewN ?_ _) | (with_reducible refine Below.setCell ?_ ?_ _) | (with_reducible refine Below.alloc ?_ ?_ _) | (refine Below.trans ?_ (Below.mono (by with_reducible assumption) ?_)) | omega | (exact Below.size (by with_reducible assumption)) | (simp; done) | (simp; omega)))
    have hBV : Below V4.heap.size V4 W5 := by rw [hW]; (repeat' (first | (with_reducible exact Below.refl _ _) | (with_reducible assumption) | (with_reducible refine Below.drew ?_) | (with_reducible refine below_drewN ?_ _) | (with_reducible refine Below.setCell ?_ ?_ _) | (with_reducible refine Below.alloc ?_ ?_ _) | (refine Below.trans ?_ (Below.mono (by with_reducible assumption) ?_)) | omega | (exact Below.size (by with_reducible assumption)) | (simp; done) | (simp; omega)))
    have pc : Own W5 (w.heap.size) [.int .i64 L, .int .i64 sl, .int .i64 rl, .int .i64 rh, .slice A n cap, .int .i64 wg] := by rw [hW]; exact qc.out
    have px : Own W5 (w.heap.size + 1) [.int .i64 a, .int .i64 b, .int .i64 lv] := by rw [hW]; exact qx.out
    clear hW lc kc fc qc lx kx fx qx
    refine (next15 L sl rl rh wg A n cap ks _ (HA.out.below hB (Nat.le_refl _)) hn hlen).mono ?_
    rintro e V5 ⟨nx, er, rfl, hR, hb⟩
    have hx := Lib.hid (next_T HC.out HT.out hR.out)
    have hkn : Hid (knB er = true) := by
      show _ = _
      rcases hx.out with ⟨_, h, _⟩ | ⟨h, _⟩ <;> rw [h] <;> rfl
    clear hR
    have hB' := hB.trans (hb.mono hB.size)
    replace HRd := Lib.hid ((HRd.out.below hBV (Nat.le_refl _)).below hb (Nat.le_refl _))
    have qc := Lib.hid (pc.below hb pc.lt)
    have qx := Lib.hid (px.below hb px.lt)
    clear hb hB hBV pc px
    have hB := hB'
    clear hB'
    obtain ⟨lc, kc, fc⟩ := qc.out
    obtain ⟨lx, kx, fx⟩ := qx.out
    go_wp2_with fail
    refine calls_gen fun W6 hW => ?_
    have hB : Below w.heap.size w W6 := by rw [hW]; (repeat' (first | (with_reducible exact Below.refl _ _) | (with_reducible assumption) | (with_reducible refine Below.drew ?_) | (with_reducible refine below_drewN ?_ _) | (with_reducible refine Below.setCell ?_ ?_ _) | (with_reducible refine Below.alloc ?_ ?_ _) | (refine Below.trans ?_ (Below.mono (by with_reducible assumption) ?_)) | omega | (exact Below.size (by with_reducible assumption)) | (simp; done) | (simp; omega)))
    have hBV : Below V5.heap.size V5 W6 := by rw [hW]; (repeat' (first | (with_reducible exact Below.refl _ _) | (with_reducible assumption) | (with_reducible refine Below.drew ?_) | (with_reducible refine below_drewN ?_ _) | (with_reducible refine Below.setCell ?_ ?_ _) | (with_reducible refine Below.alloc ?_ ?_ _) | (refine Below.trans ?_ (Below.mono (by with_reducible assumption) ?_)) | omega | (exact Below.size (by with_reducible assumption)) | (simp; done) | (simp; omega)))
    have pc : Own W6 (w.heap.size) [.int .i64 L, .int .i64 sl, .int .i64 rl, .int .i64 rh, .slice A n cap, .int .i64 wg] := by rw [hW]; exact qc.out
    have px : Own W6 (w.heap.size + 1) [.int .i64 a, .int .i64 b, .int .i64 lv] := by rw [hW]; exact qx.out
    clear hW lc kc fc qc lx kx fx qx
    refine (isKnown22w _ _).mono ?_
    rintro e V6 ⟨rfl, hb⟩
    have hB' := hB.trans (hb.mono hB.size)
    replace HRd := Lib.hid ((HRd.out.below hBV (Nat.le_refl _)).below hb (Nat.le_refl _))
    have qc := Lib.hid (pc.below hb pc.lt)
    have qx := Lib.hid (px.below hb px.lt)
    clear hb hB hBV pc px
    have hB := hB'
    clear hB'
    obtain ⟨lc, kc, fc⟩ := qc.out
    obtain ⟨lx, kx, fx⟩ := qx.out
    go_wp2_with fail
    refine calls_gen fun W7 hW => ?_
    have hB : Below w.heap.size w W7 := by rw [hW]; (repeat' (first | (with_reducible exact Below.refl _ _) | (with_reducible assumption) | (with_reducible refine Below.drew ?_) | (with_reducible refine below_drewN ?_ _) | (with_reducible refine Below.setCell ?_ ?_ _) | (with_reducible refine Below.alloc ?_ ?_ _) | (refine Below.trans ?_ (Below.mono (by with_reducible assumption) ?_)) | omega | (exact Below.size (by with_reducible assumption)) | (simp; done) | (simp; omega)))
    have hBV : Below V6.heap.size V6 W7 := by rw [hW]; (repeat' (first | (with_reducible exact Below.refl _ _) | (with_reducible assumption) | (with_reducible refine Below.drew ?_) | (with_reducible refine below_drewN ?_ _) | (with_reducible refine Below.setCell ?_ ?_ _) | (with_reducible refine Below.alloc ?_ ?_ _) | (refine Below.trans ?_ (Below.mono (by with_reducible assumption) ?_)) | omega | (exact Below.size (by with_reducible assumption)) | (simp; done) | (simp; omega)))
    have pc : Own W7 (w.heap.size) [.int .i64 L, .int .i64 sl, .int .i64 rl, .int .i64 rh, .slice A n cap, .int .i64 wg] := by rw [hW]; exact qc.out
    have px : Own W7 (w.heap.size + 1) [.int .i64 a, .int .i64 b, .int .i64 lv] := by rw [hW]; exact qx.out
    clear hW lc kc fc qc lx kx fx qx
    refine (isKnown22t _ hkn _).mono ?_
    rintro e V7 ⟨rfl, hb⟩
    have hB' := hB.trans (hb.mono hB.size)
    replace HRd := Lib.hid ((HRd.out.below hBV (Nat.le_refl _)).below hb (Nat.le_refl _))
    have qc := Lib.hid (pc.below hb pc.lt)
    have qx := Lib.hid (px.below hb px.lt)
    clear hb hB hBV pc px
    have hB := hB'
    clear hB'
    obtain ⟨lc, kc, fc⟩ := qc.out
    obtain ⟨lx, kx, fx⟩ := qx.out
    have hl5 := hlen5.out
    have z1 : ((ls.length : Int) != L + 1) = false := by simp; omega
    have z2 : decide (m < 0) = false := decide_eq_false (by omega)
    clear hl5
    go_wp2
    go_loopg [11, 12, 13] (L.toNat + 1) (fun K x y z w5 => ∃ (k : Nat) (su op : Bool), K + k = L.toNat + 1 ∧ z = .int .i64 k ∧ x = .bool su ∧ y = .bool op ∧ Hid (su = true ↔ ∀ (i : Nat) (s : Sp), i < k → ls[i]? = some s → s.1 = s.2) ∧ Hid (op = true ↔ ∃ i, i < k ∧ Wide (cvOf L sl rl rh wg ks) i) ∧ Own w5 w.heap.size [.int .i64 L, .int .i64 sl, .int .i64 rl, .int .i64 rh, .slice A n cap, .int .i64 wg] ∧ Own w5 (w.heap.size + 1) [.int .i64 a, .int .i64 b, .int .i64 lv] ∧ Hid (RdS w5 A5 ls) ∧ Below w.heap.size w w5)
    case atStart => exact ⟨0, true, false, rfl, rfl, rfl, rfl, ⟨(fun _ i s h => by omega), (fun _ => rfl)⟩, ⟨(fun h => by cases h), (fun ⟨i, h, _⟩ => by omega)⟩, qc.out, qx.out, HRd, hB⟩
    case round =>
      clear lc kc fc lx kx fx qc qx HRd hB
      obtain ⟨k, su, op, hK, rfl, rfl, rfl, hsu, hop, hoc, hox, HRd, hB⟩ := hrel
      have qc := Lib.hid hoc
      have qx := Lib.hid hox
      clear hoc hox
      obtain ⟨lc, kc, fc⟩ := qc.out
      obtain ⟨lx, kx, fx⟩ := qx.out
      have hszw := hB.size
      by_cases hlt : k < L.toNat + 1
      · obtain ⟨s, hs⟩ : ∃ s, Hid (ls[k]? = some s) := ⟨ls[k]'(by have := hlen5.out; omega), by simp [Hid]⟩
        go_wp2_with fail
        refine calls_gen fun W51 hW => ?_
        have hB : Below w.heap.size w W51 := by rw [hW]; (repeat' (first | (with_reducible exact Below.refl _ _) | (with_reducible assumption) | (with_reducible refine Below.drew ?_) | (with_reducible refine below_drewN ?_ _) | (with_reducible refine Below.setCell ?_ ?_ _) | (with_reducible refine Below.alloc ?_ ?_ _) | (refine Below.trans ?_ (Below.mono (by with_reducible assumption) ?_)) | omega | (exact Below.size (by with_reducible assumption)) | (simp; done) | (simp; omega)))
        have hBV : Below wr.heap.size wr W51 := by rw [hW]; (repeat' (first | (with_reducible exact Below.refl _ _) | (with_reducible assumption) | (with_reducible refine Below.drew ?_) | (with_reducible refine below_drewN ?_ _) | (with_reducible refine Below.setCell ?_ ?_ _) | (with_reducible refine Below.alloc ?_ ?_ _) | (refine Below.trans ?_ (Below.mono (by with_reducible assumption) ?_)) | omega | (exact Below.size (by with_reducible assumption)) | (simp; done) | (simp; omega)))
        have pc : Own W51 (w.heap.size) [.int .i64 L, .int .i64 sl, .int .i64 rl, .int .i64 rh, .slice A n cap, .int .i64 wg] := by rw [hW]; exact qc.out
        have px : Own W51 (w.heap.size + 1) [.int .i64 a, .int .i64 b, .int .i64 lv] := by rw [hW]; exact qx.out
        clear hW lc kc fc qc lx kx fx qx
        refine (height31 L sl rl rh wg A n cap ks k _ (HA.out.below hB (Nat.le_refl _)) hn hlen).mono ?_
        rintro e V51 ⟨lo, hi, er1, rfl, hR, hb⟩
        obtain ⟨rfl, hsp, hbd⟩ := ht_T HC.out HT.out hR.out (by omega) (by omega)
        rw [Int.toNat_natCast] at hsp
        have hwd := Lib.hid (wide_iff hsp)
        clear hR hsp
        have hB' := hB.trans (hb.mono hB.size)
        replace HRd := Lib.hid ((HRd.out.below hBV (Nat.le_refl _)).below hb (Nat.le_refl _))
        have qc := Lib.hid (pc.below hb pc.lt)
        have qx := Lib.hid (px.below hb px.lt)
        clear hb hB hBV pc px
        have hB := hB'
        clear hB'
        obtain ⟨lc, kc, fc⟩ := qc.out
        obtain ⟨lx, kx, fx⟩ := qx.out
        obtain ⟨b0, off, rfl, hb0, c0, c1⟩ := rd_sp HRd.out hs.out
        have hs5 : k < ls.length := (List.getElem?_eq_some_iff.1 hs.out).1
        have y1 : (k : Int) < (ls.length : Int) := by omega
        have y2 : decide (hi < lo) = false := decide_eq_false (by omega)
        cases su
        · cases op
          · go_wp2
            refine wp_gen fun W hW => ?_
            have o1 : Own W V51.heap.size [.int .i64 lo, .int .i64 hi] := by rw [hW]; exact Own.new' _ _ rfl rfl
            have hB5 : Below V51.heap.size V51 W := by rw [hW]; (repeat' (first | (with_reducible exact Below.refl _ _) | (with_reducible assumption) | (with_reducible refine Below.drew ?_) | (with_reducible refine below_drewN ?_ _) | (with_reducible refine Below.setCell ?_ ?_ _) | (with_reducible refine Below.alloc ?_ ?_ _) | (refine Below.trans ?_ (Below.mono (by with_reducible assumption) ?_)) | omega | (exact Below.size (by with_reducible assumption)) | (simp; done) | (simp; omega)))
            have qc5 := qc.out.below hB5 lc
            have qx5 := qx.out.below hB5 lx
            have hz5 := hB5.size
            have d0 : W.cell? ⟨b0, off + k * 2, none⟩ = some (.int .i64 s.1) := ((bcell hB5).1 _ _ hb0).trans c0
            have d1 : W.cell? ⟨b0, off + k * 2 + 1, none⟩ = some (.int .i64 s.2) := ((bcell hB5).1 _ _ hb0).trans c1
            have hx1 := Aft.cell (W := W) o1
            have hy0 := fun x : Aft W => (Aft.old x (show b0 < W.heap.size by omega) _).trans d0
            have hy1 := fun x : Aft W => (Aft.old x (show b0 < W.heap.size by omega) _).trans d1
            have HRW := Lib.hid (HRd.out.below hB5 (Nat.le_refl _))
            have hBW := hB.trans (hB5.mono hB.size)
            clear hW c0 c1 d0 d1 lc kc fc lx kx fx
            refine wp_region_aft (by kernel_rfl) (by kernel_rfl) ?_; (repeat (go_big_quiet_step (fail))); refine wpQuiet_nil ?_; rintro w60 ⟨⟨_, hb60⟩, rfl⟩
            have hz6 := hb60.size
            have p1 := o1.below hb60 o1.lt
            have pc := qc5.below hb60 qc5.lt
            have px := qx5.below hb60 qx5.lt
            have HR6 := Lib.hid (HRW.out.below hb60 (Nat.le_refl _))
            have hB6 := hBW.trans (hb60.mono hBW.size)
            clear hx1 hy0 hy1 hb60 o1 qc5 qx5 HRW hBW
            obtain ⟨l1, k1, f1⟩ := p1
            go_wp2
            go_roundg (L.toNat + 1 - (k + 1))
            case measure => omega
            case rel => exact ⟨k + 1, _, _, by omega, by go_num, rfl, rfl, su_no hsu.out, op_no hop.out (by rw [hwd.out]; simp), pc, px, HR6, hB6⟩
          · go_wp2
            refine wp_gen fun W hW => ?_
            have o1 : Own W V51.heap.size [.int .i64 lo, .int .i64 hi] := by rw [hW]; exact Own.new' _ _ rfl rfl
            have hB5 : Below V51.heap.size V51 W := by rw [hW]; (repeat' (first | (with_reducible exact Below.refl _ _) | (with_reducible assumption) | (with_reducible refine Below.drew ?_) | (with_reducible refine below_drewN ?_ _) | (with_reducible refine Below.setCell ?_ ?_ _) | (with_reducible refine Below.alloc ?_ ?_ _) | (refine Below.trans ?_ (Below.mono (by with_reducible assumption) ?_)) | omega | (exact Below.size (by with_reducible assumption)) | (simp; done) | (simp; omega)))
            have qc5 := qc.out.below hB5 lc
            have qx5 := qx.out.below hB5 lx
            have hz5 := hB5.size
            have d0 : W.cell? ⟨b0, off + k * 2, none⟩ = some (.int .i64 s.1) := ((bcell hB5).1 _ _ hb0).trans c0
            have d1 : W.cell? ⟨b0, off + k * 2 + 1, none⟩ = some (.int .i64 s.2) := ((bcell hB5).1 _ _ hb0).trans c1
            have hx1 := Aft.cell (W := W) o1
            have hy0 := fun x : Aft W => (Aft.old x (show b0 < W.heap.size by omega) _).trans d0
            have hy1 := fun x : Aft W => (Aft.old x (show b0 < W.heap.size by omega) _).trans d1
            have HRW := Lib.hid (HRd.out.below hB5 (Nat.le_refl _))
            have hBW := hB.trans (hB5.mono hB.size)
            clear hW c0 c1 d0 d1 lc kc fc lx kx fx
            refine wp_region_aft (by kernel_rfl) (by kernel_rfl) ?_; (repeat (go_big_quiet_step (fail))); refine wpQuiet_nil ?_; rintro w60 ⟨⟨_, hb60⟩, rfl⟩
            have hz6 := hb60.size
            have p1 := o1.below hb60 o1.lt
            have pc := qc5.below hb60 qc5.lt
            have px := qx5.below hb60 qx5.lt
            have HR6 := Lib.hid (HRW.out.below hb60 (Nat.le_refl _))
            have hB6 := hBW.trans (hb60.mono hBW.size)
            clear hx1 hy0 hy1 hb60 o1 qc5 qx5 HRW hBW
            obtain ⟨l1, k1, f1⟩ := p1
            go_wp2
            go_roundg (L.toNat + 1 - (k + 1))
            case measure => omega
            case rel => exact ⟨k + 1, _, _, by omega, by go_num, rfl, rfl, su_no hsu.out, op_yes hop.out, pc, px, HR6, hB6⟩
        · cases op
          · go_wp2
            refine wp_gen fun W hW => ?_
            have o1 : Own W V51.heap.size [.int .i64 lo, .int .i64 hi] := by rw [hW]; exact Own.new' _ _ rfl rfl
            have hB5 : Below V51.heap.size V51 W := by rw [hW]; (repeat' (first | (with_reducible exact Below.refl _ _) | (with_reducible assumption) | (with_reducible refine Below.drew ?_) | (with_reducible refine below_drewN ?_ _) | (with_reducible refine Below.setCell ?_ ?_ _) | (with_reducible refine Below.alloc ?_ ?_ _) | (refine Below.trans ?_ (Below.mono (by with_reducible assumption) ?_)) | omega | (exact Below.size (by with_reducible assumption)) | (simp; done) | (simp; omega)))
            have qc5 := qc.out.below hB5 lc
            have qx5 := qx.out.below hB5 lx
            have hz5 := hB5.size
            have d0 : W.cell? ⟨b0, off + k * 2, none⟩ = some (.int .i64 s.1) := ((bcell hB5).1 _ _ hb0).trans c0
            have d1 : W.cell? ⟨b0, off + k * 2 + 1, none⟩ = some (.int .i64 s.2) := ((bcell hB5).1 _ _ hb0).trans c1
            have hx1 := Aft.cell (W := W) o1
            have hy0 := fun x : Aft W => (Aft.old x (show b0 < W.heap.size by omega) _).trans d0
            have hy1 := fun x : Aft W => (Aft.old x (show b0 < W.heap.size by omega) _).trans d1
            have HRW := Lib.hid (HRd.out.below hB5 (Nat.le_refl _))
            have hBW := hB.trans (hB5.mono hB.size)
            clear hW c0 c1 d0 d1 lc kc fc lx kx fx
            refine wp_region_aft (by kernel_rfl) (by kernel_rfl) ?_; (repeat (go_big_quiet_step (fail))); refine wpQuiet_nil ?_; rintro w60 ⟨⟨_, hb60⟩, rfl⟩
            have hz6 := hb60.size
            have p1 := o1.below hb60 o1.lt
            have pc := qc5.below hb60 qc5.lt
            have px := qx5.below hb60 qx5.lt
            have HR6 := Lib.hid (HRW.out.below hb60 (Nat.le_refl _))
            have hB6 := hBW.trans (hb60.mono hBW.size)
            clear hx1 hy0 hy1 hb60 o1 qc5 qx5 HRW hBW
            obtain ⟨l1, k1, f1⟩ := p1
            go_wp2
            go_roundg (L.toNat + 1 - (k + 1))
            case measure => omega
            case rel => exact ⟨k + 1, _, _, by omega, by go_num, rfl, rfl, su_yes hs.out hsu.out (by simp), op_no hop.out (by rw [hwd.out]; simp), pc, px, HR6, hB6⟩
          · go_wp2
            refine wp_gen fun W hW => ?_
            have o1 : Own W V51.heap.size [.int .i64 lo, .int .i64 hi] := by rw [hW]; exact Own.new' _ _ rfl rfl
            have hB5 : Below V51.heap.size V51 W := by rw [hW]; (repeat' (first | (with_reducible exact Below.refl _ _) | (with_reducible assumption) | (with_reducible refine Below.drew ?_) | (with_reducible refine below_drewN ?_ _) | (with_reducible refine Below.setCell ?_ ?_ _) | (with_reducible refine Below.alloc ?_ ?_ _) | (refine Below.trans ?_ (Below.mono (by with_reducible assumption) ?_)) | omega | (exact Below.size (by with_reducible assumption)) | (simp; done) | (simp; omega)))
            have qc5 := qc.out.below hB5 lc
            have qx5 := qx.out.below hB5 lx
            have hz5 := hB5.size
            have d0 : W.cell? ⟨b0, off + k * 2, none⟩ = some (.int .i64 s.1) := ((bcell hB5).1 _ _ hb0).trans c0
            have d1 : W.cell? ⟨b0, off + k * 2 + 1, none⟩ = some (.int .i64 s.2) := ((bcell hB5).1 _ _ hb0).trans c1
            have hx1 := Aft.cell (W := W) o1
            have hy0 := fun x : Aft W => (Aft.old x (show b0 < W.heap.size by omega) _).trans d0
            have hy1 := fun x : Aft W => (Aft.old x (show b0 < W.heap.size by omega) _).trans d1
            have HRW := Lib.hid (HRd.out.below hB5 (Nat.le_refl _))
            have hBW := hB.trans (hB5.mono hB.size)
            clear hW c0 c1 d0 d1 lc kc fc lx kx fx
            refine wp_region_aft (by kernel_rfl) (by kernel_rfl) ?_; (repeat (go_big_quiet_step (fail))); refine wpQuiet_nil ?_; rintro w60 ⟨⟨_, hb60⟩, rfl⟩
            have hz6 := hb60.size
            have p1 := o1.below hb60 o1.lt
            have pc := qc5.below hb60 qc5.lt
            have px := qx5.below hb60 qx5.lt
            have HR6 := Lib.hid (HRW.out.below hb60 (Nat.le_refl _))
            have hB6 := hBW.trans (hb60.mono hBW.size)
            clear hx1 hy0 hy1 hb60 o1 qc5 qx5 HRW hBW
            obtain ⟨l1, k1, f1⟩ := p1
            go_wp2
            go_roundg (L.toNat + 1 - (k + 1))
            case measure => omega
            case rel => exact ⟨k + 1, _, _, by omega, by go_num, rfl, rfl, su_yes hs.out hsu.out (by simp), op_yes hop.out, pc, px, HR6, hB6⟩
      · obtain rfl : k = L.toNat + 1 := by omega
        have hz := told_zero hD.out hM.out
        have f1 : Hid (m = 0 ↔ su = true) := by
          show _ ↔ _
          rw [hz, hsu.out]
          exact ⟨fun h i s _ e => h i s e, fun h i s e => h i s (by have := (List.getElem?_eq_some_iff.1 e).1; have := hlen5.out; omega) e⟩
        have f2 : Hid (er = 0 ↔ op = true) := by
          show _ ↔ _
          rw [hop.out]
          rcases hx.out with ⟨_, h1, h2⟩ | ⟨h1, q, _, h3, h4, _⟩
          · rw [h1]
            exact ⟨fun h => by omega, fun ⟨i, h3, h4⟩ => absurd h4 (h2 i (by omega))⟩
          · exact ⟨fun _ => ⟨q, by have : q ≤ L.toNat := h3; omega, h4⟩, fun _ => h1⟩
        clear hz hlt
        rcases hx.out with ⟨rfl, rfl, h2⟩ | ⟨rfl, q, rfl, hq1, hq2, _⟩
        · have eo : op = false := by cases op; rfl; have := f2.out.2 rfl; omega
          subst eo
          clear h2 hx hkn
          cases su
          · have em : (m == 0) = false := by
              have : ¬ m = 0 := fun h => by have := f1.out.1 h; cases this
              simpa using this
            clear f1 f2
            by_cases hsl : 0 < sl
            · go_wp2_with fail
              refine calls_gen fun W61 hW => ?_
              have hB : Below w.heap.size w W61 := by rw [hW]; (repeat' (first | (with_reducible exact Below.refl _ _) | (with_reducible assumption) | (with_reducible refine Below.drew ?_) | (with_reducible refine below_drewN ?_ _) | (with_reducible refine Below.setCell ?_ ?_ _) | (with_reducible refine Below.alloc ?_ ?_ _) | (refine Below.trans ?_ (Below.mono (by with_reducible assumption) ?_)) | omega | (exact Below.size (by with_reducible assumption)) | (simp; done) | (simp; omega)))
              have hBV : Below wr.heap.size wr W61 := by rw [hW]; (repeat' (first | (with_reducible exact Below.refl _ _) | (with_reducible assumption) | (with_reducible refine Below.drew ?_) | (with_reducible refine below_drewN ?_ _) | (with_reducible refine Below.setCell ?_ ?_ _) | (with_reducible refine Below.alloc ?_ ?_ _) | (refine Below.trans ?_ (Below.mono (by with_reducible assumption) ?_)) | omega | (exact Below.size (by with_reducible assumption)) | (simp; done) | (simp; omega)))
              have pc : Own W61 (w.heap.size) [.int .i64 L, .int .i64 sl, .int .i64 rl, .int .i64 rh, .slice A n cap, .int .i64 wg] := by rw [hW]; exact qc.out
              have px : Own W61 (w.heap.size + 1) [.int .i64 a, .int .i64 b, .int .i64 lv] := by rw [hW]; exact qx.out
              clear hW lc kc fc qc lx kx fx qx
              refine (works13 _).mono ?_
              rintro e V61 ⟨rfl, hb⟩
              have hB' := hB.trans (hb.mono hB.size)
              have qc := Lib.hid (pc.below hb pc.lt)
              have qx := Lib.hid (px.below hb px.lt)
              clear hb hB hBV pc px
              have hB := hB'
              clear hB'
              obtain ⟨lc, kc, fc⟩ := qc.out
              obtain ⟨lx, kx, fx⟩ := qx.out
              go_wp2
              go_ret
              exact ⟨rfl, hB⟩
            · go_wp2_with fail
              refine calls_gen fun W61 hW => ?_
              have hB : Below w.heap.size w W61 := by rw [hW]; (repeat' (first | (with_reducible exact Below.refl _ _) | (with_reducible assumption) | (with_reducible refine Below.drew ?_) | (with_reducible refine below_drewN ?_ _) | (with_reducible refine Below.setCell ?_ ?_ _) | (with_reducible refine Below.alloc ?_ ?_ _) | (refine Below.trans ?_ (Below.mono (by with_reducible assumption) ?_)) | omega | (exact Below.size (by with_reducible assumption)) | (simp; done) | (simp; omega)))
              have hBV : Below wr.heap.size wr W61 := by rw [hW]; (repeat' (first | (with_reducible exact Below.refl _ _) | (with_reducible assumption) | (with_reducible refine Below.drew ?_) | (with_reducible refine below_drewN ?_ _) | (with_reducible refine Below.setCell ?_ ?_ _) | (with_reducible refine Below.alloc ?_ ?_ _) | (refine Below.trans ?_ (Below.mono (by with_reducible assumption) ?_)) | omega | (exact Below.size (by with_reducible assumption)) | (simp; done) | (simp; omega)))
              have pc : Own W61 (w.heap.size) [.int .i64 L, .int .i64 sl, .int .i64 rl, .int .i64 rh, .slice A n cap, .int .i64 wg] := by rw [hW]; exact qc.out
              have px : Own W61 (w.heap.size + 1) [.int .i64 a, .int .i64 b, .int .i64 lv] := by rw [hW]; exact qx.out
              clear hW lc kc fc qc lx kx fx qx
              refine (height31 L sl rl rh wg A n cap ks a _ (HA.out.below hB (Nat.le_refl _)) hn hlen).mono ?_
              rintro e V61 ⟨lo1, hi1, er2, rfl, hR, hb⟩
              obtain ⟨rfl, hsa, hba⟩ := ht_T HC.out HT.out hR.out ha0 (by omega)
              clear hR
              have hB' := hB.trans (hb.mono hB.size)
              have qc := Lib.hid (pc.below hb pc.lt)
              have qx := Lib.hid (px.below hb px.lt)
              clear hb hB hBV pc px
              have hB := hB'
              clear hB'
              obtain ⟨lc, kc, fc⟩ := qc.out
              obtain ⟨lx, kx, fx⟩ := qx.out
              go_wp2_with fail
              refine calls_gen fun W62 hW => ?_
              have hB : Below w.heap.size w W62 := by rw [hW]; (repeat' (first | (with_reducible exact Below.refl _ _) | (with_reducible assumption) | (with_reducible refine Below.drew ?_) | (with_reducible refine below_drewN ?_ _) | (with_reducible refine Below.setCell ?_ ?_ _) | (with_reducible refine Below.alloc ?_ ?_ _) | (refine Below.trans ?_ (Below.mono (by with_reducible assumption) ?_)) | omega | (exact Below.size (by with_reducible assumption)) | (simp; done) | (simp; omega)))
              have hBV : Below V61.heap.size V61 W62 := by rw [hW]; (repeat' (first | (with_reducible exact Below.refl _ _) | (with_reducible assumption) | (with_reducible refine Below.drew ?_) | (with_reducible refine below_drewN ?_ _) | (with_reducible refine Below.setCell ?_ ?_ _) | (with_reducible refine Below.alloc ?_ ?_ _) | (refine Below.trans ?_ (Below.mono (by with_reducible assumption) ?_)) | omega | (exact Below.size (by with_reducible assumption)) | (simp; done) | (simp; omega)))
              have pc : Own W62 (w.heap.size) [.int .i64 L, .int .i64 sl, .int .i64 rl, .int .i64 rh, .slice A n cap, .int .i64 wg] := by rw [hW]; exact (qc.out.alloc _)
              have px : Own W62 (w.heap.size + 1) [.int .i64 a, .int .i64 b, .int .i64 lv] := by rw [hW]; exact (qx.out.alloc _)
              have pa : Own W62 (V61.heap.size) [.int .i64 lo1, .int .i64 hi1] := by rw [hW]; exact Own.new' _ _ rfl rfl
              clear hW lc kc fc qc lx kx fx qx
              refine (height31 L sl rl rh wg A n cap ks b _ (HA.out.below hB (Nat.le_refl _)) hn hlen).mono ?_
              rintro e V62 ⟨lo2, hi2, er3, rfl, hR, hb⟩
              obtain ⟨rfl, hsb, _⟩ := ht_T HC.out HT.out hR.out (by omega) hbL
              obtain ⟨rfl, rfl⟩ := (flat_ht (c := cvOf L sl rl rh wg ks) (p := a.toNat) (by show sl ≤ 0; omega) (by show a.toNat ≤ L.toNat; omega) (by show b.toNat ≤ L.toNat; omega) hsa).uniq hsb
              clear hR
              have hB' := hB.trans (hb.mono hB.size)
              have qc := Lib.hid (pc.below hb pc.lt)
              have qx := Lib.hid (px.below hb px.lt)
              have qa := Lib.hid (pa.below hb pa.lt)
              clear hb hB hBV pc px pa
              have hB := hB'
              clear hB'
              obtain ⟨lc, kc, fc⟩ := qc.out
              obtain ⟨lx, kx, fx⟩ := qx.out
              obtain ⟨la, ka, fa⟩ := qa.out
              have hfl := told_flat (c := cvOf L sl rl rh wg ks) (p := a.toNat) (by show sl ≤ 0; omega) (by show a.toNat ≤ L.toNat; omega) hD.out hlen5.out hM.out hsa
              have hfl' : Hid (m = L * (hi1 - lo1)) := by
                rw [show ((cvOf L sl rl rh wg ks).long : Int) = L from Int.toNat_of_nonneg (by omega)] at hfl
                exact hfl
              have hwr : IntKind.i64.wrap (L * (hi1 - lo1)) = m := by rw [← hfl'.out]; exact IntWalk.i64_in _ (by omega)
              clear hfl hsa hsb
              go_wp2_with fail
              refine calls_gen fun W63 hW => ?_
              have hB : Below w.heap.size w W63 := by rw [hW]; (repeat' (first | (with_reducible exact Below.refl _ _) | (with_reducible assumption) | (with_reducible refine Below.drew ?_) | (with_reducible refine below_drewN ?_ _) | (with_reducible refine Below.setCell ?_ ?_ _) | (with_reducible refine Below.alloc ?_ ?_ _) | (refine Below.trans ?_ (Below.mono (by with_reducible assumption) ?_)) | omega | (exact Below.size (by with_reducible assumption)) | (simp; done) | (simp; omega)))
              have hBV : Below V62.heap.size V62 W63 := by rw [hW]; (repeat' (first | (with_reducible exact Below.refl _ _) | (with_reducible assumption) | (with_reducible refine Below.drew ?_) | (with_reducible refine below_drewN ?_ _) | (with_reducible refine Below.setCell ?_ ?_ _) | (with_reducible refine Below.alloc ?_ ?_ _) | (refine Below.trans ?_ (Below.mono (by with_reducible assumption) ?_)) | omega | (exact Below.size (by with_reducible assumption)) | (simp; done) | (simp; omega)))
              have pc : Own W63 (w.heap.size) [.int .i64 L, .int .i64 sl, .int .i64 rl, .int .i64 rh, .slice A n cap, .int .i64 wg] := by rw [hW]; exact (qc.out.alloc _)
              have px : Own W63 (w.heap.size + 1) [.int .i64 a, .int .i64 b, .int .i64 lv] := by rw [hW]; exact (qx.out.alloc _)
              have pa : Own W63 (V61.heap.size) [.int .i64 lo1, .int .i64 hi1] := by rw [hW]; exact (qa.out.alloc _)
              have pb : Own W63 (V62.heap.size) [.int .i64 lo1, .int .i64 hi1] := by rw [hW]; exact Own.new' _ _ rfl rfl
              clear hW lc kc fc qc lx kx fx qx la ka fa qa
              refine (works13 _).mono ?_
              rintro e V63 ⟨rfl, hb⟩
              have hB' := hB.trans (hb.mono hB.size)
              have qc := Lib.hid (pc.below hb pc.lt)
              have qx := Lib.hid (px.below hb px.lt)
              have qa := Lib.hid (pa.below hb pa.lt)
              have qb := Lib.hid (pb.below hb pb.lt)
              clear hb hB hBV pc px pa pb
              have hB := hB'
              clear hB'
              obtain ⟨lc, kc, fc⟩ := qc.out
              obtain ⟨lx, kx, fx⟩ := qx.out
              obtain ⟨la, ka, fa⟩ := qa.out
              obtain ⟨lb, kb, fb⟩ := qb.out
              go_wp2
              go_ret
              exact ⟨rfl, hB⟩
          · have em : m = 0 := f1.out.2 rfl
            subst em
            clear f1 f2 hmb z2
            by_cases hsl : 0 < sl
            · go_wp2_with fail
              refine calls_gen fun W61 hW => ?_
              have hB : Below w.heap.size w W61 := by rw [hW]; (repeat' (first | (with_reducible exact Below.refl _ _) | (with_reducible assumption) | (with_reducible refine Below.drew ?_) | (with_reducible refine below_drewN ?_ _) | (with_reducible refine Below.setCell ?_ ?_ _) | (with_reducible refine Below.alloc ?_ ?_ _) | (refine Below.trans ?_ (Below.mono (by with_reducible assumption) ?_)) | omega | (exact Below.size (by with_reducible assumption)) | (simp; done) | (simp; omega)))
              have hBV : Below wr.heap.size wr W61 := by rw [hW]; (repeat' (first | (with_reducible exact Below.refl _ _) | (with_reducible assumption) | (with_reducible refine Below.drew ?_) | (with_reducible refine below_drewN ?_ _) | (with_reducible refine Below.setCell ?_ ?_ _) | (with_reducible refine Below.alloc ?_ ?_ _) | (refine Below.trans ?_ (Below.mono (by with_reducible assumption) ?_)) | omega | (exact Below.size (by with_reducible assumption)) | (simp; done) | (simp; omega)))
              have pc : Own W61 (w.heap.size) [.int .i64 L, .int .i64 sl, .int .i64 rl, .int .i64 rh, .slice A n cap, .int .i64 wg] := by rw [hW]; exact qc.out
              have px : Own W61 (w.heap.size + 1) [.int .i64 a, .int .i64 b, .int .i64 lv] := by rw [hW]; exact qx.out
              clear hW lc kc fc qc lx kx fx qx
              refine (works13 _).mono ?_
              rintro e V61 ⟨rfl, hb⟩
              have hB' := hB.trans (hb.mono hB.size)
              have qc := Lib.hid (pc.below hb pc.lt)
              have qx := Lib.hid (px.below hb px.lt)
              clear hb hB hBV pc px
              have hB := hB'
              clear hB'
              obtain ⟨lc, kc, fc⟩ := qc.out
              obtain ⟨lx, kx, fx⟩ := qx.out
              go_wp2
              go_ret
              exact ⟨rfl, hB⟩
            · go_wp2_with fail
              refine calls_gen fun W61 hW => ?_
              have hB : Below w.heap.size w W61 := by rw [hW]; (repeat' (first | (with_reducible exact Below.refl _ _) | (with_reducible assumption) | (with_reducible refine Below.drew ?_) | (with_reducible refine below_drewN ?_ _) | (with_reducible refine Below.setCell ?_ ?_ _) | (with_reducible refine Below.alloc ?_ ?_ _) | (refine Below.trans ?_ (Below.mono (by with_reducible assumption) ?_)) | omega | (exact Below.size (by with_reducible assumption)) | (simp; done) | (simp; omega)))
              have hBV : Below wr.heap.size wr W61 := by rw [hW]; (repeat' (first | (with_reducible exact Below.refl _ _) | (with_reducible assumption) | (with_reducible refine Below.drew ?_) | (with_reducible refine below_drewN ?_ _) | (with_reducible refine Below.setCell ?_ ?_ _) | (with_reducible refine Below.alloc ?_ ?_ _) | (refine Below.trans ?_ (Below.mono (by with_reducible assumption) ?_)) | omega | (exact Below.size (by with_reducible assumption)) | (simp; done) | (simp; omega)))
              have pc : Own W61 (w.heap.size) [.int .i64 L, .int .i64 sl, .int .i64 rl, .int .i64 rh, .slice A n cap, .int .i64 wg] := by rw [hW]; exact qc.out
              have px : Own W61 (w.heap.size + 1) [.int .i64 a, .int .i64 b, .int .i64 lv] := by rw [hW]; exact qx.out
              clear hW lc kc fc qc lx kx fx qx
              refine (height31 L sl rl rh wg A n cap ks a _ (HA.out.below hB (Nat.le_refl _)) hn hlen).mono ?_
              rintro e V61 ⟨lo1, hi1, er2, rfl, hR, hb⟩
              obtain ⟨rfl, hsa, hba⟩ := ht_T HC.out HT.out hR.out ha0 (by omega)
              clear hR
              have hB' := hB.trans (hb.mono hB.size)
              have qc := Lib.hid (pc.below hb pc.lt)
              have qx := Lib.hid (px.below hb px.lt)
              clear hb hB hBV pc px
              have hB := hB'
              clear hB'
              obtain ⟨lc, kc, fc⟩ := qc.out
              obtain ⟨lx, kx, fx⟩ := qx.out
              go_wp2_with fail
              refine calls_gen fun W62 hW => ?_
              have hB : Below w.heap.size w W62 := by rw [hW]; (repeat' (first | (with_reducible exact Below.refl _ _) | (with_reducible assumption) | (with_reducible refine Below.drew ?_) | (with_reducible refine below_drewN ?_ _) | (with_reducible refine Below.setCell ?_ ?_ _) | (with_reducible refine Below.alloc ?_ ?_ _) | (refine Below.trans ?_ (Below.mono (by with_reducible assumption) ?_)) | omega | (exact Below.size (by with_reducible assumption)) | (simp; done) | (simp; omega)))
              have hBV : Below V61.heap.size V61 W62 := by rw [hW]; (repeat' (first | (with_reducible exact Below.refl _ _) | (with_reducible assumption) | (with_reducible refine Below.drew ?_) | (with_reducible refine below_drewN ?_ _) | (with_reducible refine Below.setCell ?_ ?_ _) | (with_reducible refine Below.alloc ?_ ?_ _) | (refine Below.trans ?_ (Below.mono (by with_reducible assumption) ?_)) | omega | (exact Below.size (by with_reducible assumption)) | (simp; done) | (simp; omega)))
              have pc : Own W62 (w.heap.size) [.int .i64 L, .int .i64 sl, .int .i64 rl, .int .i64 rh, .slice A n cap, .int .i64 wg] := by rw [hW]; exact (qc.out.alloc _)
              have px : Own W62 (w.heap.size + 1) [.int .i64 a, .int .i64 b, .int .i64 lv] := by rw [hW]; exact (qx.out.alloc _)
              have pa : Own W62 (V61.heap.size) [.int .i64 lo1, .int .i64 hi1] := by rw [hW]; exact Own.new' _ _ rfl rfl
              clear hW lc kc fc qc lx kx fx qx
              refine (height31 L sl rl rh wg A n cap ks b _ (HA.out.below hB (Nat.le_refl _)) hn hlen).mono ?_
              rintro e V62 ⟨lo2, hi2, er3, rfl, hR, hb⟩
              obtain ⟨rfl, hsb, _⟩ := ht_T HC.out HT.out hR.out (by omega) hbL
              obtain ⟨rfl, rfl⟩ := (flat_ht (c := cvOf L sl rl rh wg ks) (p := a.toNat) (by show sl ≤ 0; omega) (by show a.toNat ≤ L.toNat; omega) (by show b.toNat ≤ L.toNat; omega) hsa).uniq hsb
              clear hR
              have hB' := hB.trans (hb.mono hB.size)
              have qc := Lib.hid (pc.below hb pc.lt)
              have qx := Lib.hid (px.below hb px.lt)
              have qa := Lib.hid (pa.below hb pa.lt)
              clear hb hB hBV pc px pa
              have hB := hB'
              clear hB'
              obtain ⟨lc, kc, fc⟩ := qc.out
              obtain ⟨lx, kx, fx⟩ := qx.out
              obtain ⟨la, ka, fa⟩ := qa.out
              have hfl := told_flat (c := cvOf L sl rl rh wg ks) (p := a.toNat) (by show sl ≤ 0; omega) (by show a.toNat ≤ L.toNat; omega) hD.out hlen5.out hM.out hsa
              have hfl' : Hid (0 = L * (hi1 - lo1)) := by
                rw [show ((cvOf L sl rl rh wg ks).long : Int) = L from Int.toNat_of_nonneg (by omega)] at hfl
                exact hfl
              have hwr : IntKind.i64.wrap (L * (hi1 - lo1)) = 0 := by rw [← hfl'.out]; exact IntWalk.i64_in _ (by omega)
              clear hfl hsa hsb
              go_wp2_with fail
              refine calls_gen fun W63 hW => ?_
              have hB : Below w.heap.size w W63 := by rw [hW]; (repeat' (first | (with_reducible exact Below.refl _ _) | (with_reducible assumption) | (with_reducible refine Below.drew ?_) | (with_reducible refine below_drewN ?_ _) | (with_reducible refine Below.setCell ?_ ?_ _) | (with_reducible refine Below.alloc ?_ ?_ _) | (refine Below.trans ?_ (Below.mono (by with_reducible assumption) ?_)) | omega | (exact Below.size (by with_reducible assumption)) | (simp; done) | (simp; omega)))
              have hBV : Below V62.heap.size V62 W63 := by rw [hW]; (repeat' (first | (with_reducible exact Below.refl _ _) | (with_reducible assumption) | (with_reducible refine Below.drew ?_) | (with_reducible refine below_drewN ?_ _) | (with_reducible refine Below.setCell ?_ ?_ _) | (with_reducible refine Below.alloc ?_ ?_ _) | (refine Below.trans ?_ (Below.mono (by with_reducible assumption) ?_)) | omega | (exact Below.size (by with_reducible assumption)) | (simp; done) | (simp; omega)))
              have pc : Own W63 (w.heap.size) [.int .i64 L, .int .i64 sl, .int .i64 rl, .int .i64 rh, .slice A n cap, .int .i64 wg] := by rw [hW]; exact (qc.out.alloc _)
              have px : Own W63 (w.heap.size + 1) [.int .i64 a, .int .i64 b, .int .i64 lv] := by rw [hW]; exact (qx.out.alloc _)
              have pa : Own W63 (V61.heap.size) [.int .i64 lo1, .int .i64 hi1] := by rw [hW]; exact (qa.out.alloc _)
              have pb : Own W63 (V62.heap.size) [.int .i64 lo1, .int .i64 hi1] := by rw [hW]; exact Own.new' _ _ rfl rfl
              clear hW lc kc fc qc lx kx fx qx la ka fa qa
              refine (works13 _).mono ?_
              rintro e V63 ⟨rfl, hb⟩
              have hB' := hB.trans (hb.mono hB.size)
              have qc := Lib.hid (pc.below hb pc.lt)
              have qx := Lib.hid (px.below hb px.lt)
              have qa := Lib.hid (pa.below hb pa.lt)
              have qb := Lib.hid (pb.below hb pb.lt)
              clear hb hB hBV pc px pa pb
              have hB := hB'
              clear hB'
              obtain ⟨lc, kc, fc⟩ := qc.out
              obtain ⟨lx, kx, fx⟩ := qx.out
              obtain ⟨la, ka, fa⟩ := qa.out
              obtain ⟨lb, kb, fb⟩ := qb.out
              go_wp2
              go_ret
              exact ⟨rfl, hB⟩
        · have eo : op = true := f2.out.1 rfl
          subst eo
          have hqL : (q : Int) ≤ L := by have : q ≤ L.toNat := hq1; omega
          clear hx hkn
          cases su
          · have em : (m == 0) = false := by
              have : ¬ m = 0 := fun h => by have := f1.out.1 h; cases this
              simpa using this
            clear f1 f2
            go_wp2_with fail
            refine calls_gen fun W61 hW => ?_
            have hB : Below w.heap.size w W61 := by rw [hW]; (repeat' (first | (with_reducible exact Below.refl _ _) | (with_reducible assumption) | (with_reducible refine Below.drew ?_) | (with_reducible refine below_drewN ?_ _) | (with_reducible refine Below.setCell ?_ ?_ _) | (with_reducible refine Below.alloc ?_ ?_ _) | (refine Below.trans ?_ (Below.mono (by with_reducible assumption) ?_)) | omega | (exact Below.size (by with_reducible assumption)) | (simp; done) | (simp; omega)))
            have hBV : Below wr.heap.size wr W61 := by rw [hW]; (repeat' (first | (with_reducible exact Below.refl _ _) | (with_reducible assumption) | (with_reducible refine Below.drew ?_) | (with_reducible refine below_drewN ?_ _) | (with_reducible refine Below.setCell ?_ ?_ _) | (with_reducible refine Below.alloc ?_ ?_ _) | (refine Below.trans ?_ (Below.mono (by with_reducible assumption) ?_)) | omega | (exact Below.size (by with_reducible assumption)) | (simp; done) | (simp; omega)))
            have pc : Own W61 (w.heap.size) [.int .i64 L, .int .i64 sl, .int .i64 rl, .int .i64 rh, .slice A n cap, .int .i64 wg] := by rw [hW]; exact qc.out
            have px : Own W61 (w.heap.size + 1) [.int .i64 a, .int .i64 b, .int .i64 lv] := by rw [hW]; exact qx.out
            clear hW lc kc fc qc lx kx fx qx
            refine (height31 L sl rl rh wg A n cap ks q _ (HA.out.below hB (Nat.le_refl _)) hn hlen).mono ?_
            rintro e V61 ⟨lo, hi, er1, rfl, hR, hb⟩
            obtain ⟨rfl, hsp, hbd⟩ := ht_T HC.out HT.out hR.out (by omega) hqL
            rw [Int.toNat_natCast] at hsp
            have hlo := (wide_iff hsp).1 hq2
            clear hR hsp
            have hB' := hB.trans (hb.mono hB.size)
            have qc := Lib.hid (pc.below hb pc.lt)
            have qx := Lib.hid (px.below hb px.lt)
            clear hb hB hBV pc px
            have hB := hB'
            clear hB'
            obtain ⟨lc, kc, fc⟩ := qc.out
            obtain ⟨lx, kx, fx⟩ := qx.out
            have y3 : decide (hi ≤ lo) = false := decide_eq_false (by omega)
            by_cases hsl : 0 < sl
            · go_wp2_with fail
              refine calls_gen fun W62 hW => ?_
              have hB : Below w.heap.size w W62 := by rw [hW]; (repeat' (first | (with_reducible exact Below.refl _ _) | (with_reducible assumption) | (with_reducible refine Below.drew ?_) | (with_reducible refine below_drewN ?_ _) | (with_reducible refine Below.setCell ?_ ?_ _) | (with_reducible refine Below.alloc ?_ ?_ _) | (refine Below.trans ?_ (Below.mono (by with_reducible assumption) ?_)) | omega | (exact Below.size (by with_reducible assumption)) | (simp; done) | (simp; omega)))
              have hBV : Below V61.heap.size V61 W62 := by rw [hW]; (repeat' (first | (with_reducible exact Below.refl _ _) | (with_reducible assumption) | (with_reducible refine Below.drew ?_) | (with_reducible refine below_drewN ?_ _) | (with_reducible refine Below.setCell ?_ ?_ _) | (with_reducible refine Below.alloc ?_ ?_ _) | (refine Below.trans ?_ (Below.mono (by with_reducible assumption) ?_)) | omega | (exact Below.size (by with_reducible assumption)) | (simp; done) | (simp; omega)))
              have pc : Own W62 (w.heap.size) [.int .i64 L, .int .i64 sl, .int .i64 rl, .int .i64 rh, .slice A n cap, .int .i64 wg] := by rw [hW]; exact (qc.out.alloc _)
              have px : Own W62 (w.heap.size + 1) [.int .i64 a, .int .i64 b, .int .i64 lv] := by rw [hW]; exact (qx.out.alloc _)
              have pq : Own W62 (V61.heap.size) [.int .i64 lo, .int .i64 hi] := by rw [hW]; exact Own.new' _ _ rfl rfl
              clear hW lc kc fc qc lx kx fx qx
              refine (works13 _).mono ?_
              rintro e V62 ⟨rfl, hb⟩
              have hB' := hB.trans (hb.mono hB.size)
              have qc := Lib.hid (pc.below hb pc.lt)
              have qx := Lib.hid (px.below hb px.lt)
              have qq := Lib.hid (pq.below hb pq.lt)
              clear hb hB hBV pc px pq
              have hB := hB'
              clear hB'
              obtain ⟨lc, kc, fc⟩ := qc.out
              obtain ⟨lx, kx, fx⟩ := qx.out
              obtain ⟨lq, kq, fq⟩ := qq.out
              go_wp2
              go_ret
              exact ⟨rfl, hB⟩
            · go_wp2_with fail
              refine calls_gen fun W62 hW => ?_
              have hB : Below w.heap.size w W62 := by rw [hW]; (repeat' (first | (with_reducible exact Below.refl _ _) | (with_reducible assumption) | (with_reducible refine Below.drew ?_) | (with_reducible refine below_drewN ?_ _) | (with_reducible refine Below.setCell ?_ ?_ _) | (with_reducible refine Below.alloc ?_ ?_ _) | (refine Below.trans ?_ (Below.mono (by with_reducible assumption) ?_)) | omega | (exact Below.size (by with_reducible assumption)) | (simp; done) | (simp; omega)))
              have hBV : Below V61.heap.size V61 W62 := by rw [hW]; (repeat' (first | (with_reducible exact Below.refl _ _) | (with_reducible assumption) | (with_reducible refine Below.drew ?_) | (with_reducible refine below_drewN ?_ _) | (with_reducible refine Below.setCell ?_ ?_ _) | (with_reducible refine Below.alloc ?_ ?_ _) | (refine Below.trans ?_ (Below.mono (by with_reducible assumption) ?_)) | omega | (exact Below.size (by with_reducible assumption)) | (simp; done) | (simp; omega)))
              have pc : Own W62 (w.heap.size) [.int .i64 L, .int .i64 sl, .int .i64 rl, .int .i64 rh, .slice A n cap, .int .i64 wg] := by rw [hW]; exact (qc.out.alloc _)
              have px : Own W62 (w.heap.size + 1) [.int .i64 a, .int .i64 b, .int .i64 lv] := by rw [hW]; exact (qx.out.alloc _)
              have pq : Own W62 (V61.heap.size) [.int .i64 lo, .int .i64 hi] := by rw [hW]; exact Own.new' _ _ rfl rfl
              clear hW lc kc fc qc lx kx fx qx
              refine (height31 L sl rl rh wg A n cap ks a _ (HA.out.below hB (Nat.le_refl _)) hn hlen).mono ?_
              rintro e V62 ⟨lo1, hi1, er2, rfl, hR, hb⟩
              obtain ⟨rfl, hsa, hba⟩ := ht_T HC.out HT.out hR.out ha0 (by omega)
              clear hR
              have hB' := hB.trans (hb.mono hB.size)
              have qc := Lib.hid (pc.below hb pc.lt)
              have qx := Lib.hid (px.below hb px.lt)
              have qq := Lib.hid (pq.below hb pq.lt)
              clear hb hB hBV pc px pq
              have hB := hB'
              clear hB'
              obtain ⟨lc, kc, fc⟩ := qc.out
              obtain ⟨lx, kx, fx⟩ := qx.out
              obtain ⟨lq, kq, fq⟩ := qq.out
              go_wp2_with fail
              refine calls_gen fun W63 hW => ?_
              have hB : Below w.heap.size w W63 := by rw [hW]; (repeat' (first | (with_reducible exact Below.refl _ _) | (with_reducible assumption) | (with_reducible refine Below.drew ?_) | (with_reducible refine below_drewN ?_ _) | (with_reducible refine Below.setCell ?_ ?_ _) | (with_reducible refine Below.alloc ?_ ?_ _) | (refine Below.trans ?_ (Below.mono (by with_reducible assumption) ?_)) | omega | (exact Below.size (by with_reducible assumption)) | (simp; done) | (simp; omega)))
              have hBV : Below V62.heap.size V62 W63 := by rw [hW]; (repeat' (first | (with_reducible exact Below.refl _ _) | (with_reducible assumption) | (with_reducible refine Below.drew ?_) | (with_reducible refine below_drewN ?_ _) | (with_reducible refine Below.setCell ?_ ?_ _) | (with_reducible refine Below.alloc ?_ ?_ _) | (refine Below.trans ?_ (Below.mono (by with_reducible assumption) ?_)) | omega | (exact Below.size (by with_reducible assumption)) | (simp; done) | (simp; omega)))
              have pc : Own W63 (w.heap.size) [.int .i64 L, .int .i64 sl, .int .i64 rl, .int .i64 rh, .slice A n cap, .int .i64 wg] := by rw [hW]; exact (qc.out.alloc _)
              have px : Own W63 (w.heap.size + 1) [.int .i64 a, .int .i64 b, .int .i64 lv] := by rw [hW]; exact (qx.out.alloc _)
              have pq : Own W63 (V61.heap.size) [.int .i64 lo, .int .i64 hi] := by rw [hW]; exact (qq.out.alloc _)
              have pa : Own W63 (V62.heap.size) [.int .i64 lo1, .int .i64 hi1] := by rw [hW]; exact Own.new' _ _ rfl rfl
              clear hW lc kc fc qc lx kx fx qx lq kq fq qq
              refine (height31 L sl rl rh wg A n cap ks b _ (HA.out.below hB (Nat.le_refl _)) hn hlen).mono ?_
              rintro e V63 ⟨lo2, hi2, er3, rfl, hR, hb⟩
              obtain ⟨rfl, hsb, _⟩ := ht_T HC.out HT.out hR.out (by omega) hbL
              obtain ⟨rfl, rfl⟩ := (flat_ht (c := cvOf L sl rl rh wg ks) (p := a.toNat) (by show sl ≤ 0; omega) (by show a.toNat ≤ L.toNat; omega) (by show b.toNat ≤ L.toNat; omega) hsa).uniq hsb
              clear hR
              have hB' := hB.trans (hb.mono hB.size)
              have qc := Lib.hid (pc.below hb pc.lt)
              have qx := Lib.hid (px.below hb px.lt)
              have qq := Lib.hid (pq.below hb pq.lt)
              have qa := Lib.hid (pa.below hb pa.lt)
              clear hb hB hBV pc px pq pa
              have hB := hB'
              clear hB'
              obtain ⟨lc, kc, fc⟩ := qc.out
              obtain ⟨lx, kx, fx⟩ := qx.out
              obtain ⟨lq, kq, fq⟩ := qq.out
              obtain ⟨la, ka, fa⟩ := qa.out
              have hfl := told_flat (c := cvOf L sl rl rh wg ks) (p := a.toNat) (by show sl ≤ 0; omega) (by show a.toNat ≤ L.toNat; omega) hD.out hlen5.out hM.out hsa
              have hfl' : Hid (m = L * (hi1 - lo1)) := by
                rw [show ((cvOf L sl rl rh wg ks).long : Int) = L from Int.toNat_of_nonneg (by omega)] at hfl
                exact hfl
              have hwr : IntKind.i64.wrap (L * (hi1 - lo1)) = m := by rw [← hfl'.out]; exact IntWalk.i64_in _ (by omega)
              clear hfl hsa hsb
              go_wp2_with fail
              refine calls_gen fun W64 hW => ?_
              have hB : Below w.heap.size w W64 := by rw [hW]; (repeat' (first | (with_reducible exact Below.refl _ _) | (with_reducible assumption) | (with_reducible refine Below.drew ?_) | (with_reducible refine below_drewN ?_ _) | (with_reducible refine Below.setCell ?_ ?_ _) | (with_reducible refine Below.alloc ?_ ?_ _) | (refine Below.trans ?_ (Below.mono (by with_reducible assumption) ?_)) | omega | (exact Below.size (by with_reducible assumption)) | (simp; done) | (simp; omega)))
              have hBV : Below V63.heap.size V63 W64 := by rw [hW]; (repeat' (first | (with_reducible exact Below.refl _ _) | (with_reducible assumption) | (with_reducible refine Below.drew ?_) | (with_reducible refine below_drewN ?_ _) | (with_reducible refine Below.setCell ?_ ?_ _) | (with_reducible refine Below.alloc ?_ ?_ _) | (refine Below.trans ?_ (Below.mono (by with_reducible assumption) ?_)) | omega | (exact Below.size (by with_reducible assumption)) | (simp; done) | (simp; omega)))
              have pc : Own W64 (w.heap.size) [.int .i64 L, .int .i64 sl, .int .i64 rl, .int .i64 rh, .slice A n cap, .int .i64 wg] := by rw [hW]; exact (qc.out.alloc _)
              have px : Own W64 (w.heap.size + 1) [.int .i64 a, .int .i64 b, .int .i64 lv] := by rw [hW]; exact (qx.out.alloc _)
              have pq : Own W64 (V61.heap.size) [.int .i64 lo, .int .i64 hi] := by rw [hW]; exact (qq.out.alloc _)
              have pa : Own W64 (V62.heap.size) [.int .i64 lo1, .int .i64 hi1] := by rw [hW]; exact (qa.out.alloc _)
              have pb : Own W64 (V63.heap.size) [.int .i64 lo1, .int .i64 hi1] := by rw [hW]; exact Own.new' _ _ rfl rfl
              clear hW lc kc fc qc lx kx fx qx lq kq fq qq la ka fa qa
              refine (works13 _).mono ?_
              rintro e V64 ⟨rfl, hb⟩
              have hB' := hB.trans (hb.mono hB.size)
              have qc := Lib.hid (pc.below hb pc.lt)
              have qx := Lib.hid (px.below hb px.lt)
              have qq := Lib.hid (pq.below hb pq.lt)
              have qa := Lib.hid (pa.below hb pa.lt)
              have qb := Lib.hid (pb.below hb pb.lt)
              clear hb hB hBV pc px pq pa pb
              have hB := hB'
              clear hB'
              obtain ⟨lc, kc, fc⟩ := qc.out
              obtain ⟨lx, kx, fx⟩ := qx.out
              obtain ⟨lq, kq, fq⟩ := qq.out
              obtain ⟨la, ka, fa⟩ := qa.out
              obtain ⟨lb, kb, fb⟩ := qb.out
              go_wp2
              go_ret
              exact ⟨rfl, hB⟩
          · have em : m = 0 := f1.out.2 rfl
            subst em
            clear f1 f2 hmb z2
            go_wp2_with fail
            refine calls_gen fun W61 hW => ?_
            have hB : Below w.heap.size w W61 := by rw [hW]; (repeat' (first | (with_reducible exact Below.refl _ _) | (with_reducible assumption) | (with_reducible refine Below.drew ?_) | (with_reducible refine below_drewN ?_ _) | (with_reducible refine Below.setCell ?_ ?_ _) | (with_reducible refine Below.alloc ?_ ?_ _) | (refine Below.trans ?_ (Below.mono (by with_reducible assumption) ?_)) | omega | (exact Below.size (by with_reducible assumption)) | (simp; done) | (simp; omega)))
            have hBV : Below wr.heap.size wr W61 := by rw [hW]; (repeat' (first | (with_reducible exact Below.refl _ _) | (with_reducible assumption) | (with_reducible refine Below.drew ?_) | (with_reducible refine below_drewN ?_ _) | (with_reducible refine Below.setCell ?_ ?_ _) | (with_reducible refine Below.alloc ?_ ?_ _) | (refine Below.trans ?_ (Below.mono (by with_reducible assumption) ?_)) | omega | (exact Below.size (by with_reducible assumption)) | (simp; done) | (simp; omega)))
            have pc : Own W61 (w.heap.size) [.int .i64 L, .int .i64 sl, .int .i64 rl, .int .i64 rh, .slice A n cap, .int .i64 wg] := by rw [hW]; exact qc.out
            have px : Own W61 (w.heap.size + 1) [.int .i64 a, .int .i64 b, .int .i64 lv] := by rw [hW]; exact qx.out
            clear hW lc kc fc qc lx kx fx qx
            refine (height31 L sl rl rh wg A n cap ks q _ (HA.out.below hB (Nat.le_refl _)) hn hlen).mono ?_
            rintro e V61 ⟨lo, hi, er1, rfl, hR, hb⟩
            obtain ⟨rfl, hsp, hbd⟩ := ht_T HC.out HT.out hR.out (by omega) hqL
            rw [Int.toNat_natCast] at hsp
            have hlo := (wide_iff hsp).1 hq2
            clear hR hsp
            have hB' := hB.trans (hb.mono hB.size)
            have qc := Lib.hid (pc.below hb pc.lt)
            have qx := Lib.hid (px.below hb px.lt)
            clear hb hB hBV pc px
            have hB := hB'
            clear hB'
            obtain ⟨lc, kc, fc⟩ := qc.out
            obtain ⟨lx, kx, fx⟩ := qx.out
            have y3 : decide (hi ≤ lo) = false := decide_eq_false (by omega)
            by_cases hsl : 0 < sl
            · go_wp2_with fail
              refine calls_gen fun W62 hW => ?_
              have hB : Below w.heap.size w W62 := by rw [hW]; (repeat' (first | (with_reducible exact Below.refl _ _) | (with_reducible assumption) | (with_reducible refine Below.drew ?_) | (with_reducible refine below_drewN ?_ _) | (with_reducible refine Below.setCell ?_ ?_ _) | (with_reducible refine Below.alloc ?_ ?_ _) | (refine Below.trans ?_ (Below.mono (by with_reducible assumption) ?_)) | omega | (exact Below.size (by with_reducible assumption)) | (simp; done) | (simp; omega)))
              have hBV : Below V61.heap.size V61 W62 := by rw [hW]; (repeat' (first | (with_reducible exact Below.refl _ _) | (with_reducible assumption) | (with_reducible refine Below.drew ?_) | (with_reducible refine below_drewN ?_ _) | (with_reducible refine Below.setCell ?_ ?_ _) | (with_reducible refine Below.alloc ?_ ?_ _) | (refine Below.trans ?_ (Below.mono (by with_reducible assumption) ?_)) | omega | (exact Below.size (by with_reducible assumption)) | (simp; done) | (simp; omega)))
              have pc : Own W62 (w.heap.size) [.int .i64 L, .int .i64 sl, .int .i64 rl, .int .i64 rh, .slice A n cap, .int .i64 wg] := by rw [hW]; exact (qc.out.alloc _)
              have px : Own W62 (w.heap.size + 1) [.int .i64 a, .int .i64 b, .int .i64 lv] := by rw [hW]; exact (qx.out.alloc _)
              have pq : Own W62 (V61.heap.size) [.int .i64 lo, .int .i64 hi] := by rw [hW]; exact Own.new' _ _ rfl rfl
              clear hW lc kc fc qc lx kx fx qx
              refine (works13 _).mono ?_
              rintro e V62 ⟨rfl, hb⟩
              have hB' := hB.trans (hb.mono hB.size)
              have qc := Lib.hid (pc.below hb pc.lt)
              have qx := Lib.hid (px.below hb px.lt)
              have qq := Lib.hid (pq.below hb pq.lt)
              clear hb hB hBV pc px pq
              have hB := hB'
              clear hB'
              obtain ⟨lc, kc, fc⟩ := qc.out
              obtain ⟨lx, kx, fx⟩ := qx.out
              obtain ⟨lq, kq, fq⟩ := qq.out
              go_wp2
              go_ret
              exact ⟨rfl, hB⟩
            · go_wp2_with fail
              refine calls_gen fun W62 hW => ?_
              have hB : Below w.heap.size w W62 := by rw [hW]; (repeat' (first | (with_reducible exact Below.refl _ _) | (with_reducible assumption) | (with_reducible refine Below.drew ?_) | (with_reducible refine below_drewN ?_ _) | (with_reducible refine Below.setCell ?_ ?_ _) | (with_reducible refine Below.alloc ?_ ?_ _) | (refine Below.trans ?_ (Below.mono (by with_reducible assumption) ?_)) | omega | (exact Below.size (by with_reducible assumption)) | (simp; done) | (simp; omega)))
              have hBV : Below V61.heap.size V61 W62 := by rw [hW]; (repeat' (first | (with_reducible exact Below.refl _ _) | (with_reducible assumption) | (with_reducible refine Below.drew ?_) | (with_reducible refine below_drewN ?_ _) | (with_reducible refine Below.setCell ?_ ?_ _) | (with_reducible refine Below.alloc ?_ ?_ _) | (refine Below.trans ?_ (Below.mono (by with_reducible assumption) ?_)) | omega | (exact Below.size (by with_reducible assumption)) | (simp; done) | (simp; omega)))
              have pc : Own W62 (w.heap.size) [.int .i64 L, .int .i64 sl, .int .i64 rl, .int .i64 rh, .slice A n cap, .int .i64 wg] := by rw [hW]; exact (qc.out.alloc _)
              have px : Own W62 (w.heap.size + 1) [.int .i64 a, .int .i64 b, .int .i64 lv] := by rw [hW]; exact (qx.out.alloc _)
              have pq : Own W62 (V61.heap.size) [.int .i64 lo, .int .i64 hi] := by rw [hW]; exact Own.new' _ _ rfl rfl
              clear hW lc kc fc qc lx kx fx qx
              refine (height31 L sl rl rh wg A n cap ks a _ (HA.out.below hB (Nat.le_refl _)) hn hlen).mono ?_
              rintro e V62 ⟨lo1, hi1, er2, rfl, hR, hb⟩
              obtain ⟨rfl, hsa, hba⟩ := ht_T HC.out HT.out hR.out ha0 (by omega)
              clear hR
              have hB' := hB.trans (hb.mono hB.size)
              have qc := Lib.hid (pc.below hb pc.lt)
              have qx := Lib.hid (px.below hb px.lt)
              have qq := Lib.hid (pq.below hb pq.lt)
              clear hb hB hBV pc px pq
              have hB := hB'
              clear hB'
              obtain ⟨lc, kc, fc⟩ := qc.out
              obtain ⟨lx, kx, fx⟩ := qx.out
              obtain ⟨lq, kq, fq⟩ := qq.out
              go_wp2_with fail
              refine calls_gen fun W63 hW => ?_
              have hB : Below w.heap.size w W63 := by rw [hW]; (repeat' (first | (with_reducible exact Below.refl _ _) | (with_reducible assumption) | (with_reducible refine Below.drew ?_) | (with_reducible refine below_drewN ?_ _) | (with_reducible refine Below.setCell ?_ ?_ _) | (with_reducible refine Below.alloc ?_ ?_ _) | (refine Below.trans ?_ (Below.mono (by with_reducible assumption) ?_)) | omega | (exact Below.size (by with_reducible assumption)) | (simp; done) | (simp; omega)))
              have hBV : Below V62.heap.size V62 W63 := by rw [hW]; (repeat' (first | (with_reducible exact Below.refl _ _) | (with_reducible assumption) | (with_reducible refine Below.drew ?_) | (with_reducible refine below_drewN ?_ _) | (with_reducible refine Below.setCell ?_ ?_ _) | (with_reducible refine Below.alloc ?_ ?_ _) | (refine Below.trans ?_ (Below.mono (by with_reducible assumption) ?_)) | omega | (exact Below.size (by with_reducible assumption)) | (simp; done) | (simp; omega)))
              have pc : Own W63 (w.heap.size) [.int .i64 L, .int .i64 sl, .int .i64 rl, .int .i64 rh, .slice A n cap, .int .i64 wg] := by rw [hW]; exact (qc.out.alloc _)
              have px : Own W63 (w.heap.size + 1) [.int .i64 a, .int .i64 b, .int .i64 lv] := by rw [hW]; exact (qx.out.alloc _)
              have pq : Own W63 (V61.heap.size) [.int .i64 lo, .int .i64 hi] := by rw [hW]; exact (qq.out.alloc _)
              have pa : Own W63 (V62.heap.size) [.int .i64 lo1, .int .i64 hi1] := by rw [hW]; exact Own.new' _ _ rfl rfl
              clear hW lc kc fc qc lx kx fx qx lq kq fq qq
              refine (height31 L sl rl rh wg A n cap ks b _ (HA.out.below hB (Nat.le_refl _)) hn hlen).mono ?_
              rintro e V63 ⟨lo2, hi2, er3, rfl, hR, hb⟩
              obtain ⟨rfl, hsb, _⟩ := ht_T HC.out HT.out hR.out (by omega) hbL
              obtain ⟨rfl, rfl⟩ := (flat_ht (c := cvOf L sl rl rh wg ks) (p := a.toNat) (by show sl ≤ 0; omega) (by show a.toNat ≤ L.toNat; omega) (by show b.toNat ≤ L.toNat; omega) hsa).uniq hsb
              clear hR
              have hB' := hB.trans (hb.mono hB.size)
              have qc := Lib.hid (pc.below hb pc.lt)
              have qx := Lib.hid (px.below hb px.lt)
              have qq := Lib.hid (pq.below hb pq.lt)
              have qa := Lib.hid (pa.below hb pa.lt)
              clear hb hB hBV pc px pq pa
              have hB := hB'
              clear hB'
              obtain ⟨lc, kc, fc⟩ := qc.out
              obtain ⟨lx, kx, fx⟩ := qx.out
              obtain ⟨lq, kq, fq⟩ := qq.out
              obtain ⟨la, ka, fa⟩ := qa.out
              have hfl := told_flat (c := cvOf L sl rl rh wg ks) (p := a.toNat) (by show sl ≤ 0; omega) (by show a.toNat ≤ L.toNat; omega) hD.out hlen5.out hM.out hsa
              have hfl' : Hid (0 = L * (hi1 - lo1)) := by
                rw [show ((cvOf L sl rl rh wg ks).long : Int) = L from Int.toNat_of_nonneg (by omega)] at hfl
                exact hfl
              have hwr : IntKind.i64.wrap (L * (hi1 - lo1)) = 0 := by rw [← hfl'.out]; exact IntWalk.i64_in _ (by omega)
              clear hfl hsa hsb
              go_wp2_with fail
              refine calls_gen fun W64 hW => ?_
              have hB : Below w.heap.size w W64 := by rw [hW]; (repeat' (first | (with_reducible exact Below.refl _ _) | (with_reducible assumption) | (with_reducible refine Below.drew ?_) | (with_reducible refine below_drewN ?_ _) | (with_reducible refine Below.setCell ?_ ?_ _) | (with_reducible refine Below.alloc ?_ ?_ _) | (refine Below.trans ?_ (Below.mono (by with_reducible assumption) ?_)) | omega | (exact Below.size (by with_reducible assumption)) | (simp; done) | (simp; omega)))
              have hBV : Below V63.heap.size V63 W64 := by rw [hW]; (repeat' (first | (with_reducible exact Below.refl _ _) | (with_reducible assumption) | (with_reducible refine Below.drew ?_) | (with_reducible refine below_drewN ?_ _) | (with_reducible refine Below.setCell ?_ ?_ _) | (with_reducible refine Below.alloc ?_ ?_ _) | (refine Below.trans ?_ (Below.mono (by with_reducible assumption) ?_)) | omega | (exact Below.size (by with_reducible assumption)) | (simp; done) | (simp; omega)))
              have pc : Own W64 (w.heap.size) [.int .i64 L, .int .i64 sl, .int .i64 rl, .int .i64 rh, .slice A n cap, .int .i64 wg] := by rw [hW]; exact (qc.out.alloc _)
              have px : Own W64 (w.heap.size + 1) [.int .i64 a, .int .i64 b, .int .i64 lv] := by rw [hW]; exact (qx.out.alloc _)
              have pq : Own W64 (V61.heap.size) [.int .i64 lo, .int .i64 hi] := by rw [hW]; exact (qq.out.alloc _)
              have pa : Own W64 (V62.heap.size) [.int .i64 lo1, .int .i64 hi1] := by rw [hW]; exact (qa.out.alloc _)
              have pb : Own W64 (V63.heap.size) [.int .i64 lo1, .int .i64 hi1] := by rw [hW]; exact Own.new' _ _ rfl rfl
              clear hW lc kc fc qc lx kx fx qx lq kq fq qq la ka fa qa
              refine (works13 _).mono ?_
              rintro e V64 ⟨rfl, hb⟩
              have hB' := hB.trans (hb.mono hB.size)
              have qc := Lib.hid (pc.below hb pc.lt)
              have qx := Lib.hid (px.below hb px.lt)
              have qq := Lib.hid (pq.below hb pq.lt)
              have qa := Lib.hid (pa.below hb pa.lt)
              have qb := Lib.hid (pb.below hb pb.lt)
              clear hb hB hBV pc px pq pa pb
              have hB := hB'
              clear hB'
              obtain ⟨lc, kc, fc⟩ := qc.out
              obtain ⟨lx, kx, fx⟩ := qx.out
              obtain ⟨lq, kq, fq⟩ := qq.out
              obtain ⟨la, ka, fa⟩ := qa.out
              obtain ⟨lb, kb, fb⟩ := qb.out
              go_wp2
              go_ret
              exact ⟨rfl, hB⟩
end Go.Proofs.Ytphcpphmoeiioaa
