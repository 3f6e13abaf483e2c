/- CurvesJoined: the integrals from place to place are joined. No condition: every input. -/
import Derived.Test.YtphcpphmoeiioaaWW
namespace Go.Proofs.Ytphcpphmoeiioaa
open Go.RowKit Go.Maps

set_option maxRecDepth 100000 in
set_option maxHeartbeats 8000000 in
theorem joined4 (L sl rl rh wg : Int) (A : Option Addr) (n cap : Nat) (ks : List Kn) (a b lv d : Int) (w : World) (hA : Rd 3 w A (ks.map krow)) (hn : Hid (n = ks.length)) (hlen : n ≤ 9223372036854775807) :
    Calls Try.prog 4 #[.agg #[.int .i64 L, .int .i64 sl, .int .i64 rl, .int .i64 rh, .slice A n cap, .int .i64 wg], .agg #[.int .i64 a, .int .i64 b, .int .i64 lv], .int .i64 d] w fun e w' => e = .returned (.bool true) ∧ Below w.heap.size w w' := by
  have HA := Lib.hid hA
  clear hA
  cases hr : readyB L sl rl rh wg ks
  · have HR := Lib.hid hr
    clear hr
    go_enter Try.func4, Try.ntmps4
    go_wp2_with fail
    refine calls_gen fun W1 hW => ?_
    have hB : Below w.heap.size w W1 := by rw [hW]; (repeat' (first | (with_reducible exact Below.refl _ _) | (with_reducible assumption) | (with_reducible refine Below.drew ?_) | (with_reducible refine below_drewN ?_ _) | (with_reducible refine Below.setCell ?_ ?_ _) | (with_reducible refine Below.alloc ?_ ?_ _) | (refine Below.trans ?_ (Below.mono (by with_reducible assumption) ?_)) | omega | (exact Below.size (by with_reducible assumption)) | (simp; done) | (simp; omega)))
    have pc : Own W1 (w.heap.size) [.int .i64 L, .int .i64 sl, .int .i64 rl, .int .i64 rh, .slice A n cap, .int .i64 wg] := by rw [hW]; exact (Own.new' _ _ rfl rfl).alloc _
    have px : Own W1 (w.heap.size + 1) [.int .i64 a, .int .i64 b, .int .i64 lv] := by rw [hW]; exact Own.new' _ _ (by simp) rfl
    clear hW 
    refine (ready18v false L sl rl rh wg A n cap ks _ HR (HA.out.below hB (Nat.le_refl _)) hn hlen).mono ?_
    rintro e V1 ⟨rfl, hb⟩
    have hB' := hB.trans (hb.mono hB.size)
    have qc := Lib.hid (pc.below hb pc.lt)
    have qx := Lib.hid (px.below hb px.lt)
    clear hb hB pc px
    have hB := hB'
    clear hB'
    obtain ⟨lc, kc, fc⟩ := qc.out
    obtain ⟨lx, kx, fx⟩ := qx.out
    go_wp2_with fail
    refine calls_gen fun W2 hW => ?_
    have hB : Below w.heap.size w W2 := by rw [hW]; (repeat' (first | (with_reducible exact Below.refl _ _) | (with_reducible assumption) | (with_reducible refine Below.drew ?_) | (with_reducible refine below_drewN ?_ _) | (with_reducible refine Below.setCell ?_ ?_ _) | (with_reducible refine Below.alloc ?_ ?_ _) | (refine Below.trans ?_ (Below.mono (by with_reducible assumption) ?_)) | omega | (exact Below.size (by with_reducible assumption)) | (simp; done) | (simp; omega)))
    have hBV : Below V1.heap.size V1 W2 := by rw [hW]; (repeat' (first | (with_reducible exact Below.refl _ _) | (with_reducible assumption) | (with_reducible refine Below.drew ?_) | (with_reducible refine below_drewN ?_ _) | (with_reducible refine Below.setCell ?_ ?_ _) | (with_reducible refine Below.alloc ?_ ?_ _) | (refine Below.trans ?_ (Below.mono (by with_reducible assumption) ?_)) | omega | (exact Below.size (by with_reducible assumption)) | (simp; done) | (simp; omega)))
    have pc : Own W2 (w.heap.size) [.int .i64 L, .int .i64 sl, .int .i64 rl, .int .i64 rh, .slice A n cap, .int .i64 wg] := by rw [hW]; exact qc.out
    have px : Own W2 (w.heap.size + 1) [.int .i64 a, .int .i64 b, .int .i64 lv] := by rw [hW]; exact qx.out
    clear hW lc kc fc qc lx kx fx qx
    refine (works13 _).mono ?_
    rintro e V2 ⟨rfl, hb⟩
    have hB' := hB.trans (hb.mono hB.size)
    have qc := Lib.hid (pc.below hb pc.lt)
    have qx := Lib.hid (px.below hb px.lt)
    clear hb hB hBV pc px
    have hB := hB'
    clear hB'
    obtain ⟨lc, kc, fc⟩ := qc.out
    obtain ⟨lx, kx, fx⟩ := qx.out
    go_wp2
    go_ret
    exact ⟨rfl, hB⟩
  have HR := Lib.hid hr
  cases hk : askB L a b lv
  · have HK := Lib.hid hk
    clear hr hk
    go_enter Try.func4, Try.ntmps4
    go_wp2_with fail
    refine calls_gen fun W1 hW => ?_
    have hB : Below w.heap.size w W1 := by rw [hW]; (repeat' (first | (with_reducible exact Below.refl _ _) | (with_reducible assumption) | (with_reducible refine Below.drew ?_) | (with_reducible refine below_drewN ?_ _) | (with_reducible refine Below.setCell ?_ ?_ _) | (with_reducible refine Below.alloc ?_ ?_ _) | (refine Below.trans ?_ (Below.mono (by with_reducible assumption) ?_)) | omega | (exact Below.size (by with_reducible assumption)) | (simp; done) | (simp; omega)))
    have pc : Own W1 (w.heap.size) [.int .i64 L, .int .i64 sl, .int .i64 rl, .int .i64 rh, .slice A n cap, .int .i64 wg] := by rw [hW]; exact (Own.new' _ _ rfl rfl).alloc _
    have px : Own W1 (w.heap.size + 1) [.int .i64 a, .int .i64 b, .int .i64 lv] := by rw [hW]; exact Own.new' _ _ (by simp) rfl
    clear hW 
    refine (ready18v true L sl rl rh wg A n cap ks _ HR (HA.out.below hB (Nat.le_refl _)) hn hlen).mono ?_
    rintro e V1 ⟨rfl, hb⟩
    have hB' := hB.trans (hb.mono hB.size)
    have qc := Lib.hid (pc.below hb pc.lt)
    have qx := Lib.hid (px.below hb px.lt)
    clear hb hB pc px
    have hB := hB'
    clear hB'
    obtain ⟨lc, kc, fc⟩ := qc.out
    obtain ⟨lx, kx, fx⟩ := qx.out
    go_wp2_with fail
    refine calls_gen fun W2 hW => ?_
    have hB : Below w.heap.size w W2 := by rw [hW]; (repeat' (first | (with_reducible exact Below.refl _ _) | (with_reducible assumption) | (with_reducible refine Below.drew ?_) | (with_reducible refine below_drewN ?_ _) | (with_reducible refine Below.setCell ?_ ?_ _) | (with_reducible refine Below.alloc ?_ ?_ _) | (refine Below.trans ?_ (Below.mono (by with_reducible assumption) ?_)) | omega | (exact Below.size (by with_reducible assumption)) | (simp; done) | (simp; omega)))
    have hBV : Below V1.heap.size V1 W2 := by rw [hW]; (repeat' (first | (with_reducible exact Below.refl _ _) | (with_reducible assumption) | (with_reducible refine Below.drew ?_) | (with_reducible refine below_drewN ?_ _) | (with_reducible refine Below.setCell ?_ ?_ _) | (with_reducible refine Below.alloc ?_ ?_ _) | (refine Below.trans ?_ (Below.mono (by with_reducible assumption) ?_)) | omega | (exact Below.size (by with_reducible assumption)) | (simp; done) | (simp; omega)))
    have pc : Own W2 (w.heap.size) [.int .i64 L, .int .i64 sl, .int .i64 rl, .int .i64 rh, .slice A n cap, .int .i64 wg] := by rw [hW]; exact qc.out
    have px : Own W2 (w.heap.size + 1) [.int .i64 a, .int .i64 b, .int .i64 lv] := by rw [hW]; exact qx.out
    clear hW lc kc fc qc lx kx fx qx
    refine (isAsk19v false L sl rl rh wg _ a b lv _ HK).mono ?_
    rintro e V2 ⟨rfl, hb⟩
    have hB' := hB.trans (hb.mono hB.size)
    have qc := Lib.hid (pc.below hb pc.lt)
    have qx := Lib.hid (px.below hb px.lt)
    clear hb hB hBV pc px
    have hB := hB'
    clear hB'
    obtain ⟨lc, kc, fc⟩ := qc.out
    obtain ⟨lx, kx, fx⟩ := qx.out
    go_wp2_with fail
    refine calls_gen fun W3 hW => ?_
    have hB : Below w.heap.size w W3 := by rw [hW]; (repeat' (first | (with_reducible exact Below.refl _ _) | (with_reducible assumption) | (with_reducible refine Below.drew ?_) | (with_reducible refine below_drewN ?_ _) | (with_reducible refine Below.setCell ?_ ?_ _) | (with_reducible refine Below.alloc ?_ ?_ _) | (refine Below.trans ?_ (Below.mono (by with_reducible assumption) ?_)) | omega | (exact Below.size (by with_reducible assumption)) | (simp; done) | (simp; omega)))
    have hBV : Below V2.heap.size V2 W3 := by rw [hW]; (repeat' (first | (with_reducible exact Below.refl _ _) | (with_reducible assumption) | (with_reducible refine Below.drew ?_) | (with_reducible refine below_drewN ?_ _) | (with_reducible refine Below.setCell ?_ ?_ _) | (with_reducible refine Below.alloc ?_ ?_ _) | (refine Below.trans ?_ (Below.mono (by with_reducible assumption) ?_)) | omega | (exact Below.size (by with_reducible assumption)) | (simp; done) | (simp; omega)))
    have pc : Own W3 (w.heap.size) [.int .i64 L, .int .i64 sl, .int .i64 rl, .int .i64 rh, .slice A n cap, .int .i64 wg] := by rw [hW]; exact qc.out
    have px : Own W3 (w.heap.size + 1) [.int .i64 a, .int .i64 b, .int .i64 lv] := by rw [hW]; exact qx.out
    clear hW lc kc fc qc lx kx fx qx
    refine (works13 _).mono ?_
    rintro e V3 ⟨rfl, hb⟩
    have hB' := hB.trans (hb.mono hB.size)
    have qc := Lib.hid (pc.below hb pc.lt)
    have qx := Lib.hid (px.below hb px.lt)
    clear hb hB hBV pc px
    have hB := hB'
    clear hB'
    obtain ⟨lc, kc, fc⟩ := qc.out
    obtain ⟨lx, kx, fx⟩ := qx.out
    go_wp2
    go_ret
    exact ⟨rfl, hB⟩
  have HK := Lib.hid hk
  by_cases hd1 : d < b
  · clear hr hk
    go_enter Try.func4, Try.ntmps4
    go_wp2_with fail
    refine calls_gen fun W1 hW => ?_
    have hB : Below w.heap.size w W1 := by rw [hW]; (repeat' (first | (with_reducible exact Below.refl _ _) | (with_reducible assumption) | (with_reducible refine Below.drew ?_) | (with_reducible refine below_drewN ?_ _) | (with_reducible refine Below.setCell ?_ ?_ _) | (with_reducible refine Below.alloc ?_ ?_ _) | (refine Below.trans ?_ (Below.mono (by with_reducible assumption) ?_)) | omega | (exact Below.size (by with_reducible assumption)) | (simp; done) | (simp; omega)))
    have pc : Own W1 (w.heap.size) [.int .i64 L, .int .i64 sl, .int .i64 rl, .int .i64 rh, .slice A n cap, .int .i64 wg] := by rw [hW]; exact (Own.new' _ _ rfl rfl).alloc _
    have px : Own W1 (w.heap.size + 1) [.int .i64 a, .int .i64 b, .int .i64 lv] := by rw [hW]; exact Own.new' _ _ (by simp) rfl
    clear hW 
    refine (ready18v true L sl rl rh wg A n cap ks _ HR (HA.out.below hB (Nat.le_refl _)) hn hlen).mono ?_
    rintro e V1 ⟨rfl, hb⟩
    have hB' := hB.trans (hb.mono hB.size)
    have qc := Lib.hid (pc.below hb pc.lt)
    have qx := Lib.hid (px.below hb px.lt)
    clear hb hB pc px
    have hB := hB'
    clear hB'
    obtain ⟨lc, kc, fc⟩ := qc.out
    obtain ⟨lx, kx, fx⟩ := qx.out
    go_wp2_with fail
    refine calls_gen fun W2 hW => ?_
    have hB : Below w.heap.size w W2 := by rw [hW]; (repeat' (first | (with_reducible exact Below.refl _ _) | (with_reducible assumption) | (with_reducible refine Below.drew ?_) | (with_reducible refine below_drewN ?_ _) | (with_reducible refine Below.setCell ?_ ?_ _) | (with_reducible refine Below.alloc ?_ ?_ _) | (refine Below.trans ?_ (Below.mono (by with_reducible assumption) ?_)) | omega | (exact Below.size (by with_reducible assumption)) | (simp; done) | (simp; omega)))
    have hBV : Below V1.heap.size V1 W2 := by rw [hW]; (repeat' (first | (with_reducible exact Below.refl _ _) | (with_reducible assumption) | (with_reducible refine Below.drew ?_) | (with_reducible refine below_drewN ?_ _) | (with_reducible refine Below.setCell ?_ ?_ _) | (with_reducible refine Below.alloc ?_ ?_ _) | (refine Below.trans ?_ (Below.mono (by with_reducible assumption) ?_)) | omega | (exact Below.size (by with_reducible assumption)) | (simp; done) | (simp; omega)))
    have pc : Own W2 (w.heap.size) [.int .i64 L, .int .i64 sl, .int .i64 rl, .int .i64 rh, .slice A n cap, .int .i64 wg] := by rw [hW]; exact qc.out
    have px : Own W2 (w.heap.size + 1) [.int .i64 a, .int .i64 b, .int .i64 lv] := by rw [hW]; exact qx.out
    clear hW lc kc fc qc lx kx fx qx
    refine (isAsk19v true L sl rl rh wg _ a b lv _ HK).mono ?_
    rintro e V2 ⟨rfl, hb⟩
    have hB' := hB.trans (hb.mono hB.size)
    have qc := Lib.hid (pc.below hb pc.lt)
    have qx := Lib.hid (px.below hb px.lt)
    clear hb hB hBV pc px
    have hB := hB'
    clear hB'
    obtain ⟨lc, kc, fc⟩ := qc.out
    obtain ⟨lx, kx, fx⟩ := qx.out
    go_wp2_with fail
    refine calls_gen fun W3 hW => ?_
    have hB : Below w.heap.size w W3 := by rw [hW]; (repeat' (first | (with_reducible exact Below.refl _ _) | (with_reducible assumption) | (with_reducible refine Below.drew ?_) | (with_reducible refine below_drewN ?_ _) | (with_reducible refine Below.setCell ?_ ?_ _) | (with_reducible refine Below.alloc ?_ ?_ _) | (refine Below.trans ?_ (Below.mono (by with_reducible assumption) ?_)) | omega | (exact Below.size (by with_reducible assumption)) | (simp; done) | (simp; omega)))
    have hBV : Below V2.heap.size V2 W3 := by rw [hW]; (repeat' (first | (with_reducible exact Below.refl _ _) | (with_reducible assumption) | (with_reducible refine Below.drew ?_) | (with_reducible refine below_drewN ?_ _) | (with_reducible refine Below.setCell ?_ ?_ _) | (with_reducible refine Below.alloc ?_ ?_ _) | (refine Below.trans ?_ (Below.mono (by with_reducible assumption) ?_)) | omega | (exact Below.size (by with_reducible assumption)) | (simp; done) | (simp; omega)))
    have pc : Own W3 (w.heap.size) [.int .i64 L, .int .i64 sl, .int .i64 rl, .int .i64 rh, .slice A n cap, .int .i64 wg] := by rw [hW]; exact qc.out
    have px : Own W3 (w.heap.size + 1) [.int .i64 a, .int .i64 b, .int .i64 lv] := by rw [hW]; exact qx.out
    clear hW lc kc fc qc lx kx fx qx
    refine (works13 _).mono ?_
    rintro e V3 ⟨rfl, hb⟩
    have hB' := hB.trans (hb.mono hB.size)
    have qc := Lib.hid (pc.below hb pc.lt)
    have qx := Lib.hid (px.below hb px.lt)
    clear hb hB hBV pc px
    have hB := hB'
    clear hB'
    obtain ⟨lc, kc, fc⟩ := qc.out
    obtain ⟨lx, kx, fx⟩ := qx.out
    go_wp2
    go_ret
    exact ⟨rfl, hB⟩
  by_cases hd2 : L < d
  · clear hr hk
    go_enter Try.func4, Try.ntmps4
    go_wp2_with fail
    refine calls_gen fun W1 hW => ?_
    have hB : Below w.heap.size w W1 := by rw [hW]; (repeat' (first | (with_reducible exact Below.refl _ _) | (with_reducible assumption) | (with_reducible refine Below.drew ?_) | (with_reducible refine below_drewN ?_ _) | (with_reducible refine Below.setCell ?_ ?_ _) | (with_reducible refine Below.alloc ?_ ?_ _) | (refine Below.trans ?_ (Below.mono (by with_reducible assumption) ?_)) | omega | (exact Below.size (by with_reducible assumption)) | (simp; done) | (simp; omega)))
    have pc : Own W1 (w.heap.size) [.int .i64 L, .int .i64 sl, .int .i64 rl, .int .i64 rh, .slice A n cap, .int .i64 wg] := by rw [hW]; exact (Own.new' _ _ rfl rfl).alloc _
    have px : Own W1 (w.heap.size + 1) [.int .i64 a, .int .i64 b, .int .i64 lv] := by rw [hW]; exact Own.new' _ _ (by simp) rfl
    clear hW 
    refine (ready18v true L sl rl rh wg A n cap ks _ HR (HA.out.below hB (Nat.le_refl _)) hn hlen).mono ?_
    rintro e V1 ⟨rfl, hb⟩
    have hB' := hB.trans (hb.mono hB.size)
    have qc := Lib.hid (pc.below hb pc.lt)
    have qx := Lib.hid (px.below hb px.lt)
    clear hb hB pc px
    have hB := hB'
    clear hB'
    obtain ⟨lc, kc, fc⟩ := qc.out
    obtain ⟨lx, kx, fx⟩ := qx.out
    go_wp2_with fail
    refine calls_gen fun W2 hW => ?_
    have hB : Below w.heap.size w W2 := by rw [hW]; (repeat' (first | (with_reducible exact Below.refl _ _) | (with_reducible assumption) | (with_reducible refine Below.drew ?_) | (with_reducible refine below_drewN ?_ _) | (with_reducible refine Below.setCell ?_ ?_ _) | (with_reducible refine Below.alloc ?_ ?_ _) | (refine Below.trans ?_ (Below.mono (by with_reducible assumption) ?_)) | omega | (exact Below.size (by with_reducible assumption)) | (simp; done) | (simp; omega)))
    have hBV : Below V1.heap.size V1 W2 := by rw [hW]; (repeat' (first | (with_reducible exact Below.refl _ _) | (with_reducible assumption) | (with_reducible refine Below.drew ?_) | (with_reducible refine below_drewN ?_ _) | (with_reducible refine Below.setCell ?_ ?_ _) | (with_reducible refine Below.alloc ?_ ?_ _) | (refine Below.trans ?_ (Below.mono (by with_reducible assumption) ?_)) | omega | (exact Below.size (by with_reducible assumption)) | (simp; done) | (simp; omega)))
    have pc : Own W2 (w.heap.size) [.int .i64 L, .int .i64 sl, .int .i64 rl, .int .i64 rh, .slice A n cap, .int .i64 wg] := by rw [hW]; exact qc.out
    have px : Own W2 (w.heap.size + 1) [.int .i64 a, .int .i64 b, .int .i64 lv] := by rw [hW]; exact qx.out
    clear hW lc kc fc qc lx kx fx qx
    refine (isAsk19v true L sl rl rh wg _ a b lv _ HK).mono ?_
    rintro e V2 ⟨rfl, hb⟩
    have hB' := hB.trans (hb.mono hB.size)
    have qc := Lib.hid (pc.below hb pc.lt)
    have qx := Lib.hid (px.below hb px.lt)
    clear hb hB hBV pc px
    have hB := hB'
    clear hB'
    obtain ⟨lc, kc, fc⟩ := qc.out
    obtain ⟨lx, kx, fx⟩ := qx.out
    go_wp2_with fail
    refine calls_gen fun W3 hW => ?_
    have hB : Below w.heap.size w W3 := by rw [hW]; (repeat' (first | (with_reducible exact Below.refl _ _) | (with_reducible assumption) | (with_reducible refine Below.drew ?_) | (with_reducible refine below_drewN ?_ _) | (with_reducible refine Below.setCell ?_ ?_ _) | (with_reducible refine Below.alloc ?_ ?_ _) | (refine Below.trans ?_ (Below.mono (by with_reducible assumption) ?_)) | omega | (exact Below.size (by with_reducible assumption)) | (simp; done) | (simp; omega)))
    have hBV : Below V2.heap.size V2 W3 := by rw [hW]; (repeat' (first | (with_reducible exact Below.refl _ _) | (with_reducible assumption) | (with_reducible refine Below.drew ?_) | (with_reducible refine below_drewN ?_ _) | (with_reducible refine Below.setCell ?_ ?_ _) | (with_reducible refine Below.alloc ?_ ?_ _) | (refine Below.trans ?_ (Below.mono (by with_reducible assumption) ?_)) | omega | (exact Below.size (by with_reducible assumption)) | (simp; done) | (simp; omega)))
    have pc : Own W3 (w.heap.size) [.int .i64 L, .int .i64 sl, .int .i64 rl, .int .i64 rh, .slice A n cap, .int .i64 wg] := by rw [hW]; exact qc.out
    have px : Own W3 (w.heap.size + 1) [.int .i64 a, .int .i64 b, .int .i64 lv] := by rw [hW]; exact qx.out
    clear hW lc kc fc qc lx kx fx qx
    refine (works13 _).mono ?_
    rintro e V3 ⟨rfl, hb⟩
    have hB' := hB.trans (hb.mono hB.size)
    have qc := Lib.hid (pc.below hb pc.lt)
    have qx := Lib.hid (px.below hb px.lt)
    clear hb hB hBV pc px
    have hB := hB'
    clear hB'
    obtain ⟨lc, kc, fc⟩ := qc.out
    obtain ⟨lx, kx, fx⟩ := qx.out
    go_wp2
    go_ret
    exact ⟨rfl, hB⟩
  have hc := (ready_iff.1 hr).2
  obtain ⟨ha0, hab, hbL, _, _⟩ := askB_iff.1 hk
  have HC := Lib.hid hc
  have hV := Lib.hid (cvV_of hc)
  have hl2 := hV.out.l2
  have hl1 := hV.out.l1
  clear hr hk hc
  by_cases hT : ∃ h, Truth (cvOf L sl rl rh wg ks) h
  · have HT := Lib.hid hT
    clear hT
    go_enter Try.func4, Try.ntmps4
    go_wp2_with fail
    refine calls_gen fun W1 hW => ?_
    have hB : Below w.heap.size w W1 := by rw [hW]; (repeat' (first | (with_reducible exact Below.refl _ _) | (with_reducible assumption) | (with_reducible refine Below.drew ?_) | (with_reducible refine below_drewN ?_ _) | (with_reducible refine Below.setCell ?_ ?_ _) | (with_reducible refine Below.alloc ?_ ?_ _) | (refine Below.trans ?_ (Below.mono (by with_reducible assumption) ?_)) | omega | (exact Below.size (by with_reducible assumption)) | (simp; done) | (simp; omega)))
    have pc : Own W1 (w.heap.size) [.int .i64 L, .int .i64 sl, .int .i64 rl, .int .i64 rh, .slice A n cap, .int .i64 wg] := by rw [hW]; exact (Own.new' _ _ rfl rfl).alloc _
    have px : Own W1 (w.heap.size + 1) [.int .i64 a, .int .i64 b, .int .i64 lv] := by rw [hW]; exact Own.new' _ _ (by simp) rfl
    clear hW 
    refine (ready18v true L sl rl rh wg A n cap ks _ HR (HA.out.below hB (Nat.le_refl _)) hn hlen).mono ?_
    rintro e V1 ⟨rfl, hb⟩
    have hB' := hB.trans (hb.mono hB.size)
    have qc := Lib.hid (pc.below hb pc.lt)
    have qx := Lib.hid (px.below hb px.lt)
    clear hb hB pc px
    have hB := hB'
    clear hB'
    obtain ⟨lc, kc, fc⟩ := qc.out
    obtain ⟨lx, kx, fx⟩ := qx.out
    go_wp2_with fail
    refine calls_gen fun W2 hW => ?_
    have hB : Below w.heap.size w W2 := by rw [hW]; (repeat' (first | (with_reducible exact Below.refl _ _) | (with_reducible assumption) | (with_reducible refine Below.drew ?_) | (with_reducible refine below_drewN ?_ _) | (with_reducible refine Below.setCell ?_ ?_ _) | (with_reducible refine Below.alloc ?_ ?_ _) | (refine Below.trans ?_ (Below.mono (by with_reducible assumption) ?_)) | omega | (exact Below.size (by with_reducible assumption)) | (simp; done) | (simp; omega)))
    have hBV : Below V1.heap.size V1 W2 := by rw [hW]; (repeat' (first | (with_reducible exact Below.refl _ _) | (with_reducible assumption) | (with_reducible refine Below.drew ?_) | (with_reducible refine below_drewN ?_ _) | (with_reducible refine Below.setCell ?_ ?_ _) | (with_reducible refine Below.alloc ?_ ?_ _) | (refine Below.trans ?_ (Below.mono (by with_reducible assumption) ?_)) | omega | (exact Below.size (by with_reducible assumption)) | (simp; done) | (simp; omega)))
    have pc : Own W2 (w.heap.size) [.int .i64 L, .int .i64 sl, .int .i64 rl, .int .i64 rh, .slice A n cap, .int .i64 wg] := by rw [hW]; exact qc.out
    have px : Own W2 (w.heap.size + 1) [.int .i64 a, .int .i64 b, .int .i64 lv] := by rw [hW]; exact qx.out
    clear hW lc kc fc qc lx kx fx qx
    refine (isAsk19v true L sl rl rh wg _ a b lv _ HK).mono ?_
    rintro e V2 ⟨rfl, hb⟩
    have hB' := hB.trans (hb.mono hB.size)
    have qc := Lib.hid (pc.below hb pc.lt)
    have qx := Lib.hid (px.below hb px.lt)
    clear hb hB hBV pc px
    have hB := hB'
    clear hB'
    obtain ⟨lc, kc, fc⟩ := qc.out
    obtain ⟨lx, kx, fx⟩ := qx.out
    go_wp2_with fail
    refine calls_gen fun W3 hW => ?_
    have hB : Below w.heap.size w W3 := by rw [hW]; (repeat' (first | (with_reducible exact Below.refl _ _) | (with_reducible assumption) | (with_reducible refine Below.drew ?_) | (with_reducible refine below_drewN ?_ _) | (with_reducible refine Below.setCell ?_ ?_ _) | (with_reducible refine Below.alloc ?_ ?_ _) | (refine Below.trans ?_ (Below.mono (by with_reducible assumption) ?_)) | omega | (exact Below.size (by with_reducible assumption)) | (simp; done) | (simp; omega)))
    have hBV : Below V2.heap.size V2 W3 := by rw [hW]; (repeat' (first | (with_reducible exact Below.refl _ _) | (with_reducible assumption) | (with_reducible refine Below.drew ?_) | (with_reducible refine below_drewN ?_ _) | (with_reducible refine Below.setCell ?_ ?_ _) | (with_reducible refine Below.alloc ?_ ?_ _) | (refine Below.trans ?_ (Below.mono (by with_reducible assumption) ?_)) | omega | (exact Below.size (by with_reducible assumption)) | (simp; done) | (simp; omega)))
    have pc : Own W3 (w.heap.size) [.int .i64 L, .int .i64 sl, .int .i64 rl, .int .i64 rh, .slice A n cap, .int .i64 wg] := by rw [hW]; exact qc.out
    have px : Own W3 (w.heap.size + 1) [.int .i64 a, .int .i64 b, .int .i64 lv] := by rw [hW]; exact qx.out
    clear hW lc kc fc qc lx kx fx qx
    refine (integral20 L sl rl rh wg A n cap ks a b _ (HA.out.below hB (Nat.le_refl _)) hn hlen).mono ?_
    rintro e V3 ⟨lo1, hi1, er1, rfl, hR, hb⟩
    obtain ⟨rfl, hs1, hb1⟩ := int_T HC.out HT.out hR.out ha0 hab hbL
    clear hR
    replace hs1 := Lib.hid hs1
    have hB' := hB.trans (hb.mono hB.size)
    have qc := Lib.hid (pc.below hb pc.lt)
    have qx := Lib.hid (px.below hb px.lt)
    clear hb hB hBV pc px
    have hB := hB'
    clear hB'
    obtain ⟨lc, kc, fc⟩ := qc.out
    obtain ⟨lx, kx, fx⟩ := qx.out
    go_wp2_with fail
    refine calls_gen fun W4 hW => ?_
    have hB : Below w.heap.size w W4 := by rw [hW]; (repeat' (first | (with_reducible exact Below.refl _ _) | (with_reducible assumption) | (with_reducible refine Below.drew ?_) | (with_reducible refine below_drewN ?_ _) | (with_reducible refine Below.setCell ?_ ?_ _) | (with_reducible refine Below.alloc ?_ ?_ _) | (refine Below.trans ?_ (Below.mono (by with_reducible assumption) ?_)) | omega | (exact Below.size (by with_reducible assumption)) | (simp; done) | (simp; omega)))
    have hBV : Below V3.heap.size V3 W4 := by rw [hW]; (repeat' (first | (with_reducible exact Below.refl _ _) | (with_reducible assumption) | (with_reducible refine Below.drew ?_) | (with_reducible refine below_drewN ?_ _) | (with_reducible refine Below.setCell ?_ ?_ _) | (with_reducible refine Below.alloc ?_ ?_ _) | (refine Below.trans ?_ (Below.mono (by with_reducible assumption) ?_)) | omega | (exact Below.size (by with_reducible assumption)) | (simp; done) | (simp; omega)))
    have pc : Own W4 (w.heap.size) [.int .i64 L, .int .i64 sl, .int .i64 rl, .int .i64 rh, .slice A n cap, .int .i64 wg] := by rw [hW]; exact (qc.out.alloc _)
    have px : Own W4 (w.heap.size + 1) [.int .i64 a, .int .i64 b, .int .i64 lv] := by rw [hW]; exact (qx.out.alloc _)
    have ps1 : Own W4 (V3.heap.size) [.int .i64 lo1, .int .i64 hi1] := by rw [hW]; exact Own.new' _ _ rfl rfl
    clear hW lc kc fc qc lx kx fx qx
    refine (integral20 L sl rl rh wg A n cap ks b d _ (HA.out.below hB (Nat.le_refl _)) hn hlen).mono ?_
    rintro e V4 ⟨lo2, hi2, er2, rfl, hR, hb⟩
    obtain ⟨rfl, hs2, hb2⟩ := int_T HC.out HT.out hR.out (by omega) (by omega) (by omega)
    clear hR
    replace hs2 := Lib.hid hs2
    have hB' := hB.trans (hb.mono hB.size)
    have qc := Lib.hid (pc.below hb pc.lt)
    have qx := Lib.hid (px.below hb px.lt)
    have qs1 := Lib.hid (ps1.below hb ps1.lt)
    clear hb hB hBV pc px ps1
    have hB := hB'
    clear hB'
    obtain ⟨lc, kc, fc⟩ := qc.out
    obtain ⟨lx, kx, fx⟩ := qx.out
    obtain ⟨ls1, ks1, fs1⟩ := qs1.out
    go_wp2_with fail
    refine calls_gen fun W5 hW => ?_
    have hB : Below w.heap.size w W5 := by rw [hW]; (repeat' (first | (with_reducible exact Below.refl _ _) | (with_reducible assumption) | (with_reducible refine Below.drew ?_) | (with_reducible refine below_drewN ?_ _) | (with_reducible refine Below.setCell ?_ ?_ _) | (with_reducible refine Below.alloc ?_ ?_ _) | (refine Below.trans ?_ (Below.mono (by with_reducible assumption) ?_)) | omega | (exact Below.size (by with_reducible assumption)) | (simp; done) | (simp; omega)))
    have hBV : Below V4.heap.size V4 W5 := by rw [hW]; (repeat' (first | (with_reducible exact Below.refl _ _) | (with_reducible assumption) | (with_reducible refine Below.drew ?_) | (with_reducible refine below_drewN ?_ _) | (with_reducible refine Below.setCell ?_ ?_ _) | (with_reducible refine Below.alloc ?_ ?_ _) | (refine Below.trans ?_ (Below.mono (by with_reducible assumption) ?_)) | omega | (exact Below.size (by with_reducible assumption)) | (simp; done) | (simp; omega)))
    have pc : Own W5 (w.heap.size) [.int .i64 L, .int .i64 sl, .int .i64 rl, .int .i64 rh, .slice A n cap, .int .i64 wg] := by rw [hW]; exact (qc.out.alloc _)
    have px : Own W5 (w.heap.size + 1) [.int .i64 a, .int .i64 b, .int .i64 lv] := by rw [hW]; exact (qx.out.alloc _)
    have ps1 : Own W5 (V3.heap.size) [.int .i64 lo1, .int .i64 hi1] := by rw [hW]; exact (qs1.out.alloc _)
    have ps2 : Own W5 (V4.heap.size) [.int .i64 lo2, .int .i64 hi2] := by rw [hW]; exact Own.new' _ _ rfl rfl
    clear hW lc kc fc qc lx kx fx qx ls1 ks1 fs1 qs1
    refine (integral20 L sl rl rh wg A n cap ks a d _ (HA.out.below hB (Nat.le_refl _)) hn hlen).mono ?_
    rintro e V5 ⟨lo3, hi3, er3, rfl, hR, hb⟩
    obtain ⟨rfl, hs3, hb3⟩ := int_T HC.out HT.out hR.out (by omega) (by omega) (by omega)
    clear hR
    replace hs3 := Lib.hid hs3
    have hB' := hB.trans (hb.mono hB.size)
    have qc := Lib.hid (pc.below hb pc.lt)
    have qx := Lib.hid (px.below hb px.lt)
    have qs1 := Lib.hid (ps1.below hb ps1.lt)
    have qs2 := Lib.hid (ps2.below hb ps2.lt)
    clear hb hB hBV pc px ps1 ps2
    have hB := hB'
    clear hB'
    obtain ⟨lc, kc, fc⟩ := qc.out
    obtain ⟨lx, kx, fx⟩ := qx.out
    obtain ⟨ls1, ks1, fs1⟩ := qs1.out
    obtain ⟨ls2, ks2, fs2⟩ := qs2.out
    go_wp2_with fail
    refine calls_gen fun W6 hW => ?_
    have hB : Below w.heap.size w W6 := by rw [hW]; (repeat' (first | (with_reducible exact Below.refl _ _) | (with_reducible assumption) | (with_reducible refine Below.drew ?_) | (with_reducible refine below_drewN ?_ _) | (with_reducible refine Below.setCell ?_ ?_ _) | (with_reducible refine Below.alloc ?_ ?_ _) | (refine Below.trans ?_ (Below.mono (by with_reducible assumption) ?_)) | omega | (exact Below.size (by with_reducible assumption)) | (simp; done) | (simp; omega)))
    have hBV : Below V5.heap.size V5 W6 := by rw [hW]; (repeat' (first | (with_reducible exact Below.refl _ _) | (with_reducible assumption) | (with_reducible refine Below.drew ?_) | (with_reducible refine below_drewN ?_ _) | (with_reducible refine Below.setCell ?_ ?_ _) | (with_reducible refine Below.alloc ?_ ?_ _) | (refine Below.trans ?_ (Below.mono (by with_reducible assumption) ?_)) | omega | (exact Below.size (by with_reducible assumption)) | (simp; done) | (simp; omega)))
    have pc : Own W6 (w.heap.size) [.int .i64 L, .int .i64 sl, .int .i64 rl, .int .i64 rh, .slice A n cap, .int .i64 wg] := by rw [hW]; exact (qc.out.alloc _)
    have px : Own W6 (w.heap.size + 1) [.int .i64 a, .int .i64 b, .int .i64 lv] := by rw [hW]; exact (qx.out.alloc _)
    have ps1 : Own W6 (V3.heap.size) [.int .i64 lo1, .int .i64 hi1] := by rw [hW]; exact (qs1.out.alloc _)
    have ps2 : Own W6 (V4.heap.size) [.int .i64 lo2, .int .i64 hi2] := by rw [hW]; exact (qs2.out.alloc _)
    have ps3 : Own W6 (V5.heap.size) [.int .i64 lo3, .int .i64 hi3] := by rw [hW]; exact Own.new' _ _ rfl rfl
    clear hW lc kc fc qc lx kx fx qx ls1 ks1 fs1 qs1 ls2 ks2 fs2 qs2
    refine (integral20 L sl rl rh wg A n cap ks 0 L _ (HA.out.below hB (Nat.le_refl _)) hn hlen).mono ?_
    rintro e V6 ⟨lo4, hi4, er4, rfl, hR, hb⟩
    obtain ⟨rfl, hs4, hb4⟩ := int_T HC.out HT.out hR.out (by omega) (by omega) (by omega)
    clear hR
    replace hs4 := Lib.hid hs4
    have hB' := hB.trans (hb.mono hB.size)
    have qc := Lib.hid (pc.below hb pc.lt)
    have qx := Lib.hid (px.below hb px.lt)
    have qs1 := Lib.hid (ps1.below hb ps1.lt)
    have qs2 := Lib.hid (ps2.below hb ps2.lt)
    have qs3 := Lib.hid (ps3.below hb ps3.lt)
    clear hb hB hBV pc px ps1 ps2 ps3
    have hB := hB'
    clear hB'
    obtain ⟨lc, kc, fc⟩ := qc.out
    obtain ⟨lx, kx, fx⟩ := qx.out
    obtain ⟨ls1, ks1, fs1⟩ := qs1.out
    obtain ⟨ls2, ks2, fs2⟩ := qs2.out
    obtain ⟨ls3, ks3, fs3⟩ := qs3.out
    go_wp2_with fail
    refine calls_gen fun W7 hW => ?_
    have hB : Below w.heap.size w W7 := by rw [hW]; (repeat' (first | (with_reducible exact Below.refl _ _) | (with_reducible assumption) | (with_reducible refine Below.drew ?_) | (with_reducible refine below_drewN ?_ _) | (with_reducible refine Below.setCell ?_ ?_ _) | (with_reducible refine Below.alloc ?_ ?_ _) | (refine Below.trans ?_ (Below.mono (by with_reducible assumption) ?_)) | omega | (exact Below.size (by with_reducible assumption)) | (simp; done) | (simp; omega)))
    have hBV : Below V6.heap.size V6 W7 := by rw [hW]; (repeat' (first | (with_reducible exact Below.refl _ _) | (with_reducible assumption) | (with_reducible refine Below.drew ?_) | (with_reducible refine below_drewN ?_ _) | (with_reducible refine Below.setCell ?_ ?_ _) | (with_reducible refine Below.alloc ?_ ?_ _) | (refine Below.trans ?_ (Below.mono (by with_reducible assumption) ?_)) | omega | (exact Below.size (by with_reducible assumption)) | (simp; done) | (simp; omega)))
    have pc : Own W7 (w.heap.size) [.int .i64 L, .int .i64 sl, .int .i64 rl, .int .i64 rh, .slice A n cap, .int .i64 wg] := by rw [hW]; exact (qc.out.alloc _)
    have px : Own W7 (w.heap.size + 1) [.int .i64 a, .int .i64 b, .int .i64 lv] := by rw [hW]; exact (qx.out.alloc _)
    have ps1 : Own W7 (V3.heap.size) [.int .i64 lo1, .int .i64 hi1] := by rw [hW]; exact (qs1.out.alloc _)
    have ps2 : Own W7 (V4.heap.size) [.int .i64 lo2, .int .i64 hi2] := by rw [hW]; exact (qs2.out.alloc _)
    have ps3 : Own W7 (V5.heap.size) [.int .i64 lo3, .int .i64 hi3] := by rw [hW]; exact (qs3.out.alloc _)
    have ps4 : Own W7 (V6.heap.size) [.int .i64 lo4, .int .i64 hi4] := by rw [hW]; exact Own.new' _ _ rfl rfl
    clear hW lc kc fc qc lx kx fx qx ls1 ks1 fs1 qs1 ls2 ks2 fs2 qs2 ls3 ks3 fs3 qs3
    refine (draw21 L sl rl rh wg A n cap ks _ (HA.out.below hB (Nat.le_refl _)) hn hlen).mono ?_
    rintro e V7 ⟨A5, c5, ls, er5, rfl, hR, hrd, hll, hb⟩
    obtain ⟨rfl, hlen5, hD⟩ := draw_T HC.out HT.out hR.out
    clear hR
    have hB' := hB.trans (hb.mono hB.size)
    have qc := Lib.hid (pc.below hb pc.lt)
    have qx := Lib.hid (px.below hb px.lt)
    have qs1 := Lib.hid (ps1.below hb ps1.lt)
    have qs2 := Lib.hid (ps2.below hb ps2.lt)
    have qs3 := Lib.hid (ps3.below hb ps3.lt)
    have qs4 := Lib.hid (ps4.below hb ps4.lt)
    clear hb hB hBV pc px ps1 ps2 ps3 ps4
    have hB := hB'
    clear hB'
    obtain ⟨lc, kc, fc⟩ := qc.out
    obtain ⟨lx, kx, fx⟩ := qx.out
    obtain ⟨ls1, ks1, fs1⟩ := qs1.out
    obtain ⟨ls2, ks2, fs2⟩ := qs2.out
    obtain ⟨ls3, ks3, fs3⟩ := qs3.out
    obtain ⟨ls4, ks4, fs4⟩ := qs4.out
    have HRd := Lib.hid hrd
    replace hD := Lib.hid hD
    replace hlen5 := Lib.hid hlen5
    clear hrd
    go_wp2_with fail
    refine calls_gen fun W8 hW => ?_
    have hB : Below w.heap.size w W8 := by rw [hW]; (repeat' (first | (with_reducible exact Below.refl _ _) | (with_reducible assumption) | (with_reducible refine Below.drew ?_) | (with_reducible refine below_drewN ?_ _) | (with_reducible refine Below.setCell ?_ ?_ _) | (with_reducible refine Below.alloc ?_ ?_ _) | (refine Below.trans ?_ (Below.mono (by with_reducible assumption) ?_)) | omega | (exact Below.size (by with_reducible assumption)) | (simp; done) | (simp; omega)))
    have hBV : Below V7.heap.size V7 W8 := by rw [hW]; (repeat' (first | (with_reducible exact Below.refl _ _) | (with_reducible assumption) | (with_reducible refine Below.drew ?_) | (with_reducible refine below_drewN ?_ _) | (with_reducible refine Below.setCell ?_ ?_ _) | (with_reducible refine Below.alloc ?_ ?_ _) | (refine Below.trans ?_ (Below.mono (by with_reducible assumption) ?_)) | omega | (exact Below.size (by with_reducible assumption)) | (simp; done) | (simp; omega)))
    have pc : Own W8 (w.heap.size) [.int .i64 L, .int .i64 sl, .int .i64 rl, .int .i64 rh, .slice A n cap, .int .i64 wg] := by rw [hW]; exact qc.out
    have px : Own W8 (w.heap.size + 1) [.int .i64 a, .int .i64 b, .int .i64 lv] := by rw [hW]; exact qx.out
    have ps1 : Own W8 (V3.heap.size) [.int .i64 lo1, .int .i64 hi1] := by rw [hW]; exact qs1.out
    have ps2 : Own W8 (V4.heap.size) [.int .i64 lo2, .int .i64 hi2] := by rw [hW]; exact qs2.out
    have ps3 : Own W8 (V5.heap.size) [.int .i64 lo3, .int .i64 hi3] := by rw [hW]; exact qs3.out
    have ps4 : Own W8 (V6.heap.size) [.int .i64 lo4, .int .i64 hi4] := by rw [hW]; exact qs4.out
    clear hW lc kc fc qc lx kx fx qx ls1 ks1 fs1 qs1 ls2 ks2 fs2 qs2 ls3 ks3 fs3 qs3 ls4 ks4 fs4 qs4
    refine (isKnown22w _ _).mono ?_
    rintro e V8 ⟨rfl, hb⟩
    have hB' := hB.trans (hb.mono hB.size)
    replace HRd := Lib.hid ((HRd.out.below hBV (Nat.le_refl _)).below hb (Nat.le_refl _))
    have qc := Lib.hid (pc.below hb pc.lt)
    have qx := Lib.hid (px.below hb px.lt)
    have qs1 := Lib.hid (ps1.below hb ps1.lt)
    have qs2 := Lib.hid (ps2.below hb ps2.lt)
    have qs3 := Lib.hid (ps3.below hb ps3.lt)
    have qs4 := Lib.hid (ps4.below hb ps4.lt)
    clear hb hB hBV pc px ps1 ps2 ps3 ps4
    have hB := hB'
    clear hB'
    obtain ⟨lc, kc, fc⟩ := qc.out
    obtain ⟨lx, kx, fx⟩ := qx.out
    obtain ⟨ls1, ks1, fs1⟩ := qs1.out
    obtain ⟨ls2, ks2, fs2⟩ := qs2.out
    obtain ⟨ls3, ks3, fs3⟩ := qs3.out
    obtain ⟨ls4, ks4, fs4⟩ := qs4.out
    have hl5 := hlen5.out
    obtain ⟨s0, e0⟩ : ∃ s, ls[0]? = some s := ⟨ls[0]'(by omega), by simp⟩
    obtain ⟨sL, eL⟩ : ∃ s, ls[L.toNat]? = some s := ⟨ls[L.toNat]'(by omega), by simp⟩
    have u0 := (show IsSp (InP (cvOf L sl rl rh wg ks) 0 0) s0.1 s0.2 from hD.out 0 s0 e0).uniq (in_same _ HT.out 0)
    have uL := (show IsSp (InP (cvOf L sl rl rh wg ks) 0 L) sL.1 sL.2 from by have h := hD.out _ sL eL; rwa [Int.toNat_of_nonneg (by omega)] at h).uniq hs4.out
    have hj := joined_le (c := cvOf L sl rl rh wg ks) hab (show b ≤ d by omega) hs1.out hs2.out hs3.out
    have hje : Hid (wg ≤ 0 → lo3 = lo1 + lo2 ∧ hi3 = hi1 + hi2) := fun h => joined_eq (c := cvOf L sl rl rh wg ks) h hab (show b ≤ d by omega) hs1.out hs2.out hs3.out
    obtain ⟨b0, off, rfl, hb0, c0, c1⟩ := rd_sp HRd.out e0
    obtain ⟨b1, off1, hbb, hb1', d0, d1⟩ := rd_sp HRd.out eL
    obtain ⟨rfl, rfl⟩ : b0 = b1 ∧ off = off1 := by simpa using hbb
    rw [u0.1] at c0
    rw [u0.2] at c1
    rw [uL.1] at d0
    rw [uL.2] at d1
    rw [Nat.zero_mul, Nat.add_zero] at c0 c1
    have hx0 := Aft.cell (W := V8) qc.out
    have hx1 := Aft.cell (W := V8) qs1.out
    have hx2 := Aft.cell (W := V8) qs2.out
    have hx3 := Aft.cell (W := V8) qs3.out
    have hx4 := Aft.cell (W := V8) qs4.out
    have hy0 := fun x : Aft V8 => (Aft.old x hb0 _).trans c0
    have hy1 := fun x : Aft V8 => (Aft.old x hb0 _).trans c1
    have hy2 := fun x : Aft V8 => (Aft.old x hb0 _).trans d0
    have hy3 := fun x : Aft V8 => (Aft.old x hb0 _).trans d1
    have z1 : ((ls.length : Int) != L + 1) = false := by simp; omega
    have z2 : decide (lo3 < lo1 + lo2) = false := decide_eq_false (by omega)
    have z3 : decide (hi1 + hi2 < hi3) = false := decide_eq_false (by omega)
    have z4 : (0 : Int) < (ls.length : Int) := by omega
    have z5 : L < (ls.length : Int) := by omega
    have z6 : (0 : Int) ≤ L := by omega
    have z8 : L.toNat < ls.length := by omega
    have z7 : 0 < ls.length := by omega
    clear hl5 c0 c1 d0 d1 hbb u0 uL e0 eL hb1'
    go_wp2
    refine wp_region_aft (by kernel_rfl) (by kernel_rfl) ?_; (repeat (go_big_quiet_step (fail))); refine wpQuiet_nil ?_; rintro w9 ⟨⟨_, hb9⟩, rfl⟩
    have hz9 := hb9.size
    have hB9 := hB.trans (hb9.mono hB.size)
    have r1 := Lib.hid (qs1.out.below hb9 ls1)
    have r2 := Lib.hid (qs2.out.below hb9 ls2)
    have r3 := Lib.hid (qs3.out.below hb9 ls3)
    have rc := Lib.hid (qc.out.below hb9 lc)
    clear hx0 hx1 hx2 hx3 hx4 hy0 hy1 hy2 hy3 hb9 lc kc fc ls1 ks1 fs1 ls2 ks2 fs2 ls3 ks3 fs3 ls4 ks4 fs4
    by_cases hw : 0 < wg
    · obtain ⟨lc, kc, fc⟩ := rc.out
      go_wp2_with fail
      refine (works13 _).mono ?_
      rintro e w10 ⟨rfl, hb10⟩
      go_wp2
      go_ret
      exact ⟨rfl, hB9.trans (hb10.mono hB9.size)⟩
    · obtain ⟨rfl, rfl⟩ := hje.out (by omega)
      obtain ⟨lc, kc, fc⟩ := rc.out
      obtain ⟨ls1, ks1, fs1⟩ := r1.out
      obtain ⟨ls2, ks2, fs2⟩ := r2.out
      obtain ⟨ls3, ks3, fs3⟩ := r3.out
      go_wp2_with fail
      refine (works13 _).mono ?_
      rintro e w10 ⟨rfl, hb10⟩
      go_wp2
      go_ret
      exact ⟨rfl, hB9.trans (hb10.mono hB9.size)⟩
  · have HT := Lib.hid hT
    clear hT
    go_enter Try.func4, Try.ntmps4
    go_wp2_with fail
    refine calls_gen fun W1 hW => ?_
    have hB : Below w.heap.size w W1 := by rw [hW]; (repeat' (first | (with_reducible exact Below.refl _ _) | (with_reducible assumption) | (with_reducible refine Below.drew ?_) | (with_reducible refine below_drewN ?_ _) | (with_reducible refine Below.setCell ?_ ?_ _) | (with_reducible refine Below.alloc ?_ ?_ _) | (refine Below.trans ?_ (Below.mono (by with_reducible assumption) ?_)) | omega | (exact Below.size (by with_reducible assumption)) | (simp; done) | (simp; omega)))
    have pc : Own W1 (w.heap.size) [.int .i64 L, .int .i64 sl, .int .i64 rl, .int .i64 rh, .slice A n cap, .int .i64 wg] := by rw [hW]; exact (Own.new' _ _ rfl rfl).alloc _
    have px : Own W1 (w.heap.size + 1) [.int .i64 a, .int .i64 b, .int .i64 lv] := by rw [hW]; exact Own.new' _ _ (by simp) rfl
    clear hW 
    refine (ready18v true L sl rl rh wg A n cap ks _ HR (HA.out.below hB (Nat.le_refl _)) hn hlen).mono ?_
    rintro e V1 ⟨rfl, hb⟩
    have hB' := hB.trans (hb.mono hB.size)
    have qc := Lib.hid (pc.below hb pc.lt)
    have qx := Lib.hid (px.below hb px.lt)
    clear hb hB pc px
    have hB := hB'
    clear hB'
    obtain ⟨lc, kc, fc⟩ := qc.out
    obtain ⟨lx, kx, fx⟩ := qx.out
    go_wp2_with fail
    refine calls_gen fun W2 hW => ?_
    have hB : Below w.heap.size w W2 := by rw [hW]; (repeat' (first | (with_reducible exact Below.refl _ _) | (with_reducible assumption) | (with_reducible refine Below.drew ?_) | (with_reducible refine below_drewN ?_ _) | (with_reducible refine Below.setCell ?_ ?_ _) | (with_reducible refine Below.alloc ?_ ?_ _) | (refine Below.trans ?_ (Below.mono (by with_reducible assumption) ?_)) | omega | (exact Below.size (by with_reducible assumption)) | (simp; done) | (simp; omega)))
    have hBV : Below V1.heap.size V1 W2 := by rw [hW]; (repeat' (first | (with_reducible exact Below.refl _ _) | (with_reducible assumption) | (with_reducible refine Below.drew ?_) | (with_reducible refine below_drewN ?_ _) | (with_reducible refine Below.setCell ?_ ?_ _) | (with_reducible refine Below.alloc ?_ ?_ _) | (refine Below.trans ?_ (Below.mono (by with_reducible assumption) ?_)) | omega | (exact Below.size (by with_reducible assumption)) | (simp; done) | (simp; omega)))
    have pc : Own W2 (w.heap.size) [.int .i64 L, .int .i64 sl, .int .i64 rl, .int .i64 rh, .slice A n cap, .int .i64 wg] := by rw [hW]; exact qc.out
    have px : Own W2 (w.heap.size + 1) [.int .i64 a, .int .i64 b, .int .i64 lv] := by rw [hW]; exact qx.out
    clear hW lc kc fc qc lx kx fx qx
    refine (isAsk19v true L sl rl rh wg _ a b lv _ HK).mono ?_
    rintro e V2 ⟨rfl, hb⟩
    have hB' := hB.trans (hb.mono hB.size)
    have qc := Lib.hid (pc.below hb pc.lt)
    have qx := Lib.hid (px.below hb px.lt)
    clear hb hB hBV pc px
    have hB := hB'
    clear hB'
    obtain ⟨lc, kc, fc⟩ := qc.out
    obtain ⟨lx, kx, fx⟩ := qx.out
    go_wp2_with fail
    refine calls_gen fun W3 hW => ?_
    have hB : Below w.heap.size w W3 := by rw [hW]; (repeat' (first | (with_reducible exact Below.refl _ _) | (with_reducible assumption) | (with_reducible refine Below.drew ?_) | (with_reducible refine below_drewN ?_ _) | (with_reducible refine Below.setCell ?_ ?_ _) | (with_reducible refine Below.alloc ?_ ?_ _) | (refine Below.trans ?_ (Below.mono (by with_reducible assumption) ?_)) | omega | (exact Below.size (by with_reducible assumption)) | (simp; done) | (simp; omega)))
    have hBV : Below V2.heap.size V2 W3 := by rw [hW]; (repeat' (first | (with_reducible exact Below.refl _ _) | (with_reducible assumption) | (with_reducible refine Below.drew ?_) | (with_reducible refine below_drewN ?_ _) | (with_reducible refine Below.setCell ?_ ?_ _) | (with_reducible refine Below.alloc ?_ ?_ _) | (refine Below.trans ?_ (Below.mono (by with_reducible assumption) ?_)) | omega | (exact Below.size (by with_reducible assumption)) | (simp; done) | (simp; omega)))
    have pc : Own W3 (w.heap.size) [.int .i64 L, .int .i64 sl, .int .i64 rl, .int .i64 rh, .slice A n cap, .int .i64 wg] := by rw [hW]; exact qc.out
    have px : Own W3 (w.heap.size + 1) [.int .i64 a, .int .i64 b, .int .i64 lv] := by rw [hW]; exact qx.out
    clear hW lc kc fc qc lx kx fx qx
    refine (integral20 L sl rl rh wg A n cap ks a b _ (HA.out.below hB (Nat.le_refl _)) hn hlen).mono ?_
    rintro e V3 ⟨lo1, hi1, er1, rfl, hR, hb⟩
    obtain ⟨rfl, rfl, rfl⟩ := int_F HC.out HT.out hR.out ha0 hab hbL
    clear hR
    have hB' := hB.trans (hb.mono hB.size)
    have qc := Lib.hid (pc.below hb pc.lt)
    have qx := Lib.hid (px.below hb px.lt)
    clear hb hB hBV pc px
    have hB := hB'
    clear hB'
    obtain ⟨lc, kc, fc⟩ := qc.out
    obtain ⟨lx, kx, fx⟩ := qx.out
    go_wp2_with fail
    refine calls_gen fun W4 hW => ?_
    have hB : Below w.heap.size w W4 := by rw [hW]; (repeat' (first | (with_reducible exact Below.refl _ _) | (with_reducible assumption) | (with_reducible refine Below.drew ?_) | (with_reducible refine below_drewN ?_ _) | (with_reducible refine Below.setCell ?_ ?_ _) | (with_reducible refine Below.alloc ?_ ?_ _) | (refine Below.trans ?_ (Below.mono (by with_reducible assumption) ?_)) | omega | (exact Below.size (by with_reducible assumption)) | (simp; done) | (simp; omega)))
    have hBV : Below V3.heap.size V3 W4 := by rw [hW]; (repeat' (first | (with_reducible exact Below.refl _ _) | (with_reducible assumption) | (with_reducible refine Below.drew ?_) | (with_reducible refine below_drewN ?_ _) | (with_reducible refine Below.setCell ?_ ?_ _) | (with_reducible refine Below.alloc ?_ ?_ _) | (refine Below.trans ?_ (Below.mono (by with_reducible assumption) ?_)) | omega | (exact Below.size (by with_reducible assumption)) | (simp; done) | (simp; omega)))
    have pc : Own W4 (w.heap.size) [.int .i64 L, .int .i64 sl, .int .i64 rl, .int .i64 rh, .slice A n cap, .int .i64 wg] := by rw [hW]; exact (qc.out.alloc _)
    have px : Own W4 (w.heap.size + 1) [.int .i64 a, .int .i64 b, .int .i64 lv] := by rw [hW]; exact (qx.out.alloc _)
    have ps1 : Own W4 (V3.heap.size) [.int .i64 0, .int .i64 0] := by rw [hW]; exact Own.new' _ _ rfl rfl
    clear hW lc kc fc qc lx kx fx qx
    refine (integral20 L sl rl rh wg A n cap ks b d _ (HA.out.below hB (Nat.le_refl _)) hn hlen).mono ?_
    rintro e V4 ⟨lo2, hi2, er2, rfl, hR, hb⟩
    obtain ⟨rfl, rfl, rfl⟩ := int_F HC.out HT.out hR.out (by omega) (by omega) (by omega)
    clear hR
    have hB' := hB.trans (hb.mono hB.size)
    have qc := Lib.hid (pc.below hb pc.lt)
    have qx := Lib.hid (px.below hb px.lt)
    have qs1 := Lib.hid (ps1.below hb ps1.lt)
    clear hb hB hBV pc px ps1
    have hB := hB'
    clear hB'
    obtain ⟨lc, kc, fc⟩ := qc.out
    obtain ⟨lx, kx, fx⟩ := qx.out
    obtain ⟨ls1, ks1, fs1⟩ := qs1.out
    go_wp2_with fail
    refine calls_gen fun W5 hW => ?_
    have hB : Below w.heap.size w W5 := by rw [hW]; (repeat' (first | (with_reducible exact Below.refl _ _) | (with_reducible assumption) | (with_reducible refine Below.drew ?_) | (with_reducible refine below_drewN ?_ _) | (with_reducible refine Below.setCell ?_ ?_ _) | (with_reducible refine Below.alloc ?_ ?_ _) | (refine Below.trans ?_ (Below.mono (by with_reducible assumption) ?_)) | omega | (exact Below.size (by with_reducible assumption)) | (simp; done) | (simp; omega)))
    have hBV : Below V4.heap.size V4 W5 := by rw [hW]; (repeat' (first | (with_reducible exact Below.refl _ _) | (with_reducible assumption) | (with_reducible refine Below.drew ?_) | (with_reducible refine below_drewN ?_ _) | (with_reducible refine Below.setCell ?_ ?_ _) | (with_reducible refine Below.alloc ?_ ?_ _) | (refine Below.trans ?_ (Below.mono (by with_reducible assumption) ?_)) | omega | (exact Below.size (by with_reducible assumption)) | (simp; done) | (simp; omega)))
    have pc : Own W5 (w.heap.size) [.int .i64 L, .int .i64 sl, .int .i64 rl, .int .i64 rh, .slice A n cap, .int .i64 wg] := by rw [hW]; exact (qc.out.alloc _)
    have px : Own W5 (w.heap.size + 1) [.int .i64 a, .int .i64 b, .int .i64 lv] := by rw [hW]; exact (qx.out.alloc _)
    have ps1 : Own W5 (V3.heap.size) [.int .i64 0, .int .i64 0] := by rw [hW]; exact (qs1.out.alloc _)
    have ps2 : Own W5 (V4.heap.size) [.int .i64 0, .int .i64 0] := by rw [hW]; exact Own.new' _ _ rfl rfl
    clear hW lc kc fc qc lx kx fx qx ls1 ks1 fs1 qs1
    refine (integral20 L sl rl rh wg A n cap ks a d _ (HA.out.below hB (Nat.le_refl _)) hn hlen).mono ?_
    rintro e V5 ⟨lo3, hi3, er3, rfl, hR, hb⟩
    obtain ⟨rfl, rfl, rfl⟩ := int_F HC.out HT.out hR.out (by omega) (by omega) (by omega)
    clear hR
    have hB' := hB.trans (hb.mono hB.size)
    have qc := Lib.hid (pc.below hb pc.lt)
    have qx := Lib.hid (px.below hb px.lt)
    have qs1 := Lib.hid (ps1.below hb ps1.lt)
    have qs2 := Lib.hid (ps2.below hb ps2.lt)
    clear hb hB hBV pc px ps1 ps2
    have hB := hB'
    clear hB'
    obtain ⟨lc, kc, fc⟩ := qc.out
    obtain ⟨lx, kx, fx⟩ := qx.out
    obtain ⟨ls1, ks1, fs1⟩ := qs1.out
    obtain ⟨ls2, ks2, fs2⟩ := qs2.out
    go_wp2_with fail
    refine calls_gen fun W6 hW => ?_
    have hB : Below w.heap.size w W6 := by rw [hW]; (repeat' (first | (with_reducible exact Below.refl _ _) | (with_reducible assumption) | (with_reducible refine Below.drew ?_) | (with_reducible refine below_drewN ?_ _) | (with_reducible refine Below.setCell ?_ ?_ _) | (with_reducible refine Below.alloc ?_ ?_ _) | (refine Below.trans ?_ (Below.mono (by with_reducible assumption) ?_)) | omega | (exact Below.size (by with_reducible assumption)) | (simp; done) | (simp; omega)))
    have hBV : Below V5.heap.size V5 W6 := by rw [hW]; (repeat' (first | (with_reducible exact Below.refl _ _) | (with_reducible assumption) | (with_reducible refine Below.drew ?_) | (with_reducible refine below_drewN ?_ _) | (with_reducible refine Below.setCell ?_ ?_ _) | (with_reducible refine Below.alloc ?_ ?_ _) | (refine Below.trans ?_ (Below.mono (by with_reducible assumption) ?_)) | omega | (exact Below.size (by with_reducible assumption)) | (simp; done) | (simp; omega)))
    have pc : Own W6 (w.heap.size) [.int .i64 L, .int .i64 sl, .int .i64 rl, .int .i64 rh, .slice A n cap, .int .i64 wg] := by rw [hW]; exact (qc.out.alloc _)
    have px : Own W6 (w.heap.size + 1) [.int .i64 a, .int .i64 b, .int .i64 lv] := by rw [hW]; exact (qx.out.alloc _)
    have ps1 : Own W6 (V3.heap.size) [.int .i64 0, .int .i64 0] := by rw [hW]; exact (qs1.out.alloc _)
    have ps2 : Own W6 (V4.heap.size) [.int .i64 0, .int .i64 0] := by rw [hW]; exact (qs2.out.alloc _)
    have ps3 : Own W6 (V5.heap.size) [.int .i64 0, .int .i64 0] := by rw [hW]; exact Own.new' _ _ rfl rfl
    clear hW lc kc fc qc lx kx fx qx ls1 ks1 fs1 qs1 ls2 ks2 fs2 qs2
    refine (integral20 L sl rl rh wg A n cap ks 0 L _ (HA.out.below hB (Nat.le_refl _)) hn hlen).mono ?_
    rintro e V6 ⟨lo4, hi4, er4, rfl, hR, hb⟩
    obtain ⟨rfl, rfl, rfl⟩ := int_F HC.out HT.out hR.out (by omega) (by omega) (by omega)
    clear hR
    have hB' := hB.trans (hb.mono hB.size)
    have qc := Lib.hid (pc.below hb pc.lt)
    have qx := Lib.hid (px.below hb px.lt)
    have qs1 := Lib.hid (ps1.below hb ps1.lt)
    have qs2 := Lib.hid (ps2.below hb ps2.lt)
    have qs3 := Lib.hid (ps3.below hb ps3.lt)
    clear hb hB hBV pc px ps1 ps2 ps3
    have hB := hB'
    clear hB'
    obtain ⟨lc, kc, fc⟩ := qc.out
    obtain ⟨lx, kx, fx⟩ := qx.out
    obtain ⟨ls1, ks1, fs1⟩ := qs1.out
    obtain ⟨ls2, ks2, fs2⟩ := qs2.out
    obtain ⟨ls3, ks3, fs3⟩ := qs3.out
    go_wp2_with fail
    refine calls_gen fun W7 hW => ?_
    have hB : Below w.heap.size w W7 := by rw [hW]; (repeat' (first | (with_reducible exact Below.refl _ _) | (with_reducible assumption) | (with_reducible refine Below.drew ?_) | (with_reducible refine below_drewN ?_ _) | (with_reducible refine Below.setCell ?_ ?_ _) | (with_reducible refine Below.alloc ?_ ?_ _) | (refine Below.trans ?_ (Below.mono (by with_reducible assumption) ?_)) | omega | (exact Below.size (by with_reducible assumption)) | (simp; done) | (simp; omega)))
    have hBV : Below V6.heap.size V6 W7 := by rw [hW]; (repeat' (first | (with_reducible exact Below.refl _ _) | (with_reducible assumption) | (with_reducible refine Below.drew ?_) | (with_reducible refine below_drewN ?_ _) | (with_reducible refine Below.setCell ?_ ?_ _) | (with_reducible refine Below.alloc ?_ ?_ _) | (refine Below.trans ?_ (Below.mono (by with_reducible assumption) ?_)) | omega | (exact Below.size (by with_reducible assumption)) | (simp; done) | (simp; omega)))
    have pc : Own W7 (w.heap.size) [.int .i64 L, .int .i64 sl, .int .i64 rl, .int .i64 rh, .slice A n cap, .int .i64 wg] := by rw [hW]; exact (qc.out.alloc _)
    have px : Own W7 (w.heap.size + 1) [.int .i64 a, .int .i64 b, .int .i64 lv] := by rw [hW]; exact (qx.out.alloc _)
    have ps1 : Own W7 (V3.heap.size) [.int .i64 0, .int .i64 0] := by rw [hW]; exact (qs1.out.alloc _)
    have ps2 : Own W7 (V4.heap.size) [.int .i64 0, .int .i64 0] := by rw [hW]; exact (qs2.out.alloc _)
    have ps3 : Own W7 (V5.heap.size) [.int .i64 0, .int .i64 0] := by rw [hW]; exact (qs3.out.alloc _)
    have ps4 : Own W7 (V6.heap.size) [.int .i64 0, .int .i64 0] := by rw [hW]; exact Own.new' _ _ rfl rfl
    clear hW lc kc fc qc lx kx fx qx ls1 ks1 fs1 qs1 ls2 ks2 fs2 qs2 ls3 ks3 fs3 qs3
    refine (draw21 L sl rl rh wg A n cap ks _ (HA.out.below hB (Nat.le_refl _)) hn hlen).mono ?_
    rintro e V7 ⟨A5, c5, ls, er5, rfl, hR, hrd, hll, hb⟩
    obtain ⟨rfl, rfl⟩ := draw_F HC.out HT.out hR.out
    clear hR hrd
    have hB' := hB.trans (hb.mono hB.size)
    have qc := Lib.hid (pc.below hb pc.lt)
    have qx := Lib.hid (px.below hb px.lt)
    have qs1 := Lib.hid (ps1.below hb ps1.lt)
    have qs2 := Lib.hid (ps2.below hb ps2.lt)
    have qs3 := Lib.hid (ps3.below hb ps3.lt)
    have qs4 := Lib.hid (ps4.below hb ps4.lt)
    clear hb hB hBV pc px ps1 ps2 ps3 ps4
    have hB := hB'
    clear hB'
    obtain ⟨lc, kc, fc⟩ := qc.out
    obtain ⟨lx, kx, fx⟩ := qx.out
    obtain ⟨ls1, ks1, fs1⟩ := qs1.out
    obtain ⟨ls2, ks2, fs2⟩ := qs2.out
    obtain ⟨ls3, ks3, fs3⟩ := qs3.out
    obtain ⟨ls4, ks4, fs4⟩ := qs4.out
    go_wp2_with fail
    refine calls_gen fun W8 hW => ?_
    have hB : Below w.heap.size w W8 := by rw [hW]; (repeat' (first | (with_reducible exact Below.refl _ _) | (with_reducible assumption) | (with_reducible refine Below.drew ?_) | (with_reducible refine below_drewN ?_ _) | (with_reducible refine Below.setCell ?_ ?_ _) | (with_reducible refine Below.alloc ?_ ?_ _) | (refine Below.trans ?_ (Below.mono (by with_reducible assumption) ?_)) | omega | (exact Below.size (by with_reducible assumption)) | (simp; done) | (simp; omega)))
    have hBV : Below V7.heap.size V7 W8 := by rw [hW]; (repeat' (first | (with_reducible exact Below.refl _ _) | (with_reducible assumption) | (with_reducible refine Below.drew ?_) | (with_reducible refine below_drewN ?_ _) | (with_reducible refine Below.setCell ?_ ?_ _) | (with_reducible refine Below.alloc ?_ ?_ _) | (refine Below.trans ?_ (Below.mono (by with_reducible assumption) ?_)) | omega | (exact Below.size (by with_reducible assumption)) | (simp; done) | (simp; omega)))
    have pc : Own W8 (w.heap.size) [.int .i64 L, .int .i64 sl, .int .i64 rl, .int .i64 rh, .slice A n cap, .int .i64 wg] := by rw [hW]; exact qc.out
    have px : Own W8 (w.heap.size + 1) [.int .i64 a, .int .i64 b, .int .i64 lv] := by rw [hW]; exact qx.out
    have ps1 : Own W8 (V3.heap.size) [.int .i64 0, .int .i64 0] := by rw [hW]; exact qs1.out
    have ps2 : Own W8 (V4.heap.size) [.int .i64 0, .int .i64 0] := by rw [hW]; exact qs2.out
    have ps3 : Own W8 (V5.heap.size) [.int .i64 0, .int .i64 0] := by rw [hW]; exact qs3.out
    have ps4 : Own W8 (V6.heap.size) [.int .i64 0, .int .i64 0] := by rw [hW]; exact qs4.out
    clear hW lc kc fc qc lx kx fx qx ls1 ks1 fs1 qs1 ls2 ks2 fs2 qs2 ls3 ks3 fs3 qs3 ls4 ks4 fs4 qs4
    refine (isKnown22w _ _).mono ?_
    rintro e V8 ⟨rfl, hb⟩
    have hB' := hB.trans (hb.mono hB.size)
    have qc := Lib.hid (pc.below hb pc.lt)
    have qx := Lib.hid (px.below hb px.lt)
    have qs1 := Lib.hid (ps1.below hb ps1.lt)
    have qs2 := Lib.hid (ps2.below hb ps2.lt)
    have qs3 := Lib.hid (ps3.below hb ps3.lt)
    have qs4 := Lib.hid (ps4.below hb ps4.lt)
    clear hb hB hBV pc px ps1 ps2 ps3 ps4
    have hB := hB'
    clear hB'
    obtain ⟨lc, kc, fc⟩ := qc.out
    obtain ⟨lx, kx, fx⟩ := qx.out
    obtain ⟨ls1, ks1, fs1⟩ := qs1.out
    obtain ⟨ls2, ks2, fs2⟩ := qs2.out
    obtain ⟨ls3, ks3, fs3⟩ := qs3.out
    obtain ⟨ls4, ks4, fs4⟩ := qs4.out
    go_wp2_with fail
    refine calls_gen fun W9 hW => ?_
    have hB : Below w.heap.size w W9 := by rw [hW]; (repeat' (first | (with_reducible exact Below.refl _ _) | (with_reducible assumption) | (with_reducible refine Below.drew ?_) | (with_reducible refine below_drewN ?_ _) | (with_reducible refine Below.setCell ?_ ?_ _) | (with_reducible refine Below.alloc ?_ ?_ _) | (refine Below.trans ?_ (Below.mono (by with_reducible assumption) ?_)) | omega | (exact Below.size (by with_reducible assumption)) | (simp; done) | (simp; omega)))
    have hBV : Below V8.heap.size V8 W9 := by rw [hW]; (repeat' (first | (with_reducible exact Below.refl _ _) | (with_reducible assumption) | (with_reducible refine Below.drew ?_) | (with_reducible refine below_drewN ?_ _) | (with_reducible refine Below.setCell ?_ ?_ _) | (with_reducible refine Below.alloc ?_ ?_ _) | (refine Below.trans ?_ (Below.mono (by with_reducible assumption) ?_)) | omega | (exact Below.size (by with_reducible assumption)) | (simp; done) | (simp; omega)))
    have pc : Own W9 (w.heap.size) [.int .i64 L, .int .i64 sl, .int .i64 rl, .int .i64 rh, .slice A n cap, .int .i64 wg] := by rw [hW]; exact qc.out
    have px : Own W9 (w.heap.size + 1) [.int .i64 a, .int .i64 b, .int .i64 lv] := by rw [hW]; exact qx.out
    have ps1 : Own W9 (V3.heap.size) [.int .i64 0, .int .i64 0] := by rw [hW]; exact qs1.out
    have ps2 : Own W9 (V4.heap.size) [.int .i64 0, .int .i64 0] := by rw [hW]; exact qs2.out
    have ps3 : Own W9 (V5.heap.size) [.int .i64 0, .int .i64 0] := by rw [hW]; exact qs3.out
    have ps4 : Own W9 (V6.heap.size) [.int .i64 0, .int .i64 0] := by rw [hW]; exact qs4.out
    clear hW lc kc fc qc lx kx fx qx ls1 ks1 fs1 qs1 ls2 ks2 fs2 qs2 ls3 ks3 fs3 qs3 ls4 ks4 fs4 qs4
    refine (works13 _).mono ?_
    rintro e V9 ⟨rfl, hb⟩
    have hB' := hB.trans (hb.mono hB.size)
    have qc := Lib.hid (pc.below hb pc.lt)
    have qx := Lib.hid (px.below hb px.lt)
    have qs1 := Lib.hid (ps1.below hb ps1.lt)
    have qs2 := Lib.hid (ps2.below hb ps2.lt)
    have qs3 := Lib.hid (ps3.below hb ps3.lt)
    have qs4 := Lib.hid (ps4.below hb ps4.lt)
    clear hb hB hBV pc px ps1 ps2 ps3 ps4
    have hB := hB'
    clear hB'
    obtain ⟨lc, kc, fc⟩ := qc.out
    obtain ⟨lx, kx, fx⟩ := qx.out
    obtain ⟨ls1, ks1, fs1⟩ := qs1.out
    obtain ⟨ls2, ks2, fs2⟩ := qs2.out
    obtain ⟨ls3, ks3, fs3⟩ := qs3.out
    obtain ⟨ls4, ks4, fs4⟩ := qs4.out
    go_wp2
    go_ret
    exact ⟨rfl, hB⟩
end Go.Proofs.Ytphcpphmoeiioaa
