/- Walks: CurvesMore of the program. -/
import Derived.Test.YtphcpphmoeiioaaNaA
namespace Go.Proofs.Ytphcpphmoeiioaa
open Go.RowKit Go.Maps

def mn3 (x y z : Int) : Int := if z < (if y < x then y else x) then z else (if y < x then y else x)
def mx3 (x y z : Int) : Int := if (if x < y then y else x) < z then z else (if x < y then y else x)
theorem mn3_run (ats : Array TypeId) (ty : TypeId) (x y z : Int) : Builtin.min_ ats ty #[.int .i64 x, .int .i64 y, .int .i64 z] = pure (.int .i64 (mn3 x y z)) := by
  simp [Builtin.min_, Builtin.min2, mn3]
theorem mx3_run (ats : Array TypeId) (ty : TypeId) (x y z : Int) : Builtin.max_ ats ty #[.int .i64 x, .int .i64 y, .int .i64 z] = pure (.int .i64 (mx3 x y z)) := by
  simp [Builtin.max_, Builtin.max2, mx3]
theorem mn3_ge {x y z : Int} (h : ¬ mn3 x y z < 0) : 0 ≤ x ∧ 0 ≤ y ∧ 0 ≤ z := by
  unfold mn3 at h
  repeat' split at h
  all_goals omega
theorem mx3_le {x y z : Int} (h : ¬ 50 < mx3 x y z) : x ≤ 50 ∧ y ≤ 50 ∧ z ≤ 50 := by
  unfold mx3 at h
  repeat' split at h
  all_goals omega
attribute [irreducible] mn3 mx3
attribute [local go_sem ↓] mn3_run mx3_run
set_option maxRecDepth 100000 in
set_option maxHeartbeats 16000000 in
theorem more7 (L sl rl rh wg : Int) (A : Option Addr) (n cap : Nat) (ks : List Kn) (xp xlo xhi xs xw xr a b lv : Int) (w : World) (hA : Rd 3 w A (ks.map krow)) (hn : Hid (n = ks.length)) (hlen : n ≤ 9223372036854775807) :
    Calls Try.prog 7 #[.agg #[.int .i64 L, .int .i64 sl, .int .i64 rl, .int .i64 rh, .slice A n cap, .int .i64 wg], .agg #[.int .i64 xp, .int .i64 xlo, .int .i64 xhi, .int .i64 xs, .int .i64 xw, .int .i64 xr], .agg #[.int .i64 a, .int .i64 b, .int .i64 lv]] w fun e w' => e = .returned (.bool true) ∧ Below w.heap.size w w' := by
  have HA := Lib.hid hA
  clear hA
  cases hr : readyB L sl rl rh wg ks
  · have HR := Lib.hid hr
    clear hr
    go_enter Try.func7, Try.ntmps7
    go_wp2_with fail
    refine calls_gen fun W1 hW => ?_
    have hB1 : Below w.heap.size w W1 := by rw [hW]; (repeat' (first | (with_reducible exact Below.refl _ _) | (with_reducible assumption) | (with_reducible refine Below.drew ?_) | (with_reducible refine below_drewN ?_ _) | (with_reducible refine Below.setCell ?_ ?_ _) | (with_reducible refine Below.alloc ?_ ?_ _) | (refine Below.trans ?_ (Below.mono (by with_reducible assumption) ?_)) | omega | (exact Below.size (by with_reducible assumption)) | (simp; done) | (simp; omega)))
    have pc : Own W1 (w.heap.size) [.int .i64 L, .int .i64 sl, .int .i64 rl, .int .i64 rh, .slice A n cap, .int .i64 wg] := by rw [hW]; exact ((Own.new' _ _ rfl rfl).alloc _).alloc _
    have pm : Own W1 (w.heap.size + 1) [.int .i64 xp, .int .i64 xlo, .int .i64 xhi, .int .i64 xs, .int .i64 xw, .int .i64 xr] := by rw [hW]; exact (Own.new' _ _ (by simp) rfl).alloc _
    have px : Own W1 (w.heap.size + 2) [.int .i64 a, .int .i64 b, .int .i64 lv] := by rw [hW]; exact Own.new' _ _ (by simp) rfl
    try clear hBV
    try clear hB
    clear hW  
    refine (ready18v false L sl rl rh wg A n cap ks _ HR (HA.out.below hB1 (Nat.le_refl _)) hn hlen).mono ?_
    rintro e V1 ⟨rfl, hb⟩
    have hB := hB1.trans (hb.mono hB1.size)
    have qc := Lib.hid (pc.below hb pc.lt)
    have qm := Lib.hid (pm.below hb pm.lt)
    have qx := Lib.hid (px.below hb px.lt)
    try clear hsz
    clear hb hB1 pc pm px 
    obtain ⟨lc, kc, fc⟩ := qc.out
    obtain ⟨lm, km, fm⟩ := qm.out
    obtain ⟨lx, kx, fx⟩ := qx.out
    go_wp2_with fail
    refine calls_gen fun W2 hW => ?_
    have hB1 : Below w.heap.size w W2 := by rw [hW]; (repeat' (first | (with_reducible exact Below.refl _ _) | (with_reducible assumption) | (with_reducible refine Below.drew ?_) | (with_reducible refine below_drewN ?_ _) | (with_reducible refine Below.setCell ?_ ?_ _) | (with_reducible refine Below.alloc ?_ ?_ _) | (refine Below.trans ?_ (Below.mono (by with_reducible assumption) ?_)) | omega | (exact Below.size (by with_reducible assumption)) | (simp; done) | (simp; omega)))
    have pc : Own W2 (w.heap.size) [.int .i64 L, .int .i64 sl, .int .i64 rl, .int .i64 rh, .slice A n cap, .int .i64 wg] := by rw [hW]; exact qc.out
    have pm : Own W2 (w.heap.size + 1) [.int .i64 xp, .int .i64 xlo, .int .i64 xhi, .int .i64 xs, .int .i64 xw, .int .i64 xr] := by rw [hW]; exact qm.out
    have px : Own W2 (w.heap.size + 2) [.int .i64 a, .int .i64 b, .int .i64 lv] := by rw [hW]; exact qx.out
    try clear hBV
    try clear hB
    clear hW lc kc fc qc lm km fm qm lx kx fx qx 
    refine (works13 _).mono ?_
    rintro e V2 ⟨rfl, hb⟩
    have hB := hB1.trans (hb.mono hB1.size)
    have qc := Lib.hid (pc.below hb pc.lt)
    have qm := Lib.hid (pm.below hb pm.lt)
    have qx := Lib.hid (px.below hb px.lt)
    try clear hsz
    clear hb hB1 pc pm px 
    obtain ⟨lc, kc, fc⟩ := qc.out
    obtain ⟨lm, km, fm⟩ := qm.out
    obtain ⟨lx, kx, fx⟩ := qx.out
    go_wp2
    go_ret
    exact ⟨rfl, hB⟩
  have HR := Lib.hid hr
  cases hk : askB L a b lv
  · have HK := Lib.hid hk
    clear hr hk
    go_enter Try.func7, Try.ntmps7
    go_wp2_with fail
    refine calls_gen fun W1 hW => ?_
    have hB1 : Below w.heap.size w W1 := by rw [hW]; (repeat' (first | (with_reducible exact Below.refl _ _) | (with_reducible assumption) | (with_reducible refine Below.drew ?_) | (with_reducible refine below_drewN ?_ _) | (with_reducible refine Below.setCell ?_ ?_ _) | (with_reducible refine Below.alloc ?_ ?_ _) | (refine Below.trans ?_ (Below.mono (by with_reducible assumption) ?_)) | omega | (exact Below.size (by with_reducible assumption)) | (simp; done) | (simp; omega)))
    have pc : Own W1 (w.heap.size) [.int .i64 L, .int .i64 sl, .int .i64 rl, .int .i64 rh, .slice A n cap, .int .i64 wg] := by rw [hW]; exact ((Own.new' _ _ rfl rfl).alloc _).alloc _
    have pm : Own W1 (w.heap.size + 1) [.int .i64 xp, .int .i64 xlo, .int .i64 xhi, .int .i64 xs, .int .i64 xw, .int .i64 xr] := by rw [hW]; exact (Own.new' _ _ (by simp) rfl).alloc _
    have px : Own W1 (w.heap.size + 2) [.int .i64 a, .int .i64 b, .int .i64 lv] := by rw [hW]; exact Own.new' _ _ (by simp) rfl
    try clear hBV
    try clear hB
    clear hW  
    refine (ready18v true L sl rl rh wg A n cap ks _ HR (HA.out.below hB1 (Nat.le_refl _)) hn hlen).mono ?_
    rintro e V1 ⟨rfl, hb⟩
    have hB := hB1.trans (hb.mono hB1.size)
    have qc := Lib.hid (pc.below hb pc.lt)
    have qm := Lib.hid (pm.below hb pm.lt)
    have qx := Lib.hid (px.below hb px.lt)
    try clear hsz
    clear hb hB1 pc pm px 
    obtain ⟨lc, kc, fc⟩ := qc.out
    obtain ⟨lm, km, fm⟩ := qm.out
    obtain ⟨lx, kx, fx⟩ := qx.out
    go_wp2_with fail
    refine calls_gen fun W2 hW => ?_
    have hB1 : Below w.heap.size w W2 := by rw [hW]; (repeat' (first | (with_reducible exact Below.refl _ _) | (with_reducible assumption) | (with_reducible refine Below.drew ?_) | (with_reducible refine below_drewN ?_ _) | (with_reducible refine Below.setCell ?_ ?_ _) | (with_reducible refine Below.alloc ?_ ?_ _) | (refine Below.trans ?_ (Below.mono (by with_reducible assumption) ?_)) | omega | (exact Below.size (by with_reducible assumption)) | (simp; done) | (simp; omega)))
    have pc : Own W2 (w.heap.size) [.int .i64 L, .int .i64 sl, .int .i64 rl, .int .i64 rh, .slice A n cap, .int .i64 wg] := by rw [hW]; exact qc.out
    have pm : Own W2 (w.heap.size + 1) [.int .i64 xp, .int .i64 xlo, .int .i64 xhi, .int .i64 xs, .int .i64 xw, .int .i64 xr] := by rw [hW]; exact qm.out
    have px : Own W2 (w.heap.size + 2) [.int .i64 a, .int .i64 b, .int .i64 lv] := by rw [hW]; exact qx.out
    try clear hBV
    try clear hB
    clear hW lc kc fc qc lm km fm qm lx kx fx qx 
    refine (isAsk19v false L sl rl rh wg _ a b lv _ HK).mono ?_
    rintro e V2 ⟨rfl, hb⟩
    have hB := hB1.trans (hb.mono hB1.size)
    have qc := Lib.hid (pc.below hb pc.lt)
    have qm := Lib.hid (pm.below hb pm.lt)
    have qx := Lib.hid (px.below hb px.lt)
    try clear hsz
    clear hb hB1 pc pm px 
    obtain ⟨lc, kc, fc⟩ := qc.out
    obtain ⟨lm, km, fm⟩ := qm.out
    obtain ⟨lx, kx, fx⟩ := qx.out
    go_wp2_with fail
    refine calls_gen fun W3 hW => ?_
    have hB1 : Below w.heap.size w W3 := by rw [hW]; (repeat' (first | (with_reducible exact Below.refl _ _) | (with_reducible assumption) | (with_reducible refine Below.drew ?_) | (with_reducible refine below_drewN ?_ _) | (with_reducible refine Below.setCell ?_ ?_ _) | (with_reducible refine Below.alloc ?_ ?_ _) | (refine Below.trans ?_ (Below.mono (by with_reducible assumption) ?_)) | omega | (exact Below.size (by with_reducible assumption)) | (simp; done) | (simp; omega)))
    have pc : Own W3 (w.heap.size) [.int .i64 L, .int .i64 sl, .int .i64 rl, .int .i64 rh, .slice A n cap, .int .i64 wg] := by rw [hW]; exact qc.out
    have pm : Own W3 (w.heap.size + 1) [.int .i64 xp, .int .i64 xlo, .int .i64 xhi, .int .i64 xs, .int .i64 xw, .int .i64 xr] := by rw [hW]; exact qm.out
    have px : Own W3 (w.heap.size + 2) [.int .i64 a, .int .i64 b, .int .i64 lv] := by rw [hW]; exact qx.out
    try clear hBV
    try clear hB
    clear hW lc kc fc qc lm km fm qm lx kx fx qx 
    refine (works13 _).mono ?_
    rintro e V3 ⟨rfl, hb⟩
    have hB := hB1.trans (hb.mono hB1.size)
    have qc := Lib.hid (pc.below hb pc.lt)
    have qm := Lib.hid (pm.below hb pm.lt)
    have qx := Lib.hid (px.below hb px.lt)
    try clear hsz
    clear hb hB1 pc pm px 
    obtain ⟨lc, kc, fc⟩ := qc.out
    obtain ⟨lm, km, fm⟩ := qm.out
    obtain ⟨lx, kx, fx⟩ := qx.out
    go_wp2
    go_ret
    exact ⟨rfl, hB⟩
  have HK := Lib.hid hk
  by_cases a1 : mn3 xs xw xr < 0
  · clear hr hk
    go_enter Try.func7, Try.ntmps7
    go_wp2_with fail
    refine calls_gen fun W1 hW => ?_
    have hB1 : Below w.heap.size w W1 := by rw [hW]; (repeat' (first | (with_reducible exact Below.refl _ _) | (with_reducible assumption) | (with_reducible refine Below.drew ?_) | (with_reducible refine below_drewN ?_ _) | (with_reducible refine Below.setCell ?_ ?_ _) | (with_reducible refine Below.alloc ?_ ?_ _) | (refine Below.trans ?_ (Below.mono (by with_reducible assumption) ?_)) | omega | (exact Below.size (by with_reducible assumption)) | (simp; done) | (simp; omega)))
    have pc : Own W1 (w.heap.size) [.int .i64 L, .int .i64 sl, .int .i64 rl, .int .i64 rh, .slice A n cap, .int .i64 wg] := by rw [hW]; exact ((Own.new' _ _ rfl rfl).alloc _).alloc _
    have pm : Own W1 (w.heap.size + 1) [.int .i64 xp, .int .i64 xlo, .int .i64 xhi, .int .i64 xs, .int .i64 xw, .int .i64 xr] := by rw [hW]; exact (Own.new' _ _ (by simp) rfl).alloc _
    have px : Own W1 (w.heap.size + 2) [.int .i64 a, .int .i64 b, .int .i64 lv] := by rw [hW]; exact Own.new' _ _ (by simp) rfl
    try clear hBV
    try clear hB
    clear hW  
    refine (ready18v true L sl rl rh wg A n cap ks _ HR (HA.out.below hB1 (Nat.le_refl _)) hn hlen).mono ?_
    rintro e V1 ⟨rfl, hb⟩
    have hB := hB1.trans (hb.mono hB1.size)
    have qc := Lib.hid (pc.below hb pc.lt)
    have qm := Lib.hid (pm.below hb pm.lt)
    have qx := Lib.hid (px.below hb px.lt)
    try clear hsz
    clear hb hB1 pc pm px 
    obtain ⟨lc, kc, fc⟩ := qc.out
    obtain ⟨lm, km, fm⟩ := qm.out
    obtain ⟨lx, kx, fx⟩ := qx.out
    go_wp2_with fail
    refine calls_gen fun W2 hW => ?_
    have hB1 : Below w.heap.size w W2 := by rw [hW]; (repeat' (first | (with_reducible exact Below.refl _ _) | (with_reducible assumption) | (with_reducible refine Below.drew ?_) | (with_reducible refine below_drewN ?_ _) | (with_reducible refine Below.setCell ?_ ?_ _) | (with_reducible refine Below.alloc ?_ ?_ _) | (refine Below.trans ?_ (Below.mono (by with_reducible assumption) ?_)) | omega | (exact Below.size (by with_reducible assumption)) | (simp; done) | (simp; omega)))
    have pc : Own W2 (w.heap.size) [.int .i64 L, .int .i64 sl, .int .i64 rl, .int .i64 rh, .slice A n cap, .int .i64 wg] := by rw [hW]; exact qc.out
    have pm : Own W2 (w.heap.size + 1) [.int .i64 xp, .int .i64 xlo, .int .i64 xhi, .int .i64 xs, .int .i64 xw, .int .i64 xr] := by rw [hW]; exact qm.out
    have px : Own W2 (w.heap.size + 2) [.int .i64 a, .int .i64 b, .int .i64 lv] := by rw [hW]; exact qx.out
    try clear hBV
    try clear hB
    clear hW lc kc fc qc lm km fm qm lx kx fx qx 
    refine (isAsk19v true L sl rl rh wg _ a b lv _ HK).mono ?_
    rintro e V2 ⟨rfl, hb⟩
    have hB := hB1.trans (hb.mono hB1.size)
    have qc := Lib.hid (pc.below hb pc.lt)
    have qm := Lib.hid (pm.below hb pm.lt)
    have qx := Lib.hid (px.below hb px.lt)
    try clear hsz
    clear hb hB1 pc pm px 
    obtain ⟨lc, kc, fc⟩ := qc.out
    obtain ⟨lm, km, fm⟩ := qm.out
    obtain ⟨lx, kx, fx⟩ := qx.out
    go_wp2_with fail
    refine calls_gen fun W3 hW => ?_
    have hB1 : Below w.heap.size w W3 := by rw [hW]; (repeat' (first | (with_reducible exact Below.refl _ _) | (with_reducible assumption) | (with_reducible refine Below.drew ?_) | (with_reducible refine below_drewN ?_ _) | (with_reducible refine Below.setCell ?_ ?_ _) | (with_reducible refine Below.alloc ?_ ?_ _) | (refine Below.trans ?_ (Below.mono (by with_reducible assumption) ?_)) | omega | (exact Below.size (by with_reducible assumption)) | (simp; done) | (simp; omega)))
    have pc : Own W3 (w.heap.size) [.int .i64 L, .int .i64 sl, .int .i64 rl, .int .i64 rh, .slice A n cap, .int .i64 wg] := by rw [hW]; exact qc.out
    have pm : Own W3 (w.heap.size + 1) [.int .i64 xp, .int .i64 xlo, .int .i64 xhi, .int .i64 xs, .int .i64 xw, .int .i64 xr] := by rw [hW]; exact qm.out
    have px : Own W3 (w.heap.size + 2) [.int .i64 a, .int .i64 b, .int .i64 lv] := by rw [hW]; exact qx.out
    try clear hBV
    try clear hB
    clear hW lc kc fc qc lm km fm qm lx kx fx qx 
    refine (works13 _).mono ?_
    rintro e V3 ⟨rfl, hb⟩
    have hB := hB1.trans (hb.mono hB1.size)
    have qc := Lib.hid (pc.below hb pc.lt)
    have qm := Lib.hid (pm.below hb pm.lt)
    have qx := Lib.hid (px.below hb px.lt)
    try clear hsz
    clear hb hB1 pc pm px 
    obtain ⟨lc, kc, fc⟩ := qc.out
    obtain ⟨lm, km, fm⟩ := qm.out
    obtain ⟨lx, kx, fx⟩ := qx.out
    go_wp2
    go_ret
    exact ⟨rfl, hB⟩
  by_cases a2 : 50 < mx3 xs xw xr
  · clear hr hk
    go_enter Try.func7, Try.ntmps7
    go_wp2_with fail
    refine calls_gen fun W1 hW => ?_
    have hB1 : Below w.heap.size w W1 := by rw [hW]; (repeat' (first | (with_reducible exact Below.refl _ _) | (with_reducible assumption) | (with_reducible refine Below.drew ?_) | (with_reducible refine below_drewN ?_ _) | (with_reducible refine Below.setCell ?_ ?_ _) | (with_reducible refine Below.alloc ?_ ?_ _) | (refine Below.trans ?_ (Below.mono (by with_reducible assumption) ?_)) | omega | (exact Below.size (by with_reducible assumption)) | (simp; done) | (simp; omega)))
    have pc : Own W1 (w.heap.size) [.int .i64 L, .int .i64 sl, .int .i64 rl, .int .i64 rh, .slice A n cap, .int .i64 wg] := by rw [hW]; exact ((Own.new' _ _ rfl rfl).alloc _).alloc _
    have pm : Own W1 (w.heap.size + 1) [.int .i64 xp, .int .i64 xlo, .int .i64 xhi, .int .i64 xs, .int .i64 xw, .int .i64 xr] := by rw [hW]; exact (Own.new' _ _ (by simp) rfl).alloc _
    have px : Own W1 (w.heap.size + 2) [.int .i64 a, .int .i64 b, .int .i64 lv] := by rw [hW]; exact Own.new' _ _ (by simp) rfl
    try clear hBV
    try clear hB
    clear hW  
    refine (ready18v true L sl rl rh wg A n cap ks _ HR (HA.out.below hB1 (Nat.le_refl _)) hn hlen).mono ?_
    rintro e V1 ⟨rfl, hb⟩
    have hB := hB1.trans (hb.mono hB1.size)
    have qc := Lib.hid (pc.below hb pc.lt)
    have qm := Lib.hid (pm.below hb pm.lt)
    have qx := Lib.hid (px.below hb px.lt)
    try clear hsz
    clear hb hB1 pc pm px 
    obtain ⟨lc, kc, fc⟩ := qc.out
    obtain ⟨lm, km, fm⟩ := qm.out
    obtain ⟨lx, kx, fx⟩ := qx.out
    go_wp2_with fail
    refine calls_gen fun W2 hW => ?_
    have hB1 : Below w.heap.size w W2 := by rw [hW]; (repeat' (first | (with_reducible exact Below.refl _ _) | (with_reducible assumption) | (with_reducible refine Below.drew ?_) | (with_reducible refine below_drewN ?_ _) | (with_reducible refine Below.setCell ?_ ?_ _) | (with_reducible refine Below.alloc ?_ ?_ _) | (refine Below.trans ?_ (Below.mono (by with_reducible assumption) ?_)) | omega | (exact Below.size (by with_reducible assumption)) | (simp; done) | (simp; omega)))
    have pc : Own W2 (w.heap.size) [.int .i64 L, .int .i64 sl, .int .i64 rl, .int .i64 rh, .slice A n cap, .int .i64 wg] := by rw [hW]; exact qc.out
    have pm : Own W2 (w.heap.size + 1) [.int .i64 xp, .int .i64 xlo, .int .i64 xhi, .int .i64 xs, .int .i64 xw, .int .i64 xr] := by rw [hW]; exact qm.out
    have px : Own W2 (w.heap.size + 2) [.int .i64 a, .int .i64 b, .int .i64 lv] := by rw [hW]; exact qx.out
    try clear hBV
    try clear hB
    clear hW lc kc fc qc lm km fm qm lx kx fx qx 
    refine (isAsk19v true L sl rl rh wg _ a b lv _ HK).mono ?_
    rintro e V2 ⟨rfl, hb⟩
    have hB := hB1.trans (hb.mono hB1.size)
    have qc := Lib.hid (pc.below hb pc.lt)
    have qm := Lib.hid (pm.below hb pm.lt)
    have qx := Lib.hid (px.below hb px.lt)
    try clear hsz
    clear hb hB1 pc pm px 
    obtain ⟨lc, kc, fc⟩ := qc.out
    obtain ⟨lm, km, fm⟩ := qm.out
    obtain ⟨lx, kx, fx⟩ := qx.out
    go_wp2_with fail
    refine calls_gen fun W3 hW => ?_
    have hB1 : Below w.heap.size w W3 := by rw [hW]; (repeat' (first | (with_reducible exact Below.refl _ _) | (with_reducible assumption) | (with_reducible refine Below.drew ?_) | (with_reducible refine below_drewN ?_ _) | (with_reducible refine Below.setCell ?_ ?_ _) | (with_reducible refine Below.alloc ?_ ?_ _) | (refine Below.trans ?_ (Below.mono (by with_reducible assumption) ?_)) | omega | (exact Below.size (by with_reducible assumption)) | (simp; done) | (simp; omega)))
    have pc : Own W3 (w.heap.size) [.int .i64 L, .int .i64 sl, .int .i64 rl, .int .i64 rh, .slice A n cap, .int .i64 wg] := by rw [hW]; exact qc.out
    have pm : Own W3 (w.heap.size + 1) [.int .i64 xp, .int .i64 xlo, .int .i64 xhi, .int .i64 xs, .int .i64 xw, .int .i64 xr] := by rw [hW]; exact qm.out
    have px : Own W3 (w.heap.size + 2) [.int .i64 a, .int .i64 b, .int .i64 lv] := by rw [hW]; exact qx.out
    try clear hBV
    try clear hB
    clear hW lc kc fc qc lm km fm qm lx kx fx qx 
    refine (works13 _).mono ?_
    rintro e V3 ⟨rfl, hb⟩
    have hB := hB1.trans (hb.mono hB1.size)
    have qc := Lib.hid (pc.below hb pc.lt)
    have qm := Lib.hid (pm.below hb pm.lt)
    have qx := Lib.hid (px.below hb px.lt)
    try clear hsz
    clear hb hB1 pc pm px 
    obtain ⟨lc, kc, fc⟩ := qc.out
    obtain ⟨lm, km, fm⟩ := qm.out
    obtain ⟨lx, kx, fx⟩ := qx.out
    go_wp2
    go_ret
    exact ⟨rfl, hB⟩
  have hc := (ready_iff.1 hr).2
  obtain ⟨ha0, hab, hbL, _, _⟩ := askB_iff.1 hk
  have HC := Lib.hid hc
  have hV := Lib.hid (cvV_of hc)
  have hl2 := hV.out.l2
  have hl1 := hV.out.l1
  have hq1 := hV.out.r1
  have hq0 := hV.out.r0
  have hq2 := hV.out.r2
  have hq3 := hV.out.s1
  have hq4 := hV.out.s2
  have hq5 := hV.out.w1
  have hq6 := hV.out.w2
  have hnk : n ≤ 8 := by have := hV.out.kl; have := hn.out; omega
  obtain ⟨xs1, xw1, xr1⟩ := mn3_ge a1
  obtain ⟨xs2, xw2, xr2⟩ := mx3_le a2
  clear hr hk hc
  go_enter Try.func7, Try.ntmps7
  go_wp2_with fail
  refine calls_gen fun W1 hW => ?_
  have hB1 : Below w.heap.size w W1 := by rw [hW]; (repeat' (first | (with_reducible exact Below.refl _ _) | (with_reducible assumption) | (with_reducible refine Below.drew ?_) | (with_reducible refine below_drewN ?_ _) | (with_reducible refine Below.setCell ?_ ?_ _) | (with_reducible refine Below.alloc ?_ ?_ _) | (refine Below.trans ?_ (Below.mono (by with_reducible assumption) ?_)) | omega | (exact Below.size (by with_reducible assumption)) | (simp; done) | (simp; omega)))
  have pc : Own W1 (w.heap.size) [.int .i64 L, .int .i64 sl, .int .i64 rl, .int .i64 rh, .slice A n cap, .int .i64 wg] := by rw [hW]; exact ((Own.new' _ _ rfl rfl).alloc _).alloc _
  have pm : Own W1 (w.heap.size + 1) [.int .i64 xp, .int .i64 xlo, .int .i64 xhi, .int .i64 xs, .int .i64 xw, .int .i64 xr] := by rw [hW]; exact (Own.new' _ _ (by simp) rfl).alloc _
  have px : Own W1 (w.heap.size + 2) [.int .i64 a, .int .i64 b, .int .i64 lv] := by rw [hW]; exact Own.new' _ _ (by simp) rfl
  try clear hBV
  try clear hB
  clear hW  
  refine (ready18v true L sl rl rh wg A n cap ks _ HR (HA.out.below hB1 (Nat.le_refl _)) hn hlen).mono ?_
  rintro e V1 ⟨rfl, hb⟩
  have hB := hB1.trans (hb.mono hB1.size)
  have qc := Lib.hid (pc.below hb pc.lt)
  have qm := Lib.hid (pm.below hb pm.lt)
  have qx := Lib.hid (px.below hb px.lt)
  try clear hsz
  clear hb hB1 pc pm px 
  obtain ⟨lc, kc, fc⟩ := qc.out
  obtain ⟨lm, km, fm⟩ := qm.out
  obtain ⟨lx, kx, fx⟩ := qx.out
  go_wp2_with fail
  refine calls_gen fun W2 hW => ?_
  have hB1 : Below w.heap.size w W2 := by rw [hW]; (repeat' (first | (with_reducible exact Below.refl _ _) | (with_reducible assumption) | (with_reducible refine Below.drew ?_) | (with_reducible refine below_drewN ?_ _) | (with_reducible refine Below.setCell ?_ ?_ _) | (with_reducible refine Below.alloc ?_ ?_ _) | (refine Below.trans ?_ (Below.mono (by with_reducible assumption) ?_)) | omega | (exact Below.size (by with_reducible assumption)) | (simp; done) | (simp; omega)))
  have pc : Own W2 (w.heap.size) [.int .i64 L, .int .i64 sl, .int .i64 rl, .int .i64 rh, .slice A n cap, .int .i64 wg] := by rw [hW]; exact qc.out
  have pm : Own W2 (w.heap.size + 1) [.int .i64 xp, .int .i64 xlo, .int .i64 xhi, .int .i64 xs, .int .i64 xw, .int .i64 xr] := by rw [hW]; exact qm.out
  have px : Own W2 (w.heap.size + 2) [.int .i64 a, .int .i64 b, .int .i64 lv] := by rw [hW]; exact qx.out
  try clear hBV
  try clear hB
  clear hW lc kc fc qc lm km fm qm lx kx fx qx 
  refine (isAsk19v true L sl rl rh wg _ a b lv _ HK).mono ?_
  rintro e V2 ⟨rfl, hb⟩
  have hB := hB1.trans (hb.mono hB1.size)
  have qc := Lib.hid (pc.below hb pc.lt)
  have qm := Lib.hid (pm.below hb pm.lt)
  have qx := Lib.hid (px.below hb px.lt)
  try clear hsz
  clear hb hB1 pc pm px 
  obtain ⟨lc, kc, fc⟩ := qc.out
  obtain ⟨lm, km, fm⟩ := qm.out
  obtain ⟨lx, kx, fx⟩ := qx.out
  clear HR HK
  go_wp2
  clear a1 a2
  refine rg_start (fun w' => Own w' w.heap.size [.int .i64 L, .int .i64 sl, .int .i64 rl, .int .i64 rh, .slice A n cap, .int .i64 wg]) 7 (by kernel_rfl) rfl ?_
  replace hB := hB.drew
  have o := qc.out.drew
  have m := qm.out.drew
  have p := qx.out.drew
  clear lc kc fc qc lx kx fx qx lm km fm qm
  refine rg_take (fuel := 5) [0, 2] (by kernel_rfl) (by intro _ _ d _ _ h; cases d <;> exact h) rfl (by kernel_rfl) (by kernel_rfl) o ?_
  simp only [pickL, pick1, List.cons_append, List.nil_append]
  (refine wpTake_cons (v := ?_) (Or.inl ⟨by rfl, ?_⟩) ?_; rotate_left; (intro w' hSw; have yc := hSw.c; clear hSw; go_simp; (try with_reducible rfl)); (try simp only [Act.put, List.setIfInBounds_toArray, List.set_cons_zero, List.set_cons_succ]))
  (refine wpTake_cons (v := ?_) (Or.inl ⟨by rfl, ?_⟩) ?_; rotate_left; (intro w' hSw; have yc := hSw.c; clear hSw; go_simp; (try with_reducible rfl)); (try simp only [Act.put, List.setIfInBounds_toArray, List.set_cons_zero, List.set_cons_succ]))
  refine wpTake_nil ?_
  generalize World.drew _ = W at hB o m p ⊢
  generalize hQ : Exit.then _ _ = Q9
  generalize hAc : Act.mk _ _ = a0
  have rest : ∀ (ga gb : Nat) (X : Option Addr) (xx : Nat) (W : World), Below w.heap.size w W → Own W (w.heap.size) [.int .i64 L, .int .i64 sl, .int .i64 rl, .int .i64 rh, .slice A n cap, .int .i64 wg] → Own W (w.heap.size + 1) [.int .i64 xp, .int .i64 xlo, .int .i64 xhi, .int .i64 xs, .int .i64 xw, .int .i64 xr] → Own W (w.heap.size + 2) [.int .i64 a, .int .i64 b, .int .i64 lv] → OwnT W ga 26 [.int .i64 L, .int .i64 sl, .int .i64 rl, .int .i64 rh, .slice X n xx, .int .i64 wg] → OwnT W gb 26 [.int .i64 L, .int .i64 sl, .int .i64 rl, .int .i64 rh, .slice A n cap, .int .i64 wg] → Hid (Gro W (w.heap.size + 3) 51 3 (.slice X n xx) (ks.map krow)) → (w.heap.size + 3 ≤ ga ∧ w.heap.size + 3 ≤ gb ∧ ga ≠ gb) → Hid (∀ k, (Value.slice X n xx).ownBlock = Option.some k → w.heap.size + 3 ≤ k ∧ k ≠ ga ∧ k ≠ gb) →
      Q9 .normal (((a0.put (some 40) (.agg #[.int .i64 L, .int .i64 sl, .int .i64 rl, .int .i64 rh, .slice X n xx, .int .i64 wg])).put (some 7) (.pointer (some ⟨ga, 0, none⟩))).put (some 8) (.pointer (some ⟨gb, 0, none⟩))) W := by
    subst hQ
    subst hAc
    clear o m p hB W
    intro ga gb X xx W hB qc qm qx td tz hGa ⟨hg1, hg2, hg3⟩ hXk
    simp only [Act.put, List.setIfInBounds_toArray, List.set_cons_zero, List.set_cons_succ]
    replace qc := Lib.hid qc
    replace qm := Lib.hid qm
    replace qx := Lib.hid qx
    have qd := Lib.hid td.own
    have qz := Lib.hid tz.own
    replace td := Lib.hid td
    replace tz := Lib.hid tz
    obtain ⟨lc, kc, fc⟩ := qc.out
    obtain ⟨lm, km, fm⟩ := qm.out
    obtain ⟨lx, kx, fx⟩ := qx.out
    obtain ⟨ld, kd, fd⟩ := qd.out
    obtain ⟨lz, kz, fz⟩ := qz.out
    obtain ⟨k0i, hk0, hk1, hk2, hk3⟩ := info_parts inf51
    have hr2 : (ks.map krow).length = n := by rw [List.length_map, hn.out]
    have hBx := Lib.hid (hB.alloc hB.size (.cells #[.int .i64 xp, .int .i64 xlo, .int .i64 xhi] 51))
    go_wp2_with (at_builtin; go_must (refine wpList_append_own _ rfl _ _ 24 rfl (w.heap.size + 3) 51 k0i (.agg #[.int .i64 0, .int .i64 0, .int .i64 0]) 3 24 Try.underlying24 hk0 hk1 hk2 hk3 rfl (by decide) _ _ _ rfl (hGa.out.2.alloc _) ⟨W.heap.size, 0, none⟩ 1 1 [.int .i64 xp, .int .i64 xlo, .int .i64 xhi] rfl rfl (fun j u hj => (by rw [Addr.add_lit, Nat.zero_add]; exact ((OwnT.new W #[.int .i64 xp, .int .i64 xlo, .int .i64 xhi] 51).own.c j).trans hj)) (by intro u hu; simp at hu; rcases hu with rfl | rfl | rfl <;> rfl) (by unfold maxLen; omega) (by omega) (by simp; omega) ?_; intro v' W2 hown' hgrow hnil; have g2 := Gro.grown hGa.out (r := [.int .i64 xp, .int .i64 xlo, .int .i64 xhi]) rfl hown'; have rc := (qc.out.alloc (.cells #[.int .i64 xp, .int .i64 xlo, .int .i64 xhi] 51)).keptBy hgrow (fun e => by have := (hXk.out _ e.symm).1; omega); have rm := (qm.out.alloc (.cells #[.int .i64 xp, .int .i64 xlo, .int .i64 xhi] 51)).keptBy hgrow (fun e => by have := (hXk.out _ e.symm).1; omega); have rx := (qx.out.alloc (.cells #[.int .i64 xp, .int .i64 xlo, .int .i64 xhi] 51)).keptBy hgrow (fun e => by have := (hXk.out _ e.symm).1; omega); have td2 := (td.out.below ((Below.refl _ _).alloc (Nat.le_refl _) (.cells #[.int .i64 xp, .int .i64 xlo, .int .i64 xhi] 51)) td.out.lt).keptBy hgrow (fun e => (hXk.out _ e.symm).2.1 rfl); have tz2 := (tz.out.below ((Below.refl _ _).alloc (Nat.le_refl _) (.cells #[.int .i64 xp, .int .i64 xlo, .int .i64 xhi] 51)) tz.out.lt).keptBy hgrow (fun e => (hXk.out _ e.symm).2.2 rfl); have rd := td2.own; have rz := tz2.own; have hB2 : Below w.heap.size w W2 := hBx.out.grown hgrow (by simp; have := hB.size; omega) (fun i hi => by have := hXk.out i hi; omega); clear hown' hgrow hnil hGa lc kc fc qc lm km fm qm lx kx fx qx ld kd fd qd lz kz fz qz hB hBx td tz; obtain ⟨X3, x3, rfl, _⟩ := g2.out; have hX9 : Hid (∀ b off, X3 = some ⟨b, off, none⟩ → b ≠ ga ∧ b ≠ gb) := Lib.hid (fun b off e => ⟨fun e9 => td2.apart g2 (by decide) (by rw [e, e9]; rfl), fun e9 => tz2.apart g2 (by decide) (by rw [e, e9]; rfl)⟩); clear td2 tz2; (try rw [List.length_append, hr2] at g2); (try rw [List.length_append, hr2]); (try simp only [List.length_cons, List.length_nil, Nat.zero_add] at g2); (try simp only [List.length_cons, List.length_nil, Nat.zero_add]); have HG := Lib.hid g2; have qc := Lib.hid rc; have qm := Lib.hid rm; have qx := Lib.hid rx; have qd := Lib.hid rd; have qz := Lib.hid rz; obtain ⟨lc, kc, fc⟩ := rc; obtain ⟨lm, km, fm⟩ := rm; obtain ⟨lx, kx, fx⟩ := rx; obtain ⟨ld, kd, fd⟩ := rd; obtain ⟨lz, kz, fz⟩ := rz; clear g2))
    refine calls_gen fun W9 hW => ?_
    have hB1 : Below w.heap.size w W9 := by rw [hW]; exact ((((hB2.setCell (by show w.heap.size ≤ ga; omega) _).setCell (by show w.heap.size ≤ gb; omega) _).setCell (by show w.heap.size ≤ gb; omega) _).setCell (by show w.heap.size ≤ gb; omega) _).setCell (by show w.heap.size ≤ gb; omega) _
    have pc : Own W9 (w.heap.size) [.int .i64 L, .int .i64 sl, .int .i64 rl, .int .i64 rh, .slice A n cap, .int .i64 wg] := by rw [hW]; exact ((((qc.out.setOther (by show ga ≠ _; omega) _).setOther (by show gb ≠ _; omega) _).setOther (by show gb ≠ _; omega) _).setOther (by show gb ≠ _; omega) _).setOther (by show gb ≠ _; omega) _
    have px : Own W9 (w.heap.size + 2) [.int .i64 a, .int .i64 b, .int .i64 lv] := by rw [hW]; exact ((((qx.out.setOther (by show ga ≠ _; omega) _).setOther (by show gb ≠ _; omega) _).setOther (by show gb ≠ _; omega) _).setOther (by show gb ≠ _; omega) _).setOther (by show gb ≠ _; omega) _
    have pd : Own W9 (ga) [.int .i64 L, .int .i64 sl, .int .i64 rl, .int .i64 rh, .slice X3 (n + 1) x3, .int .i64 wg] := by rw [hW]; exact ((((qd.out.set 4 (by simp) _).setOther (by show gb ≠ _; omega) _).setOther (by show gb ≠ _; omega) _).setOther (by show gb ≠ _; omega) _).setOther (by show gb ≠ _; omega) _
    have pz : Own W9 (gb) [.int .i64 L, .int .i64 (sl + xs), .int .i64 (rl - xr), .int .i64 (rh + xr), .slice A n cap, .int .i64 (wg + xw)] := by rw [hW]; exact ((((qz.out.setOther (by show ga ≠ _; omega) _).set 1 (by simp) _).set 5 (by simp) _).set 2 (by simp) _).set 3 (by simp) _
    have HO1 : Hid (Rd 3 W9 X3 ((ks ++ [(⟨xp, xlo, xhi⟩ : Kn)]).map krow)) := by
      rw [hW]
      have k1 := HG.out
      rw [show ((ks.map krow) ++ [[Value.int .i64 xp, Value.int .i64 xlo, Value.int .i64 xhi]]) = (ks ++ [(⟨xp, xlo, xhi⟩ : Kn)]).map krow by rw [List.map_append]; rfl] at k1
      obtain ⟨Y9, y9, e9, k2⟩ := k1.out
      obtain ⟨rfl, _, rfl⟩ : X3 = Y9 ∧ n + 1 = ((ks ++ [(⟨xp, xlo, xhi⟩ : Kn)]).map krow).length ∧ x3 = y9 := by simpa using e9
      refine Lib.hid (((((k2.setCell ?_ _).setCell ?_ _).setCell ?_ _).setCell ?_ _).setCell ?_ _) <;> (intro b9 off9 e8; have h9 := hX9.out b9 off9 e8; (first | exact fun e => h9.1 e.symm | exact fun e => h9.2 e.symm))
    have hno : Hid (n + 1 = (ks ++ [(⟨xp, xlo, xhi⟩ : Kn)]).length) := Lib.hid (by rw [List.length_append, hn.out]; rfl)
    clear hW hB2 lc kc fc qc lm km fm qm lx kx fx qx ld kd fd qd lz kz fz qz HG hXk
    cases hro : readyB L sl rl rh wg (ks ++ [⟨xp, xlo, xhi⟩])
    · have HR := Lib.hid hro
      clear hro
      refine (ready18v false L sl rl rh wg X3 (n + 1) x3 (ks ++ [⟨xp, xlo, xhi⟩]) _ HR HO1.out hno (by omega)).mono ?_
      rintro e V50 ⟨rfl, hb⟩
      have hB := hB1.trans (hb.mono hB1.size)
      have HO := Lib.hid (HO1.out.below hb (Nat.le_refl _))
      have qc := Lib.hid (pc.below hb pc.lt)
      have qx := Lib.hid (px.below hb px.lt)
      have qd := Lib.hid (pd.below hb pd.lt)
      have qz := Lib.hid (pz.below hb pz.lt)
      try clear hsz
      clear hb hB1 pc px pd pz HO1
      obtain ⟨lc, kc, fc⟩ := qc.out
      obtain ⟨lx, kx, fx⟩ := qx.out
      obtain ⟨ld, kd, fd⟩ := qd.out
      obtain ⟨lz, kz, fz⟩ := qz.out
      clear HR
      cases hrp : readyB L (sl + xs) (rl - xr) (rh + xr) (wg + xw) ks
      · have HR := Lib.hid hrp
        clear hrp
        go_wp2_with fail
        refine calls_gen fun W51 hW => ?_
        have hB1 : Below w.heap.size w W51 := by rw [hW]; (repeat' (first | (with_reducible exact Below.refl _ _) | (with_reducible assumption) | (with_reducible refine Below.drew ?_) | (with_reducible refine below_drewN ?_ _) | (with_reducible refine Below.setCell ?_ ?_ _) | (with_reducible refine Below.alloc ?_ ?_ _) | (refine Below.trans ?_ (Below.mono (by with_reducible assumption) ?_)) | omega | (exact Below.size (by with_reducible assumption)) | (simp; done) | (simp; omega)))
        have hBV : Below V50.heap.size V50 W51 := by rw [hW]; (repeat' (first | (with_reducible exact Below.refl _ _) | (with_reducible assumption) | (with_reducible refine Below.drew ?_) | (with_reducible refine below_drewN ?_ _) | (with_reducible refine Below.setCell ?_ ?_ _) | (with_reducible refine Below.alloc ?_ ?_ _) | (refine Below.trans ?_ (Below.mono (by with_reducible assumption) ?_)) | omega | (exact Below.size (by with_reducible assumption)) | (simp; done) | (simp; omega)))
        have hsz := hBV.size
        have HO1 := Lib.hid (HO.out.below hBV (Nat.le_refl _))
        have pc : Own W51 (w.heap.size) [.int .i64 L, .int .i64 sl, .int .i64 rl, .int .i64 rh, .slice A n cap, .int .i64 wg] := by rw [hW]; exact qc.out
        have px : Own W51 (w.heap.size + 2) [.int .i64 a, .int .i64 b, .int .i64 lv] := by rw [hW]; exact qx.out
        have pd : Own W51 (ga) [.int .i64 L, .int .i64 sl, .int .i64 rl, .int .i64 rh, .slice X3 (n + 1) x3, .int .i64 wg] := by rw [hW]; exact qd.out
        have pz : Own W51 (gb) [.int .i64 L, .int .i64 (sl + xs), .int .i64 (rl - xr), .int .i64 (rh + xr), .slice A n cap, .int .i64 (wg + xw)] := by rw [hW]; exact qz.out
        try clear hBV
        try clear hB
        clear hW lc kc fc qc lx kx fx qx ld kd fd qd lz kz fz qz HO
        refine (ready18v false L (sl + xs) (rl - xr) (rh + xr) (wg + xw) A n cap ks _ HR (HA.out.below hB1 (Nat.le_refl _)) hn hlen).mono ?_
        rintro e V51 ⟨rfl, hb⟩
        have hB := hB1.trans (hb.mono hB1.size)
        have HO := Lib.hid (HO1.out.below hb (Nat.le_refl _))
        have qc := Lib.hid (pc.below hb pc.lt)
        have qx := Lib.hid (px.below hb px.lt)
        have qd := Lib.hid (pd.below hb pd.lt)
        have qz := Lib.hid (pz.below hb pz.lt)
        try clear hsz
        clear hb hB1 pc px pd pz HO1
        obtain ⟨lc, kc, fc⟩ := qc.out
        obtain ⟨lx, kx, fx⟩ := qx.out
        obtain ⟨ld, kd, fd⟩ := qd.out
        obtain ⟨lz, kz, fz⟩ := qz.out
        go_wp2_with fail
        refine calls_gen fun W52 hW => ?_
        have hB1 : Below w.heap.size w W52 := by rw [hW]; (repeat' (first | (with_reducible exact Below.refl _ _) | (with_reducible assumption) | (with_reducible refine Below.drew ?_) | (with_reducible refine below_drewN ?_ _) | (with_reducible refine Below.setCell ?_ ?_ _) | (with_reducible refine Below.alloc ?_ ?_ _) | (refine Below.trans ?_ (Below.mono (by with_reducible assumption) ?_)) | omega | (exact Below.size (by with_reducible assumption)) | (simp; done) | (simp; omega)))
        have hBV : Below V51.heap.size V51 W52 := by rw [hW]; (repeat' (first | (with_reducible exact Below.refl _ _) | (with_reducible assumption) | (with_reducible refine Below.drew ?_) | (with_reducible refine below_drewN ?_ _) | (with_reducible refine Below.setCell ?_ ?_ _) | (with_reducible refine Below.alloc ?_ ?_ _) | (refine Below.trans ?_ (Below.mono (by with_reducible assumption) ?_)) | omega | (exact Below.size (by with_reducible assumption)) | (simp; done) | (simp; omega)))
        have hsz := hBV.size
        have HO1 := Lib.hid (HO.out.below hBV (Nat.le_refl _))
        have pc : Own W52 (w.heap.size) [.int .i64 L, .int .i64 sl, .int .i64 rl, .int .i64 rh, .slice A n cap, .int .i64 wg] := by rw [hW]; exact qc.out
        have px : Own W52 (w.heap.size + 2) [.int .i64 a, .int .i64 b, .int .i64 lv] := by rw [hW]; exact qx.out
        have pd : Own W52 (ga) [.int .i64 L, .int .i64 sl, .int .i64 rl, .int .i64 rh, .slice X3 (n + 1) x3, .int .i64 wg] := by rw [hW]; exact qd.out
        have pz : Own W52 (gb) [.int .i64 L, .int .i64 (sl + xs), .int .i64 (rl - xr), .int .i64 (rh + xr), .slice A n cap, .int .i64 (wg + xw)] := by rw [hW]; exact qz.out
        try clear hBV
        try clear hB
        clear hW lc kc fc qc lx kx fx qx ld kd fd qd lz kz fz qz HO
        refine (works13 _).mono ?_
        rintro e V52 ⟨rfl, hb⟩
        have hB := hB1.trans (hb.mono hB1.size)
        have HO := Lib.hid (HO1.out.below hb (Nat.le_refl _))
        have qc := Lib.hid (pc.below hb pc.lt)
        have qx := Lib.hid (px.below hb px.lt)
        have qd := Lib.hid (pd.below hb pd.lt)
        have qz := Lib.hid (pz.below hb pz.lt)
        try clear hsz
        clear hb hB1 pc px pd pz HO1
        obtain ⟨lc, kc, fc⟩ := qc.out
        obtain ⟨lx, kx, fx⟩ := qx.out
        obtain ⟨ld, kd, fd⟩ := qd.out
        obtain ⟨lz, kz, fz⟩ := qz.out
        go_wp2
        go_ret
        exact ⟨rfl, hB⟩
      · have HR := Lib.hid hrp
        clear hrp
        go_wp2_with fail
        refine calls_gen fun W51 hW => ?_
        have hB1 : Below w.heap.size w W51 := by rw [hW]; (repeat' (first | (with_reducible exact Below.refl _ _) | (with_reducible assumption) | (with_reducible refine Below.drew ?_) | (with_reducible refine below_drewN ?_ _) | (with_reducible refine Below.setCell ?_ ?_ _) | (with_reducible refine Below.alloc ?_ ?_ _) | (refine Below.trans ?_ (Below.mono (by with_reducible assumption) ?_)) | omega | (exact Below.size (by with_reducible assumption)) | (simp; done) | (simp; omega)))
        have hBV : Below V50.heap.size V50 W51 := by rw [hW]; (repeat' (first | (with_reducible exact Below.refl _ _) | (with_reducible assumption) | (with_reducible refine Below.drew ?_) | (with_reducible refine below_drewN ?_ _) | (with_reducible refine Below.setCell ?_ ?_ _) | (with_reducible refine Below.alloc ?_ ?_ _) | (refine Below.trans ?_ (Below.mono (by with_reducible assumption) ?_)) | omega | (exact Below.size (by with_reducible assumption)) | (simp; done) | (simp; omega)))
        have hsz := hBV.size
        have HO1 := Lib.hid (HO.out.below hBV (Nat.le_refl _))
        have pc : Own W51 (w.heap.size) [.int .i64 L, .int .i64 sl, .int .i64 rl, .int .i64 rh, .slice A n cap, .int .i64 wg] := by rw [hW]; exact qc.out
        have px : Own W51 (w.heap.size + 2) [.int .i64 a, .int .i64 b, .int .i64 lv] := by rw [hW]; exact qx.out
        have pd : Own W51 (ga) [.int .i64 L, .int .i64 sl, .int .i64 rl, .int .i64 rh, .slice X3 (n + 1) x3, .int .i64 wg] := by rw [hW]; exact qd.out
        have pz : Own W51 (gb) [.int .i64 L, .int .i64 (sl + xs), .int .i64 (rl - xr), .int .i64 (rh + xr), .slice A n cap, .int .i64 (wg + xw)] := by rw [hW]; exact qz.out
        try clear hBV
        try clear hB
        clear hW lc kc fc qc lx kx fx qx ld kd fd qd lz kz fz qz HO
        refine (ready18v true L (sl + xs) (rl - xr) (rh + xr) (wg + xw) A n cap ks _ HR (HA.out.below hB1 (Nat.le_refl _)) hn hlen).mono ?_
        rintro e V51 ⟨rfl, hb⟩
        have hB := hB1.trans (hb.mono hB1.size)
        have HO := Lib.hid (HO1.out.below hb (Nat.le_refl _))
        have qc := Lib.hid (pc.below hb pc.lt)
        have qx := Lib.hid (px.below hb px.lt)
        have qd := Lib.hid (pd.below hb pd.lt)
        have qz := Lib.hid (pz.below hb pz.lt)
        try clear hsz
        clear hb hB1 pc px pd pz HO1
        obtain ⟨lc, kc, fc⟩ := qc.out
        obtain ⟨lx, kx, fx⟩ := qx.out
        obtain ⟨ld, kd, fd⟩ := qd.out
        obtain ⟨lz, kz, fz⟩ := qz.out
        have HCP := Lib.hid (ready_iff.1 HR.out).2
        have HWP := Lib.hid (wider_more (L := L) (sl := sl) (rl := rl) (rh := rh) (wg := wg) (ks := ks) (s := xs) (w := xw) (r := xr) (by omega) (by omega) (by omega))
        clear HR
        go_wp2_with fail
        refine calls_gen fun W52 hW => ?_
        have hB1 : Below w.heap.size w W52 := by rw [hW]; (repeat' (first | (with_reducible exact Below.refl _ _) | (with_reducible assumption) | (with_reducible refine Below.drew ?_) | (with_reducible refine below_drewN ?_ _) | (with_reducible refine Below.setCell ?_ ?_ _) | (with_reducible refine Below.alloc ?_ ?_ _) | (refine Below.trans ?_ (Below.mono (by with_reducible assumption) ?_)) | omega | (exact Below.size (by with_reducible assumption)) | (simp; done) | (simp; omega)))
        have hBV : Below V51.heap.size V51 W52 := by rw [hW]; (repeat' (first | (with_reducible exact Below.refl _ _) | (with_reducible assumption) | (with_reducible refine Below.drew ?_) | (with_reducible refine below_drewN ?_ _) | (with_reducible refine Below.setCell ?_ ?_ _) | (with_reducible refine Below.alloc ?_ ?_ _) | (refine Below.trans ?_ (Below.mono (by with_reducible assumption) ?_)) | omega | (exact Below.size (by with_reducible assumption)) | (simp; done) | (simp; omega)))
        have hsz := hBV.size
        have HO1 := Lib.hid (HO.out.below hBV (Nat.le_refl _))
        have pc : Own W52 (w.heap.size) [.int .i64 L, .int .i64 sl, .int .i64 rl, .int .i64 rh, .slice A n cap, .int .i64 wg] := by rw [hW]; exact qc.out
        have px : Own W52 (w.heap.size + 2) [.int .i64 a, .int .i64 b, .int .i64 lv] := by rw [hW]; exact qx.out
        have pd : Own W52 (ga) [.int .i64 L, .int .i64 sl, .int .i64 rl, .int .i64 rh, .slice X3 (n + 1) x3, .int .i64 wg] := by rw [hW]; exact qd.out
        have pz : Own W52 (gb) [.int .i64 L, .int .i64 (sl + xs), .int .i64 (rl - xr), .int .i64 (rh + xr), .slice A n cap, .int .i64 (wg + xw)] := by rw [hW]; exact qz.out
        try clear hBV
        try clear hB
        clear hW lc kc fc qc lx kx fx qx ld kd fd qd lz kz fz qz HO
        refine (narrower32 L sl rl rh wg A n cap ks (sl + xs) (rl - xr) (rh + xr) (wg + xw) A n cap ks a b lv _ (HA.out.below hB1 (Nat.le_refl _)) hn hlen (HA.out.below hB1 (Nat.le_refl _)) hn hlen HC HCP HWP ha0 hab hbL).mono ?_
        rintro e V52 ⟨rfl, hb⟩
        have hB := hB1.trans (hb.mono hB1.size)
        have HO := Lib.hid (HO1.out.below hb (Nat.le_refl _))
        have qc := Lib.hid (pc.below hb pc.lt)
        have qx := Lib.hid (px.below hb px.lt)
        have qd := Lib.hid (pd.below hb pd.lt)
        have qz := Lib.hid (pz.below hb pz.lt)
        try clear hsz
        clear hb hB1 pc px pd pz HO1
        obtain ⟨lc, kc, fc⟩ := qc.out
        obtain ⟨lx, kx, fx⟩ := qx.out
        obtain ⟨ld, kd, fd⟩ := qd.out
        obtain ⟨lz, kz, fz⟩ := qz.out
        go_wp2_with fail
        refine calls_gen fun W53 hW => ?_
        have hB1 : Below w.heap.size w W53 := by rw [hW]; (repeat' (first | (with_reducible exact Below.refl _ _) | (with_reducible assumption) | (with_reducible refine Below.drew ?_) | (with_reducible refine below_drewN ?_ _) | (with_reducible refine Below.setCell ?_ ?_ _) | (with_reducible refine Below.alloc ?_ ?_ _) | (refine Below.trans ?_ (Below.mono (by with_reducible assumption) ?_)) | omega | (exact Below.size (by with_reducible assumption)) | (simp; done) | (simp; omega)))
        have hBV : Below V52.heap.size V52 W53 := by rw [hW]; (repeat' (first | (with_reducible exact Below.refl _ _) | (with_reducible assumption) | (with_reducible refine Below.drew ?_) | (with_reducible refine below_drewN ?_ _) | (with_reducible refine Below.setCell ?_ ?_ _) | (with_reducible refine Below.alloc ?_ ?_ _) | (refine Below.trans ?_ (Below.mono (by with_reducible assumption) ?_)) | omega | (exact Below.size (by with_reducible assumption)) | (simp; done) | (simp; omega)))
        have hsz := hBV.size
        have HO1 := Lib.hid (HO.out.below hBV (Nat.le_refl _))
        have pc : Own W53 (w.heap.size) [.int .i64 L, .int .i64 sl, .int .i64 rl, .int .i64 rh, .slice A n cap, .int .i64 wg] := by rw [hW]; exact qc.out
        have px : Own W53 (w.heap.size + 2) [.int .i64 a, .int .i64 b, .int .i64 lv] := by rw [hW]; exact qx.out
        have pd : Own W53 (ga) [.int .i64 L, .int .i64 sl, .int .i64 rl, .int .i64 rh, .slice X3 (n + 1) x3, .int .i64 wg] := by rw [hW]; exact qd.out
        have pz : Own W53 (gb) [.int .i64 L, .int .i64 (sl + xs), .int .i64 (rl - xr), .int .i64 (rh + xr), .slice A n cap, .int .i64 (wg + xw)] := by rw [hW]; exact qz.out
        try clear hBV
        try clear hB
        clear hW lc kc fc qc lx kx fx qx ld kd fd qd lz kz fz qz HO
        refine (works13 _).mono ?_
        rintro e V53 ⟨rfl, hb⟩
        have hB := hB1.trans (hb.mono hB1.size)
        have HO := Lib.hid (HO1.out.below hb (Nat.le_refl _))
        have qc := Lib.hid (pc.below hb pc.lt)
        have qx := Lib.hid (px.below hb px.lt)
        have qd := Lib.hid (pd.below hb pd.lt)
        have qz := Lib.hid (pz.below hb pz.lt)
        try clear hsz
        clear hb hB1 pc px pd pz HO1
        obtain ⟨lc, kc, fc⟩ := qc.out
        obtain ⟨lx, kx, fx⟩ := qx.out
        obtain ⟨ld, kd, fd⟩ := qd.out
        obtain ⟨lz, kz, fz⟩ := qz.out
        go_wp2
        go_ret
        exact ⟨rfl, hB⟩
    · have HR := Lib.hid hro
      clear hro
      refine (ready18v true L sl rl rh wg X3 (n + 1) x3 (ks ++ [⟨xp, xlo, xhi⟩]) _ HR HO1.out hno (by omega)).mono ?_
      rintro e V50 ⟨rfl, hb⟩
      have hB := hB1.trans (hb.mono hB1.size)
      have HO := Lib.hid (HO1.out.below hb (Nat.le_refl _))
      have qc := Lib.hid (pc.below hb pc.lt)
      have qx := Lib.hid (px.below hb px.lt)
      have qd := Lib.hid (pd.below hb pd.lt)
      have qz := Lib.hid (pz.below hb pz.lt)
      try clear hsz
      clear hb hB1 pc px pd pz HO1
      obtain ⟨lc, kc, fc⟩ := qc.out
      obtain ⟨lx, kx, fx⟩ := qx.out
      obtain ⟨ld, kd, fd⟩ := qd.out
      obtain ⟨lz, kz, fz⟩ := qz.out
      have HCO := Lib.hid (ready_iff.1 HR.out).2
      have HWO := Lib.hid (wider_knot (L := L) (sl := sl) (rl := rl) (rh := rh) (wg := wg) (ks := ks) ⟨xp, xlo, xhi⟩)
      clear HR
      go_wp2_with fail
      refine calls_gen fun W51 hW => ?_
      have hB1 : Below w.heap.size w W51 := by rw [hW]; (repeat' (first | (with_reducible exact Below.refl _ _) | (with_reducible assumption) | (with_reducible refine Below.drew ?_) | (with_reducible refine below_drewN ?_ _) | (with_reducible refine Below.setCell ?_ ?_ _) | (with_reducible refine Below.alloc ?_ ?_ _) | (refine Below.trans ?_ (Below.mono (by with_reducible assumption) ?_)) | omega | (exact Below.size (by with_reducible assumption)) | (simp; done) | (simp; omega)))
      have hBV : Below V50.heap.size V50 W51 := by rw [hW]; (repeat' (first | (with_reducible exact Below.refl _ _) | (with_reducible assumption) | (with_reducible refine Below.drew ?_) | (with_reducible refine below_drewN ?_ _) | (with_reducible refine Below.setCell ?_ ?_ _) | (with_reducible refine Below.alloc ?_ ?_ _) | (refine Below.trans ?_ (Below.mono (by with_reducible assumption) ?_)) | omega | (exact Below.size (by with_reducible assumption)) | (simp; done) | (simp; omega)))
      have hsz := hBV.size
      have HO1 := Lib.hid (HO.out.below hBV (Nat.le_refl _))
      have pc : Own W51 (w.heap.size) [.int .i64 L, .int .i64 sl, .int .i64 rl, .int .i64 rh, .slice A n cap, .int .i64 wg] := by rw [hW]; exact qc.out
      have px : Own W51 (w.heap.size + 2) [.int .i64 a, .int .i64 b, .int .i64 lv] := by rw [hW]; exact qx.out
      have pd : Own W51 (ga) [.int .i64 L, .int .i64 sl, .int .i64 rl, .int .i64 rh, .slice X3 (n + 1) x3, .int .i64 wg] := by rw [hW]; exact qd.out
      have pz : Own W51 (gb) [.int .i64 L, .int .i64 (sl + xs), .int .i64 (rl - xr), .int .i64 (rh + xr), .slice A n cap, .int .i64 (wg + xw)] := by rw [hW]; exact qz.out
      try clear hBV
      try clear hB
      clear hW lc kc fc qc lx kx fx qx ld kd fd qd lz kz fz qz HO
      refine (narrower32 L sl rl rh wg X3 (n + 1) x3 (ks ++ [⟨xp, xlo, xhi⟩]) sl rl rh wg A n cap ks a b lv _ HO1.out hno (by omega) (HA.out.below hB1 (Nat.le_refl _)) hn hlen HCO HC HWO ha0 hab hbL).mono ?_
      rintro e V51 ⟨rfl, hb⟩
      have hB := hB1.trans (hb.mono hB1.size)
      have HO := Lib.hid (HO1.out.below hb (Nat.le_refl _))
      have qc := Lib.hid (pc.below hb pc.lt)
      have qx := Lib.hid (px.below hb px.lt)
      have qd := Lib.hid (pd.below hb pd.lt)
      have qz := Lib.hid (pz.below hb pz.lt)
      try clear hsz
      clear hb hB1 pc px pd pz HO1
      obtain ⟨lc, kc, fc⟩ := qc.out
      obtain ⟨lx, kx, fx⟩ := qx.out
      obtain ⟨ld, kd, fd⟩ := qd.out
      obtain ⟨lz, kz, fz⟩ := qz.out
      cases hrp : readyB L (sl + xs) (rl - xr) (rh + xr) (wg + xw) ks
      · have HR := Lib.hid hrp
        clear hrp
        go_wp2_with fail
        refine calls_gen fun W52 hW => ?_
        have hB1 : Below w.heap.size w W52 := by rw [hW]; (repeat' (first | (with_reducible exact Below.refl _ _) | (with_reducible assumption) | (with_reducible refine Below.drew ?_) | (with_reducible refine below_drewN ?_ _) | (with_reducible refine Below.setCell ?_ ?_ _) | (with_reducible refine Below.alloc ?_ ?_ _) | (refine Below.trans ?_ (Below.mono (by with_reducible assumption) ?_)) | omega | (exact Below.size (by with_reducible assumption)) | (simp; done) | (simp; omega)))
        have hBV : Below V51.heap.size V51 W52 := by rw [hW]; (repeat' (first | (with_reducible exact Below.refl _ _) | (with_reducible assumption) | (with_reducible refine Below.drew ?_) | (with_reducible refine below_drewN ?_ _) | (with_reducible refine Below.setCell ?_ ?_ _) | (with_reducible refine Below.alloc ?_ ?_ _) | (refine Below.trans ?_ (Below.mono (by with_reducible assumption) ?_)) | omega | (exact Below.size (by with_reducible assumption)) | (simp; done) | (simp; omega)))
        have hsz := hBV.size
        have HO1 := Lib.hid (HO.out.below hBV (Nat.le_refl _))
        have pc : Own W52 (w.heap.size) [.int .i64 L, .int .i64 sl, .int .i64 rl, .int .i64 rh, .slice A n cap, .int .i64 wg] := by rw [hW]; exact qc.out
        have px : Own W52 (w.heap.size + 2) [.int .i64 a, .int .i64 b, .int .i64 lv] := by rw [hW]; exact qx.out
        have pd : Own W52 (ga) [.int .i64 L, .int .i64 sl, .int .i64 rl, .int .i64 rh, .slice X3 (n + 1) x3, .int .i64 wg] := by rw [hW]; exact qd.out
        have pz : Own W52 (gb) [.int .i64 L, .int .i64 (sl + xs), .int .i64 (rl - xr), .int .i64 (rh + xr), .slice A n cap, .int .i64 (wg + xw)] := by rw [hW]; exact qz.out
        try clear hBV
        try clear hB
        clear hW lc kc fc qc lx kx fx qx ld kd fd qd lz kz fz qz HO
        refine (ready18v false L (sl + xs) (rl - xr) (rh + xr) (wg + xw) A n cap ks _ HR (HA.out.below hB1 (Nat.le_refl _)) hn hlen).mono ?_
        rintro e V52 ⟨rfl, hb⟩
        have hB := hB1.trans (hb.mono hB1.size)
        have HO := Lib.hid (HO1.out.below hb (Nat.le_refl _))
        have qc := Lib.hid (pc.below hb pc.lt)
        have qx := Lib.hid (px.below hb px.lt)
        have qd := Lib.hid (pd.below hb pd.lt)
        have qz := Lib.hid (pz.below hb pz.lt)
        try clear hsz
        clear hb hB1 pc px pd pz HO1
        obtain ⟨lc, kc, fc⟩ := qc.out
        obtain ⟨lx, kx, fx⟩ := qx.out
        obtain ⟨ld, kd, fd⟩ := qd.out
        obtain ⟨lz, kz, fz⟩ := qz.out
        go_wp2_with fail
        refine calls_gen fun W53 hW => ?_
        have hB1 : Below w.heap.size w W53 := by rw [hW]; (repeat' (first | (with_reducible exact Below.refl _ _) | (with_reducible assumption) | (with_reducible refine Below.drew ?_) | (with_reducible refine below_drewN ?_ _) | (with_reducible refine Below.setCell ?_ ?_ _) | (with_reducible refine Below.alloc ?_ ?_ _) | (refine Below.trans ?_ (Below.mono (by with_reducible assumption) ?_)) | omega | (exact Below.size (by with_reducible assumption)) | (simp; done) | (simp; omega)))
        have hBV : Below V52.heap.size V52 W53 := by rw [hW]; (repeat' (first | (with_reducible exact Below.refl _ _) | (with_reducible assumption) | (with_reducible refine Below.drew ?_) | (with_reducible refine below_drewN ?_ _) | (with_reducible refine Below.setCell ?_ ?_ _) | (with_reducible refine Below.alloc ?_ ?_ _) | (refine Below.trans ?_ (Below.mono (by with_reducible assumption) ?_)) | omega | (exact Below.size (by with_reducible assumption)) | (simp; done) | (simp; omega)))
        have hsz := hBV.size
        have HO1 := Lib.hid (HO.out.below hBV (Nat.le_refl _))
        have pc : Own W53 (w.heap.size) [.int .i64 L, .int .i64 sl, .int .i64 rl, .int .i64 rh, .slice A n cap, .int .i64 wg] := by rw [hW]; exact qc.out
        have px : Own W53 (w.heap.size + 2) [.int .i64 a, .int .i64 b, .int .i64 lv] := by rw [hW]; exact qx.out
        have pd : Own W53 (ga) [.int .i64 L, .int .i64 sl, .int .i64 rl, .int .i64 rh, .slice X3 (n + 1) x3, .int .i64 wg] := by rw [hW]; exact qd.out
        have pz : Own W53 (gb) [.int .i64 L, .int .i64 (sl + xs), .int .i64 (rl - xr), .int .i64 (rh + xr), .slice A n cap, .int .i64 (wg + xw)] := by rw [hW]; exact qz.out
        try clear hBV
        try clear hB
        clear hW lc kc fc qc lx kx fx qx ld kd fd qd lz kz fz qz HO
        refine (works13 _).mono ?_
        rintro e V53 ⟨rfl, hb⟩
        have hB := hB1.trans (hb.mono hB1.size)
        have HO := Lib.hid (HO1.out.below hb (Nat.le_refl _))
        have qc := Lib.hid (pc.below hb pc.lt)
        have qx := Lib.hid (px.below hb px.lt)
        have qd := Lib.hid (pd.below hb pd.lt)
        have qz := Lib.hid (pz.below hb pz.lt)
        try clear hsz
        clear hb hB1 pc px pd pz HO1
        obtain ⟨lc, kc, fc⟩ := qc.out
        obtain ⟨lx, kx, fx⟩ := qx.out
        obtain ⟨ld, kd, fd⟩ := qd.out
        obtain ⟨lz, kz, fz⟩ := qz.out
        go_wp2
        go_ret
        exact ⟨rfl, hB⟩
      · have HR := Lib.hid hrp
        clear hrp
        go_wp2_with fail
        refine calls_gen fun W52 hW => ?_
        have hB1 : Below w.heap.size w W52 := by rw [hW]; (repeat' (first | (with_reducible exact Below.refl _ _) | (with_reducible assumption) | (with_reducible refine Below.drew ?_) | (with_reducible refine below_drewN ?_ _) | (with_reducible refine Below.setCell ?_ ?_ _) | (with_reducible refine Below.alloc ?_ ?_ _) | (refine Below.trans ?_ (Below.mono (by with_reducible assumption) ?_)) | omega | (exact Below.size (by with_reducible assumption)) | (simp; done) | (simp; omega)))
        have hBV : Below V51.heap.size V51 W52 := by rw [hW]; (repeat' (first | (with_reducible exact Below.refl _ _) | (with_reducible assumption) | (with_reducible refine Below.drew ?_) | (with_reducible refine below_drewN ?_ _) | (with_reducible refine Below.setCell ?_ ?_ _) | (with_reducible refine Below.alloc ?_ ?_ _) | (refine Below.trans ?_ (Below.mono (by with_reducible assumption) ?_)) | omega | (exact Below.size (by with_reducible assumption)) | (simp; done) | (simp; omega)))
        have hsz := hBV.size
        have HO1 := Lib.hid (HO.out.below hBV (Nat.le_refl _))
        have pc : Own W52 (w.heap.size) [.int .i64 L, .int .i64 sl, .int .i64 rl, .int .i64 rh, .slice A n cap, .int .i64 wg] := by rw [hW]; exact qc.out
        have px : Own W52 (w.heap.size + 2) [.int .i64 a, .int .i64 b, .int .i64 lv] := by rw [hW]; exact qx.out
        have pd : Own W52 (ga) [.int .i64 L, .int .i64 sl, .int .i64 rl, .int .i64 rh, .slice X3 (n + 1) x3, .int .i64 wg] := by rw [hW]; exact qd.out
        have pz : Own W52 (gb) [.int .i64 L, .int .i64 (sl + xs), .int .i64 (rl - xr), .int .i64 (rh + xr), .slice A n cap, .int .i64 (wg + xw)] := by rw [hW]; exact qz.out
        try clear hBV
        try clear hB
        clear hW lc kc fc qc lx kx fx qx ld kd fd qd lz kz fz qz HO
        refine (ready18v true L (sl + xs) (rl - xr) (rh + xr) (wg + xw) A n cap ks _ HR (HA.out.below hB1 (Nat.le_refl _)) hn hlen).mono ?_
        rintro e V52 ⟨rfl, hb⟩
        have hB := hB1.trans (hb.mono hB1.size)
        have HO := Lib.hid (HO1.out.below hb (Nat.le_refl _))
        have qc := Lib.hid (pc.below hb pc.lt)
        have qx := Lib.hid (px.below hb px.lt)
        have qd := Lib.hid (pd.below hb pd.lt)
        have qz := Lib.hid (pz.below hb pz.lt)
        try clear hsz
        clear hb hB1 pc px pd pz HO1
        obtain ⟨lc, kc, fc⟩ := qc.out
        obtain ⟨lx, kx, fx⟩ := qx.out
        obtain ⟨ld, kd, fd⟩ := qd.out
        obtain ⟨lz, kz, fz⟩ := qz.out
        have HCP := Lib.hid (ready_iff.1 HR.out).2
        have HWP := Lib.hid (wider_more (L := L) (sl := sl) (rl := rl) (rh := rh) (wg := wg) (ks := ks) (s := xs) (w := xw) (r := xr) (by omega) (by omega) (by omega))
        clear HR
        go_wp2_with fail
        refine calls_gen fun W53 hW => ?_
        have hB1 : Below w.heap.size w W53 := by rw [hW]; (repeat' (first | (with_reducible exact Below.refl _ _) | (with_reducible assumption) | (with_reducible refine Below.drew ?_) | (with_reducible refine below_drewN ?_ _) | (with_reducible refine Below.setCell ?_ ?_ _) | (with_reducible refine Below.alloc ?_ ?_ _) | (refine Below.trans ?_ (Below.mono (by with_reducible assumption) ?_)) | omega | (exact Below.size (by with_reducible assumption)) | (simp; done) | (simp; omega)))
        have hBV : Below V52.heap.size V52 W53 := by rw [hW]; (repeat' (first | (with_reducible exact Below.refl _ _) | (with_reducible assumption) | (with_reducible refine Below.drew ?_) | (with_reducible refine below_drewN ?_ _) | (with_reducible refine Below.setCell ?_ ?_ _) | (with_reducible refine Below.alloc ?_ ?_ _) | (refine Below.trans ?_ (Below.mono (by with_reducible assumption) ?_)) | omega | (exact Below.size (by with_reducible assumption)) | (simp; done) | (simp; omega)))
        have hsz := hBV.size
        have HO1 := Lib.hid (HO.out.below hBV (Nat.le_refl _))
        have pc : Own W53 (w.heap.size) [.int .i64 L, .int .i64 sl, .int .i64 rl, .int .i64 rh, .slice A n cap, .int .i64 wg] := by rw [hW]; exact qc.out
        have px : Own W53 (w.heap.size + 2) [.int .i64 a, .int .i64 b, .int .i64 lv] := by rw [hW]; exact qx.out
        have pd : Own W53 (ga) [.int .i64 L, .int .i64 sl, .int .i64 rl, .int .i64 rh, .slice X3 (n + 1) x3, .int .i64 wg] := by rw [hW]; exact qd.out
        have pz : Own W53 (gb) [.int .i64 L, .int .i64 (sl + xs), .int .i64 (rl - xr), .int .i64 (rh + xr), .slice A n cap, .int .i64 (wg + xw)] := by rw [hW]; exact qz.out
        try clear hBV
        try clear hB
        clear hW lc kc fc qc lx kx fx qx ld kd fd qd lz kz fz qz HO
        refine (narrower32 L sl rl rh wg A n cap ks (sl + xs) (rl - xr) (rh + xr) (wg + xw) A n cap ks a b lv _ (HA.out.below hB1 (Nat.le_refl _)) hn hlen (HA.out.below hB1 (Nat.le_refl _)) hn hlen HC HCP HWP ha0 hab hbL).mono ?_
        rintro e V53 ⟨rfl, hb⟩
        have hB := hB1.trans (hb.mono hB1.size)
        have HO := Lib.hid (HO1.out.below hb (Nat.le_refl _))
        have qc := Lib.hid (pc.below hb pc.lt)
        have qx := Lib.hid (px.below hb px.lt)
        have qd := Lib.hid (pd.below hb pd.lt)
        have qz := Lib.hid (pz.below hb pz.lt)
        try clear hsz
        clear hb hB1 pc px pd pz HO1
        obtain ⟨lc, kc, fc⟩ := qc.out
        obtain ⟨lx, kx, fx⟩ := qx.out
        obtain ⟨ld, kd, fd⟩ := qd.out
        obtain ⟨lz, kz, fz⟩ := qz.out
        go_wp2_with fail
        refine calls_gen fun W54 hW => ?_
        have hB1 : Below w.heap.size w W54 := by rw [hW]; (repeat' (first | (with_reducible exact Below.refl _ _) | (with_reducible assumption) | (with_reducible refine Below.drew ?_) | (with_reducible refine below_drewN ?_ _) | (with_reducible refine Below.setCell ?_ ?_ _) | (with_reducible refine Below.alloc ?_ ?_ _) | (refine Below.trans ?_ (Below.mono (by with_reducible assumption) ?_)) | omega | (exact Below.size (by with_reducible assumption)) | (simp; done) | (simp; omega)))
        have hBV : Below V53.heap.size V53 W54 := by rw [hW]; (repeat' (first | (with_reducible exact Below.refl _ _) | (with_reducible assumption) | (with_reducible refine Below.drew ?_) | (with_reducible refine below_drewN ?_ _) | (with_reducible refine Below.setCell ?_ ?_ _) | (with_reducible refine Below.alloc ?_ ?_ _) | (refine Below.trans ?_ (Below.mono (by with_reducible assumption) ?_)) | omega | (exact Below.size (by with_reducible assumption)) | (simp; done) | (simp; omega)))
        have hsz := hBV.size
        have HO1 := Lib.hid (HO.out.below hBV (Nat.le_refl _))
        have pc : Own W54 (w.heap.size) [.int .i64 L, .int .i64 sl, .int .i64 rl, .int .i64 rh, .slice A n cap, .int .i64 wg] := by rw [hW]; exact qc.out
        have px : Own W54 (w.heap.size + 2) [.int .i64 a, .int .i64 b, .int .i64 lv] := by rw [hW]; exact qx.out
        have pd : Own W54 (ga) [.int .i64 L, .int .i64 sl, .int .i64 rl, .int .i64 rh, .slice X3 (n + 1) x3, .int .i64 wg] := by rw [hW]; exact qd.out
        have pz : Own W54 (gb) [.int .i64 L, .int .i64 (sl + xs), .int .i64 (rl - xr), .int .i64 (rh + xr), .slice A n cap, .int .i64 (wg + xw)] := by rw [hW]; exact qz.out
        try clear hBV
        try clear hB
        clear hW lc kc fc qc lx kx fx qx ld kd fd qd lz kz fz qz HO
        refine (works13 _).mono ?_
        rintro e V54 ⟨rfl, hb⟩
        have hB := hB1.trans (hb.mono hB1.size)
        have HO := Lib.hid (HO1.out.below hb (Nat.le_refl _))
        have qc := Lib.hid (pc.below hb pc.lt)
        have qx := Lib.hid (px.below hb px.lt)
        have qd := Lib.hid (pd.below hb pd.lt)
        have qz := Lib.hid (pz.below hb pz.lt)
        try clear hsz
        clear hb hB1 pc px pd pz HO1
        obtain ⟨lc, kc, fc⟩ := qc.out
        obtain ⟨lx, kx, fx⟩ := qx.out
        obtain ⟨ld, kd, fd⟩ := qd.out
        obtain ⟨lz, kz, fz⟩ := qz.out
        go_wp2
        go_ret
        exact ⟨rfl, hB⟩
  clear hQ
  subst hAc
  refine rg_many (fuel := 4) [1, 3, 4] rfl (by simp) (by kernel_rfl) (by kernel_rfl) ?_
  intro c hc
  rcases (show c = 1 ∨ c = 3 ∨ c = 4 by simpa using hc) with rfl | rfl | rfl
  · intro K hK
    simp only [pick1, wpHead]
    rw [if_pos (by rfl)]
    go_simp
    refine (copy14 L sl rl rh wg A n cap ks _ (HA.out.below hB (Nat.le_refl _)) hn (by omega)).mono ?_
    rintro e W' ⟨X, xx, rfl, Ga, hb⟩
    replace Ga := Ga.base (base' := w.heap.size + 3) p.lt
    go_simp
    replace o := o.below hb o.lt
    replace m := m.below hb m.lt
    replace p := p.below hb p.lt
    refine hK.out _ _ o ?_
    replace hB := hB.trans (hb.mono hB.size)
    clear hb hK
    (try simp only [Act.put, List.setIfInBounds_toArray, List.set_cons_zero, List.set_cons_succ])
    refine rg_many (fuel := 3) [3, 4] rfl (by simp) (by kernel_rfl) (by kernel_rfl) ?_
    intro c hc
    rcases (show c = 3 ∨ c = 4 by simpa using hc) with rfl | rfl
    · intro K hK
      simp only [pick1, wpHead]
      rw [if_pos (by rfl)]
      go_simp
      have hg := p.lt
      have ta := OwnT.new W' #[.int .i64 0, .int .i64 0, .int .i64 0, .int .i64 0, .slice none 0 0, .int .i64 0] 26
      have hb := (Below.refl W'.heap.size W').alloc (Nat.le_refl _) (.cells #[.int .i64 0, .int .i64 0, .int .i64 0, .int .i64 0, .slice none 0 0, .int .i64 0] 26)
      have hga : w.heap.size + 3 ≤ W'.heap.size := p.lt
      obtain ⟨ga, hge⟩ : ∃ g, g = W'.heap.size := ⟨_, rfl⟩
      rw [← hge] at ta hga ⊢
      generalize hWe : World.alloc W' _ = W' at hb ta ⊢
      clear hge hWe hg
      replace o := o.below hb o.lt
      replace m := m.below hb m.lt
      replace p := p.below hb p.lt
      refine hK.out _ _ o ?_
      replace hB := hB.trans (hb.mono hB.size)
      replace Ga := Ga.below hb (Nat.le_refl _)
      clear hb hK
      (try simp only [Act.put, List.setIfInBounds_toArray, List.set_cons_zero, List.set_cons_succ])
      refine rg_many (fuel := 2) [4] rfl (by simp) (by kernel_rfl) (by kernel_rfl) ?_
      intro c hc
      rcases (show c = 4 by simpa using hc) with rfl
      · intro K hK
        simp only [pick1, wpHead]
        rw [if_pos (by rfl)]
        go_simp
        have hg := p.lt
        have tb := OwnT.new W' #[.int .i64 0, .int .i64 0, .int .i64 0, .int .i64 0, .slice none 0 0, .int .i64 0] 26
        have hb := (Below.refl W'.heap.size W').alloc (Nat.le_refl _) (.cells #[.int .i64 0, .int .i64 0, .int .i64 0, .int .i64 0, .slice none 0 0, .int .i64 0] 26)
        have habx := ta.lt
        have hgb : w.heap.size + 3 ≤ W'.heap.size := p.lt
        obtain ⟨gb, hge⟩ : ∃ g, g = W'.heap.size := ⟨_, rfl⟩
        rw [← hge] at tb hgb habx ⊢
        generalize hWe : World.alloc W' _ = W' at hb tb ⊢
        have hab9 : ga ≠ gb := by omega
        clear hge hWe hg
        replace o := o.below hb o.lt
        replace m := m.below hb m.lt
        replace p := p.below hb p.lt
        refine hK.out _ _ o ?_
        replace hB := hB.trans (hb.mono hB.size)
        replace Ga := Ga.below hb (Nat.le_refl _)
        replace ta := ta.below hb ta.lt
        clear hb hK
        (try simp only [Act.put, List.setIfInBounds_toArray, List.set_cons_zero, List.set_cons_succ])
        refine rg_one (fuel := 1) 5 rfl (by kernel_rfl) (by kernel_rfl) ?_
        simp only [pick1, wpHead]
        intro K hK
        rw [if_pos (by rfl)]
        obtain ⟨ly, ky, fy⟩ := ta.own
        go_simp
        refine hK.out _ _ (put6_other o (by omega)) ?_
        clear hK K ly ky fy
        replace Ga := put6_gro (x0 := .int .i64 L) (x1 := .int .i64 sl) (x2 := .int .i64 rl) (x3 := .int .i64 rh) (x4 := .slice X n xx) (x5 := .int .i64 wg) Ga (ta.apart Ga (by decide))
        replace o := put6_other (x0 := .int .i64 L) (x1 := .int .i64 sl) (x2 := .int .i64 rl) (x3 := .int .i64 rh) (x4 := .slice X n xx) (x5 := .int .i64 wg) (g := ga) o (by omega)
        replace m := put6_other (x0 := .int .i64 L) (x1 := .int .i64 sl) (x2 := .int .i64 rl) (x3 := .int .i64 rh) (x4 := .slice X n xx) (x5 := .int .i64 wg) (g := ga) m (by omega)
        replace p := put6_other (x0 := .int .i64 L) (x1 := .int .i64 sl) (x2 := .int .i64 rl) (x3 := .int .i64 rh) (x4 := .slice X n xx) (x5 := .int .i64 wg) (g := ga) p (by omega)
        replace hB := put6_below (x0 := .int .i64 L) (x1 := .int .i64 sl) (x2 := .int .i64 rl) (x3 := .int .i64 rh) (x4 := .slice X n xx) (x5 := .int .i64 wg) (g := ga) hB (by omega)
        replace tb := put6_ownT (x0 := .int .i64 L) (x1 := .int .i64 sl) (x2 := .int .i64 rl) (x3 := .int .i64 rh) (x4 := .slice X n xx) (x5 := .int .i64 wg) (g := ga) tb (by omega)
        replace ta := put6_own (x0 := .int .i64 L) (x1 := .int .i64 sl) (x2 := .int .i64 rl) (x3 := .int .i64 rh) (x4 := .slice X n xx) (x5 := .int .i64 wg) ta
        obtain ⟨W8, hW9⟩ : ∃ W9, W9 = put6 W' ga (.int .i64 L) (.int .i64 sl) (.int .i64 rl) (.int .i64 rh) (.slice X n xx) (.int .i64 wg) := ⟨_, rfl⟩
        rw [← hW9] at Ga o m p hB ta tb
        simp only [put6] at hW9
        rw [← hW9]
        clear hW9
        refine rg_one (fuel := 0) 6 rfl (by kernel_rfl) (by kernel_rfl) ?_
        simp only [pick1, wpHead]
        intro K hK
        rw [if_pos (by rfl)]
        obtain ⟨ly, ky, fy⟩ := tb.own
        go_simp
        refine hK.out _ _ (put6_other o (by omega)) ?_
        clear hK K ly ky fy
        replace Ga := put6_gro (x0 := .int .i64 L) (x1 := .int .i64 sl) (x2 := .int .i64 rl) (x3 := .int .i64 rh) (x4 := .slice A n cap) (x5 := .int .i64 wg) Ga (tb.apart Ga (by decide))
        replace o := put6_other (x0 := .int .i64 L) (x1 := .int .i64 sl) (x2 := .int .i64 rl) (x3 := .int .i64 rh) (x4 := .slice A n cap) (x5 := .int .i64 wg) (g := gb) o (by omega)
        replace m := put6_other (x0 := .int .i64 L) (x1 := .int .i64 sl) (x2 := .int .i64 rl) (x3 := .int .i64 rh) (x4 := .slice A n cap) (x5 := .int .i64 wg) (g := gb) m (by omega)
        replace p := put6_other (x0 := .int .i64 L) (x1 := .int .i64 sl) (x2 := .int .i64 rl) (x3 := .int .i64 rh) (x4 := .slice A n cap) (x5 := .int .i64 wg) (g := gb) p (by omega)
        replace hB := put6_below (x0 := .int .i64 L) (x1 := .int .i64 sl) (x2 := .int .i64 rl) (x3 := .int .i64 rh) (x4 := .slice A n cap) (x5 := .int .i64 wg) (g := gb) hB (by omega)
        replace ta := put6_ownT (x0 := .int .i64 L) (x1 := .int .i64 sl) (x2 := .int .i64 rl) (x3 := .int .i64 rh) (x4 := .slice A n cap) (x5 := .int .i64 wg) (g := gb) ta (by omega)
        replace tb := put6_own (x0 := .int .i64 L) (x1 := .int .i64 sl) (x2 := .int .i64 rl) (x3 := .int .i64 rh) (x4 := .slice A n cap) (x5 := .int .i64 wg) tb
        obtain ⟨W9, hW9⟩ : ∃ W9, W9 = put6 W8 gb (.int .i64 L) (.int .i64 sl) (.int .i64 rl) (.int .i64 rh) (.slice A n cap) (.int .i64 wg) := ⟨_, rfl⟩
        rw [← hW9] at Ga o m p hB ta tb
        simp only [put6] at hW9
        rw [← hW9]
        clear hW9
        refine rg_done (by kernel_rfl) ?_
        have r := rest ga gb X xx _ hB o m p ta tb (Lib.hid Ga) (by omega) (Lib.hid fun k e => ⟨(ownsRow_lt Ga k e).1, fun e9 => ta.apart Ga (by decide) (e9 ▸ e), fun e9 => tb.apart Ga (by decide) (e9 ▸ e)⟩)
        simp only [Act.put, List.setIfInBounds_toArray, List.set_cons_zero, List.set_cons_succ] at r
        (try simp only [Act.put, List.setIfInBounds_toArray, List.set_cons_zero, List.set_cons_succ])
        exact r
    · intro K hK
      simp only [pick1, wpHead]
      rw [if_pos (by rfl)]
      go_simp
      have hg := p.lt
      have tb := OwnT.new W' #[.int .i64 0, .int .i64 0, .int .i64 0, .int .i64 0, .slice none 0 0, .int .i64 0] 26
      have hb := (Below.refl W'.heap.size W').alloc (Nat.le_refl _) (.cells #[.int .i64 0, .int .i64 0, .int .i64 0, .int .i64 0, .slice none 0 0, .int .i64 0] 26)
      have hgb : w.heap.size + 3 ≤ W'.heap.size := p.lt
      obtain ⟨gb, hge⟩ : ∃ g, g = W'.heap.size := ⟨_, rfl⟩
      rw [← hge] at tb hgb ⊢
      generalize hWe : World.alloc W' _ = W' at hb tb ⊢
      clear hge hWe hg
      replace o := o.below hb o.lt
      replace m := m.below hb m.lt
      replace p := p.below hb p.lt
      refine hK.out _ _ o ?_
      replace hB := hB.trans (hb.mono hB.size)
      replace Ga := Ga.below hb (Nat.le_refl _)
      clear hb hK
      (try simp only [Act.put, List.setIfInBounds_toArray, List.set_cons_zero, List.set_cons_succ])
      refine rg_many (fuel := 2) [3] rfl (by simp) (by kernel_rfl) (by kernel_rfl) ?_
      intro c hc
      rcases (show c = 3 by simpa using hc) with rfl
      · intro K hK
        simp only [pick1, wpHead]
        rw [if_pos (by rfl)]
        go_simp
        have hg := p.lt
        have ta := OwnT.new W' #[.int .i64 0, .int .i64 0, .int .i64 0, .int .i64 0, .slice none 0 0, .int .i64 0] 26
        have hb := (Below.refl W'.heap.size W').alloc (Nat.le_refl _) (.cells #[.int .i64 0, .int .i64 0, .int .i64 0, .int .i64 0, .slice none 0 0, .int .i64 0] 26)
        have habx := tb.lt
        have hga : w.heap.size + 3 ≤ W'.heap.size := p.lt
        obtain ⟨ga, hge⟩ : ∃ g, g = W'.heap.size := ⟨_, rfl⟩
        rw [← hge] at ta hga habx ⊢
        generalize hWe : World.alloc W' _ = W' at hb ta ⊢
        have hab9 : ga ≠ gb := by omega
        clear hge hWe hg
        replace o := o.below hb o.lt
        replace m := m.below hb m.lt
        replace p := p.below hb p.lt
        refine hK.out _ _ o ?_
        replace hB := hB.trans (hb.mono hB.size)
        replace Ga := Ga.below hb (Nat.le_refl _)
        replace tb := tb.below hb tb.lt
        clear hb hK
        (try simp only [Act.put, List.setIfInBounds_toArray, List.set_cons_zero, List.set_cons_succ])
        refine rg_one (fuel := 1) 5 rfl (by kernel_rfl) (by kernel_rfl) ?_
        simp only [pick1, wpHead]
        intro K hK
        rw [if_pos (by rfl)]
        obtain ⟨ly, ky, fy⟩ := ta.own
        go_simp
        refine hK.out _ _ (put6_other o (by omega)) ?_
        clear hK K ly ky fy
        replace Ga := put6_gro (x0 := .int .i64 L) (x1 := .int .i64 sl) (x2 := .int .i64 rl) (x3 := .int .i64 rh) (x4 := .slice X n xx) (x5 := .int .i64 wg) Ga (ta.apart Ga (by decide))
        replace o := put6_other (x0 := .int .i64 L) (x1 := .int .i64 sl) (x2 := .int .i64 rl) (x3 := .int .i64 rh) (x4 := .slice X n xx) (x5 := .int .i64 wg) (g := ga) o (by omega)
        replace m := put6_other (x0 := .int .i64 L) (x1 := .int .i64 sl) (x2 := .int .i64 rl) (x3 := .int .i64 rh) (x4 := .slice X n xx) (x5 := .int .i64 wg) (g := ga) m (by omega)
        replace p := put6_other (x0 := .int .i64 L) (x1 := .int .i64 sl) (x2 := .int .i64 rl) (x3 := .int .i64 rh) (x4 := .slice X n xx) (x5 := .int .i64 wg) (g := ga) p (by omega)
        replace hB := put6_below (x0 := .int .i64 L) (x1 := .int .i64 sl) (x2 := .int .i64 rl) (x3 := .int .i64 rh) (x4 := .slice X n xx) (x5 := .int .i64 wg) (g := ga) hB (by omega)
        replace tb := put6_ownT (x0 := .int .i64 L) (x1 := .int .i64 sl) (x2 := .int .i64 rl) (x3 := .int .i64 rh) (x4 := .slice X n xx) (x5 := .int .i64 wg) (g := ga) tb (by omega)
        replace ta := put6_own (x0 := .int .i64 L) (x1 := .int .i64 sl) (x2 := .int .i64 rl) (x3 := .int .i64 rh) (x4 := .slice X n xx) (x5 := .int .i64 wg) ta
        obtain ⟨W8, hW9⟩ : ∃ W9, W9 = put6 W' ga (.int .i64 L) (.int .i64 sl) (.int .i64 rl) (.int .i64 rh) (.slice X n xx) (.int .i64 wg) := ⟨_, rfl⟩
        rw [← hW9] at Ga o m p hB ta tb
        simp only [put6] at hW9
        rw [← hW9]
        clear hW9
        refine rg_one (fuel := 0) 6 rfl (by kernel_rfl) (by kernel_rfl) ?_
        simp only [pick1, wpHead]
        intro K hK
        rw [if_pos (by rfl)]
        obtain ⟨ly, ky, fy⟩ := tb.own
        go_simp
        refine hK.out _ _ (put6_other o (by omega)) ?_
        clear hK K ly ky fy
        replace Ga := put6_gro (x0 := .int .i64 L) (x1 := .int .i64 sl) (x2 := .int .i64 rl) (x3 := .int .i64 rh) (x4 := .slice A n cap) (x5 := .int .i64 wg) Ga (tb.apart Ga (by decide))
        replace o := put6_other (x0 := .int .i64 L) (x1 := .int .i64 sl) (x2 := .int .i64 rl) (x3 := .int .i64 rh) (x4 := .slice A n cap) (x5 := .int .i64 wg) (g := gb) o (by omega)
        replace m := put6_other (x0 := .int .i64 L) (x1 := .int .i64 sl) (x2 := .int .i64 rl) (x3 := .int .i64 rh) (x4 := .slice A n cap) (x5 := .int .i64 wg) (g := gb) m (by omega)
        replace p := put6_other (x0 := .int .i64 L) (x1 := .int .i64 sl) (x2 := .int .i64 rl) (x3 := .int .i64 rh) (x4 := .slice A n cap) (x5 := .int .i64 wg) (g := gb) p (by omega)
        replace hB := put6_below (x0 := .int .i64 L) (x1 := .int .i64 sl) (x2 := .int .i64 rl) (x3 := .int .i64 rh) (x4 := .slice A n cap) (x5 := .int .i64 wg) (g := gb) hB (by omega)
        replace ta := put6_ownT (x0 := .int .i64 L) (x1 := .int .i64 sl) (x2 := .int .i64 rl) (x3 := .int .i64 rh) (x4 := .slice A n cap) (x5 := .int .i64 wg) (g := gb) ta (by omega)
        replace tb := put6_own (x0 := .int .i64 L) (x1 := .int .i64 sl) (x2 := .int .i64 rl) (x3 := .int .i64 rh) (x4 := .slice A n cap) (x5 := .int .i64 wg) tb
        obtain ⟨W9, hW9⟩ : ∃ W9, W9 = put6 W8 gb (.int .i64 L) (.int .i64 sl) (.int .i64 rl) (.int .i64 rh) (.slice A n cap) (.int .i64 wg) := ⟨_, rfl⟩
        rw [← hW9] at Ga o m p hB ta tb
        simp only [put6] at hW9
        rw [← hW9]
        clear hW9
        refine rg_done (by kernel_rfl) ?_
        have r := rest ga gb X xx _ hB o m p ta tb (Lib.hid Ga) (by omega) (Lib.hid fun k e => ⟨(ownsRow_lt Ga k e).1, fun e9 => ta.apart Ga (by decide) (e9 ▸ e), fun e9 => tb.apart Ga (by decide) (e9 ▸ e)⟩)
        simp only [Act.put, List.setIfInBounds_toArray, List.set_cons_zero, List.set_cons_succ] at r
        (try simp only [Act.put, List.setIfInBounds_toArray, List.set_cons_zero, List.set_cons_succ])
        exact r
  · intro K hK
    simp only [pick1, wpHead]
    rw [if_pos (by rfl)]
    go_simp
    have hg := p.lt
    have ta := OwnT.new W #[.int .i64 0, .int .i64 0, .int .i64 0, .int .i64 0, .slice none 0 0, .int .i64 0] 26
    have hb := (Below.refl W.heap.size W).alloc (Nat.le_refl _) (.cells #[.int .i64 0, .int .i64 0, .int .i64 0, .int .i64 0, .slice none 0 0, .int .i64 0] 26)
    have hga : w.heap.size + 3 ≤ W.heap.size := p.lt
    obtain ⟨ga, hge⟩ : ∃ g, g = W.heap.size := ⟨_, rfl⟩
    rw [← hge] at ta hga ⊢
    generalize hWe : World.alloc W _ = W' at hb ta ⊢
    clear hge hWe hg
    replace o := o.below hb o.lt
    replace m := m.below hb m.lt
    replace p := p.below hb p.lt
    refine hK.out _ _ o ?_
    replace hB := hB.trans (hb.mono hB.size)
    clear hb hK
    (try simp only [Act.put, List.setIfInBounds_toArray, List.set_cons_zero, List.set_cons_succ])
    refine rg_many (fuel := 3) [1, 4] rfl (by simp) (by kernel_rfl) (by kernel_rfl) ?_
    intro c hc
    rcases (show c = 1 ∨ c = 4 by simpa using hc) with rfl | rfl
    · intro K hK
      simp only [pick1, wpHead]
      rw [if_pos (by rfl)]
      go_simp
      refine (copy14 L sl rl rh wg A n cap ks _ (HA.out.below hB (Nat.le_refl _)) hn (by omega)).mono ?_
      rintro e W' ⟨X, xx, rfl, Ga, hb⟩
      replace Ga := Ga.base (base' := w.heap.size + 3) p.lt
      go_simp
      replace o := o.below hb o.lt
      replace m := m.below hb m.lt
      replace p := p.below hb p.lt
      refine hK.out _ _ o ?_
      replace hB := hB.trans (hb.mono hB.size)
      replace ta := ta.below hb ta.lt
      clear hb hK
      (try simp only [Act.put, List.setIfInBounds_toArray, List.set_cons_zero, List.set_cons_succ])
      refine rg_many (fuel := 2) [4] rfl (by simp) (by kernel_rfl) (by kernel_rfl) ?_
      intro c hc
      rcases (show c = 4 by simpa using hc) with rfl
      · intro K hK
        simp only [pick1, wpHead]
        rw [if_pos (by rfl)]
        go_simp
        have hg := p.lt
        have tb := OwnT.new W' #[.int .i64 0, .int .i64 0, .int .i64 0, .int .i64 0, .slice none 0 0, .int .i64 0] 26
        have hb := (Below.refl W'.heap.size W').alloc (Nat.le_refl _) (.cells #[.int .i64 0, .int .i64 0, .int .i64 0, .int .i64 0, .slice none 0 0, .int .i64 0] 26)
        have habx := ta.lt
        have hgb : w.heap.size + 3 ≤ W'.heap.size := p.lt
        obtain ⟨gb, hge⟩ : ∃ g, g = W'.heap.size := ⟨_, rfl⟩
        rw [← hge] at tb hgb habx ⊢
        generalize hWe : World.alloc W' _ = W' at hb tb ⊢
        have hab9 : ga ≠ gb := by omega
        clear hge hWe hg
        replace o := o.below hb o.lt
        replace m := m.below hb m.lt
        replace p := p.below hb p.lt
        refine hK.out _ _ o ?_
        replace hB := hB.trans (hb.mono hB.size)
        replace Ga := Ga.below hb (Nat.le_refl _)
        replace ta := ta.below hb ta.lt
        clear hb hK
        (try simp only [Act.put, List.setIfInBounds_toArray, List.set_cons_zero, List.set_cons_succ])
        refine rg_one (fuel := 1) 5 rfl (by kernel_rfl) (by kernel_rfl) ?_
        simp only [pick1, wpHead]
        intro K hK
        rw [if_pos (by rfl)]
        obtain ⟨ly, ky, fy⟩ := ta.own
        go_simp
        refine hK.out _ _ (put6_other o (by omega)) ?_
        clear hK K ly ky fy
        replace Ga := put6_gro (x0 := .int .i64 L) (x1 := .int .i64 sl) (x2 := .int .i64 rl) (x3 := .int .i64 rh) (x4 := .slice X n xx) (x5 := .int .i64 wg) Ga (ta.apart Ga (by decide))
        replace o := put6_other (x0 := .int .i64 L) (x1 := .int .i64 sl) (x2 := .int .i64 rl) (x3 := .int .i64 rh) (x4 := .slice X n xx) (x5 := .int .i64 wg) (g := ga) o (by omega)
        replace m := put6_other (x0 := .int .i64 L) (x1 := .int .i64 sl) (x2 := .int .i64 rl) (x3 := .int .i64 rh) (x4 := .slice X n xx) (x5 := .int .i64 wg) (g := ga) m (by omega)
        replace p := put6_other (x0 := .int .i64 L) (x1 := .int .i64 sl) (x2 := .int .i64 rl) (x3 := .int .i64 rh) (x4 := .slice X n xx) (x5 := .int .i64 wg) (g := ga) p (by omega)
        replace hB := put6_below (x0 := .int .i64 L) (x1 := .int .i64 sl) (x2 := .int .i64 rl) (x3 := .int .i64 rh) (x4 := .slice X n xx) (x5 := .int .i64 wg) (g := ga) hB (by omega)
        replace tb := put6_ownT (x0 := .int .i64 L) (x1 := .int .i64 sl) (x2 := .int .i64 rl) (x3 := .int .i64 rh) (x4 := .slice X n xx) (x5 := .int .i64 wg) (g := ga) tb (by omega)
        replace ta := put6_own (x0 := .int .i64 L) (x1 := .int .i64 sl) (x2 := .int .i64 rl) (x3 := .int .i64 rh) (x4 := .slice X n xx) (x5 := .int .i64 wg) ta
        obtain ⟨W8, hW9⟩ : ∃ W9, W9 = put6 W' ga (.int .i64 L) (.int .i64 sl) (.int .i64 rl) (.int .i64 rh) (.slice X n xx) (.int .i64 wg) := ⟨_, rfl⟩
        rw [← hW9] at Ga o m p hB ta tb
        simp only [put6] at hW9
        rw [← hW9]
        clear hW9
        refine rg_one (fuel := 0) 6 rfl (by kernel_rfl) (by kernel_rfl) ?_
        simp only [pick1, wpHead]
        intro K hK
        rw [if_pos (by rfl)]
        obtain ⟨ly, ky, fy⟩ := tb.own
        go_simp
        refine hK.out _ _ (put6_other o (by omega)) ?_
        clear hK K ly ky fy
        replace Ga := put6_gro (x0 := .int .i64 L) (x1 := .int .i64 sl) (x2 := .int .i64 rl) (x3 := .int .i64 rh) (x4 := .slice A n cap) (x5 := .int .i64 wg) Ga (tb.apart Ga (by decide))
        replace o := put6_other (x0 := .int .i64 L) (x1 := .int .i64 sl) (x2 := .int .i64 rl) (x3 := .int .i64 rh) (x4 := .slice A n cap) (x5 := .int .i64 wg) (g := gb) o (by omega)
        replace m := put6_other (x0 := .int .i64 L) (x1 := .int .i64 sl) (x2 := .int .i64 rl) (x3 := .int .i64 rh) (x4 := .slice A n cap) (x5 := .int .i64 wg) (g := gb) m (by omega)
        replace p := put6_other (x0 := .int .i64 L) (x1 := .int .i64 sl) (x2 := .int .i64 rl) (x3 := .int .i64 rh) (x4 := .slice A n cap) (x5 := .int .i64 wg) (g := gb) p (by omega)
        replace hB := put6_below (x0 := .int .i64 L) (x1 := .int .i64 sl) (x2 := .int .i64 rl) (x3 := .int .i64 rh) (x4 := .slice A n cap) (x5 := .int .i64 wg) (g := gb) hB (by omega)
        replace ta := put6_ownT (x0 := .int .i64 L) (x1 := .int .i64 sl) (x2 := .int .i64 rl) (x3 := .int .i64 rh) (x4 := .slice A n cap) (x5 := .int .i64 wg) (g := gb) ta (by omega)
        replace tb := put6_own (x0 := .int .i64 L) (x1 := .int .i64 sl) (x2 := .int .i64 rl) (x3 := .int .i64 rh) (x4 := .slice A n cap) (x5 := .int .i64 wg) tb
        obtain ⟨W9, hW9⟩ : ∃ W9, W9 = put6 W8 gb (.int .i64 L) (.int .i64 sl) (.int .i64 rl) (.int .i64 rh) (.slice A n cap) (.int .i64 wg) := ⟨_, rfl⟩
        rw [← hW9] at Ga o m p hB ta tb
        simp only [put6] at hW9
        rw [← hW9]
        clear hW9
        refine rg_done (by kernel_rfl) ?_
        have r := rest ga gb X xx _ hB o m p ta tb (Lib.hid Ga) (by omega) (Lib.hid fun k e => ⟨(ownsRow_lt Ga k e).1, fun e9 => ta.apart Ga (by decide) (e9 ▸ e), fun e9 => tb.apart Ga (by decide) (e9 ▸ e)⟩)
        simp only [Act.put, List.setIfInBounds_toArray, List.set_cons_zero, List.set_cons_succ] at r
        (try simp only [Act.put, List.setIfInBounds_toArray, List.set_cons_zero, List.set_cons_succ])
        exact r
    · intro K hK
      simp only [pick1, wpHead]
      rw [if_pos (by rfl)]
      go_simp
      have hg := p.lt
      have tb := OwnT.new W' #[.int .i64 0, .int .i64 0, .int .i64 0, .int .i64 0, .slice none 0 0, .int .i64 0] 26
      have hb := (Below.refl W'.heap.size W').alloc (Nat.le_refl _) (.cells #[.int .i64 0, .int .i64 0, .int .i64 0, .int .i64 0, .slice none 0 0, .int .i64 0] 26)
      have habx := ta.lt
      have hgb : w.heap.size + 3 ≤ W'.heap.size := p.lt
      obtain ⟨gb, hge⟩ : ∃ g, g = W'.heap.size := ⟨_, rfl⟩
      rw [← hge] at tb hgb habx ⊢
      generalize hWe : World.alloc W' _ = W' at hb tb ⊢
      have hab9 : ga ≠ gb := by omega
      clear hge hWe hg
      replace o := o.below hb o.lt
      replace m := m.below hb m.lt
      replace p := p.below hb p.lt
      refine hK.out _ _ o ?_
      replace hB := hB.trans (hb.mono hB.size)
      replace ta := ta.below hb ta.lt
      clear hb hK
      (try simp only [Act.put, List.setIfInBounds_toArray, List.set_cons_zero, List.set_cons_succ])
      refine rg_many (fuel := 2) [1] rfl (by simp) (by kernel_rfl) (by kernel_rfl) ?_
      intro c hc
      rcases (show c = 1 by simpa using hc) with rfl
      · intro K hK
        simp only [pick1, wpHead]
        rw [if_pos (by rfl)]
        go_simp
        refine (copy14 L sl rl rh wg A n cap ks _ (HA.out.below hB (Nat.le_refl _)) hn (by omega)).mono ?_
        rintro e W' ⟨X, xx, rfl, Ga, hb⟩
        replace Ga := Ga.base (base' := w.heap.size + 3) p.lt
        go_simp
        replace o := o.below hb o.lt
        replace m := m.below hb m.lt
        replace p := p.below hb p.lt
        refine hK.out _ _ o ?_
        replace hB := hB.trans (hb.mono hB.size)
        replace ta := ta.below hb ta.lt
        replace tb := tb.below hb tb.lt
        clear hb hK
        (try simp only [Act.put, List.setIfInBounds_toArray, List.set_cons_zero, List.set_cons_succ])
        refine rg_one (fuel := 1) 5 rfl (by kernel_rfl) (by kernel_rfl) ?_
        simp only [pick1, wpHead]
        intro K hK
        rw [if_pos (by rfl)]
        obtain ⟨ly, ky, fy⟩ := ta.own
        go_simp
        refine hK.out _ _ (put6_other o (by omega)) ?_
        clear hK K ly ky fy
        replace Ga := put6_gro (x0 := .int .i64 L) (x1 := .int .i64 sl) (x2 := .int .i64 rl) (x3 := .int .i64 rh) (x4 := .slice X n xx) (x5 := .int .i64 wg) Ga (ta.apart Ga (by decide))
        replace o := put6_other (x0 := .int .i64 L) (x1 := .int .i64 sl) (x2 := .int .i64 rl) (x3 := .int .i64 rh) (x4 := .slice X n xx) (x5 := .int .i64 wg) (g := ga) o (by omega)
        replace m := put6_other (x0 := .int .i64 L) (x1 := .int .i64 sl) (x2 := .int .i64 rl) (x3 := .int .i64 rh) (x4 := .slice X n xx) (x5 := .int .i64 wg) (g := ga) m (by omega)
        replace p := put6_other (x0 := .int .i64 L) (x1 := .int .i64 sl) (x2 := .int .i64 rl) (x3 := .int .i64 rh) (x4 := .slice X n xx) (x5 := .int .i64 wg) (g := ga) p (by omega)
        replace hB := put6_below (x0 := .int .i64 L) (x1 := .int .i64 sl) (x2 := .int .i64 rl) (x3 := .int .i64 rh) (x4 := .slice X n xx) (x5 := .int .i64 wg) (g := ga) hB (by omega)
        replace tb := put6_ownT (x0 := .int .i64 L) (x1 := .int .i64 sl) (x2 := .int .i64 rl) (x3 := .int .i64 rh) (x4 := .slice X n xx) (x5 := .int .i64 wg) (g := ga) tb (by omega)
        replace ta := put6_own (x0 := .int .i64 L) (x1 := .int .i64 sl) (x2 := .int .i64 rl) (x3 := .int .i64 rh) (x4 := .slice X n xx) (x5 := .int .i64 wg) ta
        obtain ⟨W8, hW9⟩ : ∃ W9, W9 = put6 W' ga (.int .i64 L) (.int .i64 sl) (.int .i64 rl) (.int .i64 rh) (.slice X n xx) (.int .i64 wg) := ⟨_, rfl⟩
        rw [← hW9] at Ga o m p hB ta tb
        simp only [put6] at hW9
        rw [← hW9]
        clear hW9
        refine rg_one (fuel := 0) 6 rfl (by kernel_rfl) (by kernel_rfl) ?_
        simp only [pick1, wpHead]
        intro K hK
        rw [if_pos (by rfl)]
        obtain ⟨ly, ky, fy⟩ := tb.own
        go_simp
        refine hK.out _ _ (put6_other o (by omega)) ?_
        clear hK K ly ky fy
        replace Ga := put6_gro (x0 := .int .i64 L) (x1 := .int .i64 sl) (x2 := .int .i64 rl) (x3 := .int .i64 rh) (x4 := .slice A n cap) (x5 := .int .i64 wg) Ga (tb.apart Ga (by decide))
        replace o := put6_other (x0 := .int .i64 L) (x1 := .int .i64 sl) (x2 := .int .i64 rl) (x3 := .int .i64 rh) (x4 := .slice A n cap) (x5 := .int .i64 wg) (g := gb) o (by omega)
        replace m := put6_other (x0 := .int .i64 L) (x1 := .int .i64 sl) (x2 := .int .i64 rl) (x3 := .int .i64 rh) (x4 := .slice A n cap) (x5 := .int .i64 wg) (g := gb) m (by omega)
        replace p := put6_other (x0 := .int .i64 L) (x1 := .int .i64 sl) (x2 := .int .i64 rl) (x3 := .int .i64 rh) (x4 := .slice A n cap) (x5 := .int .i64 wg) (g := gb) p (by omega)
        replace hB := put6_below (x0 := .int .i64 L) (x1 := .int .i64 sl) (x2 := .int .i64 rl) (x3 := .int .i64 rh) (x4 := .slice A n cap) (x5 := .int .i64 wg) (g := gb) hB (by omega)
        replace ta := put6_ownT (x0 := .int .i64 L) (x1 := .int .i64 sl) (x2 := .int .i64 rl) (x3 := .int .i64 rh) (x4 := .slice A n cap) (x5 := .int .i64 wg) (g := gb) ta (by omega)
        replace tb := put6_own (x0 := .int .i64 L) (x1 := .int .i64 sl) (x2 := .int .i64 rl) (x3 := .int .i64 rh) (x4 := .slice A n cap) (x5 := .int .i64 wg) tb
        obtain ⟨W9, hW9⟩ : ∃ W9, W9 = put6 W8 gb (.int .i64 L) (.int .i64 sl) (.int .i64 rl) (.int .i64 rh) (.slice A n cap) (.int .i64 wg) := ⟨_, rfl⟩
        rw [← hW9] at Ga o m p hB ta tb
        simp only [put6] at hW9
        rw [← hW9]
        clear hW9
        refine rg_done (by kernel_rfl) ?_
        have r := rest ga gb X xx _ hB o m p ta tb (Lib.hid Ga) (by omega) (Lib.hid fun k e => ⟨(ownsRow_lt Ga k e).1, fun e9 => ta.apart Ga (by decide) (e9 ▸ e), fun e9 => tb.apart Ga (by decide) (e9 ▸ e)⟩)
        simp only [Act.put, List.setIfInBounds_toArray, List.set_cons_zero, List.set_cons_succ] at r
        (try simp only [Act.put, List.setIfInBounds_toArray, List.set_cons_zero, List.set_cons_succ])
        exact r
  · intro K hK
    simp only [pick1, wpHead]
    rw [if_pos (by rfl)]
    go_simp
    have hg := p.lt
    have tb := OwnT.new W #[.int .i64 0, .int .i64 0, .int .i64 0, .int .i64 0, .slice none 0 0, .int .i64 0] 26
    have hb := (Below.refl W.heap.size W).alloc (Nat.le_refl _) (.cells #[.int .i64 0, .int .i64 0, .int .i64 0, .int .i64 0, .slice none 0 0, .int .i64 0] 26)
    have hgb : w.heap.size + 3 ≤ W.heap.size := p.lt
    obtain ⟨gb, hge⟩ : ∃ g, g = W.heap.size := ⟨_, rfl⟩
    rw [← hge] at tb hgb ⊢
    generalize hWe : World.alloc W _ = W' at hb tb ⊢
    clear hge hWe hg
    replace o := o.below hb o.lt
    replace m := m.below hb m.lt
    replace p := p.below hb p.lt
    refine hK.out _ _ o ?_
    replace hB := hB.trans (hb.mono hB.size)
    clear hb hK
    (try simp only [Act.put, List.setIfInBounds_toArray, List.set_cons_zero, List.set_cons_succ])
    refine rg_many (fuel := 3) [1, 3] rfl (by simp) (by kernel_rfl) (by kernel_rfl) ?_
    intro c hc
    rcases (show c = 1 ∨ c = 3 by simpa using hc) with rfl | rfl
    · intro K hK
      simp only [pick1, wpHead]
      rw [if_pos (by rfl)]
      go_simp
      refine (copy14 L sl rl rh wg A n cap ks _ (HA.out.below hB (Nat.le_refl _)) hn (by omega)).mono ?_
      rintro e W' ⟨X, xx, rfl, Ga, hb⟩
      replace Ga := Ga.base (base' := w.heap.size + 3) p.lt
      go_simp
      replace o := o.below hb o.lt
      replace m := m.below hb m.lt
      replace p := p.below hb p.lt
      refine hK.out _ _ o ?_
      replace hB := hB.trans (hb.mono hB.size)
      replace tb := tb.below hb tb.lt
      clear hb hK
      (try simp only [Act.put, List.setIfInBounds_toArray, List.set_cons_zero, List.set_cons_succ])
      refine rg_many (fuel := 2) [3] rfl (by simp) (by kernel_rfl) (by kernel_rfl) ?_
      intro c hc
      rcases (show c = 3 by simpa using hc) with rfl
      · intro K hK
        simp only [pick1, wpHead]
        rw [if_pos (by rfl)]
        go_simp
        have hg := p.lt
        have ta := OwnT.new W' #[.int .i64 0, .int .i64 0, .int .i64 0, .int .i64 0, .slice none 0 0, .int .i64 0] 26
        have hb := (Below.refl W'.heap.size W').alloc (Nat.le_refl _) (.cells #[.int .i64 0, .int .i64 0, .int .i64 0, .int .i64 0, .slice none 0 0, .int .i64 0] 26)
        have habx := tb.lt
        have hga : w.heap.size + 3 ≤ W'.heap.size := p.lt
        obtain ⟨ga, hge⟩ : ∃ g, g = W'.heap.size := ⟨_, rfl⟩
        rw [← hge] at ta hga habx ⊢
        generalize hWe : World.alloc W' _ = W' at hb ta ⊢
        have hab9 : ga ≠ gb := by omega
        clear hge hWe hg
        replace o := o.below hb o.lt
        replace m := m.below hb m.lt
        replace p := p.below hb p.lt
        refine hK.out _ _ o ?_
        replace hB := hB.trans (hb.mono hB.size)
        replace Ga := Ga.below hb (Nat.le_refl _)
        replace tb := tb.below hb tb.lt
        clear hb hK
        (try simp only [Act.put, List.setIfInBounds_toArray, List.set_cons_zero, List.set_cons_succ])
        refine rg_one (fuel := 1) 5 rfl (by kernel_rfl) (by kernel_rfl) ?_
        simp only [pick1, wpHead]
        intro K hK
        rw [if_pos (by rfl)]
        obtain ⟨ly, ky, fy⟩ := ta.own
        go_simp
        refine hK.out _ _ (put6_other o (by omega)) ?_
        clear hK K ly ky fy
        replace Ga := put6_gro (x0 := .int .i64 L) (x1 := .int .i64 sl) (x2 := .int .i64 rl) (x3 := .int .i64 rh) (x4 := .slice X n xx) (x5 := .int .i64 wg) Ga (ta.apart Ga (by decide))
        replace o := put6_other (x0 := .int .i64 L) (x1 := .int .i64 sl) (x2 := .int .i64 rl) (x3 := .int .i64 rh) (x4 := .slice X n xx) (x5 := .int .i64 wg) (g := ga) o (by omega)
        replace m := put6_other (x0 := .int .i64 L) (x1 := .int .i64 sl) (x2 := .int .i64 rl) (x3 := .int .i64 rh) (x4 := .slice X n xx) (x5 := .int .i64 wg) (g := ga) m (by omega)
        replace p := put6_other (x0 := .int .i64 L) (x1 := .int .i64 sl) (x2 := .int .i64 rl) (x3 := .int .i64 rh) (x4 := .slice X n xx) (x5 := .int .i64 wg) (g := ga) p (by omega)
        replace hB := put6_below (x0 := .int .i64 L) (x1 := .int .i64 sl) (x2 := .int .i64 rl) (x3 := .int .i64 rh) (x4 := .slice X n xx) (x5 := .int .i64 wg) (g := ga) hB (by omega)
        replace tb := put6_ownT (x0 := .int .i64 L) (x1 := .int .i64 sl) (x2 := .int .i64 rl) (x3 := .int .i64 rh) (x4 := .slice X n xx) (x5 := .int .i64 wg) (g := ga) tb (by omega)
        replace ta := put6_own (x0 := .int .i64 L) (x1 := .int .i64 sl) (x2 := .int .i64 rl) (x3 := .int .i64 rh) (x4 := .slice X n xx) (x5 := .int .i64 wg) ta
        obtain ⟨W8, hW9⟩ : ∃ W9, W9 = put6 W' ga (.int .i64 L) (.int .i64 sl) (.int .i64 rl) (.int .i64 rh) (.slice X n xx) (.int .i64 wg) := ⟨_, rfl⟩
        rw [← hW9] at Ga o m p hB ta tb
        simp only [put6] at hW9
        rw [← hW9]
        clear hW9
        refine rg_one (fuel := 0) 6 rfl (by kernel_rfl) (by kernel_rfl) ?_
        simp only [pick1, wpHead]
        intro K hK
        rw [if_pos (by rfl)]
        obtain ⟨ly, ky, fy⟩ := tb.own
        go_simp
        refine hK.out _ _ (put6_other o (by omega)) ?_
        clear hK K ly ky fy
        replace Ga := put6_gro (x0 := .int .i64 L) (x1 := .int .i64 sl) (x2 := .int .i64 rl) (x3 := .int .i64 rh) (x4 := .slice A n cap) (x5 := .int .i64 wg) Ga (tb.apart Ga (by decide))
        replace o := put6_other (x0 := .int .i64 L) (x1 := .int .i64 sl) (x2 := .int .i64 rl) (x3 := .int .i64 rh) (x4 := .slice A n cap) (x5 := .int .i64 wg) (g := gb) o (by omega)
        replace m := put6_other (x0 := .int .i64 L) (x1 := .int .i64 sl) (x2 := .int .i64 rl) (x3 := .int .i64 rh) (x4 := .slice A n cap) (x5 := .int .i64 wg) (g := gb) m (by omega)
        replace p := put6_other (x0 := .int .i64 L) (x1 := .int .i64 sl) (x2 := .int .i64 rl) (x3 := .int .i64 rh) (x4 := .slice A n cap) (x5 := .int .i64 wg) (g := gb) p (by omega)
        replace hB := put6_below (x0 := .int .i64 L) (x1 := .int .i64 sl) (x2 := .int .i64 rl) (x3 := .int .i64 rh) (x4 := .slice A n cap) (x5 := .int .i64 wg) (g := gb) hB (by omega)
        replace ta := put6_ownT (x0 := .int .i64 L) (x1 := .int .i64 sl) (x2 := .int .i64 rl) (x3 := .int .i64 rh) (x4 := .slice A n cap) (x5 := .int .i64 wg) (g := gb) ta (by omega)
        replace tb := put6_own (x0 := .int .i64 L) (x1 := .int .i64 sl) (x2 := .int .i64 rl) (x3 := .int .i64 rh) (x4 := .slice A n cap) (x5 := .int .i64 wg) tb
        obtain ⟨W9, hW9⟩ : ∃ W9, W9 = put6 W8 gb (.int .i64 L) (.int .i64 sl) (.int .i64 rl) (.int .i64 rh) (.slice A n cap) (.int .i64 wg) := ⟨_, rfl⟩
        rw [← hW9] at Ga o m p hB ta tb
        simp only [put6] at hW9
        rw [← hW9]
        clear hW9
        refine rg_done (by kernel_rfl) ?_
        have r := rest ga gb X xx _ hB o m p ta tb (Lib.hid Ga) (by omega) (Lib.hid fun k e => ⟨(ownsRow_lt Ga k e).1, fun e9 => ta.apart Ga (by decide) (e9 ▸ e), fun e9 => tb.apart Ga (by decide) (e9 ▸ e)⟩)
        simp only [Act.put, List.setIfInBounds_toArray, List.set_cons_zero, List.set_cons_succ] at r
        (try simp only [Act.put, List.setIfInBounds_toArray, List.set_cons_zero, List.set_cons_succ])
        exact r
    · intro K hK
      simp only [pick1, wpHead]
      rw [if_pos (by rfl)]
      go_simp
      have hg := p.lt
      have ta := OwnT.new W' #[.int .i64 0, .int .i64 0, .int .i64 0, .int .i64 0, .slice none 0 0, .int .i64 0] 26
      have hb := (Below.refl W'.heap.size W').alloc (Nat.le_refl _) (.cells #[.int .i64 0, .int .i64 0, .int .i64 0, .int .i64 0, .slice none 0 0, .int .i64 0] 26)
      have habx := tb.lt
      have hga : w.heap.size + 3 ≤ W'.heap.size := p.lt
      obtain ⟨ga, hge⟩ : ∃ g, g = W'.heap.size := ⟨_, rfl⟩
      rw [← hge] at ta hga habx ⊢
      generalize hWe : World.alloc W' _ = W' at hb ta ⊢
      have hab9 : ga ≠ gb := by omega
      clear hge hWe hg
      replace o := o.below hb o.lt
      replace m := m.below hb m.lt
      replace p := p.below hb p.lt
      refine hK.out _ _ o ?_
      replace hB := hB.trans (hb.mono hB.size)
      replace tb := tb.below hb tb.lt
      clear hb hK
      (try simp only [Act.put, List.setIfInBounds_toArray, List.set_cons_zero, List.set_cons_succ])
      refine rg_many (fuel := 2) [1] rfl (by simp) (by kernel_rfl) (by kernel_rfl) ?_
      intro c hc
      rcases (show c = 1 by simpa using hc) with rfl
      · intro K hK
        simp only [pick1, wpHead]
        rw [if_pos (by rfl)]
        go_simp
        refine (copy14 L sl rl rh wg A n cap ks _ (HA.out.below hB (Nat.le_refl _)) hn (by omega)).mono ?_
        rintro e W' ⟨X, xx, rfl, Ga, hb⟩
        replace Ga := Ga.base (base' := w.heap.size + 3) p.lt
        go_simp
        replace o := o.below hb o.lt
        replace m := m.below hb m.lt
        replace p := p.below hb p.lt
        refine hK.out _ _ o ?_
        replace hB := hB.trans (hb.mono hB.size)
        replace ta := ta.below hb ta.lt
        replace tb := tb.below hb tb.lt
        clear hb hK
        (try simp only [Act.put, List.setIfInBounds_toArray, List.set_cons_zero, List.set_cons_succ])
        refine rg_one (fuel := 1) 5 rfl (by kernel_rfl) (by kernel_rfl) ?_
        simp only [pick1, wpHead]
        intro K hK
        rw [if_pos (by rfl)]
        obtain ⟨ly, ky, fy⟩ := ta.own
        go_simp
        refine hK.out _ _ (put6_other o (by omega)) ?_
        clear hK K ly ky fy
        replace Ga := put6_gro (x0 := .int .i64 L) (x1 := .int .i64 sl) (x2 := .int .i64 rl) (x3 := .int .i64 rh) (x4 := .slice X n xx) (x5 := .int .i64 wg) Ga (ta.apart Ga (by decide))
        replace o := put6_other (x0 := .int .i64 L) (x1 := .int .i64 sl) (x2 := .int .i64 rl) (x3 := .int .i64 rh) (x4 := .slice X n xx) (x5 := .int .i64 wg) (g := ga) o (by omega)
        replace m := put6_other (x0 := .int .i64 L) (x1 := .int .i64 sl) (x2 := .int .i64 rl) (x3 := .int .i64 rh) (x4 := .slice X n xx) (x5 := .int .i64 wg) (g := ga) m (by omega)
        replace p := put6_other (x0 := .int .i64 L) (x1 := .int .i64 sl) (x2 := .int .i64 rl) (x3 := .int .i64 rh) (x4 := .slice X n xx) (x5 := .int .i64 wg) (g := ga) p (by omega)
        replace hB := put6_below (x0 := .int .i64 L) (x1 := .int .i64 sl) (x2 := .int .i64 rl) (x3 := .int .i64 rh) (x4 := .slice X n xx) (x5 := .int .i64 wg) (g := ga) hB (by omega)
        replace tb := put6_ownT (x0 := .int .i64 L) (x1 := .int .i64 sl) (x2 := .int .i64 rl) (x3 := .int .i64 rh) (x4 := .slice X n xx) (x5 := .int .i64 wg) (g := ga) tb (by omega)
        replace ta := put6_own (x0 := .int .i64 L) (x1 := .int .i64 sl) (x2 := .int .i64 rl) (x3 := .int .i64 rh) (x4 := .slice X n xx) (x5 := .int .i64 wg) ta
        obtain ⟨W8, hW9⟩ : ∃ W9, W9 = put6 W' ga (.int .i64 L) (.int .i64 sl) (.int .i64 rl) (.int .i64 rh) (.slice X n xx) (.int .i64 wg) := ⟨_, rfl⟩
        rw [← hW9] at Ga o m p hB ta tb
        simp only [put6] at hW9
        rw [← hW9]
        clear hW9
        refine rg_one (fuel := 0) 6 rfl (by kernel_rfl) (by kernel_rfl) ?_
        simp only [pick1, wpHead]
        intro K hK
        rw [if_pos (by rfl)]
        obtain ⟨ly, ky, fy⟩ := tb.own
        go_simp
        refine hK.out _ _ (put6_other o (by omega)) ?_
        clear hK K ly ky fy
        replace Ga := put6_gro (x0 := .int .i64 L) (x1 := .int .i64 sl) (x2 := .int .i64 rl) (x3 := .int .i64 rh) (x4 := .slice A n cap) (x5 := .int .i64 wg) Ga (tb.apart Ga (by decide))
        replace o := put6_other (x0 := .int .i64 L) (x1 := .int .i64 sl) (x2 := .int .i64 rl) (x3 := .int .i64 rh) (x4 := .slice A n cap) (x5 := .int .i64 wg) (g := gb) o (by omega)
        replace m := put6_other (x0 := .int .i64 L) (x1 := .int .i64 sl) (x2 := .int .i64 rl) (x3 := .int .i64 rh) (x4 := .slice A n cap) (x5 := .int .i64 wg) (g := gb) m (by omega)
        replace p := put6_other (x0 := .int .i64 L) (x1 := .int .i64 sl) (x2 := .int .i64 rl) (x3 := .int .i64 rh) (x4 := .slice A n cap) (x5 := .int .i64 wg) (g := gb) p (by omega)
        replace hB := put6_below (x0 := .int .i64 L) (x1 := .int .i64 sl) (x2 := .int .i64 rl) (x3 := .int .i64 rh) (x4 := .slice A n cap) (x5 := .int .i64 wg) (g := gb) hB (by omega)
        replace ta := put6_ownT (x0 := .int .i64 L) (x1 := .int .i64 sl) (x2 := .int .i64 rl) (x3 := .int .i64 rh) (x4 := .slice A n cap) (x5 := .int .i64 wg) (g := gb) ta (by omega)
        replace tb := put6_own (x0 := .int .i64 L) (x1 := .int .i64 sl) (x2 := .int .i64 rl) (x3 := .int .i64 rh) (x4 := .slice A n cap) (x5 := .int .i64 wg) tb
        obtain ⟨W9, hW9⟩ : ∃ W9, W9 = put6 W8 gb (.int .i64 L) (.int .i64 sl) (.int .i64 rl) (.int .i64 rh) (.slice A n cap) (.int .i64 wg) := ⟨_, rfl⟩
        rw [← hW9] at Ga o m p hB ta tb
        simp only [put6] at hW9
        rw [← hW9]
        clear hW9
        refine rg_done (by kernel_rfl) ?_
        have r := rest ga gb X xx _ hB o m p ta tb (Lib.hid Ga) (by omega) (Lib.hid fun k e => ⟨(ownsRow_lt Ga k e).1, fun e9 => ta.apart Ga (by decide) (e9 ▸ e), fun e9 => tb.apart Ga (by decide) (e9 ▸ e)⟩)
        simp only [Act.put, List.setIfInBounds_toArray, List.set_cons_zero, List.set_cons_succ] at r
        (try simp only [Act.put, List.setIfInBounds_toArray, List.set_cons_zero, List.set_cons_succ])
        exact r
end Go.Proofs.Ytphcpphmoeiioaa
