/- The plain law of CurvesMore; walks of inside and narrower. -/
import Derived.Test.YtphcpphmoeiioaaMiA
import Derived.Test.YtphcpphmoeiioaaLean
import Derived.Test.YtphcpphmoeiioaaWQ
namespace Go.Proofs.Ytphcpphmoeiioaa
open Go.RowKit

theorem told_mono {c d : Cv} (w : Wider c d) {ls ls' : List Sp} {m m' : Int} (hD : DrawL c ls) (hl : ls.length = c.long + 1) (hT : ToldL ls m) (hD' : DrawL d ls') (hl' : ls'.length = d.long + 1) (hT' : ToldL ls' m') : 0 ≤ m ∧ m ≤ m' := by
  refine ⟨hT.1.1, ?_⟩
  rcases hT.2.1 with h0 | ⟨s, hs, h0⟩
  · have := hT'.1.1; omega
  · obtain ⟨i, hi, e⟩ := List.getElem_of_mem hs
    have hi' : i < ls'.length := by rw [hl', w.long, ← hl]; exact hi
    have k1 := hD i s (by rw [List.getElem?_eq_getElem hi, e])
    have k2 := hD' i ls'[i] (List.getElem?_eq_getElem hi')
    have k3 := sp_sub k1 k2 (fun x => w.inp 0 i x)
    have k4 := hT'.2.2 _ (List.getElem_mem hi')
    unfold midI at *
    omega
section
variable {L sl rl rh wg : Int} {ks : List Kn}
theorem te_draw {E : Int} (hc : chkV L sl rl rh wg ks = true) (hE : TE L sl rl rh wg ks E) {ls : List Sp} {er : Int} (h : DrawR L sl rl rh wg ks ls er) : er = E := by
  rcases hE with ⟨rfl, hT⟩ | ⟨rfl, hT⟩
  · exact (draw_T hc hT h).1
  · exact (draw_F hc hT h).1
theorem wider_knot (q : Kn) : Wider (cvOf L sl rl rh wg (ks ++ [q])) (cvOf L sl rl rh wg ks) := Wider.knot (cvOf L sl rl rh wg ks) q
theorem wider_more {s w r : Int} (h1 : 0 ≤ s) (h2 : 0 ≤ w) (h3 : 0 ≤ r) : Wider (cvOf L sl rl rh wg ks) (cvOf L (sl + s) (rl - r) (rh + r) (wg + w) ks) := Wider.more (cvOf L sl rl rh wg ks) h1 h2 h3
variable {sl' rl' rh' wg' : Int} {ks' : List Kn}
theorem na_ht (w : Wider (cvOf L sl rl rh wg ks) (cvOf L sl' rl' rh' wg' ks')) {p : Nat} {lo hi lo' hi' : Int} (h : IsSp (HtP (cvOf L sl rl rh wg ks) p) lo hi) (k : IsSp (HtP (cvOf L sl' rl' rh' wg' ks') p) lo' hi') : lo' ≤ lo ∧ lo ≤ hi ∧ hi ≤ hi' := sp_sub h k (fun x => w.ht p x)
theorem na_in (w : Wider (cvOf L sl rl rh wg ks) (cvOf L sl' rl' rh' wg' ks')) {a b : Int} {lo hi lo' hi' : Int} (h : IsSp (InP (cvOf L sl rl rh wg ks) a b) lo hi) (k : IsSp (InP (cvOf L sl' rl' rh' wg' ks') a b) lo' hi') : lo' ≤ lo ∧ lo ≤ hi ∧ hi ≤ hi' := sp_sub h k (fun x => w.inp a b x)
theorem na_ln (w : Wider (cvOf L sl rl rh wg ks) (cvOf L sl' rl' rh' wg' ks')) {p : Nat} {lo hi lo' hi' : Int} (h : IsSp (LnP (cvOf L sl rl rh wg ks) p) lo hi) (k : IsSp (LnP (cvOf L sl' rl' rh' wg' ks') p) lo' hi') : lo' ≤ lo ∧ lo ≤ hi ∧ hi ≤ hi' := sp_sub h k (fun x => w.ln p x)
theorem na_T (w : Wider (cvOf L sl rl rh wg ks) (cvOf L sl' rl' rh' wg' ks')) (hT : ∃ h, Truth (cvOf L sl rl rh wg ks) h) : ∃ h, Truth (cvOf L sl' rl' rh' wg' ks') h := let ⟨h, k⟩ := hT; ⟨h, w.truth k⟩
end
end Go.Proofs.Ytphcpphmoeiioaa
namespace Go.Proofs.Ytphcpphmoeiioaa
open Go.RowKit Go.Maps

set_option maxHeartbeats 1000000 in
theorem inside63 (lo hi lo' hi' : Int) (w : World) (h : lo' ≤ lo ∧ lo ≤ hi ∧ hi ≤ hi') :
    Calls Try.prog 63 #[.agg #[.int .i64 lo, .int .i64 hi], .agg #[.int .i64 lo', .int .i64 hi']] w fun e w' => e = .returned (.bool true) ∧ Below w.heap.size w w' := by
  go_enter Try.func63, Try.ntmps63
  have h1 := h.1
  have h2 := h.2.1
  have h3 := h.2.2
  clear h
  go_wp2
  all_goals go_ret
  all_goals exact ⟨ret_bool (by simp_all), by (repeat' (first | (with_reducible exact Below.refl _ _) | (with_reducible assumption) | (with_reducible refine Below.drew ?_) | (with_reducible refine below_drewN ?_ _) | (with_reducible refine Below.setCell ?_ ?_ _) | (with_reducible refine Below.alloc ?_ ?_ _) | (refine Below.trans ?_ (Below.mono (by with_reducible assumption) ?_)) | omega | (exact Below.size (by with_reducible assumption)) | (simp; done) | (simp; omega)))⟩
set_option maxRecDepth 100000 in
set_option maxHeartbeats 16000000 in
theorem narrower32 (L sl rl rh wg : Int) (A : Option Addr) (n cap : Nat) (ks : List Kn) (sl' rl' rh' wg' : Int) (A' : Option Addr) (n' cap' : Nat) (ks' : List Kn) (a b lv : Int) (w : World) (hA : Rd 3 w A (ks.map krow)) (hn : Hid (n = ks.length)) (hlen : n ≤ 9223372036854775807) (hA' : Rd 3 w A' (ks'.map krow)) (hn' : Hid (n' = ks'.length)) (hlen' : n' ≤ 9223372036854775807)
    (HC : Hid (chkV L sl rl rh wg ks = true)) (HD : Hid (chkV L sl' rl' rh' wg' ks' = true)) (HW : Hid (Wider (cvOf L sl rl rh wg ks) (cvOf L sl' rl' rh' wg' ks'))) (ha0 : 0 ≤ a) (hab : a ≤ b) (hbL : b ≤ L) :
    Calls Try.prog 32 #[.agg #[.int .i64 L, .int .i64 sl, .int .i64 rl, .int .i64 rh, .slice A n cap, .int .i64 wg], .agg #[.int .i64 L, .int .i64 sl', .int .i64 rl', .int .i64 rh', .slice A' n' cap', .int .i64 wg'], .agg #[.int .i64 a, .int .i64 b, .int .i64 lv]] w fun e w' => e = .returned (.bool true) ∧ Below w.heap.size w w' := by
  have HA := Lib.hid hA
  have HA' := Lib.hid hA'
  clear hA hA'
  have hV := Lib.hid (cvV_of HC.out)
  have hV' := Lib.hid (cvV_of HD.out)
  have hLL : Hid (1 ≤ L ∧ L ≤ 12) := ⟨hV.out.l1, hV.out.l2⟩
  have hSS := Lib.hid (show 0 ≤ sl ∧ sl ≤ 20 from ⟨hV.out.s1, hV.out.s2⟩)
  have hSS' := Lib.hid (show 0 ≤ sl' ∧ sl' ≤ 20 from ⟨hV'.out.s1, hV'.out.s2⟩)
  have hl1 := hV.out.l1
  have hl2 := hV.out.l2
  by_cases hT : ∃ h, Truth (cvOf L sl rl rh wg ks) h
  rotate_left
  · obtain ⟨E, hE⟩ := te_ex L sl' rl' rh' wg' ks'
    have HE := Lib.hid hE
    have hk22 : ∀ w, Calls Try.prog 22 #[.int .i64 E] w fun e w' => e = .returned (.bool true) ∧ Below w.heap.size w w' := fun w => by have := isKnown22w E w; rwa [(te_kn hE).1] at this
    have hE03 := (te_kn hE).2
    have HT := Lib.hid hT
    clear hE hT
    go_enter Try.func32, Try.ntmps32
    go_wp2_with fail
    refine calls_gen fun W1 hW => ?_
    have hB1 : Below w.heap.size w W1 := by rw [hW]; (repeat' (first | (with_reducible exact Below.refl _ _) | (with_reducible assumption) | (with_reducible refine Below.drew ?_) | (with_reducible refine below_drewN ?_ _) | (with_reducible refine Below.setCell ?_ ?_ _) | (with_reducible refine Below.alloc ?_ ?_ _) | (refine Below.trans ?_ (Below.mono (by with_reducible assumption) ?_)) | omega | (exact Below.size (by with_reducible assumption)) | (simp; done) | (simp; omega)))
    have pc : Own W1 (w.heap.size) [.int .i64 L, .int .i64 sl, .int .i64 rl, .int .i64 rh, .slice A n cap, .int .i64 wg] := by rw [hW]; exact ((Own.new' _ _ rfl rfl).alloc _).alloc _
    have pd : Own W1 (w.heap.size + 1) [.int .i64 L, .int .i64 sl', .int .i64 rl', .int .i64 rh', .slice A' n' cap', .int .i64 wg'] := by rw [hW]; exact (Own.new' _ _ (by simp) rfl).alloc _
    have px : Own W1 (w.heap.size + 2) [.int .i64 a, .int .i64 b, .int .i64 lv] := by rw [hW]; exact Own.new' _ _ (by simp) rfl
    try clear hBV
    try clear hB
    clear hW  
    refine (height31 L sl rl rh wg A n cap ks a _ (HA.out.below hB1 (Nat.le_refl _)) hn hlen).mono ?_
    rintro e V1 ⟨lo1, hi1, er1, rfl, hR1, hb⟩
    obtain ⟨rfl, rfl, rfl⟩ := ht_F HC.out HT.out hR1.out ha0 (by omega)
    have hB := hB1.trans (hb.mono hB1.size)
    have qc := Lib.hid (pc.below hb pc.lt)
    have qd := Lib.hid (pd.below hb pd.lt)
    have qx := Lib.hid (px.below hb px.lt)
    try clear hsz
    clear hb hB1 pc pd px 
    obtain ⟨lc, kc, fc⟩ := qc.out
    obtain ⟨ld, kd, fd⟩ := qd.out
    obtain ⟨lx, kx, fx⟩ := qx.out
    go_wp2_with fail
    refine calls_gen fun W2 hW => ?_
    have hB1 : Below w.heap.size w W2 := by rw [hW]; (repeat' (first | (with_reducible exact Below.refl _ _) | (with_reducible assumption) | (with_reducible refine Below.drew ?_) | (with_reducible refine below_drewN ?_ _) | (with_reducible refine Below.setCell ?_ ?_ _) | (with_reducible refine Below.alloc ?_ ?_ _) | (refine Below.trans ?_ (Below.mono (by with_reducible assumption) ?_)) | omega | (exact Below.size (by with_reducible assumption)) | (simp; done) | (simp; omega)))
    have pc : Own W2 (w.heap.size) [.int .i64 L, .int .i64 sl, .int .i64 rl, .int .i64 rh, .slice A n cap, .int .i64 wg] := by rw [hW]; exact (qc.out.alloc _)
    have pd : Own W2 (w.heap.size + 1) [.int .i64 L, .int .i64 sl', .int .i64 rl', .int .i64 rh', .slice A' n' cap', .int .i64 wg'] := by rw [hW]; exact (qd.out.alloc _)
    have px : Own W2 (w.heap.size + 2) [.int .i64 a, .int .i64 b, .int .i64 lv] := by rw [hW]; exact (qx.out.alloc _)
    have ps1 : Own W2 (V1.heap.size) [.int .i64 0, .int .i64 0] := by rw [hW]; exact Own.new' _ _ rfl rfl
    try clear hBV
    try clear hB
    clear hW lc kc fc qc ld kd fd qd lx kx fx qx 
    refine (height31 L sl' rl' rh' wg' A' n' cap' ks' a _ (HA'.out.below hB1 (Nat.le_refl _)) hn' hlen').mono ?_
    rintro e V2 ⟨lo2, hi2, er2, rfl, hR2, hb⟩
    obtain ⟨z1, b1, b2, b3⟩ := mi_ht1 HD.out HE.out ha0 (by omega) hR2.out
    obtain rfl := z1.symm
    clear z1
    have hB := hB1.trans (hb.mono hB1.size)
    have qc := Lib.hid (pc.below hb pc.lt)
    have qd := Lib.hid (pd.below hb pd.lt)
    have qx := Lib.hid (px.below hb px.lt)
    have qs1 := Lib.hid (ps1.below hb ps1.lt)
    try clear hsz
    clear hb hB1 pc pd px ps1 
    obtain ⟨lc, kc, fc⟩ := qc.out
    obtain ⟨ld, kd, fd⟩ := qd.out
    obtain ⟨lx, kx, fx⟩ := qx.out
    obtain ⟨ls1, ks1, fs1⟩ := qs1.out
    go_wp2_with fail
    refine calls_gen fun W3 hW => ?_
    have hB1 : Below w.heap.size w W3 := by rw [hW]; (repeat' (first | (with_reducible exact Below.refl _ _) | (with_reducible assumption) | (with_reducible refine Below.drew ?_) | (with_reducible refine below_drewN ?_ _) | (with_reducible refine Below.setCell ?_ ?_ _) | (with_reducible refine Below.alloc ?_ ?_ _) | (refine Below.trans ?_ (Below.mono (by with_reducible assumption) ?_)) | omega | (exact Below.size (by with_reducible assumption)) | (simp; done) | (simp; omega)))
    have pc : Own W3 (w.heap.size) [.int .i64 L, .int .i64 sl, .int .i64 rl, .int .i64 rh, .slice A n cap, .int .i64 wg] := by rw [hW]; exact (qc.out.alloc _)
    have pd : Own W3 (w.heap.size + 1) [.int .i64 L, .int .i64 sl', .int .i64 rl', .int .i64 rh', .slice A' n' cap', .int .i64 wg'] := by rw [hW]; exact (qd.out.alloc _)
    have px : Own W3 (w.heap.size + 2) [.int .i64 a, .int .i64 b, .int .i64 lv] := by rw [hW]; exact (qx.out.alloc _)
    have ps1 : Own W3 (V1.heap.size) [.int .i64 0, .int .i64 0] := by rw [hW]; exact (qs1.out.alloc _)
    have pt1 : Own W3 (V2.heap.size) [.int .i64 lo2, .int .i64 hi2] := by rw [hW]; exact Own.new' _ _ rfl rfl
    try clear hBV
    try clear hB
    clear hW lc kc fc qc ld kd fd qd lx kx fx qx ls1 ks1 fs1 qs1 
    refine (integral20 L sl rl rh wg A n cap ks a b _ (HA.out.below hB1 (Nat.le_refl _)) hn hlen).mono ?_
    rintro e V3 ⟨lo3, hi3, er3, rfl, hR3, hb⟩
    obtain ⟨rfl, rfl, rfl⟩ := int_F HC.out HT.out hR3.out ha0 hab hbL
    have hB := hB1.trans (hb.mono hB1.size)
    have qc := Lib.hid (pc.below hb pc.lt)
    have qd := Lib.hid (pd.below hb pd.lt)
    have qx := Lib.hid (px.below hb px.lt)
    have qs1 := Lib.hid (ps1.below hb ps1.lt)
    have qt1 := Lib.hid (pt1.below hb pt1.lt)
    try clear hsz
    clear hb hB1 pc pd px ps1 pt1 
    obtain ⟨lc, kc, fc⟩ := qc.out
    obtain ⟨ld, kd, fd⟩ := qd.out
    obtain ⟨lx, kx, fx⟩ := qx.out
    obtain ⟨ls1, ks1, fs1⟩ := qs1.out
    obtain ⟨lt1, kt1, ft1⟩ := qt1.out
    go_wp2_with fail
    refine calls_gen fun W4 hW => ?_
    have hB1 : Below w.heap.size w W4 := by rw [hW]; (repeat' (first | (with_reducible exact Below.refl _ _) | (with_reducible assumption) | (with_reducible refine Below.drew ?_) | (with_reducible refine below_drewN ?_ _) | (with_reducible refine Below.setCell ?_ ?_ _) | (with_reducible refine Below.alloc ?_ ?_ _) | (refine Below.trans ?_ (Below.mono (by with_reducible assumption) ?_)) | omega | (exact Below.size (by with_reducible assumption)) | (simp; done) | (simp; omega)))
    have pc : Own W4 (w.heap.size) [.int .i64 L, .int .i64 sl, .int .i64 rl, .int .i64 rh, .slice A n cap, .int .i64 wg] := by rw [hW]; exact (qc.out.alloc _)
    have pd : Own W4 (w.heap.size + 1) [.int .i64 L, .int .i64 sl', .int .i64 rl', .int .i64 rh', .slice A' n' cap', .int .i64 wg'] := by rw [hW]; exact (qd.out.alloc _)
    have px : Own W4 (w.heap.size + 2) [.int .i64 a, .int .i64 b, .int .i64 lv] := by rw [hW]; exact (qx.out.alloc _)
    have ps1 : Own W4 (V1.heap.size) [.int .i64 0, .int .i64 0] := by rw [hW]; exact (qs1.out.alloc _)
    have pt1 : Own W4 (V2.heap.size) [.int .i64 lo2, .int .i64 hi2] := by rw [hW]; exact (qt1.out.alloc _)
    have pu1 : Own W4 (V3.heap.size) [.int .i64 0, .int .i64 0] := by rw [hW]; exact Own.new' _ _ rfl rfl
    try clear hBV
    try clear hB
    clear hW lc kc fc qc ld kd fd qd lx kx fx qx ls1 ks1 fs1 qs1 lt1 kt1 ft1 qt1 
    refine (integral20 L sl' rl' rh' wg' A' n' cap' ks' a b _ (HA'.out.below hB1 (Nat.le_refl _)) hn' hlen').mono ?_
    rintro e V4 ⟨lo4, hi4, er4, rfl, hR4, hb⟩
    obtain ⟨z1, b4, b5, b6⟩ := mi_in1 HD.out HE.out ha0 hab hbL hR4.out
    obtain rfl := z1.symm
    clear z1
    have hB := hB1.trans (hb.mono hB1.size)
    have qc := Lib.hid (pc.below hb pc.lt)
    have qd := Lib.hid (pd.below hb pd.lt)
    have qx := Lib.hid (px.below hb px.lt)
    have qs1 := Lib.hid (ps1.below hb ps1.lt)
    have qt1 := Lib.hid (pt1.below hb pt1.lt)
    have qu1 := Lib.hid (pu1.below hb pu1.lt)
    try clear hsz
    clear hb hB1 pc pd px ps1 pt1 pu1 
    obtain ⟨lc, kc, fc⟩ := qc.out
    obtain ⟨ld, kd, fd⟩ := qd.out
    obtain ⟨lx, kx, fx⟩ := qx.out
    obtain ⟨ls1, ks1, fs1⟩ := qs1.out
    obtain ⟨lt1, kt1, ft1⟩ := qt1.out
    obtain ⟨lu1, ku1, fu1⟩ := qu1.out
    go_wp2_with fail
    refine calls_gen fun W5 hW => ?_
    have hB1 : Below w.heap.size w W5 := by rw [hW]; (repeat' (first | (with_reducible exact Below.refl _ _) | (with_reducible assumption) | (with_reducible refine Below.drew ?_) | (with_reducible refine below_drewN ?_ _) | (with_reducible refine Below.setCell ?_ ?_ _) | (with_reducible refine Below.alloc ?_ ?_ _) | (refine Below.trans ?_ (Below.mono (by with_reducible assumption) ?_)) | omega | (exact Below.size (by with_reducible assumption)) | (simp; done) | (simp; omega)))
    have pc : Own W5 (w.heap.size) [.int .i64 L, .int .i64 sl, .int .i64 rl, .int .i64 rh, .slice A n cap, .int .i64 wg] := by rw [hW]; exact (qc.out.alloc _)
    have pd : Own W5 (w.heap.size + 1) [.int .i64 L, .int .i64 sl', .int .i64 rl', .int .i64 rh', .slice A' n' cap', .int .i64 wg'] := by rw [hW]; exact (qd.out.alloc _)
    have px : Own W5 (w.heap.size + 2) [.int .i64 a, .int .i64 b, .int .i64 lv] := by rw [hW]; exact (qx.out.alloc _)
    have ps1 : Own W5 (V1.heap.size) [.int .i64 0, .int .i64 0] := by rw [hW]; exact (qs1.out.alloc _)
    have pt1 : Own W5 (V2.heap.size) [.int .i64 lo2, .int .i64 hi2] := by rw [hW]; exact (qt1.out.alloc _)
    have pu1 : Own W5 (V3.heap.size) [.int .i64 0, .int .i64 0] := by rw [hW]; exact (qu1.out.alloc _)
    have pv1 : Own W5 (V4.heap.size) [.int .i64 lo4, .int .i64 hi4] := by rw [hW]; exact Own.new' _ _ rfl rfl
    try clear hBV
    try clear hB
    clear hW lc kc fc qc ld kd fd qd lx kx fx qx ls1 ks1 fs1 qs1 lt1 kt1 ft1 qt1 lu1 ku1 fu1 qu1 
    refine (told27 L sl rl rh wg A n cap ks _ (HA.out.below hB1 (Nat.le_refl _)) hn hlen).mono ?_
    rintro e V5 ⟨ls5, m5, er5, rfl, hD5, hT5, hb⟩
    obtain ⟨rfl, _⟩ := draw_F HC.out HT.out hD5.out
    have hB := hB1.trans (hb.mono hB1.size)
    have qc := Lib.hid (pc.below hb pc.lt)
    have qd := Lib.hid (pd.below hb pd.lt)
    have qx := Lib.hid (px.below hb px.lt)
    have qs1 := Lib.hid (ps1.below hb ps1.lt)
    have qt1 := Lib.hid (pt1.below hb pt1.lt)
    have qu1 := Lib.hid (pu1.below hb pu1.lt)
    have qv1 := Lib.hid (pv1.below hb pv1.lt)
    try clear hsz
    clear hb hB1 pc pd px ps1 pt1 pu1 pv1 
    obtain ⟨lc, kc, fc⟩ := qc.out
    obtain ⟨ld, kd, fd⟩ := qd.out
    obtain ⟨lx, kx, fx⟩ := qx.out
    obtain ⟨ls1, ks1, fs1⟩ := qs1.out
    obtain ⟨lt1, kt1, ft1⟩ := qt1.out
    obtain ⟨lu1, ku1, fu1⟩ := qu1.out
    obtain ⟨lv1, kv1, fv1⟩ := qv1.out
    go_wp2_with fail
    refine calls_gen fun W6 hW => ?_
    have hB1 : Below w.heap.size w W6 := by rw [hW]; (repeat' (first | (with_reducible exact Below.refl _ _) | (with_reducible assumption) | (with_reducible refine Below.drew ?_) | (with_reducible refine below_drewN ?_ _) | (with_reducible refine Below.setCell ?_ ?_ _) | (with_reducible refine Below.alloc ?_ ?_ _) | (refine Below.trans ?_ (Below.mono (by with_reducible assumption) ?_)) | omega | (exact Below.size (by with_reducible assumption)) | (simp; done) | (simp; omega)))
    have pc : Own W6 (w.heap.size) [.int .i64 L, .int .i64 sl, .int .i64 rl, .int .i64 rh, .slice A n cap, .int .i64 wg] := by rw [hW]; exact qc.out
    have pd : Own W6 (w.heap.size + 1) [.int .i64 L, .int .i64 sl', .int .i64 rl', .int .i64 rh', .slice A' n' cap', .int .i64 wg'] := by rw [hW]; exact qd.out
    have px : Own W6 (w.heap.size + 2) [.int .i64 a, .int .i64 b, .int .i64 lv] := by rw [hW]; exact qx.out
    have ps1 : Own W6 (V1.heap.size) [.int .i64 0, .int .i64 0] := by rw [hW]; exact qs1.out
    have pt1 : Own W6 (V2.heap.size) [.int .i64 lo2, .int .i64 hi2] := by rw [hW]; exact qt1.out
    have pu1 : Own W6 (V3.heap.size) [.int .i64 0, .int .i64 0] := by rw [hW]; exact qu1.out
    have pv1 : Own W6 (V4.heap.size) [.int .i64 lo4, .int .i64 hi4] := by rw [hW]; exact qv1.out
    try clear hBV
    try clear hB
    clear hW lc kc fc qc ld kd fd qd lx kx fx qx ls1 ks1 fs1 qs1 lt1 kt1 ft1 qt1 lu1 ku1 fu1 qu1 lv1 kv1 fv1 qv1 
    refine (told27 L sl' rl' rh' wg' A' n' cap' ks' _ (HA'.out.below hB1 (Nat.le_refl _)) hn' hlen').mono ?_
    rintro e V6 ⟨ls6, m6, er6, rfl, hD6, hT6, hb⟩
    obtain rfl := (te_draw HD.out HE.out hD6.out).symm
    have hB := hB1.trans (hb.mono hB1.size)
    have qc := Lib.hid (pc.below hb pc.lt)
    have qd := Lib.hid (pd.below hb pd.lt)
    have qx := Lib.hid (px.below hb px.lt)
    have qs1 := Lib.hid (ps1.below hb ps1.lt)
    have qt1 := Lib.hid (pt1.below hb pt1.lt)
    have qu1 := Lib.hid (pu1.below hb pu1.lt)
    have qv1 := Lib.hid (pv1.below hb pv1.lt)
    try clear hsz
    clear hb hB1 pc pd px ps1 pt1 pu1 pv1 
    obtain ⟨lc, kc, fc⟩ := qc.out
    obtain ⟨ld, kd, fd⟩ := qd.out
    obtain ⟨lx, kx, fx⟩ := qx.out
    obtain ⟨ls1, ks1, fs1⟩ := qs1.out
    obtain ⟨lt1, kt1, ft1⟩ := qt1.out
    obtain ⟨lu1, ku1, fu1⟩ := qu1.out
    obtain ⟨lv1, kv1, fv1⟩ := qv1.out
    go_wp2_with fail
    refine calls_gen fun W7 hW => ?_
    have hB1 : Below w.heap.size w W7 := by rw [hW]; (repeat' (first | (with_reducible exact Below.refl _ _) | (with_reducible assumption) | (with_reducible refine Below.drew ?_) | (with_reducible refine below_drewN ?_ _) | (with_reducible refine Below.setCell ?_ ?_ _) | (with_reducible refine Below.alloc ?_ ?_ _) | (refine Below.trans ?_ (Below.mono (by with_reducible assumption) ?_)) | omega | (exact Below.size (by with_reducible assumption)) | (simp; done) | (simp; omega)))
    have pc : Own W7 (w.heap.size) [.int .i64 L, .int .i64 sl, .int .i64 rl, .int .i64 rh, .slice A n cap, .int .i64 wg] := by rw [hW]; exact qc.out
    have pd : Own W7 (w.heap.size + 1) [.int .i64 L, .int .i64 sl', .int .i64 rl', .int .i64 rh', .slice A' n' cap', .int .i64 wg'] := by rw [hW]; exact qd.out
    have px : Own W7 (w.heap.size + 2) [.int .i64 a, .int .i64 b, .int .i64 lv] := by rw [hW]; exact qx.out
    have ps1 : Own W7 (V1.heap.size) [.int .i64 0, .int .i64 0] := by rw [hW]; exact qs1.out
    have pt1 : Own W7 (V2.heap.size) [.int .i64 lo2, .int .i64 hi2] := by rw [hW]; exact qt1.out
    have pu1 : Own W7 (V3.heap.size) [.int .i64 0, .int .i64 0] := by rw [hW]; exact qu1.out
    have pv1 : Own W7 (V4.heap.size) [.int .i64 lo4, .int .i64 hi4] := by rw [hW]; exact qv1.out
    try clear hBV
    try clear hB
    clear hW lc kc fc qc ld kd fd qd lx kx fx qx ls1 ks1 fs1 qs1 lt1 kt1 ft1 qt1 lu1 ku1 fu1 qu1 lv1 kv1 fv1 qv1 
    refine (isKnown22w 3 _).mono ?_
    rintro e V7 ⟨rfl, hb⟩
    have hB := hB1.trans (hb.mono hB1.size)
    have qc := Lib.hid (pc.below hb pc.lt)
    have qd := Lib.hid (pd.below hb pd.lt)
    have qx := Lib.hid (px.below hb px.lt)
    have qs1 := Lib.hid (ps1.below hb ps1.lt)
    have qt1 := Lib.hid (pt1.below hb pt1.lt)
    have qu1 := Lib.hid (pu1.below hb pu1.lt)
    have qv1 := Lib.hid (pv1.below hb pv1.lt)
    try clear hsz
    clear hb hB1 pc pd px ps1 pt1 pu1 pv1 
    obtain ⟨lc, kc, fc⟩ := qc.out
    obtain ⟨ld, kd, fd⟩ := qd.out
    obtain ⟨lx, kx, fx⟩ := qx.out
    obtain ⟨ls1, ks1, fs1⟩ := qs1.out
    obtain ⟨lt1, kt1, ft1⟩ := qt1.out
    obtain ⟨lu1, ku1, fu1⟩ := qu1.out
    obtain ⟨lv1, kv1, fv1⟩ := qv1.out
    go_wp2_with fail
    refine calls_gen fun W8 hW => ?_
    have hB1 : Below w.heap.size w W8 := by rw [hW]; (repeat' (first | (with_reducible exact Below.refl _ _) | (with_reducible assumption) | (with_reducible refine Below.drew ?_) | (with_reducible refine below_drewN ?_ _) | (with_reducible refine Below.setCell ?_ ?_ _) | (with_reducible refine Below.alloc ?_ ?_ _) | (refine Below.trans ?_ (Below.mono (by with_reducible assumption) ?_)) | omega | (exact Below.size (by with_reducible assumption)) | (simp; done) | (simp; omega)))
    have pc : Own W8 (w.heap.size) [.int .i64 L, .int .i64 sl, .int .i64 rl, .int .i64 rh, .slice A n cap, .int .i64 wg] := by rw [hW]; exact qc.out
    have pd : Own W8 (w.heap.size + 1) [.int .i64 L, .int .i64 sl', .int .i64 rl', .int .i64 rh', .slice A' n' cap', .int .i64 wg'] := by rw [hW]; exact qd.out
    have px : Own W8 (w.heap.size + 2) [.int .i64 a, .int .i64 b, .int .i64 lv] := by rw [hW]; exact qx.out
    have ps1 : Own W8 (V1.heap.size) [.int .i64 0, .int .i64 0] := by rw [hW]; exact qs1.out
    have pt1 : Own W8 (V2.heap.size) [.int .i64 lo2, .int .i64 hi2] := by rw [hW]; exact qt1.out
    have pu1 : Own W8 (V3.heap.size) [.int .i64 0, .int .i64 0] := by rw [hW]; exact qu1.out
    have pv1 : Own W8 (V4.heap.size) [.int .i64 lo4, .int .i64 hi4] := by rw [hW]; exact qv1.out
    try clear hBV
    try clear hB
    clear hW lc kc fc qc ld kd fd qd lx kx fx qx ls1 ks1 fs1 qs1 lt1 kt1 ft1 qt1 lu1 ku1 fu1 qu1 lv1 kv1 fv1 qv1 
    refine (hk22 _).mono ?_
    rintro e V8 ⟨rfl, hb⟩
    have hB := hB1.trans (hb.mono hB1.size)
    have qc := Lib.hid (pc.below hb pc.lt)
    have qd := Lib.hid (pd.below hb pd.lt)
    have qx := Lib.hid (px.below hb px.lt)
    have qs1 := Lib.hid (ps1.below hb ps1.lt)
    have qt1 := Lib.hid (pt1.below hb pt1.lt)
    have qu1 := Lib.hid (pu1.below hb pu1.lt)
    have qv1 := Lib.hid (pv1.below hb pv1.lt)
    try clear hsz
    clear hb hB1 pc pd px ps1 pt1 pu1 pv1 
    obtain ⟨lc, kc, fc⟩ := qc.out
    obtain ⟨ld, kd, fd⟩ := qd.out
    obtain ⟨lx, kx, fx⟩ := qx.out
    obtain ⟨ls1, ks1, fs1⟩ := qs1.out
    obtain ⟨lt1, kt1, ft1⟩ := qt1.out
    obtain ⟨lu1, ku1, fu1⟩ := qu1.out
    obtain ⟨lv1, kv1, fv1⟩ := qv1.out
    go_wp2
    go_ret
    exact ⟨rfl, hB⟩
  · have HT := Lib.hid hT
    have HT' := Lib.hid (na_T HW.out hT)
    clear hT
    go_enter Try.func32, Try.ntmps32
    go_wp2_with fail
    refine calls_gen fun W1 hW => ?_
    have hB1 : Below w.heap.size w W1 := by rw [hW]; (repeat' (first | (with_reducible exact Below.refl _ _) | (with_reducible assumption) | (with_reducible refine Below.drew ?_) | (with_reducible refine below_drewN ?_ _) | (with_reducible refine Below.setCell ?_ ?_ _) | (with_reducible refine Below.alloc ?_ ?_ _) | (refine Below.trans ?_ (Below.mono (by with_reducible assumption) ?_)) | omega | (exact Below.size (by with_reducible assumption)) | (simp; done) | (simp; omega)))
    have pc : Own W1 (w.heap.size) [.int .i64 L, .int .i64 sl, .int .i64 rl, .int .i64 rh, .slice A n cap, .int .i64 wg] := by rw [hW]; exact ((Own.new' _ _ rfl rfl).alloc _).alloc _
    have pd : Own W1 (w.heap.size + 1) [.int .i64 L, .int .i64 sl', .int .i64 rl', .int .i64 rh', .slice A' n' cap', .int .i64 wg'] := by rw [hW]; exact (Own.new' _ _ (by simp) rfl).alloc _
    have px : Own W1 (w.heap.size + 2) [.int .i64 a, .int .i64 b, .int .i64 lv] := by rw [hW]; exact Own.new' _ _ (by simp) rfl
    try clear hBV
    try clear hB
    clear hW  
    refine (height31 L sl rl rh wg A n cap ks a _ (HA.out.below hB1 (Nat.le_refl _)) hn hlen).mono ?_
    rintro e V1 ⟨lo1, hi1, er1, rfl, hR1, hb⟩
    obtain ⟨rfl, hs1, b1, b2, b3⟩ := ht_T HC.out HT.out hR1.out ha0 (by omega)
    replace hs1 := Lib.hid hs1
    clear hR1
    have hB := hB1.trans (hb.mono hB1.size)
    have qc := Lib.hid (pc.below hb pc.lt)
    have qd := Lib.hid (pd.below hb pd.lt)
    have qx := Lib.hid (px.below hb px.lt)
    try clear hsz
    clear hb hB1 pc pd px 
    obtain ⟨lc, kc, fc⟩ := qc.out
    obtain ⟨ld, kd, fd⟩ := qd.out
    obtain ⟨lx, kx, fx⟩ := qx.out
    go_wp2_with fail
    refine calls_gen fun W2 hW => ?_
    have hB1 : Below w.heap.size w W2 := by rw [hW]; (repeat' (first | (with_reducible exact Below.refl _ _) | (with_reducible assumption) | (with_reducible refine Below.drew ?_) | (with_reducible refine below_drewN ?_ _) | (with_reducible refine Below.setCell ?_ ?_ _) | (with_reducible refine Below.alloc ?_ ?_ _) | (refine Below.trans ?_ (Below.mono (by with_reducible assumption) ?_)) | omega | (exact Below.size (by with_reducible assumption)) | (simp; done) | (simp; omega)))
    have pc : Own W2 (w.heap.size) [.int .i64 L, .int .i64 sl, .int .i64 rl, .int .i64 rh, .slice A n cap, .int .i64 wg] := by rw [hW]; exact (qc.out.alloc _)
    have pd : Own W2 (w.heap.size + 1) [.int .i64 L, .int .i64 sl', .int .i64 rl', .int .i64 rh', .slice A' n' cap', .int .i64 wg'] := by rw [hW]; exact (qd.out.alloc _)
    have px : Own W2 (w.heap.size + 2) [.int .i64 a, .int .i64 b, .int .i64 lv] := by rw [hW]; exact (qx.out.alloc _)
    have ps1 : Own W2 (V1.heap.size) [.int .i64 lo1, .int .i64 hi1] := by rw [hW]; exact Own.new' _ _ rfl rfl
    try clear hBV
    try clear hB
    clear hW lc kc fc qc ld kd fd qd lx kx fx qx 
    refine (height31 L sl' rl' rh' wg' A' n' cap' ks' a _ (HA'.out.below hB1 (Nat.le_refl _)) hn' hlen').mono ?_
    rintro e V2 ⟨lo2, hi2, er2, rfl, hR2, hb⟩
    obtain ⟨rfl, hs2, b4, b5, b6⟩ := ht_T HD.out HT'.out hR2.out ha0 (by omega)
    have i1 := Lib.hid (na_ht HW.out hs1.out hs2)
    clear hR2 hs1 hs2
    have hB := hB1.trans (hb.mono hB1.size)
    have qc := Lib.hid (pc.below hb pc.lt)
    have qd := Lib.hid (pd.below hb pd.lt)
    have qx := Lib.hid (px.below hb px.lt)
    have qs1 := Lib.hid (ps1.below hb ps1.lt)
    try clear hsz
    clear hb hB1 pc pd px ps1 
    obtain ⟨lc, kc, fc⟩ := qc.out
    obtain ⟨ld, kd, fd⟩ := qd.out
    obtain ⟨lx, kx, fx⟩ := qx.out
    obtain ⟨ls1, ks1, fs1⟩ := qs1.out
    go_wp2_with fail
    refine calls_gen fun W3 hW => ?_
    have hB1 : Below w.heap.size w W3 := by rw [hW]; (repeat' (first | (with_reducible exact Below.refl _ _) | (with_reducible assumption) | (with_reducible refine Below.drew ?_) | (with_reducible refine below_drewN ?_ _) | (with_reducible refine Below.setCell ?_ ?_ _) | (with_reducible refine Below.alloc ?_ ?_ _) | (refine Below.trans ?_ (Below.mono (by with_reducible assumption) ?_)) | omega | (exact Below.size (by with_reducible assumption)) | (simp; done) | (simp; omega)))
    have pc : Own W3 (w.heap.size) [.int .i64 L, .int .i64 sl, .int .i64 rl, .int .i64 rh, .slice A n cap, .int .i64 wg] := by rw [hW]; exact (qc.out.alloc _)
    have pd : Own W3 (w.heap.size + 1) [.int .i64 L, .int .i64 sl', .int .i64 rl', .int .i64 rh', .slice A' n' cap', .int .i64 wg'] := by rw [hW]; exact (qd.out.alloc _)
    have px : Own W3 (w.heap.size + 2) [.int .i64 a, .int .i64 b, .int .i64 lv] := by rw [hW]; exact (qx.out.alloc _)
    have ps1 : Own W3 (V1.heap.size) [.int .i64 lo1, .int .i64 hi1] := by rw [hW]; exact (qs1.out.alloc _)
    have pt1 : Own W3 (V2.heap.size) [.int .i64 lo2, .int .i64 hi2] := by rw [hW]; exact Own.new' _ _ rfl rfl
    try clear hBV
    try clear hB
    clear hW lc kc fc qc ld kd fd qd lx kx fx qx ls1 ks1 fs1 qs1 
    refine (integral20 L sl rl rh wg A n cap ks a b _ (HA.out.below hB1 (Nat.le_refl _)) hn hlen).mono ?_
    rintro e V3 ⟨lo3, hi3, er3, rfl, hR3, hb⟩
    obtain ⟨rfl, hs3, b7, b8, b9⟩ := int_T HC.out HT.out hR3.out ha0 hab hbL
    replace hs3 := Lib.hid hs3
    clear hR3
    have hB := hB1.trans (hb.mono hB1.size)
    have qc := Lib.hid (pc.below hb pc.lt)
    have qd := Lib.hid (pd.below hb pd.lt)
    have qx := Lib.hid (px.below hb px.lt)
    have qs1 := Lib.hid (ps1.below hb ps1.lt)
    have qt1 := Lib.hid (pt1.below hb pt1.lt)
    try clear hsz
    clear hb hB1 pc pd px ps1 pt1 
    obtain ⟨lc, kc, fc⟩ := qc.out
    obtain ⟨ld, kd, fd⟩ := qd.out
    obtain ⟨lx, kx, fx⟩ := qx.out
    obtain ⟨ls1, ks1, fs1⟩ := qs1.out
    obtain ⟨lt1, kt1, ft1⟩ := qt1.out
    go_wp2_with fail
    refine calls_gen fun W4 hW => ?_
    have hB1 : Below w.heap.size w W4 := by rw [hW]; (repeat' (first | (with_reducible exact Below.refl _ _) | (with_reducible assumption) | (with_reducible refine Below.drew ?_) | (with_reducible refine below_drewN ?_ _) | (with_reducible refine Below.setCell ?_ ?_ _) | (with_reducible refine Below.alloc ?_ ?_ _) | (refine Below.trans ?_ (Below.mono (by with_reducible assumption) ?_)) | omega | (exact Below.size (by with_reducible assumption)) | (simp; done) | (simp; omega)))
    have pc : Own W4 (w.heap.size) [.int .i64 L, .int .i64 sl, .int .i64 rl, .int .i64 rh, .slice A n cap, .int .i64 wg] := by rw [hW]; exact (qc.out.alloc _)
    have pd : Own W4 (w.heap.size + 1) [.int .i64 L, .int .i64 sl', .int .i64 rl', .int .i64 rh', .slice A' n' cap', .int .i64 wg'] := by rw [hW]; exact (qd.out.alloc _)
    have px : Own W4 (w.heap.size + 2) [.int .i64 a, .int .i64 b, .int .i64 lv] := by rw [hW]; exact (qx.out.alloc _)
    have ps1 : Own W4 (V1.heap.size) [.int .i64 lo1, .int .i64 hi1] := by rw [hW]; exact (qs1.out.alloc _)
    have pt1 : Own W4 (V2.heap.size) [.int .i64 lo2, .int .i64 hi2] := by rw [hW]; exact (qt1.out.alloc _)
    have pu1 : Own W4 (V3.heap.size) [.int .i64 lo3, .int .i64 hi3] := by rw [hW]; exact Own.new' _ _ rfl rfl
    try clear hBV
    try clear hB
    clear hW lc kc fc qc ld kd fd qd lx kx fx qx ls1 ks1 fs1 qs1 lt1 kt1 ft1 qt1 
    refine (integral20 L sl' rl' rh' wg' A' n' cap' ks' a b _ (HA'.out.below hB1 (Nat.le_refl _)) hn' hlen').mono ?_
    rintro e V4 ⟨lo4, hi4, er4, rfl, hR4, hb⟩
    obtain ⟨rfl, hs4, b10, b11, b12⟩ := int_T HD.out HT'.out hR4.out ha0 hab hbL
    have i2 := Lib.hid (na_in HW.out hs3.out hs4)
    clear hR4 hs3 hs4
    have hB := hB1.trans (hb.mono hB1.size)
    have qc := Lib.hid (pc.below hb pc.lt)
    have qd := Lib.hid (pd.below hb pd.lt)
    have qx := Lib.hid (px.below hb px.lt)
    have qs1 := Lib.hid (ps1.below hb ps1.lt)
    have qt1 := Lib.hid (pt1.below hb pt1.lt)
    have qu1 := Lib.hid (pu1.below hb pu1.lt)
    try clear hsz
    clear hb hB1 pc pd px ps1 pt1 pu1 
    obtain ⟨lc, kc, fc⟩ := qc.out
    obtain ⟨ld, kd, fd⟩ := qd.out
    obtain ⟨lx, kx, fx⟩ := qx.out
    obtain ⟨ls1, ks1, fs1⟩ := qs1.out
    obtain ⟨lt1, kt1, ft1⟩ := qt1.out
    obtain ⟨lu1, ku1, fu1⟩ := qu1.out
    go_wp2_with fail
    refine calls_gen fun W5 hW => ?_
    have hB1 : Below w.heap.size w W5 := by rw [hW]; (repeat' (first | (with_reducible exact Below.refl _ _) | (with_reducible assumption) | (with_reducible refine Below.drew ?_) | (with_reducible refine below_drewN ?_ _) | (with_reducible refine Below.setCell ?_ ?_ _) | (with_reducible refine Below.alloc ?_ ?_ _) | (refine Below.trans ?_ (Below.mono (by with_reducible assumption) ?_)) | omega | (exact Below.size (by with_reducible assumption)) | (simp; done) | (simp; omega)))
    have pc : Own W5 (w.heap.size) [.int .i64 L, .int .i64 sl, .int .i64 rl, .int .i64 rh, .slice A n cap, .int .i64 wg] := by rw [hW]; exact (qc.out.alloc _)
    have pd : Own W5 (w.heap.size + 1) [.int .i64 L, .int .i64 sl', .int .i64 rl', .int .i64 rh', .slice A' n' cap', .int .i64 wg'] := by rw [hW]; exact (qd.out.alloc _)
    have px : Own W5 (w.heap.size + 2) [.int .i64 a, .int .i64 b, .int .i64 lv] := by rw [hW]; exact (qx.out.alloc _)
    have ps1 : Own W5 (V1.heap.size) [.int .i64 lo1, .int .i64 hi1] := by rw [hW]; exact (qs1.out.alloc _)
    have pt1 : Own W5 (V2.heap.size) [.int .i64 lo2, .int .i64 hi2] := by rw [hW]; exact (qt1.out.alloc _)
    have pu1 : Own W5 (V3.heap.size) [.int .i64 lo3, .int .i64 hi3] := by rw [hW]; exact (qu1.out.alloc _)
    have pv1 : Own W5 (V4.heap.size) [.int .i64 lo4, .int .i64 hi4] := by rw [hW]; exact Own.new' _ _ rfl rfl
    try clear hBV
    try clear hB
    clear hW lc kc fc qc ld kd fd qd lx kx fx qx ls1 ks1 fs1 qs1 lt1 kt1 ft1 qt1 lu1 ku1 fu1 qu1 
    refine (told27 L sl rl rh wg A n cap ks _ (HA.out.below hB1 (Nat.le_refl _)) hn hlen).mono ?_
    rintro e V5 ⟨ls5, m5, er5, rfl, hD5, hT5, hb⟩
    obtain ⟨rfl, hd5, he5⟩ := draw_T HC.out HT.out hD5.out
    replace hd5 := Lib.hid hd5
    replace he5 := Lib.hid he5
    clear hD5
    have hB := hB1.trans (hb.mono hB1.size)
    have qc := Lib.hid (pc.below hb pc.lt)
    have qd := Lib.hid (pd.below hb pd.lt)
    have qx := Lib.hid (px.below hb px.lt)
    have qs1 := Lib.hid (ps1.below hb ps1.lt)
    have qt1 := Lib.hid (pt1.below hb pt1.lt)
    have qu1 := Lib.hid (pu1.below hb pu1.lt)
    have qv1 := Lib.hid (pv1.below hb pv1.lt)
    try clear hsz
    clear hb hB1 pc pd px ps1 pt1 pu1 pv1 
    obtain ⟨lc, kc, fc⟩ := qc.out
    obtain ⟨ld, kd, fd⟩ := qd.out
    obtain ⟨lx, kx, fx⟩ := qx.out
    obtain ⟨ls1, ks1, fs1⟩ := qs1.out
    obtain ⟨lt1, kt1, ft1⟩ := qt1.out
    obtain ⟨lu1, ku1, fu1⟩ := qu1.out
    obtain ⟨lv1, kv1, fv1⟩ := qv1.out
    go_wp2_with fail
    refine calls_gen fun W6 hW => ?_
    have hB1 : Below w.heap.size w W6 := by rw [hW]; (repeat' (first | (with_reducible exact Below.refl _ _) | (with_reducible assumption) | (with_reducible refine Below.drew ?_) | (with_reducible refine below_drewN ?_ _) | (with_reducible refine Below.setCell ?_ ?_ _) | (with_reducible refine Below.alloc ?_ ?_ _) | (refine Below.trans ?_ (Below.mono (by with_reducible assumption) ?_)) | omega | (exact Below.size (by with_reducible assumption)) | (simp; done) | (simp; omega)))
    have pc : Own W6 (w.heap.size) [.int .i64 L, .int .i64 sl, .int .i64 rl, .int .i64 rh, .slice A n cap, .int .i64 wg] := by rw [hW]; exact qc.out
    have pd : Own W6 (w.heap.size + 1) [.int .i64 L, .int .i64 sl', .int .i64 rl', .int .i64 rh', .slice A' n' cap', .int .i64 wg'] := by rw [hW]; exact qd.out
    have px : Own W6 (w.heap.size + 2) [.int .i64 a, .int .i64 b, .int .i64 lv] := by rw [hW]; exact qx.out
    have ps1 : Own W6 (V1.heap.size) [.int .i64 lo1, .int .i64 hi1] := by rw [hW]; exact qs1.out
    have pt1 : Own W6 (V2.heap.size) [.int .i64 lo2, .int .i64 hi2] := by rw [hW]; exact qt1.out
    have pu1 : Own W6 (V3.heap.size) [.int .i64 lo3, .int .i64 hi3] := by rw [hW]; exact qu1.out
    have pv1 : Own W6 (V4.heap.size) [.int .i64 lo4, .int .i64 hi4] := by rw [hW]; exact qv1.out
    try clear hBV
    try clear hB
    clear hW lc kc fc qc ld kd fd qd lx kx fx qx ls1 ks1 fs1 qs1 lt1 kt1 ft1 qt1 lu1 ku1 fu1 qu1 lv1 kv1 fv1 qv1 
    refine (told27 L sl' rl' rh' wg' A' n' cap' ks' _ (HA'.out.below hB1 (Nat.le_refl _)) hn' hlen').mono ?_
    rintro e V6 ⟨ls6, m6, er6, rfl, hD6, hT6, hb⟩
    obtain ⟨rfl, hd6, he6⟩ := draw_T HD.out HT'.out hD6.out
    obtain ⟨i3, i4⟩ := told_mono HW.out he5.out hd5.out hT5.out he6 hd6 hT6.out
    clear hD6 hd5 hd6 he5 he6 hT5 hT6
    have hB := hB1.trans (hb.mono hB1.size)
    have qc := Lib.hid (pc.below hb pc.lt)
    have qd := Lib.hid (pd.below hb pd.lt)
    have qx := Lib.hid (px.below hb px.lt)
    have qs1 := Lib.hid (ps1.below hb ps1.lt)
    have qt1 := Lib.hid (pt1.below hb pt1.lt)
    have qu1 := Lib.hid (pu1.below hb pu1.lt)
    have qv1 := Lib.hid (pv1.below hb pv1.lt)
    try clear hsz
    clear hb hB1 pc pd px ps1 pt1 pu1 pv1 
    obtain ⟨lc, kc, fc⟩ := qc.out
    obtain ⟨ld, kd, fd⟩ := qd.out
    obtain ⟨lx, kx, fx⟩ := qx.out
    obtain ⟨ls1, ks1, fs1⟩ := qs1.out
    obtain ⟨lt1, kt1, ft1⟩ := qt1.out
    obtain ⟨lu1, ku1, fu1⟩ := qu1.out
    obtain ⟨lv1, kv1, fv1⟩ := qv1.out
    go_wp2_with fail
    refine calls_gen fun W7 hW => ?_
    have hB1 : Below w.heap.size w W7 := by rw [hW]; (repeat' (first | (with_reducible exact Below.refl _ _) | (with_reducible assumption) | (with_reducible refine Below.drew ?_) | (with_reducible refine below_drewN ?_ _) | (with_reducible refine Below.setCell ?_ ?_ _) | (with_reducible refine Below.alloc ?_ ?_ _) | (refine Below.trans ?_ (Below.mono (by with_reducible assumption) ?_)) | omega | (exact Below.size (by with_reducible assumption)) | (simp; done) | (simp; omega)))
    have pc : Own W7 (w.heap.size) [.int .i64 L, .int .i64 sl, .int .i64 rl, .int .i64 rh, .slice A n cap, .int .i64 wg] := by rw [hW]; exact qc.out
    have pd : Own W7 (w.heap.size + 1) [.int .i64 L, .int .i64 sl', .int .i64 rl', .int .i64 rh', .slice A' n' cap', .int .i64 wg'] := by rw [hW]; exact qd.out
    have px : Own W7 (w.heap.size + 2) [.int .i64 a, .int .i64 b, .int .i64 lv] := by rw [hW]; exact qx.out
    have ps1 : Own W7 (V1.heap.size) [.int .i64 lo1, .int .i64 hi1] := by rw [hW]; exact qs1.out
    have pt1 : Own W7 (V2.heap.size) [.int .i64 lo2, .int .i64 hi2] := by rw [hW]; exact qt1.out
    have pu1 : Own W7 (V3.heap.size) [.int .i64 lo3, .int .i64 hi3] := by rw [hW]; exact qu1.out
    have pv1 : Own W7 (V4.heap.size) [.int .i64 lo4, .int .i64 hi4] := by rw [hW]; exact qv1.out
    try clear hBV
    try clear hB
    clear hW lc kc fc qc ld kd fd qd lx kx fx qx ls1 ks1 fs1 qs1 lt1 kt1 ft1 qt1 lu1 ku1 fu1 qu1 lv1 kv1 fv1 qv1 
    refine (isKnown22w 0 _).mono ?_
    rintro e V7 ⟨rfl, hb⟩
    have hB := hB1.trans (hb.mono hB1.size)
    have qc := Lib.hid (pc.below hb pc.lt)
    have qd := Lib.hid (pd.below hb pd.lt)
    have qx := Lib.hid (px.below hb px.lt)
    have qs1 := Lib.hid (ps1.below hb ps1.lt)
    have qt1 := Lib.hid (pt1.below hb pt1.lt)
    have qu1 := Lib.hid (pu1.below hb pu1.lt)
    have qv1 := Lib.hid (pv1.below hb pv1.lt)
    try clear hsz
    clear hb hB1 pc pd px ps1 pt1 pu1 pv1 
    obtain ⟨lc, kc, fc⟩ := qc.out
    obtain ⟨ld, kd, fd⟩ := qd.out
    obtain ⟨lx, kx, fx⟩ := qx.out
    obtain ⟨ls1, ks1, fs1⟩ := qs1.out
    obtain ⟨lt1, kt1, ft1⟩ := qt1.out
    obtain ⟨lu1, ku1, fu1⟩ := qu1.out
    obtain ⟨lv1, kv1, fv1⟩ := qv1.out
    go_wp2_with fail
    refine calls_gen fun W8 hW => ?_
    have hB1 : Below w.heap.size w W8 := by rw [hW]; (repeat' (first | (with_reducible exact Below.refl _ _) | (with_reducible assumption) | (with_reducible refine Below.drew ?_) | (with_reducible refine below_drewN ?_ _) | (with_reducible refine Below.setCell ?_ ?_ _) | (with_reducible refine Below.alloc ?_ ?_ _) | (refine Below.trans ?_ (Below.mono (by with_reducible assumption) ?_)) | omega | (exact Below.size (by with_reducible assumption)) | (simp; done) | (simp; omega)))
    have pc : Own W8 (w.heap.size) [.int .i64 L, .int .i64 sl, .int .i64 rl, .int .i64 rh, .slice A n cap, .int .i64 wg] := by rw [hW]; exact qc.out
    have pd : Own W8 (w.heap.size + 1) [.int .i64 L, .int .i64 sl', .int .i64 rl', .int .i64 rh', .slice A' n' cap', .int .i64 wg'] := by rw [hW]; exact qd.out
    have px : Own W8 (w.heap.size + 2) [.int .i64 a, .int .i64 b, .int .i64 lv] := by rw [hW]; exact qx.out
    have ps1 : Own W8 (V1.heap.size) [.int .i64 lo1, .int .i64 hi1] := by rw [hW]; exact qs1.out
    have pt1 : Own W8 (V2.heap.size) [.int .i64 lo2, .int .i64 hi2] := by rw [hW]; exact qt1.out
    have pu1 : Own W8 (V3.heap.size) [.int .i64 lo3, .int .i64 hi3] := by rw [hW]; exact qu1.out
    have pv1 : Own W8 (V4.heap.size) [.int .i64 lo4, .int .i64 hi4] := by rw [hW]; exact qv1.out
    try clear hBV
    try clear hB
    clear hW lc kc fc qc ld kd fd qd lx kx fx qx ls1 ks1 fs1 qs1 lt1 kt1 ft1 qt1 lu1 ku1 fu1 qu1 lv1 kv1 fv1 qv1 
    refine (isKnown22w 0 _).mono ?_
    rintro e V8 ⟨rfl, hb⟩
    have hB := hB1.trans (hb.mono hB1.size)
    have qc := Lib.hid (pc.below hb pc.lt)
    have qd := Lib.hid (pd.below hb pd.lt)
    have qx := Lib.hid (px.below hb px.lt)
    have qs1 := Lib.hid (ps1.below hb ps1.lt)
    have qt1 := Lib.hid (pt1.below hb pt1.lt)
    have qu1 := Lib.hid (pu1.below hb pu1.lt)
    have qv1 := Lib.hid (pv1.below hb pv1.lt)
    try clear hsz
    clear hb hB1 pc pd px ps1 pt1 pu1 pv1 
    obtain ⟨lc, kc, fc⟩ := qc.out
    obtain ⟨ld, kd, fd⟩ := qd.out
    obtain ⟨lx, kx, fx⟩ := qx.out
    obtain ⟨ls1, ks1, fs1⟩ := qs1.out
    obtain ⟨lt1, kt1, ft1⟩ := qt1.out
    obtain ⟨lu1, ku1, fu1⟩ := qu1.out
    obtain ⟨lv1, kv1, fv1⟩ := qv1.out
    go_wp2_with fail
    refine calls_gen fun W9 hW => ?_
    have hB1 : Below w.heap.size w W9 := by rw [hW]; (repeat' (first | (with_reducible exact Below.refl _ _) | (with_reducible assumption) | (with_reducible refine Below.drew ?_) | (with_reducible refine below_drewN ?_ _) | (with_reducible refine Below.setCell ?_ ?_ _) | (with_reducible refine Below.alloc ?_ ?_ _) | (refine Below.trans ?_ (Below.mono (by with_reducible assumption) ?_)) | omega | (exact Below.size (by with_reducible assumption)) | (simp; done) | (simp; omega)))
    have pc : Own W9 (w.heap.size) [.int .i64 L, .int .i64 sl, .int .i64 rl, .int .i64 rh, .slice A n cap, .int .i64 wg] := by rw [hW]; exact qc.out
    have pd : Own W9 (w.heap.size + 1) [.int .i64 L, .int .i64 sl', .int .i64 rl', .int .i64 rh', .slice A' n' cap', .int .i64 wg'] := by rw [hW]; exact qd.out
    have px : Own W9 (w.heap.size + 2) [.int .i64 a, .int .i64 b, .int .i64 lv] := by rw [hW]; exact qx.out
    have ps1 : Own W9 (V1.heap.size) [.int .i64 lo1, .int .i64 hi1] := by rw [hW]; exact qs1.out
    have pt1 : Own W9 (V2.heap.size) [.int .i64 lo2, .int .i64 hi2] := by rw [hW]; exact qt1.out
    have pu1 : Own W9 (V3.heap.size) [.int .i64 lo3, .int .i64 hi3] := by rw [hW]; exact qu1.out
    have pv1 : Own W9 (V4.heap.size) [.int .i64 lo4, .int .i64 hi4] := by rw [hW]; exact qv1.out
    try clear hBV
    try clear hB
    clear hW lc kc fc qc ld kd fd qd lx kx fx qx ls1 ks1 fs1 qs1 lt1 kt1 ft1 qt1 lu1 ku1 fu1 qu1 lv1 kv1 fv1 qv1 
    refine (inside63 lo1 hi1 lo2 hi2 _ i1.out).mono ?_
    rintro e V9 ⟨rfl, hb⟩
    have hB := hB1.trans (hb.mono hB1.size)
    have qc := Lib.hid (pc.below hb pc.lt)
    have qd := Lib.hid (pd.below hb pd.lt)
    have qx := Lib.hid (px.below hb px.lt)
    have qs1 := Lib.hid (ps1.below hb ps1.lt)
    have qt1 := Lib.hid (pt1.below hb pt1.lt)
    have qu1 := Lib.hid (pu1.below hb pu1.lt)
    have qv1 := Lib.hid (pv1.below hb pv1.lt)
    try clear hsz
    clear hb hB1 pc pd px ps1 pt1 pu1 pv1 
    obtain ⟨lc, kc, fc⟩ := qc.out
    obtain ⟨ld, kd, fd⟩ := qd.out
    obtain ⟨lx, kx, fx⟩ := qx.out
    obtain ⟨ls1, ks1, fs1⟩ := qs1.out
    obtain ⟨lt1, kt1, ft1⟩ := qt1.out
    obtain ⟨lu1, ku1, fu1⟩ := qu1.out
    obtain ⟨lv1, kv1, fv1⟩ := qv1.out
    go_wp2_with fail
    refine calls_gen fun W10 hW => ?_
    have hB1 : Below w.heap.size w W10 := by rw [hW]; (repeat' (first | (with_reducible exact Below.refl _ _) | (with_reducible assumption) | (with_reducible refine Below.drew ?_) | (with_reducible refine below_drewN ?_ _) | (with_reducible refine Below.setCell ?_ ?_ _) | (with_reducible refine Below.alloc ?_ ?_ _) | (refine Below.trans ?_ (Below.mono (by with_reducible assumption) ?_)) | omega | (exact Below.size (by with_reducible assumption)) | (simp; done) | (simp; omega)))
    have pc : Own W10 (w.heap.size) [.int .i64 L, .int .i64 sl, .int .i64 rl, .int .i64 rh, .slice A n cap, .int .i64 wg] := by rw [hW]; exact qc.out
    have pd : Own W10 (w.heap.size + 1) [.int .i64 L, .int .i64 sl', .int .i64 rl', .int .i64 rh', .slice A' n' cap', .int .i64 wg'] := by rw [hW]; exact qd.out
    have px : Own W10 (w.heap.size + 2) [.int .i64 a, .int .i64 b, .int .i64 lv] := by rw [hW]; exact qx.out
    have ps1 : Own W10 (V1.heap.size) [.int .i64 lo1, .int .i64 hi1] := by rw [hW]; exact qs1.out
    have pt1 : Own W10 (V2.heap.size) [.int .i64 lo2, .int .i64 hi2] := by rw [hW]; exact qt1.out
    have pu1 : Own W10 (V3.heap.size) [.int .i64 lo3, .int .i64 hi3] := by rw [hW]; exact qu1.out
    have pv1 : Own W10 (V4.heap.size) [.int .i64 lo4, .int .i64 hi4] := by rw [hW]; exact qv1.out
    try clear hBV
    try clear hB
    clear hW lc kc fc qc ld kd fd qd lx kx fx qx ls1 ks1 fs1 qs1 lt1 kt1 ft1 qt1 lu1 ku1 fu1 qu1 lv1 kv1 fv1 qv1 
    refine (inside63 lo3 hi3 lo4 hi4 _ i2.out).mono ?_
    rintro e V10 ⟨rfl, hb⟩
    have hB := hB1.trans (hb.mono hB1.size)
    have qc := Lib.hid (pc.below hb pc.lt)
    have qd := Lib.hid (pd.below hb pd.lt)
    have qx := Lib.hid (px.below hb px.lt)
    have qs1 := Lib.hid (ps1.below hb ps1.lt)
    have qt1 := Lib.hid (pt1.below hb pt1.lt)
    have qu1 := Lib.hid (pu1.below hb pu1.lt)
    have qv1 := Lib.hid (pv1.below hb pv1.lt)
    try clear hsz
    clear hb hB1 pc pd px ps1 pt1 pu1 pv1 
    obtain ⟨lc, kc, fc⟩ := qc.out
    obtain ⟨ld, kd, fd⟩ := qd.out
    obtain ⟨lx, kx, fx⟩ := qx.out
    obtain ⟨ls1, ks1, fs1⟩ := qs1.out
    obtain ⟨lt1, kt1, ft1⟩ := qt1.out
    obtain ⟨lu1, ku1, fu1⟩ := qu1.out
    obtain ⟨lv1, kv1, fv1⟩ := qv1.out
    by_cases haL : a = L
    · have haE : (a == L) = true := by simpa using haL
      clear haL
      go_wp2
      go_ret
      exact ⟨rfl, hB⟩
    · have haE : (a == L) = false := by simpa using haL
      have haM : a < L := by omega
      clear haL
      go_wp2_with fail
      refine calls_gen fun W11 hW => ?_
      have hB1 : Below w.heap.size w W11 := by rw [hW]; (repeat' (first | (with_reducible exact Below.refl _ _) | (with_reducible assumption) | (with_reducible refine Below.drew ?_) | (with_reducible refine below_drewN ?_ _) | (with_reducible refine Below.setCell ?_ ?_ _) | (with_reducible refine Below.alloc ?_ ?_ _) | (refine Below.trans ?_ (Below.mono (by with_reducible assumption) ?_)) | omega | (exact Below.size (by with_reducible assumption)) | (simp; done) | (simp; omega)))
      have pc : Own W11 (w.heap.size) [.int .i64 L, .int .i64 sl, .int .i64 rl, .int .i64 rh, .slice A n cap, .int .i64 wg] := by rw [hW]; exact qc.out
      have pd : Own W11 (w.heap.size + 1) [.int .i64 L, .int .i64 sl', .int .i64 rl', .int .i64 rh', .slice A' n' cap', .int .i64 wg'] := by rw [hW]; exact qd.out
      have px : Own W11 (w.heap.size + 2) [.int .i64 a, .int .i64 b, .int .i64 lv] := by rw [hW]; exact qx.out
      have ps1 : Own W11 (V1.heap.size) [.int .i64 lo1, .int .i64 hi1] := by rw [hW]; exact qs1.out
      have pt1 : Own W11 (V2.heap.size) [.int .i64 lo2, .int .i64 hi2] := by rw [hW]; exact qt1.out
      have pu1 : Own W11 (V3.heap.size) [.int .i64 lo3, .int .i64 hi3] := by rw [hW]; exact qu1.out
      have pv1 : Own W11 (V4.heap.size) [.int .i64 lo4, .int .i64 hi4] := by rw [hW]; exact qv1.out
      try clear hBV
      try clear hB
      clear hW lc kc fc qc ld kd fd qd lx kx fx qx ls1 ks1 fs1 qs1 lt1 kt1 ft1 qt1 lu1 ku1 fu1 qu1 lv1 kv1 fv1 qv1 
      refine (lean35 L sl rl rh wg A n cap ks a _ (HA.out.below hB1 (Nat.le_refl _)) hn hlen hLL.out hSS.out).mono ?_
      rintro e V11 ⟨lo7, hi7, er7, rfl, hR7, hb⟩
      obtain ⟨rfl, hs7⟩ := lean_T HC.out HT.out hR7.out ha0 haM
      replace hs7 := Lib.hid hs7
      clear hR7
      have hB := hB1.trans (hb.mono hB1.size)
      have qc := Lib.hid (pc.below hb pc.lt)
      have qd := Lib.hid (pd.below hb pd.lt)
      have qx := Lib.hid (px.below hb px.lt)
      have qs1 := Lib.hid (ps1.below hb ps1.lt)
      have qt1 := Lib.hid (pt1.below hb pt1.lt)
      have qu1 := Lib.hid (pu1.below hb pu1.lt)
      have qv1 := Lib.hid (pv1.below hb pv1.lt)
      try clear hsz
      clear hb hB1 pc pd px ps1 pt1 pu1 pv1 
      obtain ⟨lc, kc, fc⟩ := qc.out
      obtain ⟨ld, kd, fd⟩ := qd.out
      obtain ⟨lx, kx, fx⟩ := qx.out
      obtain ⟨ls1, ks1, fs1⟩ := qs1.out
      obtain ⟨lt1, kt1, ft1⟩ := qt1.out
      obtain ⟨lu1, ku1, fu1⟩ := qu1.out
      obtain ⟨lv1, kv1, fv1⟩ := qv1.out
      go_wp2_with fail
      refine calls_gen fun W12 hW => ?_
      have hB1 : Below w.heap.size w W12 := by rw [hW]; (repeat' (first | (with_reducible exact Below.refl _ _) | (with_reducible assumption) | (with_reducible refine Below.drew ?_) | (with_reducible refine below_drewN ?_ _) | (with_reducible refine Below.setCell ?_ ?_ _) | (with_reducible refine Below.alloc ?_ ?_ _) | (refine Below.trans ?_ (Below.mono (by with_reducible assumption) ?_)) | omega | (exact Below.size (by with_reducible assumption)) | (simp; done) | (simp; omega)))
      have pc : Own W12 (w.heap.size) [.int .i64 L, .int .i64 sl, .int .i64 rl, .int .i64 rh, .slice A n cap, .int .i64 wg] := by rw [hW]; exact (qc.out.alloc _)
      have pd : Own W12 (w.heap.size + 1) [.int .i64 L, .int .i64 sl', .int .i64 rl', .int .i64 rh', .slice A' n' cap', .int .i64 wg'] := by rw [hW]; exact (qd.out.alloc _)
      have px : Own W12 (w.heap.size + 2) [.int .i64 a, .int .i64 b, .int .i64 lv] := by rw [hW]; exact (qx.out.alloc _)
      have ps1 : Own W12 (V1.heap.size) [.int .i64 lo1, .int .i64 hi1] := by rw [hW]; exact (qs1.out.alloc _)
      have pt1 : Own W12 (V2.heap.size) [.int .i64 lo2, .int .i64 hi2] := by rw [hW]; exact (qt1.out.alloc _)
      have pu1 : Own W12 (V3.heap.size) [.int .i64 lo3, .int .i64 hi3] := by rw [hW]; exact (qu1.out.alloc _)
      have pv1 : Own W12 (V4.heap.size) [.int .i64 lo4, .int .i64 hi4] := by rw [hW]; exact (qv1.out.alloc _)
      have pw1 : Own W12 (V11.heap.size) [.int .i64 lo7, .int .i64 hi7] := by rw [hW]; exact Own.new' _ _ rfl rfl
      try clear hBV
      try clear hB
      clear hW lc kc fc qc ld kd fd qd lx kx fx qx ls1 ks1 fs1 qs1 lt1 kt1 ft1 qt1 lu1 ku1 fu1 qu1 lv1 kv1 fv1 qv1 
      refine (lean35 L sl' rl' rh' wg' A' n' cap' ks' a _ (HA'.out.below hB1 (Nat.le_refl _)) hn' hlen' hLL.out hSS'.out).mono ?_
      rintro e V12 ⟨lo8, hi8, er8, rfl, hR8, hb⟩
      obtain ⟨rfl, hs8⟩ := lean_T HD.out HT'.out hR8.out ha0 haM
      have i5 := Lib.hid (na_ln HW.out hs7.out hs8)
      clear hR8 hs7 hs8
      have hB := hB1.trans (hb.mono hB1.size)
      have qc := Lib.hid (pc.below hb pc.lt)
      have qd := Lib.hid (pd.below hb pd.lt)
      have qx := Lib.hid (px.below hb px.lt)
      have qs1 := Lib.hid (ps1.below hb ps1.lt)
      have qt1 := Lib.hid (pt1.below hb pt1.lt)
      have qu1 := Lib.hid (pu1.below hb pu1.lt)
      have qv1 := Lib.hid (pv1.below hb pv1.lt)
      have qw1 := Lib.hid (pw1.below hb pw1.lt)
      try clear hsz
      clear hb hB1 pc pd px ps1 pt1 pu1 pv1 pw1 
      obtain ⟨lc, kc, fc⟩ := qc.out
      obtain ⟨ld, kd, fd⟩ := qd.out
      obtain ⟨lx, kx, fx⟩ := qx.out
      obtain ⟨ls1, ks1, fs1⟩ := qs1.out
      obtain ⟨lt1, kt1, ft1⟩ := qt1.out
      obtain ⟨lu1, ku1, fu1⟩ := qu1.out
      obtain ⟨lv1, kv1, fv1⟩ := qv1.out
      obtain ⟨lw1, kw1, fw1⟩ := qw1.out
      go_wp2_with fail
      refine calls_gen fun W13 hW => ?_
      have hB1 : Below w.heap.size w W13 := by rw [hW]; (repeat' (first | (with_reducible exact Below.refl _ _) | (with_reducible assumption) | (with_reducible refine Below.drew ?_) | (with_reducible refine below_drewN ?_ _) | (with_reducible refine Below.setCell ?_ ?_ _) | (with_reducible refine Below.alloc ?_ ?_ _) | (refine Below.trans ?_ (Below.mono (by with_reducible assumption) ?_)) | omega | (exact Below.size (by with_reducible assumption)) | (simp; done) | (simp; omega)))
      have pc : Own W13 (w.heap.size) [.int .i64 L, .int .i64 sl, .int .i64 rl, .int .i64 rh, .slice A n cap, .int .i64 wg] := by rw [hW]; exact (qc.out.alloc _)
      have pd : Own W13 (w.heap.size + 1) [.int .i64 L, .int .i64 sl', .int .i64 rl', .int .i64 rh', .slice A' n' cap', .int .i64 wg'] := by rw [hW]; exact (qd.out.alloc _)
      have px : Own W13 (w.heap.size + 2) [.int .i64 a, .int .i64 b, .int .i64 lv] := by rw [hW]; exact (qx.out.alloc _)
      have ps1 : Own W13 (V1.heap.size) [.int .i64 lo1, .int .i64 hi1] := by rw [hW]; exact (qs1.out.alloc _)
      have pt1 : Own W13 (V2.heap.size) [.int .i64 lo2, .int .i64 hi2] := by rw [hW]; exact (qt1.out.alloc _)
      have pu1 : Own W13 (V3.heap.size) [.int .i64 lo3, .int .i64 hi3] := by rw [hW]; exact (qu1.out.alloc _)
      have pv1 : Own W13 (V4.heap.size) [.int .i64 lo4, .int .i64 hi4] := by rw [hW]; exact (qv1.out.alloc _)
      have pw1 : Own W13 (V11.heap.size) [.int .i64 lo7, .int .i64 hi7] := by rw [hW]; exact (qw1.out.alloc _)
      have py1 : Own W13 (V12.heap.size) [.int .i64 lo8, .int .i64 hi8] := by rw [hW]; exact Own.new' _ _ rfl rfl
      try clear hBV
      try clear hB
      clear hW lc kc fc qc ld kd fd qd lx kx fx qx ls1 ks1 fs1 qs1 lt1 kt1 ft1 qt1 lu1 ku1 fu1 qu1 lv1 kv1 fv1 qv1 lw1 kw1 fw1 qw1 
      refine (inside63 lo7 hi7 lo8 hi8 _ i5.out).mono ?_
      rintro e V13 ⟨rfl, hb⟩
      have hB := hB1.trans (hb.mono hB1.size)
      have qc := Lib.hid (pc.below hb pc.lt)
      have qd := Lib.hid (pd.below hb pd.lt)
      have qx := Lib.hid (px.below hb px.lt)
      have qs1 := Lib.hid (ps1.below hb ps1.lt)
      have qt1 := Lib.hid (pt1.below hb pt1.lt)
      have qu1 := Lib.hid (pu1.below hb pu1.lt)
      have qv1 := Lib.hid (pv1.below hb pv1.lt)
      have qw1 := Lib.hid (pw1.below hb pw1.lt)
      have qy1 := Lib.hid (py1.below hb py1.lt)
      try clear hsz
      clear hb hB1 pc pd px ps1 pt1 pu1 pv1 pw1 py1 
      obtain ⟨lc, kc, fc⟩ := qc.out
      obtain ⟨ld, kd, fd⟩ := qd.out
      obtain ⟨lx, kx, fx⟩ := qx.out
      obtain ⟨ls1, ks1, fs1⟩ := qs1.out
      obtain ⟨lt1, kt1, ft1⟩ := qt1.out
      obtain ⟨lu1, ku1, fu1⟩ := qu1.out
      obtain ⟨lv1, kv1, fv1⟩ := qv1.out
      obtain ⟨lw1, kw1, fw1⟩ := qw1.out
      obtain ⟨ly1, ky1, fy1⟩ := qy1.out
      go_wp2
      go_ret
      exact ⟨rfl, hB⟩
end Go.Proofs.Ytphcpphmoeiioaa
