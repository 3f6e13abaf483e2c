/- Walks: CurvesDraw. -/
import Derived.Test.YtphcpphmoeiioaaRtW
import Derived.Test.YtphcpphmoeiioaaSmW
namespace Go.Proofs.Ytphcpphmoeiioaa
open Go.RowKit Go.Maps

set_option maxRecDepth 100000 in
set_option maxHeartbeats 8000000 in
theorem ldraw5 (L sl rl rh wg : Int) (A : Option Addr) (n cap : Nat) (ks : List Kn) (a b lv : Int) (w : World) (hA : Rd 3 w A (ks.map krow)) (hn : Hid (n = ks.length)) (hlen : n ≤ 9223372036854775807) :
    Calls Try.prog 5 #[.agg #[.int .i64 L, .int .i64 sl, .int .i64 rl, .int .i64 rh, .slice A n cap, .int .i64 wg], .agg #[.int .i64 a, .int .i64 b, .int .i64 lv]] w fun e w' => e = .returned (.bool true) ∧ Below w.heap.size w w' := by
  have HA := Lib.hid hA
  clear hA
  cases hf : farB L sl rl rh wg ks
  rotate_left
  · go_enter Try.func5, Try.ntmps5
    go_wp2_with fail
    refine (far12 L sl rl rh wg A n cap ks _ (HA.out.below (B := w.heap.size) (by (repeat' (first | (with_reducible exact Below.refl _ _) | (with_reducible assumption) | (with_reducible refine Below.drew ?_) | (with_reducible refine below_drewN ?_ _) | (with_reducible refine Below.setCell ?_ ?_ _) | (with_reducible refine Below.alloc ?_ ?_ _) | (refine Below.trans ?_ (Below.mono (by with_reducible assumption) ?_)) | omega | (exact Below.size (by with_reducible assumption)) | (simp; done) | (simp; omega)))) (Nat.le_refl _)) hn hlen).mono ?_
    rw [hf]
    rintro e w1 ⟨rfl, hb1⟩
    have hB1 : Below w.heap.size w w1 := by (repeat' (first | (with_reducible exact Below.refl _ _) | (with_reducible assumption) | (with_reducible refine Below.drew ?_) | (with_reducible refine below_drewN ?_ _) | (with_reducible refine Below.setCell ?_ ?_ _) | (with_reducible refine Below.alloc ?_ ?_ _) | (refine Below.trans ?_ (Below.mono (by with_reducible assumption) ?_)) | omega | (exact Below.size (by with_reducible assumption)) | (simp; done) | (simp; omega)))
    clear hb1 hf
    go_wp2_with fail
    refine (works13 _).mono ?_
    rintro e w2 ⟨rfl, hb2⟩
    have hB2 := hB1.trans (hb2.mono hB1.size)
    go_wp2
    go_ret
    exact ⟨rfl, hB2⟩
  have HF := Lib.hid hf
  have hn40 : n ≤ 40 := by have := far_n hf; have := hn.out; omega
  clear hf
  go_enter Try.func5, Try.ntmps5
  go_wp2_with fail
  refine (far12 L sl rl rh wg A n cap ks _ (HA.out.below (B := w.heap.size) (by (repeat' (first | (with_reducible exact Below.refl _ _) | (with_reducible assumption) | (with_reducible refine Below.drew ?_) | (with_reducible refine below_drewN ?_ _) | (with_reducible refine Below.setCell ?_ ?_ _) | (with_reducible refine Below.alloc ?_ ?_ _) | (refine Below.trans ?_ (Below.mono (by with_reducible assumption) ?_)) | omega | (exact Below.size (by with_reducible assumption)) | (simp; done) | (simp; omega)))) (Nat.le_refl _)) hn hlen).mono ?_
  rw [HF.out]
  rintro e w1 ⟨rfl, hb1⟩
  have q0 := Lib.hid (show Own w1 w.heap.size [.int .i64 L, .int .i64 sl, .int .i64 rl, .int .i64 rh, .slice A n cap, .int .i64 wg] from ((Own.new' _ _ rfl rfl).alloc _).below hb1 (by simp only [World.size_alloc]; omega))
  have q1 := Lib.hid (show Own w1 (w.heap.size + 1) [.int .i64 a, .int .i64 b, .int .i64 lv] from (Own.new' _ _ (by simp) rfl).below hb1 (by simp only [World.size_alloc]; omega))
  have hB1 := Lib.hid (show Below w.heap.size w w1 by (repeat' (first | (with_reducible exact Below.refl _ _) | (with_reducible assumption) | (with_reducible refine Below.drew ?_) | (with_reducible refine below_drewN ?_ _) | (with_reducible refine Below.setCell ?_ ?_ _) | (with_reducible refine Below.alloc ?_ ?_ _) | (refine Below.trans ?_ (Below.mono (by with_reducible assumption) ?_)) | omega | (exact Below.size (by with_reducible assumption)) | (simp; done) | (simp; omega))))
  clear hb1
  obtain ⟨x00, x01, x02⟩ := q0.out
  obtain ⟨x10, x11, x12⟩ := q1.out
  go_wp2_with fail
  refine (copy14 L sl rl rh wg A n cap ks _ (HA.out.below hB1.out (Nat.le_refl _)) hn hn40).mono ?_
  rintro e w2 ⟨A', cap', rfl, hG, hb2⟩
  have hB2 := Lib.hid (hB1.out.trans (hb2.mono hB1.out.size))
  have q02 := Lib.hid (q0.out.below hb2 x00)
  have q12 := Lib.hid (q1.out.below hb2 x10)
  have HG := Lib.hid (show Rd 3 w2 A' (ks.map krow) by obtain ⟨_, _, e, h⟩ := hG.out; cases e; exact h)
  clear hb2 x00 x01 x02 x10 x11 x12 hG q0 q1 hB1
  obtain ⟨x00, x01, x02⟩ := q02.out
  obtain ⟨x10, x11, x12⟩ := q12.out
  go_wp2_with fail
  refine calls_gen fun W3 hW3 => ?_
  have p0 : Own W3 w.heap.size [.int .i64 L, .int .i64 sl, .int .i64 rl, .int .i64 rh, .slice A n cap, .int .i64 wg] := by rw [hW3]; exact q02.out.alloc _
  have p1 : Own W3 (w.heap.size + 1) [.int .i64 a, .int .i64 b, .int .i64 lv] := by rw [hW3]; exact q12.out.alloc _
  have p2 : Own W3 w2.heap.size [.int .i64 L, .int .i64 sl, .int .i64 rl, .int .i64 rh, .slice A' n cap', .int .i64 wg] := by rw [hW3]; exact Own.new' _ _ rfl rfl
  have hBp : Below w.heap.size w W3 := by rw [hW3]; exact hB2.out.alloc hB2.out.size _
  have HGp := Lib.hid (show Rd 3 W3 A' (ks.map krow) from HG.out.below (show Below w2.heap.size w2 W3 by rw [hW3]; (repeat' (first | (with_reducible exact Below.refl _ _) | (with_reducible assumption) | (with_reducible refine Below.drew ?_) | (with_reducible refine below_drewN ?_ _) | (with_reducible refine Below.setCell ?_ ?_ _) | (with_reducible refine Below.alloc ?_ ?_ _) | (refine Below.trans ?_ (Below.mono (by with_reducible assumption) ?_)) | omega | (exact Below.size (by with_reducible assumption)) | (simp; done) | (simp; omega)))) (Nat.le_refl _))
  clear hW3 x00 x01 x02 x10 x11 x12 q02 q12 hB2 HG
  refine (integral20 L sl rl rh wg A' n cap' ks a b W3 (show Rd 3 W3 A' (ks.map krow) from HGp.out) hn hlen).mono ?_
  rintro e w3 ⟨lo, hi, er, rfl, hI, hb⟩
  have q02 := Lib.hid (p0.below hb p0.lt)
  have q12 := Lib.hid (p1.below hb p1.lt)
  have q22 := Lib.hid (p2.below hb p2.lt)
  have hB2 := Lib.hid (hBp.trans (hb.mono hBp.size))
  have HG := Lib.hid (show Rd 3 w3 A' (ks.map krow) from HGp.out.below hb (Nat.le_refl _))
  clear hb hBp p0 p1 p2 HGp 
  obtain ⟨x00, x01, x02⟩ := q02.out
  obtain ⟨x10, x11, x12⟩ := q12.out
  obtain ⟨x20, x21, x22⟩ := q22.out
  go_wp2_with fail
  refine calls_gen fun W4 hW4 => ?_
  have p0 : Own W4 w.heap.size [.int .i64 L, .int .i64 sl, .int .i64 rl, .int .i64 rh, .slice A n cap, .int .i64 wg] := by rw [hW4]; exact q02.out.alloc _
  have p1 : Own W4 (w.heap.size + 1) [.int .i64 a, .int .i64 b, .int .i64 lv] := by rw [hW4]; exact q12.out.alloc _
  have p2 : Own W4 w2.heap.size [.int .i64 L, .int .i64 sl, .int .i64 rl, .int .i64 rh, .slice A' n cap', .int .i64 wg] := by rw [hW4]; exact q22.out.alloc _
  have p3 : Own W4 w3.heap.size [.int .i64 lo, .int .i64 hi] := by rw [hW4]; exact Own.new' _ _ rfl rfl
  have hBp : Below w.heap.size w W4 := by rw [hW4]; exact hB2.out.alloc hB2.out.size _
  have HGp := Lib.hid (show Rd 3 W4 A' (ks.map krow) from HG.out.below (show Below w3.heap.size w3 W4 by rw [hW4]; (repeat' (first | (with_reducible exact Below.refl _ _) | (with_reducible assumption) | (with_reducible refine Below.drew ?_) | (with_reducible refine below_drewN ?_ _) | (with_reducible refine Below.setCell ?_ ?_ _) | (with_reducible refine Below.alloc ?_ ?_ _) | (refine Below.trans ?_ (Below.mono (by with_reducible assumption) ?_)) | omega | (exact Below.size (by with_reducible assumption)) | (simp; done) | (simp; omega)))) (Nat.le_refl _))
  clear hW4 x00 x01 x02 x10 x11 x12 x20 x21 x22 q02 q12 q22 hB2 HG
  refine (rintegral23 L sl rl rh wg A n cap ks a b W4 (HA.out.below hBp (Nat.le_refl _)) hn hlen HF).mono ?_
  rintro e w4 ⟨lo', hi', er', rfl, hI', hb⟩
  obtain ⟨z1, z2, z3⟩ := intR_uniq hI.out hI'.out
  obtain rfl := z1.symm
  obtain rfl := z2.symm
  obtain rfl := z3.symm
  have q02 := Lib.hid (p0.below hb p0.lt)
  have q12 := Lib.hid (p1.below hb p1.lt)
  have q22 := Lib.hid (p2.below hb p2.lt)
  have q32 := Lib.hid (p3.below hb p3.lt)
  have hB2 := Lib.hid (hBp.trans (hb.mono hBp.size))
  have HG := Lib.hid (show Rd 3 w4 A' (ks.map krow) from HGp.out.below hb (Nat.le_refl _))
  clear hb hBp p0 p1 p2 p3 HGp hI hI'
  obtain ⟨x00, x01, x02⟩ := q02.out
  obtain ⟨x10, x11, x12⟩ := q12.out
  obtain ⟨x20, x21, x22⟩ := q22.out
  obtain ⟨x30, x31, x32⟩ := q32.out
  go_wp2_with fail
  refine calls_gen fun W5 hW5 => ?_
  have p0 : Own W5 w.heap.size [.int .i64 L, .int .i64 sl, .int .i64 rl, .int .i64 rh, .slice A n cap, .int .i64 wg] := by rw [hW5]; exact q02.out.alloc _
  have p1 : Own W5 (w.heap.size + 1) [.int .i64 a, .int .i64 b, .int .i64 lv] := by rw [hW5]; exact q12.out.alloc _
  have p2 : Own W5 w2.heap.size [.int .i64 L, .int .i64 sl, .int .i64 rl, .int .i64 rh, .slice A' n cap', .int .i64 wg] := by rw [hW5]; exact q22.out.alloc _
  have p3 : Own W5 w3.heap.size [.int .i64 lo, .int .i64 hi] := by rw [hW5]; exact q32.out.alloc _
  have p4 : Own W5 w4.heap.size [.int .i64 lo, .int .i64 hi] := by rw [hW5]; exact Own.new' _ _ rfl rfl
  have hBp : Below w.heap.size w W5 := by rw [hW5]; exact hB2.out.alloc hB2.out.size _
  have HGp := Lib.hid (show Rd 3 W5 A' (ks.map krow) from HG.out.below (show Below w4.heap.size w4 W5 by rw [hW5]; (repeat' (first | (with_reducible exact Below.refl _ _) | (with_reducible assumption) | (with_reducible refine Below.drew ?_) | (with_reducible refine below_drewN ?_ _) | (with_reducible refine Below.setCell ?_ ?_ _) | (with_reducible refine Below.alloc ?_ ?_ _) | (refine Below.trans ?_ (Below.mono (by with_reducible assumption) ?_)) | omega | (exact Below.size (by with_reducible assumption)) | (simp; done) | (simp; omega)))) (Nat.le_refl _))
  clear hW5 x00 x01 x02 x10 x11 x12 x20 x21 x22 x30 x31 x32 q02 q12 q22 q32 hB2 HG
  refine (draw21 L sl rl rh wg A' n cap' ks W5 (show Rd 3 W5 A' (ks.map krow) from HGp.out) hn hlen).mono ?_
  rintro e w5 ⟨A3, c3, ls, ed, rfl, hD, hrd, hll, hb⟩
  have q02 := Lib.hid (p0.below hb p0.lt)
  have q12 := Lib.hid (p1.below hb p1.lt)
  have q22 := Lib.hid (p2.below hb p2.lt)
  have q32 := Lib.hid (p3.below hb p3.lt)
  have q42 := Lib.hid (p4.below hb p4.lt)
  have hB2 := Lib.hid (hBp.trans (hb.mono hBp.size))
  have HG := Lib.hid (show Rd 3 w5 A' (ks.map krow) from HGp.out.below hb (Nat.le_refl _))
  have H3 := Lib.hid (show RdS w5 A3 ls from hrd)
  clear hb hBp p0 p1 p2 p3 p4 HGp hrd
  obtain ⟨x00, x01, x02⟩ := q02.out
  obtain ⟨x10, x11, x12⟩ := q12.out
  obtain ⟨x20, x21, x22⟩ := q22.out
  obtain ⟨x30, x31, x32⟩ := q32.out
  obtain ⟨x40, x41, x42⟩ := q42.out
  go_wp2_with fail
  refine calls_gen fun W6 hW6 => ?_
  have p0 : Own W6 w.heap.size [.int .i64 L, .int .i64 sl, .int .i64 rl, .int .i64 rh, .slice A n cap, .int .i64 wg] := by rw [hW6]; exact q02.out
  have p1 : Own W6 (w.heap.size + 1) [.int .i64 a, .int .i64 b, .int .i64 lv] := by rw [hW6]; exact q12.out
  have p2 : Own W6 w2.heap.size [.int .i64 L, .int .i64 sl, .int .i64 rl, .int .i64 rh, .slice A' n cap', .int .i64 wg] := by rw [hW6]; exact q22.out
  have p3 : Own W6 w3.heap.size [.int .i64 lo, .int .i64 hi] := by rw [hW6]; exact q32.out
  have p4 : Own W6 w4.heap.size [.int .i64 lo, .int .i64 hi] := by rw [hW6]; exact q42.out
  have hBp : Below w.heap.size w W6 := by rw [hW6]; exact hB2.out
  have HGp := Lib.hid (show Rd 3 W6 A' (ks.map krow) from HG.out.below (show Below w5.heap.size w5 W6 by rw [hW6]; exact Below.refl _ _) (Nat.le_refl _))
  have H3p := Lib.hid (show RdS W6 A3 ls from H3.out.below (show Below w5.heap.size w5 W6 by rw [hW6]; exact Below.refl _ _) (Nat.le_refl _))
  clear hW6 x00 x01 x02 x10 x11 x12 x20 x21 x22 x30 x31 x32 x40 x41 x42 q02 q12 q22 q32 q42 hB2 HG H3
  refine (rdraw24 L sl rl rh wg A n cap ks W6 (HA.out.below hBp (Nat.le_refl _)) hn hlen HF).mono ?_
  rintro e w6 ⟨A4, c4, ls', ed', rfl, hD', hrd, hll', hb⟩
  obtain ⟨z1, z2⟩ := drawR_uniq hD.out hD'.out
  obtain rfl := z1.symm
  obtain rfl := z2.symm
  have q02 := Lib.hid (p0.below hb p0.lt)
  have q12 := Lib.hid (p1.below hb p1.lt)
  have q22 := Lib.hid (p2.below hb p2.lt)
  have q32 := Lib.hid (p3.below hb p3.lt)
  have q42 := Lib.hid (p4.below hb p4.lt)
  have hB2 := Lib.hid (hBp.trans (hb.mono hBp.size))
  have HG := Lib.hid (show Rd 3 w6 A' (ks.map krow) from HGp.out.below hb (Nat.le_refl _))
  have H3 := Lib.hid (show RdS w6 A3 ls from H3p.out.below hb (Nat.le_refl _))
  have H4 := Lib.hid (show RdS w6 A4 ls from hrd)
  clear hb hBp p0 p1 p2 p3 p4 HGp H3p hrd hD' hll'
  obtain ⟨x00, x01, x02⟩ := q02.out
  obtain ⟨x10, x11, x12⟩ := q12.out
  obtain ⟨x20, x21, x22⟩ := q22.out
  obtain ⟨x30, x31, x32⟩ := q32.out
  obtain ⟨x40, x41, x42⟩ := q42.out
  go_wp2_with fail
  refine calls_gen fun W7 hW7 => ?_
  have p0 : Own W7 w.heap.size [.int .i64 L, .int .i64 sl, .int .i64 rl, .int .i64 rh, .slice A n cap, .int .i64 wg] := by rw [hW7]; exact q02.out
  have p1 : Own W7 (w.heap.size + 1) [.int .i64 a, .int .i64 b, .int .i64 lv] := by rw [hW7]; exact q12.out
  have p2 : Own W7 w2.heap.size [.int .i64 L, .int .i64 sl, .int .i64 rl, .int .i64 rh, .slice A' n cap', .int .i64 wg] := by rw [hW7]; exact q22.out
  have p3 : Own W7 w3.heap.size [.int .i64 lo, .int .i64 hi] := by rw [hW7]; exact q32.out
  have p4 : Own W7 w4.heap.size [.int .i64 lo, .int .i64 hi] := by rw [hW7]; exact q42.out
  have hBp : Below w.heap.size w W7 := by rw [hW7]; exact hB2.out
  have HGp := Lib.hid (show Rd 3 W7 A' (ks.map krow) from HG.out.below (show Below w6.heap.size w6 W7 by rw [hW7]; exact Below.refl _ _) (Nat.le_refl _))
  have H3p := Lib.hid (show RdS W7 A3 ls from H3.out.below (show Below w6.heap.size w6 W7 by rw [hW7]; exact Below.refl _ _) (Nat.le_refl _))
  have H4p := Lib.hid (show RdS W7 A4 ls from H4.out.below (show Below w6.heap.size w6 W7 by rw [hW7]; exact Below.refl _ _) (Nat.le_refl _))
  clear hW7 x00 x01 x02 x10 x11 x12 x20 x21 x22 x30 x31 x32 x40 x41 x42 q02 q12 q22 q32 q42 hB2 HG H3 H4
  refine (best25 L sl rl rh wg A' n cap' ks W7 (show Rd 3 W7 A' (ks.map krow) from HGp.out) hn hlen).mono ?_
  rintro e w7 ⟨A5, c5, ls', ed', rfl, hD', hrd, hll', hb⟩
  obtain ⟨z1, z2⟩ := drawR_uniq hD.out hD'.out
  obtain rfl := z1.symm
  obtain rfl := z2.symm
  have q02 := Lib.hid (p0.below hb p0.lt)
  have q12 := Lib.hid (p1.below hb p1.lt)
  have q22 := Lib.hid (p2.below hb p2.lt)
  have q32 := Lib.hid (p3.below hb p3.lt)
  have q42 := Lib.hid (p4.below hb p4.lt)
  have hB2 := Lib.hid (hBp.trans (hb.mono hBp.size))
  have HG := Lib.hid (show Rd 3 w7 A' (ks.map krow) from HGp.out.below hb (Nat.le_refl _))
  have H3 := Lib.hid (show RdS w7 A3 ls from H3p.out.below hb (Nat.le_refl _))
  have H4 := Lib.hid (show RdS w7 A4 ls from H4p.out.below hb (Nat.le_refl _))
  have H5 := Lib.hid (show RdI w7 A5 (mids ls) from hrd)
  clear hb hBp p0 p1 p2 p3 p4 HGp H3p H4p hrd hD' hll'
  obtain ⟨x00, x01, x02⟩ := q02.out
  obtain ⟨x10, x11, x12⟩ := q12.out
  obtain ⟨x20, x21, x22⟩ := q22.out
  obtain ⟨x30, x31, x32⟩ := q32.out
  obtain ⟨x40, x41, x42⟩ := q42.out
  go_wp2_with fail
  refine calls_gen fun W8 hW8 => ?_
  have p0 : Own W8 w.heap.size [.int .i64 L, .int .i64 sl, .int .i64 rl, .int .i64 rh, .slice A n cap, .int .i64 wg] := by rw [hW8]; exact q02.out
  have p1 : Own W8 (w.heap.size + 1) [.int .i64 a, .int .i64 b, .int .i64 lv] := by rw [hW8]; exact q12.out
  have p2 : Own W8 w2.heap.size [.int .i64 L, .int .i64 sl, .int .i64 rl, .int .i64 rh, .slice A' n cap', .int .i64 wg] := by rw [hW8]; exact q22.out
  have p3 : Own W8 w3.heap.size [.int .i64 lo, .int .i64 hi] := by rw [hW8]; exact q32.out
  have p4 : Own W8 w4.heap.size [.int .i64 lo, .int .i64 hi] := by rw [hW8]; exact q42.out
  have hBp : Below w.heap.size w W8 := by rw [hW8]; exact hB2.out
  have HGp := Lib.hid (show Rd 3 W8 A' (ks.map krow) from HG.out.below (show Below w7.heap.size w7 W8 by rw [hW8]; exact Below.refl _ _) (Nat.le_refl _))
  have H3p := Lib.hid (show RdS W8 A3 ls from H3.out.below (show Below w7.heap.size w7 W8 by rw [hW8]; exact Below.refl _ _) (Nat.le_refl _))
  have H4p := Lib.hid (show RdS W8 A4 ls from H4.out.below (show Below w7.heap.size w7 W8 by rw [hW8]; exact Below.refl _ _) (Nat.le_refl _))
  have H5p := Lib.hid (show RdI W8 A5 (mids ls) from H5.out.below (show Below w7.heap.size w7 W8 by rw [hW8]; exact Below.refl _ _) (Nat.le_refl _))
  clear hW8 x00 x01 x02 x10 x11 x12 x20 x21 x22 x30 x31 x32 x40 x41 x42 q02 q12 q22 q32 q42 hB2 HG H3 H4 H5
  refine (rbest26 L sl rl rh wg A n cap ks W8 (HA.out.below hBp (Nat.le_refl _)) hn hlen HF).mono ?_
  rintro e w8 ⟨A6, c6, ls', ed', rfl, hD', hrd, hll', hb⟩
  obtain ⟨z1, z2⟩ := drawR_uniq hD.out hD'.out
  obtain rfl := z1.symm
  obtain rfl := z2.symm
  have q02 := Lib.hid (p0.below hb p0.lt)
  have q12 := Lib.hid (p1.below hb p1.lt)
  have q22 := Lib.hid (p2.below hb p2.lt)
  have q32 := Lib.hid (p3.below hb p3.lt)
  have q42 := Lib.hid (p4.below hb p4.lt)
  have hB2 := Lib.hid (hBp.trans (hb.mono hBp.size))
  have HG := Lib.hid (show Rd 3 w8 A' (ks.map krow) from HGp.out.below hb (Nat.le_refl _))
  have H3 := Lib.hid (show RdS w8 A3 ls from H3p.out.below hb (Nat.le_refl _))
  have H4 := Lib.hid (show RdS w8 A4 ls from H4p.out.below hb (Nat.le_refl _))
  have H5 := Lib.hid (show RdI w8 A5 (mids ls) from H5p.out.below hb (Nat.le_refl _))
  have H6 := Lib.hid (show RdI w8 A6 (mids ls) from hrd)
  clear hb hBp p0 p1 p2 p3 p4 HGp H3p H4p H5p hrd hD' hll'
  obtain ⟨x00, x01, x02⟩ := q02.out
  obtain ⟨x10, x11, x12⟩ := q12.out
  obtain ⟨x20, x21, x22⟩ := q22.out
  obtain ⟨x30, x31, x32⟩ := q32.out
  obtain ⟨x40, x41, x42⟩ := q42.out
  go_wp2_with fail
  refine calls_gen fun W9 hW9 => ?_
  have p0 : Own W9 w.heap.size [.int .i64 L, .int .i64 sl, .int .i64 rl, .int .i64 rh, .slice A n cap, .int .i64 wg] := by rw [hW9]; exact q02.out
  have p1 : Own W9 (w.heap.size + 1) [.int .i64 a, .int .i64 b, .int .i64 lv] := by rw [hW9]; exact q12.out
  have p2 : Own W9 w2.heap.size [.int .i64 L, .int .i64 sl, .int .i64 rl, .int .i64 rh, .slice A' n cap', .int .i64 wg] := by rw [hW9]; exact q22.out
  have p3 : Own W9 w3.heap.size [.int .i64 lo, .int .i64 hi] := by rw [hW9]; exact q32.out
  have p4 : Own W9 w4.heap.size [.int .i64 lo, .int .i64 hi] := by rw [hW9]; exact q42.out
  have hBp : Below w.heap.size w W9 := by rw [hW9]; exact hB2.out
  have HGp := Lib.hid (show Rd 3 W9 A' (ks.map krow) from HG.out.below (show Below w8.heap.size w8 W9 by rw [hW9]; exact Below.refl _ _) (Nat.le_refl _))
  have H3p := Lib.hid (show RdS W9 A3 ls from H3.out.below (show Below w8.heap.size w8 W9 by rw [hW9]; exact Below.refl _ _) (Nat.le_refl _))
  have H4p := Lib.hid (show RdS W9 A4 ls from H4.out.below (show Below w8.heap.size w8 W9 by rw [hW9]; exact Below.refl _ _) (Nat.le_refl _))
  have H5p := Lib.hid (show RdI W9 A5 (mids ls) from H5.out.below (show Below w8.heap.size w8 W9 by rw [hW9]; exact Below.refl _ _) (Nat.le_refl _))
  have H6p := Lib.hid (show RdI W9 A6 (mids ls) from H6.out.below (show Below w8.heap.size w8 W9 by rw [hW9]; exact Below.refl _ _) (Nat.le_refl _))
  clear hW9 x00 x01 x02 x10 x11 x12 x20 x21 x22 x30 x31 x32 x40 x41 x42 q02 q12 q22 q32 q42 hB2 HG H3 H4 H5 H6
  refine (told27 L sl rl rh wg A' n cap' ks W9 (show Rd 3 W9 A' (ks.map krow) from HGp.out) hn hlen).mono ?_
  rintro e w9 ⟨ls', m, ed', rfl, hD', hT, hb⟩
  obtain ⟨z1, z2⟩ := drawR_uniq hD.out hD'.out
  obtain rfl := z1.symm
  obtain rfl := z2.symm
  have q02 := Lib.hid (p0.below hb p0.lt)
  have q12 := Lib.hid (p1.below hb p1.lt)
  have q22 := Lib.hid (p2.below hb p2.lt)
  have q32 := Lib.hid (p3.below hb p3.lt)
  have q42 := Lib.hid (p4.below hb p4.lt)
  have hB2 := Lib.hid (hBp.trans (hb.mono hBp.size))
  have HG := Lib.hid (show Rd 3 w9 A' (ks.map krow) from HGp.out.below hb (Nat.le_refl _))
  have H3 := Lib.hid (show RdS w9 A3 ls from H3p.out.below hb (Nat.le_refl _))
  have H4 := Lib.hid (show RdS w9 A4 ls from H4p.out.below hb (Nat.le_refl _))
  have H5 := Lib.hid (show RdI w9 A5 (mids ls) from H5p.out.below hb (Nat.le_refl _))
  have H6 := Lib.hid (show RdI w9 A6 (mids ls) from H6p.out.below hb (Nat.le_refl _))
  clear hb hBp p0 p1 p2 p3 p4 HGp H3p H4p H5p H6p hD'
  obtain ⟨x00, x01, x02⟩ := q02.out
  obtain ⟨x10, x11, x12⟩ := q12.out
  obtain ⟨x20, x21, x22⟩ := q22.out
  obtain ⟨x30, x31, x32⟩ := q32.out
  obtain ⟨x40, x41, x42⟩ := q42.out
  go_wp2_with fail
  refine calls_gen fun W10 hW10 => ?_
  have p0 : Own W10 w.heap.size [.int .i64 L, .int .i64 sl, .int .i64 rl, .int .i64 rh, .slice A n cap, .int .i64 wg] := by rw [hW10]; exact q02.out
  have p1 : Own W10 (w.heap.size + 1) [.int .i64 a, .int .i64 b, .int .i64 lv] := by rw [hW10]; exact q12.out
  have p2 : Own W10 w2.heap.size [.int .i64 L, .int .i64 sl, .int .i64 rl, .int .i64 rh, .slice A' n cap', .int .i64 wg] := by rw [hW10]; exact q22.out
  have p3 : Own W10 w3.heap.size [.int .i64 lo, .int .i64 hi] := by rw [hW10]; exact q32.out
  have p4 : Own W10 w4.heap.size [.int .i64 lo, .int .i64 hi] := by rw [hW10]; exact q42.out
  have hBp : Below w.heap.size w W10 := by rw [hW10]; exact hB2.out
  have HGp := Lib.hid (show Rd 3 W10 A' (ks.map krow) from HG.out.below (show Below w9.heap.size w9 W10 by rw [hW10]; exact Below.refl _ _) (Nat.le_refl _))
  have H3p := Lib.hid (show RdS W10 A3 ls from H3.out.below (show Below w9.heap.size w9 W10 by rw [hW10]; exact Below.refl _ _) (Nat.le_refl _))
  have H4p := Lib.hid (show RdS W10 A4 ls from H4.out.below (show Below w9.heap.size w9 W10 by rw [hW10]; exact Below.refl _ _) (Nat.le_refl _))
  have H5p := Lib.hid (show RdI W10 A5 (mids ls) from H5.out.below (show Below w9.heap.size w9 W10 by rw [hW10]; exact Below.refl _ _) (Nat.le_refl _))
  have H6p := Lib.hid (show RdI W10 A6 (mids ls) from H6.out.below (show Below w9.heap.size w9 W10 by rw [hW10]; exact Below.refl _ _) (Nat.le_refl _))
  clear hW10 x00 x01 x02 x10 x11 x12 x20 x21 x22 x30 x31 x32 x40 x41 x42 q02 q12 q22 q32 q42 hB2 HG H3 H4 H5 H6
  refine (rtold28 L sl rl rh wg A n cap ks W10 (HA.out.below hBp (Nat.le_refl _)) hn hlen HF).mono ?_
  rintro e w10 ⟨ls', m', ed', rfl, hD', hT', hb⟩
  obtain ⟨z1, z2⟩ := drawR_uniq hD.out hD'.out
  obtain rfl := z1.symm
  obtain rfl := z2.symm
  obtain rfl := (toldL_uniq hT.out hT'.out).symm
  have q02 := Lib.hid (p0.below hb p0.lt)
  have q12 := Lib.hid (p1.below hb p1.lt)
  have q22 := Lib.hid (p2.below hb p2.lt)
  have q32 := Lib.hid (p3.below hb p3.lt)
  have q42 := Lib.hid (p4.below hb p4.lt)
  have hB2 := Lib.hid (hBp.trans (hb.mono hBp.size))
  have HG := Lib.hid (show Rd 3 w10 A' (ks.map krow) from HGp.out.below hb (Nat.le_refl _))
  have H3 := Lib.hid (show RdS w10 A3 ls from H3p.out.below hb (Nat.le_refl _))
  have H4 := Lib.hid (show RdS w10 A4 ls from H4p.out.below hb (Nat.le_refl _))
  have H5 := Lib.hid (show RdI w10 A5 (mids ls) from H5p.out.below hb (Nat.le_refl _))
  have H6 := Lib.hid (show RdI w10 A6 (mids ls) from H6p.out.below hb (Nat.le_refl _))
  clear hb hBp p0 p1 p2 p3 p4 HGp H3p H4p H5p H6p hD' hT hT'
  obtain ⟨x00, x01, x02⟩ := q02.out
  obtain ⟨x10, x11, x12⟩ := q12.out
  obtain ⟨x20, x21, x22⟩ := q22.out
  obtain ⟨x30, x31, x32⟩ := q32.out
  obtain ⟨x40, x41, x42⟩ := q42.out
  go_wp2_with fail
  refine calls_gen fun W11 hW11 => ?_
  have p0 : Own W11 w.heap.size [.int .i64 L, .int .i64 sl, .int .i64 rl, .int .i64 rh, .slice A n cap, .int .i64 wg] := by rw [hW11]; exact q02.out
  have p1 : Own W11 (w.heap.size + 1) [.int .i64 a, .int .i64 b, .int .i64 lv] := by rw [hW11]; exact q12.out
  have p2 : Own W11 w2.heap.size [.int .i64 L, .int .i64 sl, .int .i64 rl, .int .i64 rh, .slice A' n cap', .int .i64 wg] := by rw [hW11]; exact q22.out
  have p3 : Own W11 w3.heap.size [.int .i64 lo, .int .i64 hi] := by rw [hW11]; exact q32.out
  have p4 : Own W11 w4.heap.size [.int .i64 lo, .int .i64 hi] := by rw [hW11]; exact q42.out
  have hBp : Below w.heap.size w W11 := by rw [hW11]; exact hB2.out
  have HGp := Lib.hid (show Rd 3 W11 A' (ks.map krow) from HG.out.below (show Below w10.heap.size w10 W11 by rw [hW11]; exact Below.refl _ _) (Nat.le_refl _))
  have H3p := Lib.hid (show RdS W11 A3 ls from H3.out.below (show Below w10.heap.size w10 W11 by rw [hW11]; exact Below.refl _ _) (Nat.le_refl _))
  have H4p := Lib.hid (show RdS W11 A4 ls from H4.out.below (show Below w10.heap.size w10 W11 by rw [hW11]; exact Below.refl _ _) (Nat.le_refl _))
  have H5p := Lib.hid (show RdI W11 A5 (mids ls) from H5.out.below (show Below w10.heap.size w10 W11 by rw [hW11]; exact Below.refl _ _) (Nat.le_refl _))
  have H6p := Lib.hid (show RdI W11 A6 (mids ls) from H6.out.below (show Below w10.heap.size w10 W11 by rw [hW11]; exact Below.refl _ _) (Nat.le_refl _))
  clear hW11 x00 x01 x02 x10 x11 x12 x20 x21 x22 x30 x31 x32 x40 x41 x42 q02 q12 q22 q32 q42 hB2 HG H3 H4 H5 H6
  refine (sameSpans29 A3 ls.length c3 A4 c4 ls W11 (show RdS W11 A3 ls from H3p.out) (show RdS W11 A4 ls from H4p.out) (Lib.hid rfl) (by omega)).mono ?_
  rintro e w11 ⟨rfl, hb⟩
  have q02 := Lib.hid (p0.below hb p0.lt)
  have q12 := Lib.hid (p1.below hb p1.lt)
  have q22 := Lib.hid (p2.below hb p2.lt)
  have q32 := Lib.hid (p3.below hb p3.lt)
  have q42 := Lib.hid (p4.below hb p4.lt)
  have hB2 := Lib.hid (hBp.trans (hb.mono hBp.size))
  have HG := Lib.hid (show Rd 3 w11 A' (ks.map krow) from HGp.out.below hb (Nat.le_refl _))
  have H3 := Lib.hid (show RdS w11 A3 ls from H3p.out.below hb (Nat.le_refl _))
  have H4 := Lib.hid (show RdS w11 A4 ls from H4p.out.below hb (Nat.le_refl _))
  have H5 := Lib.hid (show RdI w11 A5 (mids ls) from H5p.out.below hb (Nat.le_refl _))
  have H6 := Lib.hid (show RdI w11 A6 (mids ls) from H6p.out.below hb (Nat.le_refl _))
  clear hb hBp p0 p1 p2 p3 p4 HGp H3p H4p H5p H6p 
  obtain ⟨x00, x01, x02⟩ := q02.out
  obtain ⟨x10, x11, x12⟩ := q12.out
  obtain ⟨x20, x21, x22⟩ := q22.out
  obtain ⟨x30, x31, x32⟩ := q32.out
  obtain ⟨x40, x41, x42⟩ := q42.out
  go_wp2_with fail
  refine calls_gen fun W12 hW12 => ?_
  have p0 : Own W12 w.heap.size [.int .i64 L, .int .i64 sl, .int .i64 rl, .int .i64 rh, .slice A n cap, .int .i64 wg] := by rw [hW12]; exact q02.out
  have p1 : Own W12 (w.heap.size + 1) [.int .i64 a, .int .i64 b, .int .i64 lv] := by rw [hW12]; exact q12.out
  have p2 : Own W12 w2.heap.size [.int .i64 L, .int .i64 sl, .int .i64 rl, .int .i64 rh, .slice A' n cap', .int .i64 wg] := by rw [hW12]; exact q22.out
  have p3 : Own W12 w3.heap.size [.int .i64 lo, .int .i64 hi] := by rw [hW12]; exact q32.out
  have p4 : Own W12 w4.heap.size [.int .i64 lo, .int .i64 hi] := by rw [hW12]; exact q42.out
  have hBp : Below w.heap.size w W12 := by rw [hW12]; exact hB2.out
  have HGp := Lib.hid (show Rd 3 W12 A' (ks.map krow) from HG.out.below (show Below w11.heap.size w11 W12 by rw [hW12]; exact Below.refl _ _) (Nat.le_refl _))
  have H3p := Lib.hid (show RdS W12 A3 ls from H3.out.below (show Below w11.heap.size w11 W12 by rw [hW12]; exact Below.refl _ _) (Nat.le_refl _))
  have H4p := Lib.hid (show RdS W12 A4 ls from H4.out.below (show Below w11.heap.size w11 W12 by rw [hW12]; exact Below.refl _ _) (Nat.le_refl _))
  have H5p := Lib.hid (show RdI W12 A5 (mids ls) from H5.out.below (show Below w11.heap.size w11 W12 by rw [hW12]; exact Below.refl _ _) (Nat.le_refl _))
  have H6p := Lib.hid (show RdI W12 A6 (mids ls) from H6.out.below (show Below w11.heap.size w11 W12 by rw [hW12]; exact Below.refl _ _) (Nat.le_refl _))
  clear hW12 x00 x01 x02 x10 x11 x12 x20 x21 x22 x30 x31 x32 x40 x41 x42 q02 q12 q22 q32 q42 hB2 HG H3 H4 H5 H6
  refine (sameInts30 A5 A6 (mids ls).length (mids ls).length c5 c6 (mids ls) (mids ls) W12 (show RdI W12 A5 (mids ls) from H5p.out) (show RdI W12 A6 (mids ls) from H6p.out) rfl rfl (by rw [mids_len]; omega) (by rw [mids_len]; omega)).mono ?_
  rintro e w12 ⟨rfl, hb⟩
  have q02 := Lib.hid (p0.below hb p0.lt)
  have q12 := Lib.hid (p1.below hb p1.lt)
  have q22 := Lib.hid (p2.below hb p2.lt)
  have q32 := Lib.hid (p3.below hb p3.lt)
  have q42 := Lib.hid (p4.below hb p4.lt)
  have hB2 := Lib.hid (hBp.trans (hb.mono hBp.size))
  have HG := Lib.hid (show Rd 3 w12 A' (ks.map krow) from HGp.out.below hb (Nat.le_refl _))
  have H3 := Lib.hid (show RdS w12 A3 ls from H3p.out.below hb (Nat.le_refl _))
  have H4 := Lib.hid (show RdS w12 A4 ls from H4p.out.below hb (Nat.le_refl _))
  have H5 := Lib.hid (show RdI w12 A5 (mids ls) from H5p.out.below hb (Nat.le_refl _))
  have H6 := Lib.hid (show RdI w12 A6 (mids ls) from H6p.out.below hb (Nat.le_refl _))
  clear hb hBp p0 p1 p2 p3 p4 HGp H3p H4p H5p H6p 
  obtain ⟨x00, x01, x02⟩ := q02.out
  obtain ⟨x10, x11, x12⟩ := q12.out
  obtain ⟨x20, x21, x22⟩ := q22.out
  obtain ⟨x30, x31, x32⟩ := q32.out
  obtain ⟨x40, x41, x42⟩ := q42.out
  go_wp2_with fail
  refine calls_gen fun W13 hW13 => ?_
  have p0 : Own W13 w.heap.size [.int .i64 L, .int .i64 sl, .int .i64 rl, .int .i64 rh, .slice A n cap, .int .i64 wg] := by rw [hW13]; exact q02.out
  have p1 : Own W13 (w.heap.size + 1) [.int .i64 a, .int .i64 b, .int .i64 lv] := by rw [hW13]; exact q12.out
  have p2 : Own W13 w2.heap.size [.int .i64 L, .int .i64 sl, .int .i64 rl, .int .i64 rh, .slice A' n cap', .int .i64 wg] := by rw [hW13]; exact q22.out
  have p3 : Own W13 w3.heap.size [.int .i64 lo, .int .i64 hi] := by rw [hW13]; exact q32.out
  have p4 : Own W13 w4.heap.size [.int .i64 lo, .int .i64 hi] := by rw [hW13]; exact q42.out
  have hBp : Below w.heap.size w W13 := by rw [hW13]; exact hB2.out
  have HGp := Lib.hid (show Rd 3 W13 A' (ks.map krow) from HG.out.below (show Below w12.heap.size w12 W13 by rw [hW13]; exact Below.refl _ _) (Nat.le_refl _))
  have H3p := Lib.hid (show RdS W13 A3 ls from H3.out.below (show Below w12.heap.size w12 W13 by rw [hW13]; exact Below.refl _ _) (Nat.le_refl _))
  have H4p := Lib.hid (show RdS W13 A4 ls from H4.out.below (show Below w12.heap.size w12 W13 by rw [hW13]; exact Below.refl _ _) (Nat.le_refl _))
  have H5p := Lib.hid (show RdI W13 A5 (mids ls) from H5.out.below (show Below w12.heap.size w12 W13 by rw [hW13]; exact Below.refl _ _) (Nat.le_refl _))
  have H6p := Lib.hid (show RdI W13 A6 (mids ls) from H6.out.below (show Below w12.heap.size w12 W13 by rw [hW13]; exact Below.refl _ _) (Nat.le_refl _))
  clear hW13 x00 x01 x02 x10 x11 x12 x20 x21 x22 x30 x31 x32 x40 x41 x42 q02 q12 q22 q32 q42 hB2 HG H3 H4 H5 H6
  refine (same17 L sl rl rh wg A' n cap' ks L sl rl rh wg A cap W13 (show Rd 3 W13 A' (ks.map krow) from HGp.out) (HA.out.below hBp (Nat.le_refl _)) hn hlen).mono ?_
  rintro e w13 ⟨rfl, hb⟩
  have q02 := Lib.hid (p0.below hb p0.lt)
  have q12 := Lib.hid (p1.below hb p1.lt)
  have q22 := Lib.hid (p2.below hb p2.lt)
  have q32 := Lib.hid (p3.below hb p3.lt)
  have q42 := Lib.hid (p4.below hb p4.lt)
  have hB2 := Lib.hid (hBp.trans (hb.mono hBp.size))
  have HG := Lib.hid (show Rd 3 w13 A' (ks.map krow) from HGp.out.below hb (Nat.le_refl _))
  have H3 := Lib.hid (show RdS w13 A3 ls from H3p.out.below hb (Nat.le_refl _))
  have H4 := Lib.hid (show RdS w13 A4 ls from H4p.out.below hb (Nat.le_refl _))
  have H5 := Lib.hid (show RdI w13 A5 (mids ls) from H5p.out.below hb (Nat.le_refl _))
  have H6 := Lib.hid (show RdI w13 A6 (mids ls) from H6p.out.below hb (Nat.le_refl _))
  clear hb hBp p0 p1 p2 p3 p4 HGp H3p H4p H5p H6p 
  obtain ⟨x00, x01, x02⟩ := q02.out
  obtain ⟨x10, x11, x12⟩ := q12.out
  obtain ⟨x20, x21, x22⟩ := q22.out
  obtain ⟨x30, x31, x32⟩ := q32.out
  obtain ⟨x40, x41, x42⟩ := q42.out
  go_wp2_with fail
  refine (works13 _).mono ?_
  rintro e w14 ⟨rfl, hb⟩
  have hB7 := Lib.hid (hB2.out.trans (hb.mono hB2.out.size))
  go_wp2
  go_ret
  exact ⟨rfl, hB7.out⟩
end Go.Proofs.Ytphcpphmoeiioaa
