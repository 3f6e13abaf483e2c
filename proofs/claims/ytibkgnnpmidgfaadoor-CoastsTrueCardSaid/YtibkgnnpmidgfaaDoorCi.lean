/- Walks: is a report right? -/
import Derived.Test.YtibkgnnpmidgfaaDoorCg
import Derived.Test.YtibkgnnpmidgfaaDoorCh
import Derived.Test.YtibkgnnpmidgfaaDoorOne
namespace Go.Proofs.YtibkgnnpmidgfaaDoor
open Go.RowKit

/-- Is a report right with an opening? -/
def rightB (B : List Pt) (r : Rep) (o : Int) : Bool := (mk B o r.f.toNat r.t.toNat).testBit r.s.toNat

set_option maxRecDepth 100000 in
set_option maxHeartbeats 2000000 in
theorem isRight80n (A0 A1 A2 : Option Addr) (n0 n1 n2 c0 c1 c2 : Nat) (cw : Int) (d : Int) (f t s : Nat) (o : Int) (B D : List Pt) (R : List Rep) (w : World) (hC : RdC w A0 A1 A2 n0 n1 n2 B D R) (hV : Hid (Val cw B D R)) (ho : 1 ≤ o ∧ o ≤ 60) (hft : f < t) (htn : t < n0) (hs : s ≤ 12) :
    Calls Tryd.prog 80 #[.agg #[.slice A0 n0 c0, .slice A1 n1 c1, .slice A2 n2 c2, .int .i64 cw], .agg #[.int .i64 d, .int .i64 f, .int .i64 t, .int .i64 s], .int .i64 o] w fun e w' => e = .returned (.bool ((mk B o f t).testBit s)) ∧ Below w.heap.size w w' := by
  have HC := Lib.hid hC
  have hn : n0 ≤ 12 := by have := hV.out.b2; have := hC.h0; omega
  clear hC
  have hm := mk_lt13 B o f t (by omega)
  have hbt := Lib.hid (bit_test (mk B o f t) s hm)
  have oB : Below w.heap.size w (w.alloc (.cells #[.slice A0 n0 c0, .slice A1 n1 c1, .slice A2 n2 c2, .int .i64 cw] 26)) := by (repeat' (first | (with_reducible exact Below.refl _ _) | (with_reducible assumption) | (with_reducible refine Below.drew ?_) | (with_reducible refine below_drewN ?_ _) | (with_reducible refine Below.setCell ?_ ?_ _) | (with_reducible refine Below.alloc ?_ ?_ _) | (refine Below.trans ?_ (Below.mono (by with_reducible assumption) ?_)) | omega | (exact Below.size (by with_reducible assumption)) | (simp; done) | (simp; omega)))
  have hs0 : (s : Int) ≤ 64 := by omega
  have o0 : Own ((w.alloc (.cells #[.slice A0 n0 c0, .slice A1 n1 c1, .slice A2 n2 c2, .int .i64 cw] 26)).alloc (.cells #[.int .i64 d, .int .i64 f, .int .i64 t, .int .i64 s] 58)) w.heap.size [.slice A0 n0 c0, .slice A1 n1 c1, .slice A2 n2 c2, .int .i64 cw] := (Own.new' _ _ rfl rfl).alloc _
  have o1 : Own ((w.alloc (.cells #[.slice A0 n0 c0, .slice A1 n1 c1, .slice A2 n2 c2, .int .i64 cw] 26)).alloc (.cells #[.int .i64 d, .int .i64 f, .int .i64 t, .int .i64 s] 58)) (w.heap.size + 1) [.int .i64 d, .int .i64 f, .int .i64 t, .int .i64 s] := Own.new' _ _ (by simp) rfl
  have hx0 := Aft.cell o0
  have hx1 := Aft.cell o1
  have ht0 : (t : Int) < n0 := by omega
  go_enter Tryd.func80, Tryd.ntmps80
  go_wp2
  refine wp_region_one [0, 1, 2, 3, 5, 6, 9, 10] 4 [7, 8, 11, 12, 13, 14] (by kernel_rfl) (by kernel_rfl) (by kernel_rfl) (by kernel_rfl) (by kernel_rfl) (by kernel_rfl) (by kernel_rfl) rfl (by intro _ _ d _ _ h; cases d <;> exact h) ?_; simp only [pickL, pick1, List.cons_append, List.nil_append]
  (repeat (refine wpTake_cons (v := ?_) (Or.inl ⟨by rfl, ?_⟩) ?_; rotate_left; (intro w' hSw; obtain ⟨x, rfl⟩ := hSw; go_simp; (try with_reducible rfl)); (try simp only [Act.put, List.setIfInBounds_toArray, List.set_cons_zero, List.set_cons_succ])))
  refine wpTake_nil ?_
  intro K' hK
  simp only [wpHead]
  go_simp
  refine (counts65 A0 A1 A2 n0 n1 n2 c0 c1 c2 cw B D R o f _ (HC.out.below (b := w.heap.size) (by (repeat' (first | (with_reducible exact Below.refl _ _) | (with_reducible assumption) | (with_reducible refine Below.drew ?_) | (with_reducible refine below_drewN ?_ _) | (with_reducible refine Below.setCell ?_ ?_ _) | (with_reducible refine Below.alloc ?_ ?_ _) | (refine Below.trans ?_ (Below.mono (by with_reducible assumption) ?_)) | omega | (exact Below.size (by with_reducible assumption)) | (simp; done) | (simp; omega)))) (Nat.le_refl _)) hV.out.pts (by omega) hn (by omega)).mono ?_
  rintro e w1 ⟨b, cap, hge, rfl, ho1, hb1⟩
  have k1 := (ho1.c t).trans (masks_uv B o f n0 t htn)
  have hB1 : Below w.heap.size w w1 := by (repeat' (first | (with_reducible exact Below.refl _ _) | (with_reducible assumption) | (with_reducible refine Below.drew ?_) | (with_reducible refine below_drewN ?_ _) | (with_reducible refine Below.setCell ?_ ?_ _) | (with_reducible refine Below.alloc ?_ ?_ _) | (refine Below.trans ?_ (Below.mono (by with_reducible assumption) ?_)) | omega | (exact Below.size (by with_reducible assumption)) | (simp; done) | (simp; omega)))
  go_wp2_with fail
  refine hK.out _ _ ((Below.refl _ _).drew.trans hb1) ?_
  clear hK hx0 hx1 o0 o1
  (repeat (refine wpTake_cons (v := ?_) (Or.inl ⟨by rfl, ?_⟩) ?_; rotate_left; (intro w' hSw; subst hSw; go_simp; (try with_reducible rfl)); (try simp only [Act.put, List.setIfInBounds_toArray, List.set_cons_zero, List.set_cons_succ])))
  refine wpTake_nil ?_
  go_wp2
  go_ret
  exact ⟨ret_bool hbt.out, hB1⟩
theorem isRight80 (A0 A1 A2 : Option Addr) (n0 n1 n2 c0 c1 c2 : Nat) (cw : Int) (r : Rep) (o : Int) (B D : List Pt) (R : List Rep) (w : World) (hC : RdC w A0 A1 A2 n0 n1 n2 B D R) (hV : Hid (Val cw B D R)) (ho : 1 ≤ o ∧ o ≤ 60) (hr : r ∈ R) :
    Calls Tryd.prog 80 #[.agg #[.slice A0 n0 c0, .slice A1 n1 c1, .slice A2 n2 c2, .int .i64 cw], .agg #[.int .i64 r.d, .int .i64 r.f, .int .i64 r.t, .int .i64 r.s], .int .i64 o] w fun e w' => e = .returned (.bool (rightB B r o)) ∧ Below w.heap.size w w' := by
  obtain ⟨d, f, t, s⟩ := r
  obtain ⟨_, _, h1, h2, h3, h4, h5⟩ := hV.out.rs _ hr
  dsimp only at h1 h2 h3 h4 h5
  have hL := hC.h0
  obtain ⟨f, rfl⟩ := Int.eq_ofNat_of_zero_le h1
  obtain ⟨t, rfl⟩ := Int.eq_ofNat_of_zero_le (show 0 ≤ t by omega)
  obtain ⟨s, rfl⟩ := Int.eq_ofNat_of_zero_le (show 0 ≤ s by omega)
  have h := isRight80n A0 A1 A2 n0 n1 n2 c0 c1 c2 cw d f t s o B D R w hC hV ho (by omega) (by omega) (by omega)
  exact h

end Go.Proofs.YtibkgnnpmidgfaaDoor
