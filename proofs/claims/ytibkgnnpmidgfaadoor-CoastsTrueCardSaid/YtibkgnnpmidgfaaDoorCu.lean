/- Walks: Many of the program, whole. -/
import Derived.Test.YtibkgnnpmidgfaaDoorCt
namespace Go.Proofs.YtibkgnnpmidgfaaDoor
open Go.RowKit Go.Maps

def manyN (cw : Int) (B D : List Pt) (R : List Rep) : Int := if opE cw B D R true = 0 then (manyV cw B D R : Nat) else 0
theorem many34 (A0 A1 A2 : Option Addr) (n0 n1 n2 c0 c1 c2 : Nat) (cw : Int) (B D : List Pt) (R : List Rep) (w : World) (hC : RdC w A0 A1 A2 n0 n1 n2 B D R) :
    Calls Tryd.prog 34 #[.agg #[.slice A0 n0 c0, .slice A1 n1 c1, .slice A2 n2 c2, .int .i64 cw]] w fun e w' => e = .returned (.tuple #[.int .i64 (manyN cw B D R), .int .i64 (opE cw B D R true)]) ∧ Below w.heap.size w w' := by
  by_cases hE : opE cw B D R true = 0
  · refine (many34_ok A0 A1 A2 n0 n1 n2 c0 c1 c2 cw B D R w hC hE).mono ?_
    rintro e w' ⟨rfl, hb⟩
    refine ⟨?_, hb⟩
    unfold manyN
    rw [if_pos hE, hE]
  · have hNe : Hid (manyN cw B D R = 0) := by show _ = _; unfold manyN; rw [if_neg hE]
    have HC := Lib.hid hC
    have o0 : Own (w.alloc (.cells #[.slice A0 n0 c0, .slice A1 n1 c1, .slice A2 n2 c2, .int .i64 cw] 26)) w.heap.size [.slice A0 n0 c0, .slice A1 n1 c1, .slice A2 n2 c2, .int .i64 cw] := Own.new' _ _ rfl rfl
    have oB : Below w.heap.size w (w.alloc (.cells #[.slice A0 n0 c0, .slice A1 n1 c1, .slice A2 n2 c2, .int .i64 cw] 26)) := by (repeat' (first | (with_reducible exact Below.refl _ _) | (with_reducible assumption) | (with_reducible refine Below.drew ?_) | (with_reducible refine below_drewN ?_ _) | (with_reducible refine Below.setCell ?_ ?_ _) | (with_reducible refine Below.alloc ?_ ?_ _) | (refine Below.trans ?_ (Below.mono (by with_reducible assumption) ?_)) | omega | (exact Below.size (by with_reducible assumption)) | (simp; done) | (simp; omega)))
    obtain ⟨E, hEE⟩ : ∃ E, E = opE cw B D R true := ⟨_, rfl⟩
    have HE := Lib.hid hE
    rw [← hEE] at hE ⊢
    have hne : (E != 0) = true := by simpa using hE
    have HEE := Lib.hid hEE
    clear hE hEE hC
    go_enter Tryd.func34, Tryd.ntmps34
    go_wp2_with fail
    refine (open70_bad A0 A1 A2 n0 n1 n2 c0 c1 c2 cw true B D R _ (HC.out.below oB (Nat.le_refl _)) HE.out).mono ?_
    rw [← HEE.out]
    rintro e w1 ⟨rfl, hb1⟩
    go_wp2
    go_ret2
    exact ⟨by rw [hNe.out]; rfl, by (repeat' (first | (with_reducible exact Below.refl _ _) | (with_reducible assumption) | (with_reducible refine Below.drew ?_) | (with_reducible refine below_drewN ?_ _) | (with_reducible refine Below.setCell ?_ ?_ _) | (with_reducible refine Below.alloc ?_ ?_ _) | (refine Below.trans ?_ (Below.mono (by with_reducible assumption) ?_)) | omega | (exact Below.size (by with_reducible assumption)) | (simp; done) | (simp; omega)))⟩

end Go.Proofs.YtibkgnnpmidgfaaDoor
