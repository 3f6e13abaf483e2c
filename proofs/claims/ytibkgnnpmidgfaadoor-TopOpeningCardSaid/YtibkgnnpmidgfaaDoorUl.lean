/- Walks: the square of a length on a sheet that has not changed. -/
import Derived.Test.YtibkgnnpmidgfaaDoorUg
namespace Go.Proofs.YtibkgnnpmidgfaaDoor
open Go.RowKit Go.Shelf

theorem whole_trs : Sh.trs 1000 1000 1000 1000 0 [] = [(1000, 1000)] := by kernel_rfl
theorem whole_ok : Sh.okSh 1000 1000 1000 1000 0 [] = true := by kernel_rfl
set_option maxHeartbeats 400000 in
theorem sLength1W (n : Int) (w : World) : Calls Tryd.prog 56 #[.int .i64 n] w fun e w' => e = .returned (.bool (btw n (-200) 200)) ∧ w = w' := by
  go_enter Tryd.func56, Tryd.ntmps56
  go_wp2_with fail
  refine (swithinW _ _ _ _).mono ?_
  rintro e w1 ⟨rfl, rfl⟩
  go_wp2
  go_ret
  exact ⟨rfl, rfl⟩
def lnum (x y : Int) (p : P2) : Int := 1000000 * (x * x * (p.2 * p.2) + y * y * (p.1 * p.1))
def lden (p : P2) : Int := p.1 * p.1 * (p.2 * p.2)
theorem sq_bd {a A : Int} (h : -A ≤ a ∧ a ≤ A) : 0 ≤ a * a ∧ a * a ≤ A * A := by
  refine ⟨?_, (Pl.mul_bd h h).2⟩
  rcases Int.le_total 0 a with k | k
  · exact Int.mul_nonneg k k
  · exact Int.mul_nonneg_of_nonpos_of_nonpos k k
set_option maxHeartbeats 2000000 in
theorem sLength2W (a l x y : Int) (Bx By : Nat) (w : World) (ha : 900 ≤ a ∧ a ≤ 1100) (hl : 900 ≤ l ∧ l ≤ 1100) (hx : -400 ≤ x ∧ x ≤ 400) (hy : -400 ≤ y ∧ y ≤ 400) (ox : Own w Bx [.int .i64 x]) (oy : Own w By [.int .i64 y]) :
    Calls Tryd.prog 60 #[.agg #[.int .i64 a, .int .i64 l], .pointer (some ⟨Bx, 0, none⟩), .pointer (some ⟨By, 0, none⟩)] w fun e w' => e = .returned (.tuple #[.int .i64 (lnum x y (a, l)), .int .i64 (lden (a, l))]) ∧ Below w.heap.size w w' := by
  have qx := sq_bd hx
  have qy := sq_bd hy
  have qa := sq_bd (A := 1100) (a := a) (by omega)
  have ql := sq_bd (A := 1100) (a := l) (by omega)
  have p1 := Pl.mul_bd (a := x * x) (b := l * l) (A := 160000) (B := 1210000) (by omega) (by omega)
  have p2 := Pl.mul_bd (a := y * y) (b := a * a) (A := 160000) (B := 1210000) (by omega) (by omega)
  have p3 := Pl.mul_bd (a := a * a) (b := l * l) (A := 1210000) (B := 1210000) (by omega) (by omega)
  have hx1 : IntKind.i64.wrap (x * x) = x * x := IntWalk.i64_in _ (by omega)
  have hy1 : IntKind.i64.wrap (y * y) = y * y := IntWalk.i64_in _ (by omega)
  have ha1 : IntKind.i64.wrap (a * a) = a * a := IntWalk.i64_in _ (by omega)
  have hl1 : IntKind.i64.wrap (l * l) = l * l := IntWalk.i64_in _ (by omega)
  have hm1 : IntKind.i64.wrap (x * x * (l * l)) = x * x * (l * l) := IntWalk.i64_in _ (by omega)
  have hm2 : IntKind.i64.wrap (y * y * (a * a)) = y * y * (a * a) := IntWalk.i64_in _ (by omega)
  have hm3 : IntKind.i64.wrap (x * x * (l * l) + y * y * (a * a)) = x * x * (l * l) + y * y * (a * a) := IntWalk.i64_in _ (by omega)
  have hm4 : IntKind.i64.wrap (1000000 * (x * x * (l * l) + y * y * (a * a))) = 1000000 * (x * x * (l * l) + y * y * (a * a)) := IntWalk.i64_in _ (by omega)
  have hm5 : IntKind.i64.wrap (a * a * (l * l)) = a * a * (l * l) := IntWalk.i64_in _ (by omega)
  have b0 : Own (w.alloc (.cells #[.int .i64 a, .int .i64 l] 84)) w.heap.size [.int .i64 a, .int .i64 l] := Own.new' _ _ rfl rfl
  have hx0 := Aft.cell b0
  have cx : (w.alloc (.cells #[.int .i64 a, .int .i64 l] 84)).cell? ⟨Bx, 0, none⟩ = some (.int .i64 x) := (ox.alloc _).c 0
  have cy : (w.alloc (.cells #[.int .i64 a, .int .i64 l] 84)).cell? ⟨By, 0, none⟩ = some (.int .i64 y) := (oy.alloc _).c 0
  have lx := ox.lt
  have ly := oy.lt
  unfold lnum lden
  simp only
  clear qx qy qa ql p1 p2 p3 hx hy ha hl b0 ox oy
  go_enter Tryd.func60, Tryd.ntmps60
  go_wp2
  refine wp_region_aft (by kernel_rfl) (by kernel_rfl) ?_; (repeat (go_big_quiet_step (fail))); refine wpQuiet_nil ?_; rintro w1 ⟨⟨_, hb1⟩, rfl⟩
  have cx1 := (hb1.cell (p := ⟨Bx, 0, none⟩) (by simp; omega)).trans cx
  have cy1 := (hb1.cell (p := ⟨By, 0, none⟩) (by simp; omega)).trans cy
  clear hx0 cx cy
  go_wp2
  go_ret2
  exact ⟨rfl, by (repeat' (first | (with_reducible exact Below.refl _ _) | (with_reducible assumption) | (with_reducible refine Below.drew ?_) | (with_reducible refine below_drewN ?_ _) | (with_reducible refine Below.setCell ?_ ?_ _) | (with_reducible refine Below.alloc ?_ ?_ _) | (refine Below.trans ?_ (Below.mono (by with_reducible assumption) ?_)) | omega | (exact Below.size (by with_reducible assumption)) | (simp; done) | (simp; omega)))⟩
end Go.Proofs.YtibkgnnpmidgfaaDoor
