/- Walks: two points on both sides of a line; two sides that meet. -/
import Derived.Test.YtgmhelclofnpkaaKb
namespace Go.Proofs.Ytgmhelclofnpkaa
open Go.RowKit

namespace Pl
theorem apart_1 {a b p q : P2} (h : turn a b p < 0) : apart a b p q = decide (0 < turn a b q) := by
  have h2 : ¬ 0 < turn a b p := by omega
  simp [apart, h, h2]
theorem apart_2 {a b p q : P2} (h : 0 < turn a b p) : apart a b p q = decide (turn a b q < 0) := by
  have h2 : ¬ turn a b p < 0 := by omega
  simp [apart, h, h2]
theorem apart_0 {a b p q : P2} (h1 : ¬ turn a b p < 0) (h : ¬ 0 < turn a b p) : apart a b p q = false := by simp [apart, h, h1]
end Pl
theorem cIB {P : Program} {f : FuncId} {args : Array Value} {w : World} {x y : Int} (h : x = y) (k : Calls P f args w fun e w' => e = .returned (.int .i64 x) ∧ Below w.heap.size w w') : Calls P f args w fun e w' => e = .returned (.int .i64 y) ∧ Below w.heap.size w w' := by subst h; exact k
theorem cBB {P : Program} {f : FuncId} {args : Array Value} {w : World} {x y : Bool} (h : x = y) (k : Calls P f args w fun e w' => e = .returned (.bool x) ∧ Below w.heap.size w w') : Calls P f args w fun e w' => e = .returned (.bool y) ∧ Below w.heap.size w w' := by subst h; exact k
theorem cPB {P : Program} {f : FuncId} {args : Array Value} {w : World} {x y : Bool} (h : x = y) (k : Calls P f args w fun e w' => e = .returned (.bool x) ∧ w = w') : Calls P f args w fun e w' => e = .returned (.bool y) ∧ w = w' := by subst h; exact k
def APV (ax ay bx by' px py : Int) : List Value := [.int .i64 ax, .int .i64 ay, .int .i64 bx, .int .i64 by']
set_option maxHeartbeats 4000000 in
theorem apartC (ax ay bx by' px py qx qy m n : Int) (w : World) (hp : ∀ w, Calls Try.prog 56 #[.agg #[.int .i64 ax, .int .i64 ay], .agg #[.int .i64 bx, .int .i64 by'], .agg #[.int .i64 px, .int .i64 py]] w fun e w' => e = .returned (.int .i64 m) ∧ Below w.heap.size w w')
    (hq : ∀ w, Calls Try.prog 56 #[.agg #[.int .i64 ax, .int .i64 ay], .agg #[.int .i64 bx, .int .i64 by'], .agg #[.int .i64 qx, .int .i64 qy]] w fun e w' => e = .returned (.int .i64 n) ∧ Below w.heap.size w w') :
    Calls Try.prog 142 #[.agg #[.int .i64 ax, .int .i64 ay, .int .i64 bx, .int .i64 by'], .agg #[.int .i64 px, .int .i64 py], .agg #[.int .i64 qx, .int .i64 qy]] w fun e w' => e = .returned (.bool ((decide (m < 0) && decide (0 < n)) || (decide (0 < m) && decide (n < 0)))) ∧ Below w.heap.size w w' := by
  have o0 : Own (((w.alloc (.cells #[.int .i64 ax, .int .i64 ay, .int .i64 bx, .int .i64 by'] 117)).alloc (.cells #[.int .i64 px, .int .i64 py] 53)).alloc (.cells #[.int .i64 qx, .int .i64 qy] 53)) w.heap.size [.int .i64 ax, .int .i64 ay, .int .i64 bx, .int .i64 by'] := ((Own.new' _ _ (by simp) rfl).alloc _).alloc _
  have o1 : Own (((w.alloc (.cells #[.int .i64 ax, .int .i64 ay, .int .i64 bx, .int .i64 by'] 117)).alloc (.cells #[.int .i64 px, .int .i64 py] 53)).alloc (.cells #[.int .i64 qx, .int .i64 qy] 53)) (w.heap.size + 1) [.int .i64 px, .int .i64 py] := (Own.new' _ _ (by simp) rfl).alloc _
  have o2 : Own (((w.alloc (.cells #[.int .i64 ax, .int .i64 ay, .int .i64 bx, .int .i64 by'] 117)).alloc (.cells #[.int .i64 px, .int .i64 py] 53)).alloc (.cells #[.int .i64 qx, .int .i64 qy] 53)) (w.heap.size + 1 + 1) [.int .i64 qx, .int .i64 qy] := Own.new' _ _ (by simp) rfl
  have hx0 := Aft.cell o0
  have hx1 := Aft.cell o1
  have hx2 := Aft.cell o2
  have HP := Lib.hid hp
  have HQ := Lib.hid hq
  clear hp hq o0 o1 o2
  go_enter Try.func142, Try.ntmps142
  go_wp2
  refine wp_region_aft (by kernel_rfl) (by kernel_rfl) ?_; (repeat (go_big_quiet_step ((first | (go_at_call 56; with_reducible exact aft_of (HP.out _)) | (go_at_call 56; with_reducible exact aft_of (HQ.out _)))))); refine wpQuiet_nil ?_; rintro w1 ⟨⟨_, hb1⟩, rfl⟩
  clear hx0 hx1 hx2
  go_wp2
  all_goals go_ret
  all_goals exact ⟨ret_bool (by (first | rfl | (rw [Bool.eq_iff_iff]; simp; done) | (rw [Bool.eq_iff_iff]; simp; omega))), by (repeat' (first | (with_reducible exact Below.refl _ _) | (with_reducible assumption) | (with_reducible refine Below.drew ?_) | (with_reducible refine below_drewN ?_ _) | (with_reducible refine Below.setCell ?_ ?_ _) | (with_reducible refine Below.alloc ?_ ?_ _) | (refine Below.trans ?_ (Below.mono (by with_reducible assumption) ?_)) | omega | (exact Below.size (by with_reducible assumption)) | (simp; done) | (simp; omega)))⟩
theorem apartW (ax ay bx by' px py qx qy : Int) (w : World) (ha : Pl.isP (ax, ay) = true) (hb : Pl.isP (bx, by') = true) (hp : Pl.isP (px, py) = true) (hq : Pl.isP (qx, qy) = true) :
    Calls Try.prog 142 #[.agg #[.int .i64 ax, .int .i64 ay, .int .i64 bx, .int .i64 by'], .agg #[.int .i64 px, .int .i64 py], .agg #[.int .i64 qx, .int .i64 qy]] w fun e w' => e = .returned (.bool (Pl.apart (ax, ay) (bx, by') (px, py) (qx, qy))) ∧ Below w.heap.size w w' :=
  apartC ax ay bx by' px py qx qy _ _ w (fun w => turnW ax ay bx by' px py w ha hb hp) (fun w => turnW ax ay bx by' qx qy w ha hb hq)
end Go.Proofs.Ytgmhelclofnpkaa
