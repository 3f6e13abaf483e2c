/- The library's bits.TrailingZeros, laid over this program; the least number of steps. -/
import Derived.Test.YtibkgnnpmidgfaaDoorCa
import Derived.Shelf.Spec.TrailingZeros
namespace Go.Proofs.YtibkgnnpmidgfaaDoor
open Go.RowKit Go.Shelf

/-- Numbers of functions, types and variables: of the shelf's text, and here. -/
def tzRen : Ren := ⟨fun n => if n = 27 then 98 else if n = 28 then 110 else 111, fun n => if n = 22 then 143 else if n = 25 then 87 else if n = 27 then 141 else if n = 53 then 151 else if n = 54 then 152 else n, fun n => n⟩
theorem tzLay : Lays7.n27 Tryd.prog tzRen where
  mixed := by kernel_rfl
  f27 := by kernel_rfl
  f28 := by kernel_rfl
  f29 := by kernel_rfl
  t0 := by kernel_rfl
  a0 := fun _ => by kernel_rfl
  z0 := fun _ => by kernel_rfl
  v0 := fun _ => by kernel_rfl
  i0 := by kernel_rfl
  t3 := by kernel_rfl
  a3 := fun _ => by kernel_rfl
  z3 := fun _ => by kernel_rfl
  v3 := fun _ => by kernel_rfl
  i3 := by kernel_rfl
  t4 := by kernel_rfl
  a4 := fun _ => by kernel_rfl
  z4 := fun _ => by kernel_rfl
  v4 := fun _ => by kernel_rfl
  i4 := by kernel_rfl
  t5 := by kernel_rfl
  a5 := fun _ => by kernel_rfl
  z5 := fun _ => by kernel_rfl
  v5 := fun _ => by kernel_rfl
  i5 := by kernel_rfl
  t22 := by kernel_rfl
  a22 := fun _ => by kernel_rfl
  z22 := fun _ => by kernel_rfl
  v22 := fun _ => by kernel_rfl
  i22 := by kernel_rfl
  t25 := by kernel_rfl
  a25 := fun _ => by kernel_rfl
  z25 := fun _ => by kernel_rfl
  v25 := fun _ => by kernel_rfl
  i25 := by kernel_rfl
  t27 := by kernel_rfl
  a27 := fun _ => by kernel_rfl
  z27 := fun _ => by kernel_rfl
  v27 := fun _ => by kernel_rfl
  i27 := by kernel_rfl
  t53 := by kernel_rfl
  a53 := fun _ => by kernel_rfl
  z53 := fun _ => by kernel_rfl
  v53 := fun _ => by kernel_rfl
  i53 := by kernel_rfl
  t54 := by kernel_rfl
  a54 := fun _ => by kernel_rfl
  z54 := fun _ => by kernel_rfl
  g0 := by kernel_rfl
  g1 := by kernel_rfl

/-- The library's table lies where it lay at the start. -/
structure Tab (w : World) : Prop where
  t : TabAt 1 Lib.deBruijn64tab w
  s : 1 < w.heap.size
theorem Tab.below {w w' : World} {b : Nat} (h : Tab w) (k : Below b w w') (hb : w.heap.size ≤ b) : Tab w' :=
  ⟨fun j hj => (k.cell (p := ⟨1, j, none⟩) (Nat.lt_of_lt_of_le h.s hb)).trans (h.t j hj), Nat.lt_of_lt_of_le h.s k.size⟩
theorem ctzFrom_bit : ∀ (f x : Nat), 0 < x → x < 2 ^ f → x.testBit (Lib.ctzFrom f x) = true ∧ ∀ i, i < Lib.ctzFrom f x → x.testBit i = false
  | 0, x, h0, h => by simp at h; omega
  | f + 1, x, h0, h => by
    unfold Lib.ctzFrom
    split
    · rename_i h1
      refine ⟨by simp [Nat.testBit_zero, h1], fun i hi => by omega⟩
    · rename_i h1
      obtain ⟨a, b⟩ := ctzFrom_bit f (x / 2) (by omega) (by rw [Nat.pow_succ] at h; omega)
      refine ⟨by rw [Nat.add_comm, Nat.testBit_succ]; exact a, fun i hi => ?_⟩
      cases i with
      | zero => simp [Nat.testBit_zero]; omega
      | succ i => rw [Nat.testBit_succ]; exact b i (by omega)
/-- The least number of steps; 0: there is none. -/
def lowN (m : Nat) : Nat := if m = 0 then 0 else Lib.ctz 64 m
theorem lowN_zero : lowN 0 = 0 := rfl
theorem lowN_bit {m : Nat} (h : m ≠ 0) (hm : m < 8192) : m.testBit (lowN m) = true ∧ ∀ i, i < lowN m → m.testBit i = false := by
  unfold lowN Lib.ctz
  rw [if_neg h, if_neg h]
  exact ctzFrom_bit 64 m (by omega) (by omega)
theorem lowN_le {m : Nat} (hm : m < 8192) : lowN m ≤ 12 := by
  by_cases h : m = 0
  · subst h; decide
  · have h1 := (lowN_bit h hm).1
    false_or_by_contra
    have := Nat.testBit_lt_two_pow (x := m) (i := lowN m) (Nat.lt_of_lt_of_le hm (show 8192 ≤ 2 ^ lowN m from Nat.le_trans (show 8192 ≤ 2 ^ 13 by decide) (Nat.pow_le_pow_right (by decide) (by omega))))
    rw [h1] at this; cases this

set_option maxHeartbeats 1000000 in
theorem least66 (m : Nat) (w : World) (hm : m < 8192) (hT : Tab w) :
    Calls Tryd.prog 66 #[.int .u64 m] w fun e w' => e = .returned (.int .i64 (lowN m)) ∧ w = w' := by
  by_cases h : m = 0
  · subst h
    go_enter Tryd.func66, Tryd.ntmps66
    go_wp2
    go_ret
    exact ⟨rfl, rfl⟩
  · have hb : ((m : Int) == 0) = false := by simp; omega
    have hT' := Lib.hid hT.t
    have hl : Hid (lowN m = Lib.ctz 64 m) := by show _ = _; unfold lowN; rw [if_neg h]
    go_enter Tryd.func66, Tryd.ntmps66
    go_wp2_with fail
    refine (Any7.bits_TrailingZeros tzLay m (by omega) w (fun _ => hT'.out)).mono ?_
    rintro e w1 ⟨rfl, rfl⟩
    go_wp2
    go_ret
    exact ⟨ret_int (by rw [hl.out]), rfl⟩

end Go.Proofs.YtibkgnnpmidgfaaDoor
