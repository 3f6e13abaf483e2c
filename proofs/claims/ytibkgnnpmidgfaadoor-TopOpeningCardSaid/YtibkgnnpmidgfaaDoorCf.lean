/- Walks: the list of numbers of steps. -/
import Derived.Test.YtibkgnnpmidgfaaDoorTz
import Derived.OwnWalk
import Derived.Laws.Bits64b
import Derived.Deep.LoopGhost
import Derived.Deep.DeepCutAuto
import Derived.Outline
namespace Go.Proofs.YtibkgnnpmidgfaaDoor
open Go.RowKit

def bitsU (m k : Nat) : List Int := ((List.range k).filter (m.testBit ·)).map Int.ofNat
theorem bitsU_succ (m k : Nat) : bitsU m (k + 1) = if m.testBit k = true then bitsU m k ++ [(k : Int)] else bitsU m k := by
  unfold bitsU
  rw [List.range_succ, List.filter_append, List.map_append]
  split <;> simp_all
theorem bitsU_len (m k : Nat) : (bitsU m k).length ≤ k := by
  unfold bitsU
  rw [List.length_map]
  exact Nat.le_trans (List.length_filter_le _ _) (by simp)
theorem bit_test (m k : Nat) (hm : m < 8192) : (bits .and .u64 ((m : Int) / 2 ^ k) 1 == 1) = m.testBit k := by
  have e1 : (m : Int) / 2 ^ k = ((m / 2 ^ k : Nat) : Int) := by simp
  have e2 := bits_and_u64_nat (m / 2 ^ k) 1 (by have := Nat.div_le_self m (2 ^ k); omega) (by omega)
  rw [e1, show (1 : Int) = ((1 : Nat) : Int) by rfl, e2, Nat.testBit_eq_decide_div_mod_eq, Nat.and_one_is_mod]
  rw [Bool.eq_iff_iff]; simp; omega
theorem Tryd.info3 : (Tryd.prog.info? 3).map (fun i => (i.zero, i.size, i.bytes)) = some (some (.int .i64 0), 1, 8) := by kernel_rfl

set_option maxRecDepth 100000 in
set_option maxHeartbeats 1000000 in
theorem list68 (m : Nat) (w : World) (hm : m < 8192) :
    Calls Tryd.prog 68 #[.int .u64 m] w fun e w' => ∃ (A : Option Addr) (cap : Nat), e = .returned (.slice A (bitsL m).length cap) ∧ RdI w' A (bitsL m) ∧ Below w.heap.size w w' := by
  obtain ⟨i0, hi0, hi1, hi2, hi3⟩ := info_parts Tryd.info3
  go_enter Tryd.func68, Tryd.ntmps68
  go_wp2_with fail
  go_loopg [3, 5] 13 (fun K out cnt wr => ∃ k : Nat, K + k = 13 ∧ cnt = .int .i64 k ∧ Gro wr w.heap.size 3 1 out ((bitsU m k).map irow) ∧ Below w.heap.size w wr)
  case atStart => exact ⟨0, rfl, rfl, Gro.nil _ _ _ _, Below.refl _ _⟩
  case round =>
    obtain ⟨k, hk, rfl, hg, hbw⟩ := hrel
    by_cases hlt : k < 13
    · have hk64 : (k : Int) ≤ 64 := by omega
      have hz : w.heap.size ≤ wr.heap.size := hbw.size
      have hl := bitsU_len m k
      have hl2 : ((bitsU m k).map irow).length ≤ k := by simpa using hl
      cases hb : m.testBit k
      · have ht := bit_test m k hm
        rw [hb] at ht
        have hs : Hid (bitsU m (k + 1) = bitsU m k) := by show _ = _; rw [bitsU_succ, hb]; rfl
        go_wp2
        go_roundg (13 - (k + 1))
        case measure => omega
        case rel => exact ⟨k + 1, by omega, by go_num, by rw [hs.out]; exact hg, hbw⟩
      · have ht := bit_test m k hm
        rw [hb] at ht
        have hs : Hid (bitsU m (k + 1) = bitsU m k ++ [(k : Int)]) := by show _ = _; rw [bitsU_succ, hb]; rfl
        go_wp2_with (at_builtin; refine wpList_append_own _ rfl _ _ 46 rfl (w.heap.size) 3 i0 (.int .i64 0) 1 8 Tryd.underlying46 hi0 hi1 hi2 hi3 rfl (by decide) _ _ _ rfl (hg.2.alloc _) ⟨wr.heap.size, 0, none⟩ 1 1 [.int .i64 k] rfl rfl (cell_one_new _ _ _) (by intro u hu; simp at hu; subst hu; rfl) (by unfold maxLen; omega) (by omega) (by simp; omega) ?_; intro v' w5 hown' hgrow hnil)
        have hbA : Below w.heap.size wr w5 := ((Below.refl _ wr).alloc hz _).grown hgrow (by simp; omega) (fun i hi => (hg.2.lt i hi).1)
        have q2 : Gro w5 w.heap.size 3 1 v' (((bitsU m k).map irow) ++ [irow k]) := Gro.grown hg rfl hown'
        have q1 : Below w.heap.size w w5 := hbw.trans hbA
        clear hg hbw hown' hgrow hnil hbA ht
        go_wp2
        go_roundg (13 - (k + 1))
        case measure => omega
        case rel => exact ⟨k + 1, by omega, by go_num, by rw [hs.out, List.map_append]; exact q2, q1⟩
    · have hk13 : Hid (k = 13) := by show _ = _; omega
      have hge : (13 : Int) ≤ k := by omega
      have hgd : decide ((k : Int) < 13) = false := by simp; omega
      obtain ⟨A', cap', rfl, hrd⟩ := hg.out
      go_wp2
      go_ret
      have e : bitsU m k = bitsL m := by rw [hk13.out]; rfl
      refine ⟨A', cap', ?_, ?_, hbw⟩
      · rw [List.length_map, e]; rfl
      · rw [← e]; exact hrd

end Go.Proofs.YtibkgnnpmidgfaaDoor
