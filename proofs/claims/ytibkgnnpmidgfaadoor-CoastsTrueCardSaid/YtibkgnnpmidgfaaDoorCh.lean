/- Walks: pairs of dividers: the least number of wrong reports. -/
import Derived.Test.YtibkgnnpmidgfaaDoorMap
import Derived.Deep.LoopGhost
import Derived.Deep.DeepCutAuto
import Derived.Outline
namespace Go.Proofs.YtibkgnnpmidgfaaDoor
open Go.RowKit Go.Maps

/-- m is the least of 8 and all that the map holds. -/
structure IsMin (f : Int → Option Int) (m : Int) : Prop where
  a : m ≤ 8
  b : ∀ x c, f x = some c → m ≤ c
  c : m = 8 ∨ ∃ x, f x = some m
structure MinUp (f : Int → Option Int) (left : Int → Bool) (m : Int) : Prop where
  a : m ≤ 8
  b : ∀ x c, f x = some c → left x = false → m ≤ c
  c : m = 8 ∨ ∃ x, f x = some m
theorem MinUp.step {f : Int → Option Int} {left : Int → Bool} {m x c : Int} (h : MinUp f left m) (hf : f x = some c) (m' : Int) (h1 : m' ≤ m) (h2 : m' ≤ c) (h3 : m' = m ∨ m' = c) : MinUp f (fun z => left z && !decide (z = x)) m' := by
  refine ⟨Int.le_trans h1 h.a, fun y d hy hl => ?_, ?_⟩
  · by_cases e : y = x
    · subst e; rw [hf] at hy; cases hy; exact h2
    · have : left y = false := by simpa [e] using hl
      exact Int.le_trans h1 (h.b y d hy this)
  · rcases h3 with rfl | rfl
    · exact h.c
    · exact Or.inr ⟨x, hf⟩

set_option maxRecDepth 100000 in
set_option maxHeartbeats 1000000 in
theorem least99 (b n : Nat) (f : Int → Option Int) (w : World) (hm : MapI w b n f) :
    Calls Tryd.prog 99 #[.map (some b)] w fun e w' => ∃ m, Hid (IsMin f m) ∧ e = .returned (.int .i64 m) ∧ Below w.heap.size w w' := by
  go_enter Tryd.func99, Tryd.ntmps99
  go_wp2_with (at_range; refine wp_rangeI _ rfl _ 106 rfl Tryd.underlying106 b n f rfl hm ?_; intro w0 cnt hrg hb0 hs0 hcn)
  go_frame
  go_loopg [3] cnt (fun K v wr => ∃ (left : Int → Bool) (m : Int), RngI wr b w.heap.size n f left K ∧ Below w.heap.size w wr ∧ v = .int .i64 m ∧ Hid (MinUp f left m))
  case atStart => exact ⟨_, 8, hrg, hb0, rfl, ⟨Int.le_refl _, fun x c h hl => (by rw [h] at hl; cases hl), Or.inl rfl⟩⟩
  case round =>
    have hbl := hm.lt
    clear hrg hb0 hs0 hm
    obtain ⟨left, m, hrg, hbw, rfl, hmu⟩ := hrel
    go_wp2_with (at_next; refine wp_nextI _ rfl _ rfl b w.heap.size n f left _ rfl hrg ?_ ?_)
    · intro hc0 hl0
      go_wp2
      go_ret
      exact ⟨m, ⟨hmu.out.a, fun x c h => hmu.out.b x c h (hl0 x), hmu.out.c⟩, rfl, hbw⟩
    · intro x c w1 cnt1 hwx hwc hlx hfx hrg1 hlt hg1 hs1 hen
      have hb1 : Below w.heap.size w w1 := hbw.grown hg1 hbw.size (fun k e => by cases e; exact Nat.le_refl _)
      have HF := Lib.hid hfx
      have HL := Lib.hid hlx
      clear hfx hlx hbw hrg
      go_wp2
      all_goals
        go_roundg cnt1
        case measure => omega
        case rel =>
          refine ⟨_, _, hrg1, hb1, rfl, ?_⟩
          exact hmu.out.step HF.out _ (by omega) (by omega) (by omega)

end Go.Proofs.YtibkgnnpmidgfaaDoor
