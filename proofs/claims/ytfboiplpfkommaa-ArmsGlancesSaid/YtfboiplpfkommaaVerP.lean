/- Plain mathematics: verniers, lines that seem to fit, truths of glances. -/
import Derived.Test.YtfboiplpfkommaaPure
namespace Go.Proofs.Ytfboiplpfkommaa

def verB (P S : Int) : Bool := btw P 2 50 && btw S 0 P
theorem verB_iff {P S : Int} : verB P S = true ↔ (2 ≤ P ∧ P ≤ 50) ∧ (0 ≤ S ∧ S ≤ P) := by simp only [verB, Bool.and_eq_true, btw_iff]

/-- A line seems to fit: as the program reckons it. -/
def seemsB (P S s l : Int) : Bool := decide (min ((s % P - l).natAbs : Int) (P - ((s % P - l).natAbs : Int)) ≤ S)
/-- .. as the reference does. -/
def fitsB (P S s l : Int) : Bool := decide ((l - s % P + P) % P ≤ S) || decide (P - (l - s % P + P) % P ≤ S)
theorem fits_seems {P S s l : Int} (hP : 2 ≤ P) (hl0 : 0 ≤ l) (hl1 : l < P) (hS : 0 ≤ S) : fitsB P S s l = seemsB P S s l := by
  have h0 := Int.emod_nonneg s (show P ≠ 0 by omega)
  have h1 := Int.emod_lt_of_pos s (show 0 < P by omega)
  have e : (l - s % P + P) % P = if s % P ≤ l then l - s % P else l - s % P + P := by
    split
    · rw [show l - s % P + P = (l - s % P) + P * 1 by omega, Int.add_mul_emod_self_left, Int.emod_eq_of_lt (by omega) (by omega)]
    · exact Int.emod_eq_of_lt (by omega) (by omega)
  unfold fitsB seemsB
  rw [e]
  rw [Bool.eq_iff_iff]
  simp only [Bool.or_eq_true, decide_eq_true_eq]
  split <;> omega

/-- A glance: its main mark, its line. -/
structure Gl where
  m : Int
  l : Int
def strangeB (P : Int) (g : Gl) : Bool := !btw g.m 0 10000 || !btw g.l 0 (P - 1)
def glB (P : Int) (gs : List Gl) : Bool := btw gs.length 1 6 && !gs.any (strangeB P)
/-- At a number of steps a glance can have been. -/
def atB (P S s : Int) (g : Gl) : Bool := decide (g.m = s / P) && seemsB P S s g.l
def truthB (P S s : Int) (gs : List Gl) : Bool := gs.all (atB P S s)
def truths (P S : Int) (gs : List Gl) (k : Nat) : List Int := ((List.range k).map Int.ofNat).filter (fun s => truthB P S s gs)
def linesL (P S s : Int) (k : Nat) : List Int := ((List.range k).map Int.ofNat).filter (fun l => seemsB P S s l)
theorem truths_succ (P S : Int) (gs : List Gl) (k : Nat) : truths P S gs (k + 1) = truths P S gs k ++ if truthB P S k gs then [(k : Int)] else [] := by
  unfold truths
  rw [List.range_succ, List.map_append, List.filter_append]
  cases h : truthB P S k gs <;> simp [h]
theorem linesL_succ (P S s : Int) (k : Nat) : linesL P S s (k + 1) = linesL P S s k ++ if seemsB P S s k then [(k : Int)] else [] := by
  unfold linesL
  rw [List.range_succ, List.map_append, List.filter_append]
  cases h : seemsB P S s k <;> simp [h]
theorem truths_len (P S : Int) (gs : List Gl) (k : Nat) : (truths P S gs k).length ≤ k := by
  unfold truths
  exact Nat.le_trans (List.length_filter_le _ _) (by simp)
theorem linesL_len (P S s : Int) (k : Nat) : (linesL P S s k).length ≤ k := by
  unfold linesL
  exact Nat.le_trans (List.length_filter_le _ _) (by simp)

/-- The error of a vernier that is asked for its settings. -/
def settingsE (P S : Int) (gs : List Gl) : Int := if verB P S then (if glB P gs then (if truths P S gs 10001 = [] then 3 else 0) else 1) else 12
def settingsL (P S : Int) (gs : List Gl) : List Int := if verB P S && glB P gs then truths P S gs 10001 else []
def seenE (P S s : Int) : Int := if verB P S then (if btw s 0 10000 then 0 else 1) else 12
def seenL (P S s : Int) : List Int := if verB P S && btw s 0 10000 then linesL P S s P.toNat else []

end Go.Proofs.Ytfboiplpfkommaa
