/- Plain mathematics: the theorem of the glances. -/
import Derived.Test.YtfboiplpfkommaaVerP
import Derived.Test.YtfboiplpfkommaaKit
import Derived.Test.YtfboiplpfkommaaWo
namespace Go.Proofs.Ytfboiplpfkommaa
open Go.RowKit

theorem truths_mem {P S s : Int} {gs : List Gl} (h : 0 ≤ s ∧ s ≤ 10000) : s ∈ truths P S gs 10001 ↔ truthB P S s gs = true := by
  unfold truths
  rw [List.mem_filter]
  constructor
  · exact fun h => h.2
  · intro k
    refine ⟨List.mem_map.2 ⟨s.toNat, List.mem_range.2 (by omega), ?_⟩, k⟩
    show (s.toNat : Int) = s
    omega
theorem lines_mem {P S s l : Int} (h : 0 ≤ l ∧ l < P) : l ∈ linesL P S s P.toNat ↔ seemsB P S s l = true := by
  unfold linesL
  rw [List.mem_filter]
  constructor
  · exact fun h => h.2
  · intro k
    refine ⟨List.mem_map.2 ⟨l.toNat, List.mem_range.2 (by omega), ?_⟩, k⟩
    show (l.toNat : Int) = l
    omega
theorem truths_few {P S : Int} {g : Gl} {gs : List Gl} (hP : 2 ≤ P) (hm : 0 ≤ g.m) : ∀ k : Nat, (truths P S (g :: gs) k).length ≤ ((k : Int) - g.m * P).toNat ∧ ((truths P S (g :: gs) k).length : Int) ≤ P
  | 0 => by simp [truths]; omega
  | k + 1 => by
    have ih := truths_few (S := S) (g := g) (gs := gs) hP hm k
    rw [truths_succ]
    cases h : truthB P S k (g :: gs)
    · simp only [Bool.false_eq_true, if_false, List.append_nil]
      omega
    · simp only [if_true, List.length_append, List.length_singleton]
      have h1 : g.m = (k : Int) / P := by
        unfold truthB at h
        simp only [List.all_cons, Bool.and_eq_true, atB, decide_eq_true_eq] at h
        exact h.1.1
      have e1 := Int.mul_ediv_add_emod (k : Int) P
      have e2 := Int.emod_nonneg (k : Int) (show P ≠ 0 by omega)
      have e3 := Int.emod_lt_of_pos (k : Int) (show 0 < P by omega)
      have e4 : g.m * P = P * ((k : Int) / P) := by rw [h1, Int.mul_comm]
      omega
theorem truths_50 {P S : Int} {gs : List Gl} (hP : 2 ≤ P) (hP' : P ≤ 50) (h1 : gs ≠ []) (hg : ∀ g ∈ gs, 0 ≤ g.m) : (truths P S gs 10001).length ≤ 50 := by
  cases gs with
  | nil => exact absurd rfl h1
  | cons g gs =>
    have := (truths_few (S := S) (g := g) (gs := gs) hP (hg g (List.mem_cons_self ..)) 10001).2
    omega
theorem truths_mono {P S S' : Int} {gs gs' : List Gl} (h : ∀ s, truthB P S s gs = true → truthB P S' s gs' = true) : ∀ k : Nat, (truths P S gs k).length ≤ (truths P S' gs' k).length
  | 0 => by simp [truths]
  | k + 1 => by
    have ih := truths_mono h k
    rw [truths_succ, truths_succ]
    cases h1 : truthB P S k gs
    · simp only [Bool.false_eq_true, if_false, List.append_nil, List.length_append]; omega
    · rw [h _ h1]; simp only [if_true, List.length_append, List.length_singleton]; omega
theorem truths_sub {P S S' : Int} {gs gs' : List Gl} (h : ∀ s, truthB P S s gs = true → truthB P S' s gs' = true) (k : Nat) : subB (truths P S gs k) (truths P S' gs' k) = true := by
  unfold subB
  have h2 := truths_mono h k
  simp only [Bool.and_eq_true, decide_eq_true_eq, List.all_eq_true]
  refine ⟨fun s hs => ?_, h2⟩
  unfold truths at hs ⊢
  rw [List.mem_filter] at hs ⊢
  exact ⟨hs.1, h s hs.2⟩
theorem seems_mono {P S S' s l : Int} (h : S ≤ S') (k : seemsB P S s l = true) : seemsB P S' s l = true := by
  unfold seemsB at *
  simp only [decide_eq_true_eq] at *
  omega
theorem truth_mono {P S S' s : Int} {gs : List Gl} (h : S ≤ S') (k : truthB P S s gs = true) : truthB P S' s gs = true := by
  unfold truthB at *
  rw [List.all_eq_true] at *
  intro g hg
  have := k g hg
  unfold atB at *
  rw [Bool.and_eq_true] at *
  exact ⟨this.1, seems_mono h this.2⟩
theorem truth_reverse (P S s : Int) (gs : List Gl) : truthB P S s gs.reverse = truthB P S s gs := by unfold truthB; rw [List.all_reverse]
theorem truths_reverse (P S : Int) (gs : List Gl) (k : Nat) : truths P S gs.reverse k = truths P S gs k := by
  unfold truths
  congr 1
  funext s
  exact truth_reverse P S s gs
theorem gl_reverse (P : Int) (gs : List Gl) : glB P gs.reverse = glB P gs := by unfold glB; rw [List.length_reverse, List.any_reverse]
theorem settings_reverse (P S : Int) (gs : List Gl) : settingsL P S gs.reverse = settingsL P S gs ∧ settingsE P S gs.reverse = settingsE P S gs := by
  unfold settingsL settingsE
  rw [gl_reverse, truths_reverse]
  exact ⟨rfl, rfl⟩
theorem gl_all {P : Int} {gs : List Gl} (h : glB P gs = true) : (1 ≤ gs.length ∧ gs.length ≤ 6) ∧ ∀ g ∈ gs, 0 ≤ g.m ∧ g.m ≤ 10000 ∧ 0 ≤ g.l ∧ g.l < P := by
  unfold glB at h
  simp only [Bool.and_eq_true, Bool.not_eq_true'] at h
  obtain ⟨h3, h4⟩ := h
  have h3 := btw_iff.1 h3
  refine ⟨by omega, fun g hg => ?_⟩
  have := List.any_eq_false.1 h4 g hg
  simp only [strangeB, Bool.or_eq_true, Bool.not_eq_true', not_or, Bool.not_eq_false] at this
  obtain ⟨e1, e2⟩ := this
  have e1 := btw_iff.1 e1
  have e2 := btw_iff.1 e2
  omega
theorem settings_ok {P S : Int} {gs : List Gl} (h : verB P S = true) (k : glB P gs = true) : settingsL P S gs = truths P S gs 10001 ∧ (settingsL P S gs).length ≤ 50 ∧
    (settingsE P S gs = 0 ∧ 0 < (settingsL P S gs).length ∨ settingsE P S gs = 3 ∧ (settingsL P S gs).length = 0) := by
  have hP := verB_iff.1 h
  obtain ⟨hl, hg⟩ := gl_all k
  have e1 : settingsL P S gs = truths P S gs 10001 := by unfold settingsL; rw [h, k]; rfl
  have e2 : settingsE P S gs = if truths P S gs 10001 = [] then 3 else 0 := by unfold settingsE; rw [if_pos h, if_pos k]
  have h50 := truths_50 (S := S) hP.1.1 hP.1.2 (by intro h0; rw [h0] at hl; simp at hl) (fun g hg' => (hg g hg').1)
  rw [e1, e2]
  refine ⟨rfl, h50, ?_⟩
  split
  · rename_i h0; exact .inr ⟨rfl, List.length_eq_zero_iff.2 h0⟩
  · rename_i h0; exact .inl ⟨rfl, List.length_pos_iff.2 h0⟩
/-- Of one glance: at its main mark, and its line seen. -/
theorem at_seen {P S s : Int} {g : Gl} (h : verB P S = true) (hs : btw s 0 10000 = true) (hg : 0 ≤ g.l ∧ g.l < P) : decide (g.l ∈ seenL P S s) = seemsB P S s g.l := by
  have e : seenL P S s = linesL P S s P.toNat := by unfold seenL; rw [h, hs]; rfl
  rw [e, Bool.eq_iff_iff, decide_eq_true_eq]
  exact lines_mem hg

end Go.Proofs.Ytfboiplpfkommaa
