/- The frame of a law: how arguments of plain numbers are read. -/
import Derived.WalkKit
import Derived.ProofKit
import Derived.OpenShut
import Derived.ShutString
import Derived.ChangeOld
import Derived.Below
namespace Go.Proofs.Ytgmhelclofnpkaa
open Go.ChangeShapes Go.WideShapes Go.ChangeAt Go.RowKit

/-- A type that is an int, or a struct of such: its fields cover all of its cells. -/
def plainB (P : Program) : Nat → TypeId → Bool
  | 0, _ => false
  | n + 1, t =>
    match P.underlying t with
    | some (.int .i64) => true
    | some (.struct fs) => fs.toList.all (fun f => plainB P n f.type) && (List.range (P.cellsOf t)).all (fun c => fs.toList.any fun f => decide (f.offset ≤ c) && decide (c < f.offset + P.cellsOf f.type))
    | _ => false

theorem plain_cells {P : Program} {H : Type} {enc : TypeId × Value → H} {w : World} {base : Nat} {spare : Nat → Bool} {held : Bool} : ∀ (n : Nat) (t : TypeId) (fuel : Nat) (cs : List Value) (x : DataW H × List MemPlace),
    plainB P n t = true → DataW.trod enc P w base spare held fuel t cs = some x → ∀ (c : Nat) (v : Value), cs[c]? = some v → ∃ a : Int, v = .int .i64 a ∧ (Lit.int .i64 a).wf = true
  | 0, _, _, _, _, h, _, _, _, _ => by simp [plainB] at h
  | n + 1, t, fuel, cs, x, h, hx, c, v, hv => by
    unfold plainB at h
    split at h
    · rename_i hu
      obtain ⟨a, rfl, _, wa⟩ := DataW.trod_int hu hx
      rcases c with _ | c
      · simp at hv; exact ⟨a, hv.symm, wa⟩
      · simp at hv
    · rename_i fs hu
      simp only [Bool.and_eq_true, List.all_eq_true] at h
      obtain ⟨h1, h2⟩ := h
      obtain ⟨xs, m, _, _, hlen, hxs, hf⟩ := DataW.trod_struct hu hx
      have hc : c < P.cellsOf t := by rw [← hlen]; exact (List.getElem?_eq_some_iff.1 hv).1
      have h3 := h2 c (List.mem_range.2 hc)
      obtain ⟨f, hfm, hb⟩ := List.any_eq_true.1 h3
      simp only [Bool.and_eq_true, decide_eq_true_eq] at hb
      obtain ⟨i, hi⟩ := List.getElem?_of_mem hfm
      have hi' : fs[i]? = some f := by simpa using hi
      have hlt : i < xs.length := by rw [hxs]; exact (Array.getElem?_eq_some_iff.1 hi').1
      have h4 := hf i f hi'
      rw [List.getElem?_eq_getElem hlt] at h4
      refine plain_cells n f.type m _ _ (h1 f hfm) h4 (c - f.offset) v ?_
      rw [List.getElem?_take, if_pos (by omega), List.getElem?_drop, show f.offset + (c - f.offset) = c by omega]
      exact hv
    · cases h

/-- An argument that is a struct of numbers: its cells. -/
theorem plain_agg {P : Program} {H : Type} {enc : TypeId × Value → H} {w : World} {base base' : Nat} {r : Reach} {spare : Nat → Bool} {held : Bool} {n : Nat} {t : TypeId} {fs : Array Field} {v : Value} {d : DataW H} {ps : List MemPlace}
    (hu : P.underlying t = some (.struct fs)) (hp : plainB P n t = true) (hv : Value.okWide P w r base' t v) (h : DataW.Trod enc P w base spare held t v d ps) :
    ∃ cs : List Value, v = .agg cs.toArray ∧ cs.length = P.cellsOf t ∧ ∀ (c : Nat) (u : Value), cs[c]? = some u → ∃ a : Int, u = .int .i64 a ∧ (Lit.int .i64 a).wf = true := by
  obtain ⟨cs, rfl, hsz⟩ := okWide_struct hu hv
  obtain ⟨fuel, hf⟩ := h
  refine ⟨cs.toList, by simp, by simpa using hsz, fun c u hc => plain_cells n t fuel _ _ hp hf c u ?_⟩
  simpa [Value.cells] using hc
theorem cells2 {cs : List Value} (hl : cs.length = 2) (h : ∀ (c : Nat) (u : Value), cs[c]? = some u → ∃ a : Int, u = .int .i64 a ∧ (Lit.int .i64 a).wf = true) : ∃ a b : Int, cs = [.int .i64 a, .int .i64 b] := by
  match cs, hl with
  | [x, y], _ =>
    obtain ⟨a, rfl, _⟩ := h 0 x rfl
    obtain ⟨b, rfl, _⟩ := h 1 y rfl
    exact ⟨a, b, rfl⟩
theorem cells3 {cs : List Value} (hl : cs.length = 3) (h : ∀ (c : Nat) (u : Value), cs[c]? = some u → ∃ a : Int, u = .int .i64 a ∧ (Lit.int .i64 a).wf = true) : ∃ a b c : Int, cs = [.int .i64 a, .int .i64 b, .int .i64 c] := by
  match cs, hl with
  | [x, y, z], _ =>
    obtain ⟨a, rfl, _⟩ := h 0 x rfl
    obtain ⟨b, rfl, _⟩ := h 1 y rfl
    obtain ⟨c, rfl, _⟩ := h 2 z rfl
    exact ⟨a, b, c, rfl⟩
theorem cells4 {cs : List Value} (hl : cs.length = 4) (h : ∀ (c : Nat) (u : Value), cs[c]? = some u → ∃ a : Int, u = .int .i64 a ∧ (Lit.int .i64 a).wf = true) : ∃ a b c d : Int, cs = [.int .i64 a, .int .i64 b, .int .i64 c, .int .i64 d] := by
  match cs, hl with
  | [x, y, z, t], _ =>
    obtain ⟨a, rfl, _⟩ := h 0 x rfl
    obtain ⟨b, rfl, _⟩ := h 1 y rfl
    obtain ⟨c, rfl, _⟩ := h 2 z rfl
    obtain ⟨d, rfl, _⟩ := h 3 t rfl
    exact ⟨a, b, c, d, rfl⟩
theorem cells6 {cs : List Value} (hl : cs.length = 6) (h : ∀ (c : Nat) (u : Value), cs[c]? = some u → ∃ a : Int, u = .int .i64 a ∧ (Lit.int .i64 a).wf = true) : ∃ a b c d e f : Int, cs = [.int .i64 a, .int .i64 b, .int .i64 c, .int .i64 d, .int .i64 e, .int .i64 f] := by
  match cs, hl with
  | [x, y, z, t, u, v], _ =>
    obtain ⟨a, rfl, _⟩ := h 0 x rfl
    obtain ⟨b, rfl, _⟩ := h 1 y rfl
    obtain ⟨c, rfl, _⟩ := h 2 z rfl
    obtain ⟨d, rfl, _⟩ := h 3 t rfl
    obtain ⟨e, rfl, _⟩ := h 4 u rfl
    obtain ⟨f, rfl, _⟩ := h 5 v rfl
    exact ⟨a, b, c, d, e, f, rfl⟩

end Go.Proofs.Ytgmhelclofnpkaa
