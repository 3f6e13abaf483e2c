/- Walks: the numbers that truths of a wheel have, ascending. -/
import Derived.Test.YtgmhelclofnpkaaQh
import Derived.Test.YtgmhelclofnpkaaMap
import Derived.Test.YtgmhelclofnpkaaSo
namespace Go.Proofs.Ytgmhelclofnpkaa
open Go.RowKit Go.Shelf Go.Maps

theorem MapI.look' {w : World} {b n : Nat} {f : Int → Option Int} (h : MapI w b n f) {k : Int} (hk : (Lit.int .i64 k).wf = true) :
    (Instr.lookup 144 (.map (some b)) (.int .i64 k) false).run Try.prog w = .ok (.int .i64 ((f k).getD 0)) w := by
  obtain ⟨D, h1, h2⟩ := h
  obtain ⟨c, hrun, hat, _⟩ := h1.lookup_int key3 Try.underlying144 Try.underlying3 (zero3 w) (keyOf_int_mk Try.underlying3 hk)
  have e : c = (f k).getD 0 := by
    have := h2 k
    cases hf : f k with
    | none =>
      rw [hf] at this
      rw [atKey_of_not_has this] at hat
      simp at hat; simp [hat]
    | some u =>
      rw [hf] at this
      rw [this.2] at hat
      simp at hat; simp [hat]
  rw [hrun, e]
theorem MapI.put' {w : World} {b n : Nat} {f : Int → Option Int} (h : MapI w b n f) (hn : n < 100000000000000) {k u : Int} (hk : (Lit.int .i64 k).wf = true) (hu : (Lit.int .i64 u).wf = true) :
    ∃ w', (Instr.mapUpdate 144 (.map (some b)) (.int .i64 k) (.int .i64 u)).run Try.prog w = .ok () w' ∧ MapI w' b (n + 1) (upd f k u) ∧ w.grownBy w' (some b) ∧ w'.heap.size = w.heap.size := by
  obtain ⟨D, h1, h2⟩ := h
  obtain ⟨w', hrun, r1, r2⟩ := h1.store key3 Try.underlying144 (by unfold maxLen; omega) (keyOf_int_mk Try.underlying3 hk) (plainElem_int Try.underlying3 hu)
  refine ⟨w', hrun, ⟨_, r1, holds_put h2 h1.isMap hk⟩, World.mapTurned.grown r2, ?_⟩
  obtain ⟨es, clock, es', clock', hb, rfl⟩ := r2
  simp [Go.ChangeMaps.setBlock]
/-- Numbers in ascending order, each once, just those of a list. -/
def KeysOf (ks l : List Int) : Prop := ks.Pairwise (· < ·) ∧ ∀ x, x ∈ ks ↔ x ∈ l
theorem keys_sorted {w : World} {b n : Nat} {D : DataW Unit} {f : Int → Option Int} (h : w.ownsMap Try.prog 3 (plainElem (H := Unit) Try.prog 3) b n D) (hf : Holds D f) {ss : List Int} (hp : ss.Perm (intKeys D)) : (ss.mergeSort fun x y => decide (x ≤ y)).Pairwise (· < ·) ∧ ∀ x, x ∈ (ss.mergeSort fun x y => decide (x ≤ y)) ↔ (f x).isSome = true := by
  obtain ⟨es, hD, hpw, _⟩ := h.entries key3
  obtain ⟨es', hD', hko⟩ := h.keysOf
  obtain rfl : es = es' := by rw [hD] at hD'; cases hD'; rfl
  subst hD
  have hk : ∀ p ∈ es, ∃ x, p.1 = .int .i64 x := fun p hp => by
    obtain ⟨v, hv⟩ := hko p hp
    obtain ⟨x, _, hx, _⟩ := Maps.keyOf_i64 Try.underlying3 hv
    exact ⟨x, hx⟩
  have hnd : (intKeys (DataW.map es)).Nodup := by
    show (es.map fun p => Go.intOf p.1).Nodup
    refine List.pairwise_map.2 (hpw.imp_of_mem fun {p q} hp' hq' hne e => hne ?_)
    obtain ⟨a, ha⟩ := hk p hp'
    obtain ⟨b, hb⟩ := hk q hq'
    rw [ha, hb] at e ⊢
    exact congrArg _ e
  have hm : ∀ x, x ∈ intKeys (DataW.map es) ↔ Maps.has (DataW.map es) (.int .i64 x) = true := fun x => by
    rw [Maps.has_eq, List.any_eq_true]
    show x ∈ es.map (fun p => Go.intOf p.1) ↔ _
    rw [List.mem_map]
    constructor
    · rintro ⟨p, hp', rfl⟩
      obtain ⟨a, ha⟩ := hk p hp'
      exact ⟨p, hp', by rw [ha]; simp [Lit.sameKey, Go.intOf]⟩
    · rintro ⟨p, hp', hs⟩
      obtain ⟨a, ha⟩ := hk p hp'
      rw [ha] at hs
      exact ⟨p, hp', by rw [ha]; simpa [Lit.sameKey, Go.intOf] using hs⟩
  have hperm := (List.mergeSort_perm ss (fun x y => decide (x ≤ y))).trans hp
  refine ⟨?_, fun x => ?_⟩
  · have h1 : (ss.mergeSort fun x y => decide (x ≤ y)).Nodup := hperm.nodup_iff.2 hnd
    have h2 := List.pairwise_mergeSort (le := fun x y : Int => decide (x ≤ y)) (fun a b c h1 h2 => by simp only [decide_eq_true_eq] at *; exact Int.le_trans h1 h2) (fun a b => by simp only [Bool.or_eq_true, decide_eq_true_eq]; exact Int.le_total a b) ss
    exact (h1.and h2).imp fun {a b} ⟨hne, hle⟩ => by
      have := of_decide_eq_true hle
      omega
  · rw [hperm.mem_iff, hm]
    have := hf x
    cases e : f x with
    | none => rw [e] at this; rw [this]; simp
    | some u => rw [e] at this; rw [this.1]; simp
end Go.Proofs.Ytgmhelclofnpkaa
