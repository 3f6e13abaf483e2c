/- A front has at most 1809 states. -/
import Derived.Test.YtphcpphmoeiioaaVMa
namespace Go.Proofs.Ytphcpphmoeiioaa
open Go.RowKit Go.Maps Go.WideElems

theorem pigeon {α : Type _} : ∀ (l L : List α), l.Pairwise (fun p q => p ≠ q) → (∀ x, x ∈ l → x ∈ L) → l.length ≤ L.length
  | [], _, _, _ => by simp
  | x :: l, L, hp, hs => by
    obtain ⟨s, t, rfl⟩ := List.append_of_mem (hs x (by simp))
    have hx := List.pairwise_cons.1 hp
    have := pigeon l (s ++ t) hx.2 fun y hy => by
      have h1 := hs y (by simp [hy])
      have h2 := hx.1 y hy
      simp at h1 ⊢
      rcases h1 with h1 | h1 | h1
      · exact Or.inl h1
      · exact absurd h1.symm h2
      · exact Or.inr h1
    simp at this ⊢
    omega
noncomputable def keysL : List Lit := (List.range 1809).map fun q => kS (((q / 9 : Nat) : Int) - 100) ((q % 9 : Nat) : Int)
theorem keysL_length : keysL.length = 1809 := by unfold keysL; rw [List.length_map, List.length_range]
theorem keysL_mem {x v : Int} (h : (-100 ≤ x ∧ x ≤ 100) ∧ 0 ≤ v ∧ v ≤ 8) : kS x v ∈ keysL := by
  unfold keysL
  refine List.mem_map.2 ⟨(x + 100).toNat * 9 + v.toNat, List.mem_range.2 (by omega), ?_⟩
  have e1 : ((((x + 100).toNat * 9 + v.toNat) / 9 : Nat) : Int) - 100 = x := by omega
  have e2 : ((((x + 100).toNat * 9 + v.toNat) % 9 : Nat) : Int) = v := by omega
  rw [e1, e2]
def SupF (F : Int → Int → Option (Int × Int)) : Prop := ∀ x v, (F x v).isSome = true → (-100 ≤ x ∧ x ≤ 100) ∧ 0 ≤ v ∧ v ≤ 8
theorem MapF.tight {w : World} {b n : Nat} {F : Int → Int → Option (Int × Int)} (h : MapF w b n F) (hs : SupF F) : MapF w b 1809 F := by
  obtain ⟨D, ⟨es, clock, e1, e2, e3, rfl⟩, h2⟩ := h
  refine ⟨_, ⟨es, clock, e1, e2, ?_, rfl⟩, h2⟩
  have key := pigeon ((es.toList.map (rg Try.prog 106 sumR)).map Prod.fst) keysL (List.pairwise_map.2 (Maps.fit_apart keyedS e2)) ?_
  · simpa [keysL_length] using key
  · intro kl hkl
    obtain ⟨p, hp, rfl⟩ := List.mem_map.1 hkl
    have hp' := hp
    obtain ⟨x, hx, rfl⟩ := List.mem_map.1 hp
    obtain ⟨y, hy⟩ := e2.reads x hx
    rw [rg_of hy] at hp' ⊢
    obtain ⟨xx, v, wx, wv, ek⟩ := invS (rd_key hy)
    have hyk : y.1 = kS xx v := by
      have h1 := rd_key hy
      rw [ek, keyS wx wv] at h1
      exact (Option.some.inj h1).symm
    have hh : Maps.has (DataW.map ((es.toList.map (rg Try.prog 106 sumR)).foldr DataW.insert [])) (kS xx v) = true := by
      rw [Maps.has_eq]
      refine List.any_eq_true.2 ⟨_, mem_sorted.2 hp', ?_⟩
      rw [← hyk]
      exact WideAt.sameKey_self (by rw [hyk]; exact keyedS.key (keyS wx wv))
    rw [hyk]
    refine keysL_mem (hs xx v ?_)
    have := h2 xx v wx wv
    cases hf : F xx v with
    | none => rw [hf] at this; rw [hh] at this; cases this
    | some _ => rfl
theorem Fro.sup {F : Int → Int → Option (Int × Int)} {R : Int → Int → Int → Prop} (h : Fro F R) (hr : ∀ x w s, R x w s → (-100 ≤ x ∧ x ≤ 100) ∧ 0 ≤ w ∧ w ≤ 8) : SupF F := by
  intro x v hf
  have := h x v
  cases e : F x v with
  | none => rw [e] at hf; cases hf
  | some p => rw [e] at this; exact hr _ _ _ this.1
theorem Own.grown {w w' : World} {b : Nat} {vs : List Value} {row : Option Nat} (h : Own w b vs) (hg : w.grownBy w' row) (hne : some b ≠ row) : Own w' b vs :=
  ⟨Nat.lt_of_lt_of_le h.lt hg.size, fun i => (World.cell?_of_block (hg.block b h.lt hne)).trans (h.c i), fun i => (World.frozen?_of_block (hg.block b h.lt hne)).trans (h.f i)⟩
end Go.Proofs.Ytphcpphmoeiioaa
