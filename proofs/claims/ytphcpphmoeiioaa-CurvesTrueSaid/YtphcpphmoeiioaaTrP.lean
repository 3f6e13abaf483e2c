/- The plain law of CurvesTrue. -/
import Derived.Test.YtphcpphmoeiioaaRf
import Derived.Test.YtphcpphmoeiioaaLvW
import Derived.Test.YtphcpphmoeiioaaHiP
import Derived.Test.YtphcpphmoeiioaaFlP
namespace Go.Proofs.Ytphcpphmoeiioaa
open Go.RowKit

theorem sUp_cut (h : Nat → Int) (a b : Int) (k : Nat) (hb : b ≤ k) : sUp h a b (k + 1) = sUp h a b k := by
  show sUp h a b k + _ = _
  rw [if_neg (by omega)]; omega
section
variable {L sl rl rh wg : Int} {ks : List Kn} {l : List Int} (hT : Truth (cvOf L sl rl rh wg ks) (fnL l))
include hT
theorem tr_rng (hlen : (l.length : Int) = L + 1) (hV : CvV L sl rl rh wg ks) : ∀ x ∈ l, -100 ≤ x ∧ x ≤ 100 := fun x hx => by
  obtain ⟨i, hi, rfl⟩ := List.getElem_of_mem hx
  have h1 : rl ≤ fnL l i ∧ fnL l i ≤ rh := hT.1.1 i (by show i ≤ L.toNat; omega)
  have e : fnL l i = l[i] := by have := fnL_at hi; rw [List.getElem?_eq_getElem hi] at this; exact (Option.some.inj this).symm
  rw [e] at h1
  have := hV.r1
  have := hV.r2
  omega
theorem tr_ht {p : Nat} {lo hi : Int} (h : IsSp (HtP (cvOf L sl rl rh wg ks) p) lo hi) : lo ≤ fnL l p ∧ fnL l p ≤ hi := h.2.2 _ ⟨_, hT, rfl⟩
theorem tr_in {a b : Int} {n : Nat} (hn : (n : Int) = L + 1) (h0 : 0 ≤ L) (hb : b ≤ L) {lo hi : Int} (h : IsSp (InP (cvOf L sl rl rh wg ks) a b) lo hi) : lo ≤ sUp (fnL l) a b n ∧ sUp (fnL l) a b n ≤ hi := by
  obtain rfl : n = L.toNat + 1 := by omega
  rw [sUp_cut _ _ _ _ (by omega)]
  exact h.2.2 _ ⟨_, hT, rfl⟩
theorem tr_ln {p : Nat} {lo hi : Int} (h : IsSp (LnP (cvOf L sl rl rh wg ks) p) lo hi) : lo ≤ fnL l (p + 1) - fnL l p ∧ fnL l (p + 1) - fnL l p ≤ hi := h.2.2 _ ⟨_, hT, rfl⟩
theorem tr_few {m : Int} (h : FewP (cvOf L sl rl rh wg ks) m) : 0 ≤ m ∧ m ≤ (wUp ks (fnL l) L.toNat : Nat) := by
  refine ⟨?_, h.2 _ hT.1⟩
  obtain ⟨g, _, e⟩ := h.1
  rw [← e]; omega
/-- What Level says for sure is so. -/
theorem tr_lv {lv : Int} {a b : Nat} (hb : (b : Int) ≤ L) {v : Int} (h : LevelV (cvOf L sl rl rh wg ks) lv a b v) : (1 ≤ v ∧ v ≤ 3) ∧ (v = 1 → HasL l lv a b) ∧ (v = 2 → ¬ HasL l lv a b) := by
  have k1 : ¬ BelT (cvOf L sl rl rh wg ks) lv a b → HasL l lv a b := fun h => Classical.byContradiction fun k => h ⟨_, hT, fun i hi h1 h2 => by
    by_cases e : fnL l i < lv
    · exact e
    · exact absurd ⟨i, by omega, by omega, by omega⟩ k⟩
  have k2 : ¬ AbvT (cvOf L sl rl rh wg ks) lv a b → ¬ HasL l lv a b := fun h ⟨i, h1, h2, h3⟩ => h ⟨i, by omega, by omega, _, ⟨_, hT, rfl⟩, h3⟩
  rcases h with ⟨rfl, h1⟩ | ⟨rfl, _, h1⟩ | ⟨rfl, _⟩
  · exact ⟨by omega, fun _ => k1 h1, fun h => by omega⟩
  · exact ⟨by omega, fun h => by omega, fun _ => k2 h1⟩
  · exact ⟨by omega, fun h => by omega, fun h => by omega⟩
/-- The drawn line is nowhere off by more than Told. -/
theorem tr_told {ls : List Sp} {m : Int} {n : Nat} (hn : (n : Int) = L + 1) (hl : ls.length = L.toNat + 1) (hD : DrawL (cvOf L sl rl rh wg ks) ls) (hm : ToldL ls m) {k : Nat} (hk : (k : Int) ≤ L) : ∃ d, (mids ls)[k]? = some d ∧ sUp (fnL l) 0 k n - d ≤ m ∧ d - sUp (fnL l) 0 k n ≤ m := by
  have hlt : k < ls.length := by omega
  have e : ls[k]? = some ls[k] := List.getElem?_eq_getElem hlt
  have k1 := tr_in hT hn (by omega) hk (hD k _ e)
  have k2 := hm.2.2 _ (List.getElem_mem hlt)
  refine ⟨midI ls[k].1 ls[k].2, ?_, by omega, by omega⟩
  unfold mids
  rw [List.getElem?_map, e]; rfl
end
theorem mids_bd {L sl rl rh wg : Int} {ks : List Kn} {ls : List Sp} {er : Int} (h : DrawR L sl rl rh wg ks ls er) : ∀ d ∈ mids ls, -2400 ≤ d ∧ d ≤ 2400 := fun d hd => by
  unfold mids at hd
  obtain ⟨s, hs, rfl⟩ := List.mem_map.1 hd
  have := drawR_bd h s hs
  unfold midI
  omega
end Go.Proofs.Ytphcpphmoeiioaa
