/- What a region that opens a curve keeps; what Height and its like answer. -/
import Derived.Test.YtphcpphmoeiioaaWK
import Derived.Test.YtphcpphmoeiioaaGen
namespace Go.Proofs.Ytphcpphmoeiioaa
open Go.RowKit Go.Maps

theorem bodyPost_gen {P : Program} {fn : Func} {R : Ending → World → Prop} {e : Exit} {a : Act} {w : World} (h : ∀ W, W = w → bodyPost P fn R e a W) : bodyPost P fn R e a w := h w rfl
structure OpI (w : World) (B0 B1 : Nat) (cv rz : List Value) (W : World) : Prop where
  c : Own W B0 cv
  d : Own W B1 rz
  b : Below w.heap.size w W
theorem OpI.below {w W W' : World} {B0 B1 : Nat} {cv rz : List Value} (h : OpI w B0 B1 cv rz W) (k : Below W.heap.size W W') : OpI w B0 B1 cv rz W' :=
  ⟨h.c.below k h.c.lt, h.d.below k h.d.lt, h.b.trans (k.mono h.b.size)⟩
theorem OpI.drew {w W : World} {B0 B1 : Nat} {cv rz : List Value} (h : OpI w B0 B1 cv rz W) : OpI w B0 B1 cv rz W.drew := ⟨h.c.drew, h.d.drew, h.b.drew⟩
theorem OpI.set {w W : World} {B0 : Nat} {cv rz : List Value} {B1 g : Nat} (h : OpI w B0 B1 cv rz W) (hg : w.heap.size ≤ g ∧ B0 ≠ g ∧ B1 ≠ g) (i : Nat) (v : Value) : OpI w B0 B1 cv rz (W.setCell ⟨g, i, none⟩ v) :=
  ⟨h.c.setOther (fun e => hg.2.1 e.symm) _, h.d.setOther (fun e => hg.2.2 e.symm) _, h.b.setCell hg.1 _⟩
theorem OpI.fresh {w W : World} {B0 B1 : Nat} {cv rz : List Value} (h : OpI w B0 B1 cv rz W) : w.heap.size ≤ W.heap.size ∧ B0 ≠ W.heap.size ∧ B1 ≠ W.heap.size := ⟨h.b.size, Nat.ne_of_lt h.c.lt, Nat.ne_of_lt h.d.lt⟩
theorem own_set7 {w : World} {g : Nat} {vs : List Value} (h : Own w g vs) (hl : vs.length = 7) (x0 x1 x2 x3 x4 x5 x6 : Value) : Own ((((((((((((((w).setCell ⟨g, 0, none⟩ x0)).setCell ⟨g, 1, none⟩ x1)).setCell ⟨g, 2, none⟩ x2)).setCell ⟨g, 3, none⟩ x3)).setCell ⟨g, 4, none⟩ x4)).setCell ⟨g, 5, none⟩ x5)).setCell ⟨g, 6, none⟩ x6) g [x0, x1, x2, x3, x4, x5, x6] := by
  match vs, hl with
  | [a0, a1, a2, a3, a4, a5, a6], _ => exact (((((((h.set 0 (by simp) x0).set 1 (by simp) x1).set 2 (by simp) x2).set 3 (by simp) x3).set 4 (by simp) x4).set 5 (by simp) x5).set 6 (by simp) x6)
theorem OpI.set7 {w W : World} {B0 : Nat} {cv rz : List Value} {B1 g : Nat} (h : OpI w B0 B1 cv rz W) (hg : w.heap.size ≤ g ∧ B0 ≠ g ∧ B1 ≠ g) (x0 x1 x2 x3 x4 x5 x6 : Value) : OpI w B0 B1 cv rz ((((((((((((((W).setCell ⟨g, 0, none⟩ x0)).setCell ⟨g, 1, none⟩ x1)).setCell ⟨g, 2, none⟩ x2)).setCell ⟨g, 3, none⟩ x3)).setCell ⟨g, 4, none⟩ x4)).setCell ⟨g, 5, none⟩ x5)).setCell ⟨g, 6, none⟩ x6) :=
  (((((((h.set hg _ _).set hg _ _).set hg _ _).set hg _ _).set hg _ _).set hg _ _).set hg _ _)
theorem htL_sorted (c : Cv) (p : Nat) : ∀ k, (htL c p k).Pairwise (fun x y => x < y)
  | 0 => List.Pairwise.nil
  | k + 1 => by
    have ih := htL_sorted c p k
    by_cases h : HtP c p (c.rlo + k)
    · rw [htL_yes c p k h]
      refine List.pairwise_append.2 ⟨ih, List.pairwise_singleton _ _, fun x hx y hy => ?_⟩
      have := (htL_mem c p x k).1 hx
      rw [List.mem_singleton.1 hy]
      omega
    · rw [htL_no c p k h]; exact ih
/-- The first and the last height. -/
theorem htL_sp (c : Cv) (p : Nat) (hp : p ≤ c.long) (K : Nat) (hK : c.rhi < c.rlo + K) (hT : ∃ h, Truth c h) : 0 < (htL c p K).length ∧ ∃ lo hi, (htL c p K)[0]? = some lo ∧ (htL c p K)[(htL c p K).length - 1]? = some hi ∧ IsSp (HtP c p) lo hi := by
  have hm : ∀ s, HtP c p s → s ∈ htL c p K := fun s hs => (htL_mem c p s K).2 ⟨hs, by obtain ⟨h, k1, rfl⟩ := hs; have := k1.1.1 p hp; exact ⟨this.1, by omega⟩⟩
  obtain ⟨g, hg⟩ := hT
  have h0 := List.length_pos_of_mem (hm (g p) ⟨g, hg, rfl⟩)
  refine ⟨h0, (htL c p K)[0], (htL c p K)[(htL c p K).length - 1], List.getElem?_eq_getElem h0, List.getElem?_eq_getElem (by omega), ?_, ?_, fun s hs => ?_⟩
  · exact ((htL_mem c p _ K).1 (List.getElem_mem h0)).1
  · exact ((htL_mem c p _ K).1 (List.getElem_mem (by omega))).1
  · obtain ⟨j, hj, e⟩ := List.getElem_of_mem (hm s hs)
    have hs' := List.pairwise_iff_getElem.1 (htL_sorted c p K)
    rw [← e]
    constructor
    · by_cases e0 : j = 0
      · subst e0; exact Int.le_refl _
      · exact Int.le_of_lt (hs' 0 j h0 hj (by omega))
    · by_cases e0 : j = (htL c p K).length - 1
      · subst e0; exact Int.le_refl _
      · exact Int.le_of_lt (hs' j _ hj (by omega) (by omega))
theorem openR_zero {L sl rl rh wg : Int} {ks : List Kn} {is : Bool} {er : Int} (h : OpenR L sl rl rh wg ks is er) (h0 : er = 0) : CvV L sl rl rh wg ks ∧ is = true ∧ ∃ h, Truth (cvOf L sl rl rh wg ks) h := by
  rcases h with ⟨_, rfl⟩ | ⟨_, _, rfl⟩ | ⟨_, _, rfl, _⟩ | ⟨h1, h2, _, h3⟩
  · omega
  · omega
  · omega
  · obtain ⟨g, k1, _⟩ := h3
    exact ⟨cvV_of h1, h2, g, k1⟩
def IntegralR (L sl rl rh wg : Int) (ks : List Kn) (a b lo hi er : Int) : Prop :=
  OpenR L sl rl rh wg ks (btw a 0 L && btw b 0 L && decide (a ≤ b)) er ∧ (er = 0 → IsSp (InP (cvOf L sl rl rh wg ks) a b) lo hi) ∧ (er ≠ 0 → lo = 0 ∧ hi = 0)
theorem inF_none (c : Cv) (a b s : Int) : InF c (fun _ => none) a b s ↔ InP c a b s :=
  ⟨fun ⟨h, k1, _, k3⟩ => ⟨h, k1, k3⟩, fun ⟨h, k1, k3⟩ => ⟨h, k1, (fun i hi n hn => nomatch hn), k3⟩⟩
theorem intR_sp {c : Cv} {a b : Int} {m : Nat} {lo hi : Int} (h : IntR (InF c (fun _ => none) a b) m lo hi) (hT : ∃ h, Truth c h) : 0 < m ∧ IsSp (InP c a b) lo hi := by
  rcases h with ⟨_, _, _, h4⟩ | ⟨h1, h2⟩
  · obtain ⟨g, hg⟩ := hT
    exact absurd ((inF_none c a b _).2 ⟨g, hg, rfl⟩) (h4 _)
  · exact ⟨h1, h2.congr (inF_none c a b)⟩
def HeightR (L sl rl rh wg : Int) (ks : List Kn) (p lo hi er : Int) : Prop :=
  OpenR L sl rl rh wg ks (btw p 0 L) er ∧ (er = 0 → IsSp (HtP (cvOf L sl rl rh wg ks) p.toNat) lo hi) ∧ (er ≠ 0 → lo = 0 ∧ hi = 0)
end Go.Proofs.Ytphcpphmoeiioaa
