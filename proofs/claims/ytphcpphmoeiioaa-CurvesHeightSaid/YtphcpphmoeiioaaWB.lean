/- Plain: the states at the next place. -/
import Derived.Test.YtphcpphmoeiioaaVT
import Derived.Test.YtphcpphmoeiioaaWA
namespace Go.Proofs.Ytphcpphmoeiioaa
open Go.RowKit

/-- States at place p, from those in R at the place before it, of the ways that D marks. -/
def SR (sl rl rh : Int) (ks : List Kn) (f : Int → Option Int) (p : Int) (cnt : Bool) (R : Int → Int → Int → Prop) (D : Int → Int → Int → Prop) (x w s : Int) : Prop :=
  ∃ y v t, D y v x ∧ R y v t ∧ (y - sl ≤ x ∧ x ≤ y + sl) ∧ alB rl rh f p x = true ∧ w = v + wrs ks p x ∧ w ≤ 8 ∧ s = t + (if cnt = true then y + x else 0)
def Bd (R : Int → Int → Int → Prop) : Prop := ∀ x v s, R x v s → (-100 ≤ x ∧ x ≤ 100) ∧ (0 ≤ v ∧ v ≤ 8) ∧ -100000 ≤ s ∧ s ≤ 100000
theorem Bd.wf1 {R : Int → Int → Int → Prop} (h : Bd R) {x v s : Int} (k : R x v s) : (Lit.int .i64 x).wf = true := Go.WalkArith.wf_i64 (by have := h x v s k; omega)
theorem Bd.wf2 {R : Int → Int → Int → Prop} (h : Bd R) {x v s : Int} (k : R x v s) : (Lit.int .i64 v).wf = true := Go.WalkArith.wf_i64 (by have := h x v s k; omega)
section
variable {sl rl rh : Int} {ks : List Kn} {f : Int → Option Int} {p : Int} {cnt : Bool} {R D : Int → Int → Int → Prop} {G : Int → Int → Option (Int × Int)}
theorem SR.start (h : ∀ y v x, ¬ D y v x) : Fro (fun _ _ => none) (SR sl rl rh ks f p cnt R D) := fro_none fun x w s ⟨y, v, t, h1, _⟩ => h _ _ _ h1
theorem SR.sup (h1 : -100 ≤ rl) (h2 : rh ≤ 100) (hR : Bd R) (h : Fro G (SR sl rl rh ks f p cnt R D)) : SupF G := h.sup fun x w s ⟨y, v, t, _, b1, _, b2, b3, b4, _⟩ => by
  have hb := hR _ _ _ b1
  have ha : btw x rl rh = true := by
    unfold alB at b2; rw [Bool.and_eq_true] at b2; exact b2.1
  have := btw_iff.1 ha
  omega
theorem SR.put (h : Fro G (SR sl rl rh ks f p cnt R D)) {y v x lo hi : Int} (hs : IsSp (R y v) lo hi) (hx : y - sl ≤ x ∧ x ≤ y + sl) (ha : alB rl rh f p x = true) (hw : v + wrs ks p x ≤ 8) :
    Fro (putF G x (v + wrs ks p x) (lo + (if cnt = true then y + x else 0)) (hi + (if cnt = true then y + x else 0))) (SR sl rl rh ks f p cnt R (fun z u g => D z u g ∨ (z = y ∧ u = v ∧ g = x))) :=
  (fro_put (P := fun s => ∃ t, R y v t ∧ s = t + (if cnt = true then y + x else 0)) (x := x) (w := v + wrs ks p x) h ⟨⟨lo, hs.1, rfl⟩, ⟨hi, hs.2.1, rfl⟩, fun s ⟨t, k1, k2⟩ => by have := hs.2.2 t k1; omega⟩).congr fun x' w' s => by
    constructor
    · rintro (⟨z, u, t, h1, h2⟩ | ⟨rfl, rfl, t, h1, h2⟩)
      · exact ⟨z, u, t, Or.inl h1, h2⟩
      · exact ⟨y, v, t, Or.inr ⟨rfl, rfl, rfl⟩, h1, hx, ha, rfl, hw, h2⟩
    · rintro ⟨z, u, t, h1 | ⟨rfl, rfl, rfl⟩, h2, h3, h4, h5, h6, h7⟩
      · exact Or.inl ⟨z, u, t, h1, h2, h3, h4, h5, h6, h7⟩
      · exact Or.inr ⟨rfl, h5, t, h2, h7⟩
theorem SR.skip (h : Fro G (SR sl rl rh ks f p cnt R D)) {y v x : Int} (hx : alB rl rh f p x = false ∨ 8 < v + wrs ks p x) :
    Fro G (SR sl rl rh ks f p cnt R (fun z u g => D z u g ∨ (z = y ∧ u = v ∧ g = x))) :=
  h.congr fun x' w' s => by
    constructor
    · rintro ⟨z, u, t, h1, h2⟩
      exact ⟨z, u, t, Or.inl h1, h2⟩
    · rintro ⟨z, u, t, h1 | ⟨rfl, rfl, rfl⟩, h2, h3, h4, h5, h6, h7⟩
      · exact ⟨z, u, t, h1, h2, h3, h4, h5, h6, h7⟩
      · rcases hx with hx | hx
        · rw [hx] at h4; cases h4
        · omega
theorem SR.to {E : Int → Int → Int → Prop} (h : Fro G (SR sl rl rh ks f p cnt R D)) (e : ∀ y v t x, R y v t → y - sl ≤ x → x ≤ y + sl → (D y v x ↔ E y v x)) : Fro G (SR sl rl rh ks f p cnt R E) :=
  h.congr fun x w s => by
    constructor
    · rintro ⟨z, u, t, h1, h2, h3, h4⟩
      exact ⟨z, u, t, (e z u t x h2 h3.1 h3.2).1 h1, h2, h3, h4⟩
    · rintro ⟨z, u, t, h1, h2, h3, h4⟩
      exact ⟨z, u, t, (e z u t x h2 h3.1 h3.2).2 h1, h2, h3, h4⟩
end
/-- All states at the next place. -/
def NxR (sl rl rh : Int) (ks : List Kn) (f : Int → Option Int) (p : Int) (cnt : Bool) (R : Int → Int → Int → Prop) : Int → Int → Int → Prop := SR sl rl rh ks f p cnt R (fun _ _ _ => True)
theorem alB_iff {c : Cv} {f : Int → Option Int} {p x : Int} : alB c.rlo c.rhi f p x = true ↔ Al c f p x := by
  unfold alB Al
  rw [Bool.and_eq_true, btw_iff]
  cases h : f p with
  | none => simp
  | some n => simp [and_assoc]
theorem nxR_st (c : Cv) (f : Int → Option Int) (a b : Int) (k : Nat) (x w s : Int) : NxR c.slope c.rlo c.rhi c.kn f ((k : Int) + 1) (decide (a < (k : Int) + 1) && decide ((k : Int) + 1 ≤ b)) (St c f a b k) x w s ↔ St c f a b (k + 1) x w s := by
  have hc : ((decide (a < (k : Int) + 1) && decide ((k : Int) + 1 ≤ b)) = true) = (a < (k : Int) + 1 ∧ (k : Int) + 1 ≤ b) := by simp
  constructor
  · rintro ⟨y, v, t, _, h2, h3, h4, h5, h6, h7⟩
    exact ⟨y, v, t, h2, h3.1, h3.2, alB_iff.1 h4, h5, h6, by rw [h7]; simp only [hc]⟩
  · rintro ⟨y, v, t, h2, h3, h3', h4, h5, h6, h7⟩
    exact ⟨y, v, t, trivial, h2, ⟨h3, h3'⟩, alB_iff.2 h4, h5, h6, by rw [h7]; simp only [hc]⟩
theorem st_bd (c : Cv) (h1 : -100 ≤ c.rlo) (h2 : c.rhi ≤ 100) (hk : c.kn.length ≤ 8) (f : Int → Option Int) (a b : Int) (k : Nat) : ∀ x w s, St c f a b k x w s → (-100 ≤ x ∧ x ≤ 100) ∧ (0 ≤ w ∧ w ≤ 8) ∧ -200 * (k : Int) ≤ s ∧ s ≤ 200 * (k : Int) := by
  induction k with
  | zero =>
    rintro x w s ⟨⟨a1, a2, _⟩, rfl, rfl⟩
    have := wrs_le c.kn 0 x
    omega
  | succ k ih =>
    rintro x w s ⟨y, v, t, b1, b2, b3, ⟨a1, a2, _⟩, b4, b5, b6⟩
    have := ih _ _ _ b1
    have hs : -200 ≤ (if a < (k : Int) + 1 ∧ (k : Int) + 1 ≤ b then y + x else 0) ∧ (if a < (k : Int) + 1 ∧ (k : Int) + 1 ≤ b then y + x else 0) ≤ 200 := by split <;> omega
    omega
theorem st_Bd (c : Cv) (h1 : -100 ≤ c.rlo) (h2 : c.rhi ≤ 100) (hk : c.kn.length ≤ 8) (f : Int → Option Int) (a b : Int) (k : Nat) (h3 : k ≤ 100) : Bd (St c f a b k) := fun x v s h => by
  have := st_bd c h1 h2 hk f a b k x v s h
  omega
end Go.Proofs.Ytphcpphmoeiioaa
