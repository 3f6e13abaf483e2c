/- What the functions answer, if a curve is one that a law examines. -/
import Derived.Test.YtphcpphmoeiioaaWV
import Derived.Test.YtphcpphmoeiioaaWTa
import Derived.Test.YtphcpphmoeiioaaVR
namespace Go.Proofs.Ytphcpphmoeiioaa
open Go.RowKit

theorem openR_F {L sl rl rh wg : Int} {ks : List Kn} {is : Bool} {er : Int} (h : OpenR L sl rl rh wg ks is er) (hc : chkV L sl rl rh wg ks = true) (hi : is = true) (hT : ¬ ∃ h, Truth (cvOf L sl rl rh wg ks) h) : er = 3 := by
  rcases h with ⟨h1, _⟩ | ⟨_, h2, _⟩ | ⟨_, _, h3, _⟩ | ⟨_, _, _, g, k1, _⟩
  · rw [hc] at h1; cases h1
  · rw [hi] at h2; cases h2
  · exact h3
  · exact absurd ⟨g, k1⟩ hT
theorem btw_t' {n lo hi : Int} (h1 : lo ≤ n) (h2 : n ≤ hi) : btw n lo hi = true := btw_iff.2 ⟨h1, h2⟩
theorem ends_t {L a b : Int} (h0 : 0 ≤ a) (h1 : a ≤ b) (h2 : b ≤ L) : (btw a 0 L && btw b 0 L && decide (a ≤ b)) = true := by
  rw [btw_t' h0 (by omega), btw_t' (by omega) h2, decide_eq_true h1]; rfl
theorem ready_iff {L sl rl rh wg : Int} {ks : List Kn} : readyB L sl rl rh wg ks = true ↔ farB L sl rl rh wg ks = false ∧ chkV L sl rl rh wg ks = true := by
  unfold readyB; simp
section
variable {L sl rl rh wg : Int} {ks : List Kn} (hc : chkV L sl rl rh wg ks = true)
include hc
theorem int_T (hT : ∃ h, Truth (cvOf L sl rl rh wg ks) h) {a b lo hi er : Int} (h : IntegralR L sl rl rh wg ks a b lo hi er) (h0 : 0 ≤ a) (h1 : a ≤ b) (h2 : b ≤ L) : er = 0 ∧ IsSp (InP (cvOf L sl rl rh wg ks) a b) lo hi ∧ (-2400 ≤ lo ∧ lo ≤ hi ∧ hi ≤ 2400) := by
  have he := openR_val h.1 hc (ends_t h0 h1 h2) hT
  have hs := h.2.1 he
  have hV := cvV_of hc
  have b1 := inF_bd hV ((inF_none _ _ _ _).2 hs.1)
  have b2 := inF_bd hV ((inF_none _ _ _ _).2 hs.2.1)
  have b3 := hs.2.2 _ hs.2.1
  exact ⟨he, hs, by omega⟩
theorem int_F (hT : ¬ ∃ h, Truth (cvOf L sl rl rh wg ks) h) {a b lo hi er : Int} (h : IntegralR L sl rl rh wg ks a b lo hi er) (h0 : 0 ≤ a) (h1 : a ≤ b) (h2 : b ≤ L) : er = 3 ∧ lo = 0 ∧ hi = 0 := by
  have he := openR_F h.1 hc (ends_t h0 h1 h2) hT
  exact ⟨he, h.2.2 (by omega)⟩
theorem ht_T (hT : ∃ h, Truth (cvOf L sl rl rh wg ks) h) {p lo hi er : Int} (h : HeightR L sl rl rh wg ks p lo hi er) (h0 : 0 ≤ p) (h1 : p ≤ L) : er = 0 ∧ IsSp (HtP (cvOf L sl rl rh wg ks) p.toNat) lo hi ∧ (-100 ≤ lo ∧ lo ≤ hi ∧ hi ≤ 100) := by
  have he := openR_val h.1 hc (btw_t' h0 h1) hT
  have hs := h.2.1 he
  have hV := cvV_of hc
  have hp : p.toNat ≤ (cvOf L sl rl rh wg ks).long := by show p.toNat ≤ L.toNat; omega
  obtain ⟨g, k1, k2⟩ := hs.1
  obtain ⟨g', j1, j2⟩ := hs.2.1
  have b1 : rl ≤ g p.toNat ∧ g p.toNat ≤ rh := k1.1.1 _ hp
  have b2 : rl ≤ g' p.toNat ∧ g' p.toNat ≤ rh := j1.1.1 _ hp
  have b3 := hs.2.2 _ hs.2.1
  have := hV.r1
  have := hV.r2
  exact ⟨he, hs, by omega⟩
theorem ht_F (hT : ¬ ∃ h, Truth (cvOf L sl rl rh wg ks) h) {p lo hi er : Int} (h : HeightR L sl rl rh wg ks p lo hi er) (h0 : 0 ≤ p) (h1 : p ≤ L) : er = 3 ∧ lo = 0 ∧ hi = 0 := by
  have he := openR_F h.1 hc (btw_t' h0 h1) hT
  exact ⟨he, h.2.2 (by omega)⟩
theorem draw_T (hT : ∃ h, Truth (cvOf L sl rl rh wg ks) h) {ls : List Sp} {er : Int} (h : DrawR L sl rl rh wg ks ls er) : er = 0 ∧ ls.length = L.toNat + 1 ∧ DrawL (cvOf L sl rl rh wg ks) ls := by
  have he := openR_val h.1 hc rfl hT
  exact ⟨he, h.2.1 he⟩
theorem draw_F (hT : ¬ ∃ h, Truth (cvOf L sl rl rh wg ks) h) {ls : List Sp} {er : Int} (h : DrawR L sl rl rh wg ks ls er) : er = 3 ∧ ls = [] := by
  have he := openR_F h.1 hc rfl hT
  exact ⟨he, h.2.2 (by omega)⟩
theorem next_T (hT : ∃ h, Truth (cvOf L sl rl rh wg ks) h) {n er : Int} (h : NextR L sl rl rh wg ks n er) : (n = 0 ∧ er = 3 ∧ ∀ q, q ≤ L.toNat → ¬ Wide (cvOf L sl rl rh wg ks) q) ∨ (er = 0 ∧ ∃ q : Nat, n = q ∧ NextP (cvOf L sl rl rh wg ks) q) := by
  rcases h with ⟨h1, h2, _⟩ | ⟨_, h2, h3, h4⟩ | ⟨_, h2, h3⟩
  · exact absurd (openR_val h2 hc rfl hT) h1
  · exact Or.inl ⟨h2, h3, h4⟩
  · exact Or.inr ⟨h2, h3⟩
theorem next_F (hT : ¬ ∃ h, Truth (cvOf L sl rl rh wg ks) h) {n er : Int} (h : NextR L sl rl rh wg ks n er) : n = 0 ∧ er = 3 := by
  rcases h with ⟨_, h2, h3⟩ | ⟨h1, _⟩ | ⟨h1, _⟩
  · exact ⟨h3, openR_F h2 hc rfl hT⟩
  · have := openR_F h1 hc rfl hT; omega
  · have := openR_F h1 hc rfl hT; omega
end
theorem in_same (c : Cv) (hT : ∃ h, Truth c h) (a : Int) : IsSp (InP c a a) 0 0 := by
  obtain ⟨g, hg⟩ := hT
  have h : InP c a a 0 := ⟨g, hg, sUp_same g a _⟩
  exact ⟨h, h, fun s ⟨h, _, e⟩ => by rw [sUp_same] at e; omega⟩
theorem ready18v (v : Bool) (L sl rl rh wg : Int) (A : Option Addr) (n cap : Nat) (ks : List Kn) (w : World) (h : Hid (readyB L sl rl rh wg ks = v)) (hA : Rd 3 w A (ks.map krow)) (hn : Hid (n = ks.length)) (hlen : n ≤ 9223372036854775807) :
    Calls Try.prog 18 #[.agg #[.int .i64 L, .int .i64 sl, .int .i64 rl, .int .i64 rh, .slice A n cap, .int .i64 wg]] w fun e w' => e = .returned (.bool v) ∧ Below w.heap.size w w' := by
  have := ready18 L sl rl rh wg A n cap ks w hA hn hlen
  rw [h.out] at this
  exact this
theorem isAsk19v (v : Bool) (L sl rl rh wg : Int) (s : Value) (a b lv : Int) (w : World) (h : Hid (askB L a b lv = v)) :
    Calls Try.prog 19 #[.agg #[.int .i64 L, .int .i64 sl, .int .i64 rl, .int .i64 rh, s, .int .i64 wg], .agg #[.int .i64 a, .int .i64 b, .int .i64 lv]] w fun e w' => e = .returned (.bool v) ∧ Below w.heap.size w w' := by
  have := isAsk19 L sl rl rh wg s a b lv w
  rw [h.out] at this
  exact this
theorem isKnown22w (er : Int) (w : World) : Calls Try.prog 22 #[.int .i64 er] w fun e w' => e = .returned (.bool (knB er)) ∧ Below w.heap.size w w' :=
  (isKnown22 er w).mono fun _ _ ⟨h1, h2⟩ => ⟨h1, h2 ▸ Below.refl _ _⟩
end Go.Proofs.Ytphcpphmoeiioaa
