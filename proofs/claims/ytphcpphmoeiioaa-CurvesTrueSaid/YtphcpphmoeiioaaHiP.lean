/- The plain law of CurvesHigher. -/
import Derived.Test.YtphcpphmoeiioaaWW
import Derived.Test.YtphcpphmoeiioaaFwA
import Derived.Test.YtphcpphmoeiioaaLnA
namespace Go.Proofs.Ytphcpphmoeiioaa
open Go.RowKit

def upk (n : Int) (k : Kn) : Kn := ⟨k.pos, k.lo + n, k.hi + n⟩
theorem truth_up_iff {c : Cv} {n : Int} : (∃ h, Truth (up c n) h) ↔ ∃ h, Truth c h := ⟨fun ⟨_, k⟩ => ⟨_, truth_dn k⟩, fun ⟨_, k⟩ => ⟨_, truth_up k⟩⟩
theorem wide_up {c : Cv} {n : Int} {p : Nat} : Wide (up c n) p ↔ Wide c p := by
  constructor
  · rintro ⟨x, y, ⟨h, k1, k2⟩, ⟨g, j1, j2⟩, hlt⟩
    exact ⟨x + -n, y + -n, ⟨_, truth_dn k1, by show h p + -n = _; rw [k2]⟩, ⟨_, truth_dn j1, by show g p + -n = _; rw [j2]⟩, by omega⟩
  · rintro ⟨x, y, ⟨h, k1, k2⟩, ⟨g, j1, j2⟩, hlt⟩
    exact ⟨x + n, y + n, ⟨_, truth_up k1, by show h p + n = _; rw [k2]⟩, ⟨_, truth_up j1, by show g p + n = _; rw [j2]⟩, by omega⟩
theorem wst_dn {c : Cv} {n : Int} {p : Nat} {m : Int} (h : WstP (up c n) p m) : WstP c p m := by
  have := up_wst (n := -n) h
  rwa [up_up] at this
theorem nextP_up {c : Cv} {n : Int} {q : Nat} (h : NextP c q) : NextP (up c n) q := by
  obtain ⟨h1, h2, m, h3, h4⟩ := h
  exact ⟨h1, wide_up.2 h2, m, up_wst h3, fun r hr hw k hk => h4 r hr (wide_up.1 hw) k (wst_dn hk)⟩
theorem NextP.uniq {c : Cv} {q r : Nat} (h : NextP c q) (k : NextP c r) : q = r := by
  obtain ⟨h1, h2, m, h3, h4⟩ := h
  obtain ⟨k1, k2, l, k3, k4⟩ := k
  have a1 := h4 r k1 k2 l k3
  have a2 := k4 q h1 h2 m h3
  omega
theorem FewP.uniq {c : Cv} {m n : Int} (h : FewP c m) (k : FewP c n) : m = n := by
  obtain ⟨⟨f, f1, f2⟩, f3⟩ := h
  obtain ⟨⟨g, g1, g2⟩, g3⟩ := k
  have a1 := f3 g g1
  have a2 := g3 f f1
  omega
theorem fewR_few {L sl rl rh wg : Int} {ks : List Kn} {n er : Int} (hc : chkV L sl rl rh wg ks = true) (h : FewR L sl rl rh wg ks n er) : er = 0 ∧ FewP (cvOf L sl rl rh wg ks) n := by
  rcases h with ⟨h1, _⟩ | ⟨_, h1, h2⟩
  · rw [hc] at h1; cases h1
  · exact ⟨h1, h2⟩
theorem lean_T {L sl rl rh wg : Int} {ks : List Kn} (hc : chkV L sl rl rh wg ks = true) (hT : ∃ h, Truth (cvOf L sl rl rh wg ks) h) {p lo hi er : Int} (h : LeanR L sl rl rh wg ks p lo hi er) (h0 : 0 ≤ p) (h1 : p < L) : er = 0 ∧ IsSp (LnP (cvOf L sl rl rh wg ks) p.toNat) lo hi := by
  obtain ⟨k1, k2, _⟩ := h
  have := openR_val k1 hc (btw_t' h0 (by omega)) hT
  exact ⟨this, k2 this⟩
section
variable {L sl rl rh wg : Int} {ks : List Kn} {m : Int}
theorem cvOf_up : cvOf L sl (rl + m) (rh + m) wg (ks.map (upk m)) = up (cvOf L sl rl rh wg ks) m := rfl
theorem hi_T (hT : ∃ h, Truth (cvOf L sl rl rh wg ks) h) : ∃ h, Truth (cvOf L sl (rl + m) (rh + m) wg (ks.map (upk m))) h := truth_up_iff.2 hT
theorem hi_F (hT : ¬ ∃ h, Truth (cvOf L sl rl rh wg ks) h) : ¬ ∃ h, Truth (cvOf L sl (rl + m) (rh + m) wg (ks.map (upk m))) h := fun h => hT (truth_up_iff.1 h)
theorem hi_ht {p : Nat} {lo hi lo' hi' : Int} (h : IsSp (HtP (cvOf L sl rl rh wg ks) p) lo hi) (k : IsSp (HtP (cvOf L sl (rl + m) (rh + m) wg (ks.map (upk m))) p) lo' hi') : lo' = lo + m ∧ hi' = hi + m := k.uniq (up_ht h)
theorem hi_in {a b : Int} (h0 : 0 ≤ a) (h1 : a ≤ b) (h2 : b ≤ L) {lo hi lo' hi' : Int} (h : IsSp (InP (cvOf L sl rl rh wg ks) a b) lo hi) (k : IsSp (InP (cvOf L sl (rl + m) (rh + m) wg (ks.map (upk m))) a b) lo' hi') : lo' = lo + 2 * m * (b - a) ∧ hi' = hi + 2 * m * (b - a) :=
  k.uniq (up_in h0 h1 (by show b ≤ (L.toNat : Int); omega) h)
theorem hi_ln {p : Nat} {lo hi lo' hi' : Int} (h : IsSp (LnP (cvOf L sl rl rh wg ks) p) lo hi) (k : IsSp (LnP (cvOf L sl (rl + m) (rh + m) wg (ks.map (upk m))) p) lo' hi') : lo' = lo ∧ hi' = hi := k.uniq (up_ln h)
theorem hi_few {n k er er' : Int} (hc : chkV L sl rl rh wg ks = true) (hc' : chkV L sl (rl + m) (rh + m) wg (ks.map (upk m)) = true) (h : FewR L sl rl rh wg ks n er) (j : FewR L sl (rl + m) (rh + m) wg (ks.map (upk m)) k er') : er = 0 ∧ er' = 0 ∧ k = n := by
  obtain ⟨h1, h2⟩ := fewR_few hc h
  obtain ⟨j1, j2⟩ := fewR_few hc' j
  exact ⟨h1, j1, FewP.uniq j2 (up_few h2)⟩
theorem hi_next {n k er er' : Int} (hc : chkV L sl rl rh wg ks = true) (hc' : chkV L sl (rl + m) (rh + m) wg (ks.map (upk m)) = true) (hT : ∃ h, Truth (cvOf L sl rl rh wg ks) h) (h : NextR L sl rl rh wg ks n er) (j : NextR L sl (rl + m) (rh + m) wg (ks.map (upk m)) k er') : k = n ∧ er' = er := by
  rcases next_T hc hT h with ⟨a1, a2, a3⟩ | ⟨a1, q, rfl, a3⟩
  · rcases next_T hc' (hi_T hT) j with ⟨b1, b2, _⟩ | ⟨_, r, _, b3⟩
    · omega
    · exact absurd (wide_up (c := cvOf L sl rl rh wg ks) (n := m) |>.1 b3.2.1) (a3 r b3.1)
  · rcases next_T hc' (hi_T hT) j with ⟨_, _, b3⟩ | ⟨b1, r, rfl, b3⟩
    · exact absurd (wide_up (c := cvOf L sl rl rh wg ks) (n := m) |>.2 a3.2.1) (b3 q a3.1)
    · exact ⟨congrArg Int.ofNat (NextP.uniq b3 (nextP_up a3)), by omega⟩
end
end Go.Proofs.Ytphcpphmoeiioaa
