/- Plain: the Example. -/
import Derived.Test.YtphcpphmoeiioaaWR
namespace Go.Proofs.Ytphcpphmoeiioaa
open Go.RowKit

def exK : List Kn := [⟨0, 0, 0⟩, ⟨4, 6, 6⟩]
def exC : Cv := cvOf 4 3 0 10 0 exK
theorem ex_chk : chkV 4 3 0 10 0 exK = true := by decide +kernel
theorem ex_V : CvV 4 3 0 10 0 exK := cvV_of ex_chk
def wit (a b d : Int) : Nat → Int
  | 0 => 0
  | 1 => a
  | 2 => b
  | 3 => d
  | _ => 6
theorem ex_wit {a b d : Int} (h1 : 0 ≤ a ∧ a ≤ 3) (h2 : a - 3 ≤ b ∧ b ≤ a + 3 ∧ 0 ≤ b ∧ b ≤ 10) (h3 : b - 3 ≤ d ∧ d ≤ b + 3 ∧ 3 ≤ d ∧ d ≤ 9) : Truth exC (wit a b d) := by
  refine ⟨⟨fun i hi => ?_, fun i hi => ?_⟩, ?_⟩
  · have hi' : i ≤ 4 := hi
    show 0 ≤ wit a b d i ∧ wit a b d i ≤ 10
    rcases i with _ | _ | _ | _ | i <;> simp only [wit] <;> omega
  · have hi' : i < 4 := hi
    show wit a b d i - 3 ≤ wit a b d (i + 1) ∧ wit a b d (i + 1) ≤ wit a b d i + 3
    rcases i with _ | _ | _ | _ | i
    · simp only [wit]; omega
    · simp only [wit]; omega
    · simp only [wit]; omega
    · simp only [wit]; omega
    · omega
  · have : wUp exC.kn (wit a b d) exC.long = 0 := wUp_zero.2 fun q hq _ _ => by
      have hq' : q = ⟨0, 0, 0⟩ ∨ q = ⟨4, 6, 6⟩ := by simpa [exC, cvOf, exK] using hq
      rcases hq' with rfl | rfl
      · show (0 : Int) ≤ wit a b d 0 ∧ wit a b d 0 ≤ 0
        simp [wit]
      · show (6 : Int) ≤ wit a b d 4 ∧ wit a b d 4 ≤ 6
        simp [wit]
    rw [this]
    exact Int.le_refl _
theorem ex_truth {h : Nat → Int} (H : Truth exC h) : h 0 = 0 ∧ h 4 = 6 ∧ (0 ≤ h 1 ∧ h 1 ≤ 3) ∧ (h 1 - 3 ≤ h 2 ∧ h 2 ≤ h 1 + 3 ∧ 0 ≤ h 2 ∧ h 2 ≤ 10) ∧ (h 2 - 3 ≤ h 3 ∧ h 3 ≤ h 2 + 3 ∧ 3 ≤ h 3 ∧ h 3 ≤ 9) := by
  have h0 : wUp exC.kn h exC.long = 0 := by
    have : (wUp exC.kn h exC.long : Int) ≤ 0 := H.2
    omega
  have hz := wUp_zero.1 h0
  have a0 : (0 : Int) ≤ h 0 ∧ h 0 ≤ 0 := hz ⟨0, 0, 0⟩ (by simp [exC, cvOf, exK]) (by decide) (by decide)
  have a4 : (6 : Int) ≤ h 4 ∧ h 4 ≤ 6 := hz ⟨4, 6, 6⟩ (by simp [exC, cvOf, exK]) (by decide) (by decide)
  have r : ∀ i, i ≤ 4 → 0 ≤ h i ∧ h i ≤ 10 := fun i hi => H.1.1 i hi
  have s : ∀ i, i < 4 → h i - 3 ≤ h (i + 1) ∧ h (i + 1) ≤ h i + 3 := fun i hi => H.1.2 i hi
  have r1 := r 1 (by omega); have r2 := r 2 (by omega); have r3 := r 3 (by omega)
  have s0 := s 0 (by omega); have s1 := s 1 (by omega); have s2 := s 2 (by omega); have s3 := s 3 (by omega)
  simp only [Nat.zero_add, Nat.reduceAdd] at s0 s1 s2 s3
  omega
theorem ex_sum (h : Nat → Int) (b : Int) : sUp h 0 b 4 = (if 1 ≤ b then h 0 + h 1 else 0) + (if 2 ≤ b then h 1 + h 2 else 0) + (if 3 ≤ b then h 2 + h 3 else 0) + (if 4 ≤ b then h 3 + h 4 else 0) := by
  simp [sUp]
theorem ex_ht3 : IsSp (HtP exC 3) 3 9 :=
  ⟨⟨wit 0 0 3, ex_wit (by omega) (by omega) (by omega), rfl⟩, ⟨wit 3 6 9, ex_wit (by omega) (by omega) (by omega), rfl⟩, fun s ⟨h, k, e⟩ => by have := ex_truth k; omega⟩
theorem ex_in {b lo hi : Int} (h1 : sUp (wit 0 0 3) 0 b 4 = lo) (h2 : sUp (wit 3 6 9) 0 b 4 = hi) (h3 : ∀ h, Truth exC h → lo ≤ sUp h 0 b 4 ∧ sUp h 0 b 4 ≤ hi) : IsSp (InP exC 0 b) lo hi :=
  ⟨⟨wit 0 0 3, ex_wit (by omega) (by omega) (by omega), h1⟩, ⟨wit 3 6 9, ex_wit (by omega) (by omega) (by omega), h2⟩, fun s ⟨h, k, e⟩ => by have := h3 h k; have e' : sUp h 0 b 4 = s := e; omega⟩
theorem ex_in0 : IsSp (InP exC 0 0) 0 0 := ex_in (by rw [ex_sum]; rfl) (by rw [ex_sum]; rfl) (fun h k => by rw [ex_sum]; simp)
theorem ex_in1 : IsSp (InP exC 0 1) 0 3 := ex_in (by rw [ex_sum]; rfl) (by rw [ex_sum]; rfl) (fun h k => by rw [ex_sum]; have := ex_truth k; simp; omega)
theorem ex_in2 : IsSp (InP exC 0 2) 0 12 := ex_in (by rw [ex_sum]; rfl) (by rw [ex_sum]; rfl) (fun h k => by rw [ex_sum]; have := ex_truth k; simp; omega)
theorem ex_in3 : IsSp (InP exC 0 3) 3 27 := ex_in (by rw [ex_sum]; rfl) (by rw [ex_sum]; rfl) (fun h k => by rw [ex_sum]; have := ex_truth k; simp; omega)
theorem ex_in4 : IsSp (InP exC 0 4) 12 42 := ex_in (by rw [ex_sum]; rfl) (by rw [ex_sum]; rfl) (fun h k => by rw [ex_sum]; have := ex_truth k; simp; omega)
theorem ex_T : ∃ h, Truth exC h := ⟨wit 0 0 3, ex_wit (by omega) (by omega) (by omega)⟩
theorem openR_val {L sl rl rh wg : Int} {ks : List Kn} {is : Bool} {er : Int} (h : OpenR L sl rl rh wg ks is er) (hc : chkV L sl rl rh wg ks = true) (hi : is = true) (hT : ∃ h, Truth (cvOf L sl rl rh wg ks) h) : er = 0 := by
  rcases h with ⟨h1, _⟩ | ⟨_, h2, _⟩ | ⟨_, _, _, h4⟩ | ⟨_, _, h3, _⟩
  · rw [hc] at h1; cases h1
  · rw [hi] at h2; cases h2
  · obtain ⟨g, hg⟩ := hT
    exact absurd ⟨g, hg, fun i hi n hn => nomatch hn⟩ h4
  · exact h3
theorem ex_height {lo hi er : Int} (h : HeightR 4 3 0 10 0 exK 3 lo hi er) : lo = 3 ∧ hi = 9 ∧ er = 0 := by
  have he := openR_val h.1 ex_chk (by decide) ex_T
  have := (h.2.1 he).uniq ex_ht3
  exact ⟨this.1, this.2, he⟩
theorem ex_integral {lo hi er : Int} (h : IntegralR 4 3 0 10 0 exK 0 4 lo hi er) : lo = 12 ∧ hi = 42 ∧ er = 0 := by
  have he := openR_val h.1 ex_chk (by decide) ex_T
  have := (h.2.1 he).uniq ex_in4
  exact ⟨this.1, this.2, he⟩
theorem ex_draw {ls : List Sp} {er : Int} (h : DrawR 4 3 0 10 0 exK ls er) : mids ls = [0, 1, 6, 15, 27] ∧ er = 0 := by
  have he := openR_val h.1 ex_chk rfl ex_T
  obtain ⟨hl, hd⟩ := h.2.1 he
  have hl' : ls.length = 5 := hl
  match ls, hl', hd with
  | [s0, s1, s2, s3, s4], _, hd =>
    have u0 := (show IsSp (InP exC 0 0) s0.1 s0.2 from hd 0 s0 rfl).uniq ex_in0
    have u1 := (show IsSp (InP exC 0 1) s1.1 s1.2 from hd 1 s1 rfl).uniq ex_in1
    have u2 := (show IsSp (InP exC 0 2) s2.1 s2.2 from hd 2 s2 rfl).uniq ex_in2
    have u3 := (show IsSp (InP exC 0 3) s3.1 s3.2 from hd 3 s3 rfl).uniq ex_in3
    have u4 := (show IsSp (InP exC 0 4) s4.1 s4.2 from hd 4 s4 rfl).uniq ex_in4
    refine ⟨?_, he⟩
    simp only [mids, midI, List.map_cons, List.map_nil, u0, u1, u2, u3, u4]
    decide
theorem ex_wst2 : WstP exC 2 12 := by
  refine ⟨⟨wit 3 3 6, wit 0 3 3, ex_wit (by omega) (by omega) (by omega), ex_wit (by omega) (by omega) (by omega), rfl, ?_⟩, fun h g k j e => ?_⟩
  · show sUp (wit 3 3 6) 0 4 4 - sUp (wit 0 3 3) 0 4 4 = 12
    rw [ex_sum, ex_sum]; rfl
  · show sUp h 0 4 4 - sUp g 0 4 4 ≤ 12
    have a := ex_truth k
    have b := ex_truth j
    rw [ex_sum, ex_sum]
    simp
    omega
theorem ex_wide2 : Wide exC 2 := ⟨0, 3, ⟨wit 0 0 3, ex_wit (by omega) (by omega) (by omega), rfl⟩, ⟨wit 0 3 3, ex_wit (by omega) (by omega) (by omega), rfl⟩, by omega⟩
theorem ex_next {n er : Int} (h : NextR 4 3 0 10 0 exK n er) : n = 2 ∧ er = 0 := by
  rcases h with ⟨h1, h2, _⟩ | ⟨_, _, _, h4⟩ | ⟨_, h2, q, rfl, h3, h4, m, h5, h6⟩
  · exact absurd (openR_val h2 ex_chk rfl ex_T) h1
  · exact absurd ex_wide2 (h4 2 (by decide))
  · refine ⟨?_, h2⟩
    have hm := (h6 2 (by decide) ex_wide2 12 ex_wst2).1
    have hq : q ≤ 4 := h3
    obtain ⟨x, y, ⟨a, ka, ea⟩, ⟨b, kb, eb⟩, hxy⟩ := h4
    have ta := ex_truth ka
    have tb := ex_truth kb
    match q, hq with
    | 0, _ => omega
    | 1, _ =>
      have := h5.2 (wit 3 6 9) (wit 3 0 3) (ex_wit (by omega) (by omega) (by omega)) (ex_wit (by omega) (by omega) (by omega)) rfl
      have e1 : sUp (wit 3 6 9) 0 4 4 = 42 := by rw [ex_sum]; rfl
      have e2 : sUp (wit 3 0 3) 0 4 4 = 18 := by rw [ex_sum]; rfl
      have : sUp (wit 3 6 9) 0 4 4 - sUp (wit 3 0 3) 0 4 4 ≤ m := this
      omega
    | 2, _ => rfl
    | 3, _ =>
      have := h5.2 (wit 3 6 3) (wit 0 0 3) (ex_wit (by omega) (by omega) (by omega)) (ex_wit (by omega) (by omega) (by omega)) rfl
      have e1 : sUp (wit 3 6 3) 0 4 4 = 30 := by rw [ex_sum]; rfl
      have e2 : sUp (wit 0 0 3) 0 4 4 = 12 := by rw [ex_sum]; rfl
      have : sUp (wit 3 6 3) 0 4 4 - sUp (wit 0 0 3) 0 4 4 ≤ m := this
      omega
    | 4, _ => omega
end Go.Proofs.Ytphcpphmoeiioaa
