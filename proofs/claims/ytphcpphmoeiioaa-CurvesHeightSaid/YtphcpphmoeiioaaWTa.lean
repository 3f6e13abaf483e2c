/- Walks: the worked example of the reference; the end of a law. -/
import Derived.Test.YtphcpphmoeiioaaWR
import Derived.Test.YtphcpphmoeiioaaWL
import Derived.Test.YtphcpphmoeiioaaWM
namespace Go.Proofs.Ytphcpphmoeiioaa
open Go.RowKit Go.Maps

theorem flat_get {sz : Nat} : ∀ {rows : List (List Value)}, (∀ r ∈ rows, r.length = sz) → ∀ {j : Nat} {r : List Value}, rows[j]? = some r → ∀ {c : Nat} {v : Value}, r[c]? = some v → rows.flatten[j * sz + c]? = some v
  | [], _, j, r, h, _, _, _ => by simp at h
  | r0 :: rows, hl, 0, r, h, c, v, hc => by
    simp at h; subst h
    obtain ⟨hlt, _⟩ := List.getElem?_eq_some_iff.1 hc
    rw [List.flatten_cons, Nat.zero_mul, Nat.zero_add, List.getElem?_append_left hlt]; exact hc
  | r0 :: rows, hl, j + 1, r, h, c, v, hc => by
    have e0 : r0.length = sz := hl r0 (List.mem_cons_self ..)
    rw [List.flatten_cons, List.getElem?_append_right (by rw [e0, Nat.succ_mul]; omega), e0, show (j + 1) * sz + c - sz = j * sz + c by rw [Nat.succ_mul]; omega]
    exact flat_get (fun r hr => hl r (List.mem_cons_of_mem _ hr)) (by simpa using h) hc
theorem Own.rd {sz : Nat} {w : World} {b : Nat} {vs : List Value} {rows : List (List Value)} (h : Own w b vs) (e : rows.flatten = vs) (hl : ∀ r ∈ rows, r.length = sz) : Rd sz w (some ⟨b, 0, none⟩) rows :=
  Rd.mk' h.lt fun j r hj c v hv => by rw [Nat.zero_add, h.c, ← e]; exact flat_get hl hj hv
set_option maxRecDepth 100000 in
set_option maxHeartbeats 4000000 in
theorem sameInts30m (A A' : Option Addr) (n n' c c' : Nat) (xs ys : List Int) (w : World) (hx : RdI w A xs) (hy : RdI w A' ys) (hn : n = xs.length) (hn' : n' = ys.length) (hl : n ≤ 140737488355328) (hl' : n' ≤ 140737488355328) :
    Calls Try.prog 30 #[.slice A n c, .slice A' n' c'] w fun e w' => ∃ m, e = .returned (.bool (decide (xs = ys))) ∧ w' = w.drewN m := by
  have HX := Lib.hid hx
  have HY := Lib.hid hy
  go_enter Try.func30, Try.ntmps30
  by_cases he : n = n'
  · subst he
    go_wp2
    go_loopg [5] n (fun K i wr => ∃ (k m : Nat), K + k = n ∧ i = .int .i64 k ∧ Hid (wr = w.drewN m) ∧ xs.take k = ys.take k)
    case atStart => exact ⟨0, 0, rfl, rfl, rfl, rfl⟩
    case round =>
      obtain ⟨k, m, hk, rfl, hw, ht⟩ := hrel
      by_cases hlt : k < n
      · obtain ⟨x, hx0⟩ : ∃ x, xs[k]? = some x := ⟨xs[k]'(by omega), by simp⟩
        obtain ⟨y, hy0⟩ : ∃ y, ys[k]? = some y := ⟨ys[k]'(by omega), by simp⟩
        obtain ⟨b, o, rfl, hb, hc⟩ := HX.out.elem hx0
        obtain ⟨b', o', rfl, hb', hc'⟩ := HY.out.elem hy0
        have g1 : wr.cell? ⟨b, o + k, none⟩ = some (.int .i64 x) := by rw [hw.out]; exact hc
        have g2 : wr.cell? ⟨b', o' + k, none⟩ = some (.int .i64 y) := by rw [hw.out]; exact hc'
        by_cases hxy : x = y
        · subst hxy
          have hneq : (x != x) = false := by simp
          clear hc hc'
          go_wp2
          go_region
          go_wp2
          go_roundg (n - (k + 1))
          case measure => omega
          case rel => exact ⟨k + 1, m + 1, by omega, by go_num, by show _ = _; rw [hw.out]; rfl, by rw [take_snoc hx0, take_snoc hy0, ht]⟩
        · have hneq : (x != y) = true := by simpa using hxy
          have hd : Hid (decide (xs = ys) = false) := decide_eq_false fun e => hxy (by rw [e, hy0] at hx0; cases hx0; rfl)
          clear hc hc'
          go_wp2
          go_region
          go_wp2
          go_ret
          exact ⟨m + 1, ret_bool hd.out.symm, by rw [hw.out]; rfl⟩
      · have hd : decide (xs = ys) = true := decide_eq_true (by rw [List.take_of_length_le (by omega), List.take_of_length_le (by omega)] at ht; exact ht)
        go_wp2
        go_ret
        exact ⟨m, ret_bool hd.symm, hw.out⟩
  · have hd : decide (xs = ys) = false := decide_eq_false fun e => he (by rw [hn, hn', e])
    have hne : ((n : Int) != (n' : Int)) = true := by simpa using (by omega : ¬ (n : Int) = n')
    go_wp2
    go_ret
    exact ⟨0, ret_bool hd.symm, rfl⟩

theorem sameInts30 (A A' : Option Addr) (n n' c c' : Nat) (xs ys : List Int) (w : World) (hx : RdI w A xs) (hy : RdI w A' ys) (hn : n = xs.length) (hn' : n' = ys.length) (hl : n ≤ 140737488355328) (hl' : n' ≤ 140737488355328) :
    Calls Try.prog 30 #[.slice A n c, .slice A' n' c'] w fun e w' => e = .returned (.bool (decide (xs = ys))) ∧ Below w.heap.size w w' := by
  refine (sameInts30m A A' n n' c c' xs ys w hx hy hn hn' hl hl').mono ?_
  rintro e w' ⟨m, rfl, rfl⟩
  exact ⟨rfl, below_drewN (Below.refl _ _) m⟩

end Go.Proofs.Ytphcpphmoeiioaa
namespace Go.Proofs.Ytphcpphmoeiioaa
open Go.RowKit

def exK : List Kn := [⟨0, 0, 0⟩, ⟨4, 6, 6⟩]
def exC : Cv := cvOf 4 3 0 10 0 exK
theorem ex_chk : chkV 4 3 0 10 0 exK = true := by decide +kernel
theorem ex_V : CvV 4 3 0 10 0 exK := cvV_of ex_chk
def wit (a b d : Int) : Nat → Int
  | 0 => 0
  | 1 => a
  | 2 => b
  | 3 => d
  | _ => 6
theorem ex_wit {a b d : Int} (h1 : 0 ≤ a ∧ a ≤ 3) (h2 : a - 3 ≤ b ∧ b ≤ a + 3 ∧ 0 ≤ b ∧ b ≤ 10) (h3 : b - 3 ≤ d ∧ d ≤ b + 3 ∧ 3 ≤ d ∧ d ≤ 9) : Truth exC (wit a b d) := by
  refine ⟨⟨fun i hi => ?_, fun i hi => ?_⟩, ?_⟩
  · have hi' : i ≤ 4 := hi
    show 0 ≤ wit a b d i ∧ wit a b d i ≤ 10
    rcases i with _ | _ | _ | _ | i <;> simp only [wit] <;> omega
  · have hi' : i < 4 := hi
    show wit a b d i - 3 ≤ wit a b d (i + 1) ∧ wit a b d (i + 1) ≤ wit a b d i + 3
    rcases i with _ | _ | _ | _ | i
    · simp only [wit]; omega
    · simp only [wit]; omega
    · simp only [wit]; omega
    · simp only [wit]; omega
    · omega
  · have : wUp exC.kn (wit a b d) exC.long = 0 := wUp_zero.2 fun q hq _ _ => by
      have hq' : q = ⟨0, 0, 0⟩ ∨ q = ⟨4, 6, 6⟩ := by simpa [exC, cvOf, exK] using hq
      rcases hq' with rfl | rfl
      · show (0 : Int) ≤ wit a b d 0 ∧ wit a b d 0 ≤ 0
        simp [wit]
      · show (6 : Int) ≤ wit a b d 4 ∧ wit a b d 4 ≤ 6
        simp [wit]
    rw [this]
    exact Int.le_refl _
theorem ex_truth {h : Nat → Int} (H : Truth exC h) : h 0 = 0 ∧ h 4 = 6 ∧ (0 ≤ h 1 ∧ h 1 ≤ 3) ∧ (h 1 - 3 ≤ h 2 ∧ h 2 ≤ h 1 + 3 ∧ 0 ≤ h 2 ∧ h 2 ≤ 10) ∧ (h 2 - 3 ≤ h 3 ∧ h 3 ≤ h 2 + 3 ∧ 3 ≤ h 3 ∧ h 3 ≤ 9) := by
  have h0 : wUp exC.kn h exC.long = 0 := by
    have : (wUp exC.kn h exC.long : Int) ≤ 0 := H.2
    omega
  have hz := wUp_zero.1 h0
  have a0 : (0 : Int) ≤ h 0 ∧ h 0 ≤ 0 := hz ⟨0, 0, 0⟩ (by simp [exC, cvOf, exK]) (by decide) (by decide)
  have a4 : (6 : Int) ≤ h 4 ∧ h 4 ≤ 6 := hz ⟨4, 6, 6⟩ (by simp [exC, cvOf, exK]) (by decide) (by decide)
  have r : ∀ i, i ≤ 4 → 0 ≤ h i ∧ h i ≤ 10 := fun i hi => H.1.1 i hi
  have s : ∀ i, i < 4 → h i - 3 ≤ h (i + 1) ∧ h (i + 1) ≤ h i + 3 := fun i hi => H.1.2 i hi
  have r1 := r 1 (by omega); have r2 := r 2 (by omega); have r3 := r 3 (by omega)
  have s0 := s 0 (by omega); have s1 := s 1 (by omega); have s2 := s 2 (by omega); have s3 := s 3 (by omega)
  simp only [Nat.zero_add, Nat.reduceAdd] at s0 s1 s2 s3
  omega
theorem ex_sum (h : Nat → Int) (b : Int) : sUp h 0 b 4 = (if 1 ≤ b then h 0 + h 1 else 0) + (if 2 ≤ b then h 1 + h 2 else 0) + (if 3 ≤ b then h 2 + h 3 else 0) + (if 4 ≤ b then h 3 + h 4 else 0) := by
  simp [sUp]
theorem ex_ht3 : IsSp (HtP exC 3) 3 9 :=
  ⟨⟨wit 0 0 3, ex_wit (by omega) (by omega) (by omega), rfl⟩, ⟨wit 3 6 9, ex_wit (by omega) (by omega) (by omega), rfl⟩, fun s ⟨h, k, e⟩ => by have := ex_truth k; omega⟩
theorem ex_in {b lo hi : Int} (h1 : sUp (wit 0 0 3) 0 b 4 = lo) (h2 : sUp (wit 3 6 9) 0 b 4 = hi) (h3 : ∀ h, Truth exC h → lo ≤ sUp h 0 b 4 ∧ sUp h 0 b 4 ≤ hi) : IsSp (InP exC 0 b) lo hi :=
  ⟨⟨wit 0 0 3, ex_wit (by omega) (by omega) (by omega), h1⟩, ⟨wit 3 6 9, ex_wit (by omega) (by omega) (by omega), h2⟩, fun s ⟨h, k, e⟩ => by have := h3 h k; have e' : sUp h 0 b 4 = s := e; omega⟩
theorem ex_in0 : IsSp (InP exC 0 0) 0 0 := ex_in (by rw [ex_sum]; rfl) (by rw [ex_sum]; rfl) (fun h k => by rw [ex_sum]; simp)
theorem ex_in1 : IsSp (InP exC 0 1) 0 3 := ex_in (by rw [ex_sum]; rfl) (by rw [ex_sum]; rfl) (fun h k => by rw [ex_sum]; have := ex_truth k; simp; omega)
theorem ex_in2 : IsSp (InP exC 0 2) 0 12 := ex_in (by rw [ex_sum]; rfl) (by rw [ex_sum]; rfl) (fun h k => by rw [ex_sum]; have := ex_truth k; simp; omega)
theorem ex_in3 : IsSp (InP exC 0 3) 3 27 := ex_in (by rw [ex_sum]; rfl) (by rw [ex_sum]; rfl) (fun h k => by rw [ex_sum]; have := ex_truth k; simp; omega)
theorem ex_in4 : IsSp (InP exC 0 4) 12 42 := ex_in (by rw [ex_sum]; rfl) (by rw [ex_sum]; rfl) (fun h k => by rw [ex_sum]; have := ex_truth k; simp; omega)
theorem ex_T : ∃ h, Truth exC h := ⟨wit 0 0 3, ex_wit (by omega) (by omega) (by omega)⟩
theorem openR_val {L sl rl rh wg : Int} {ks : List Kn} {is : Bool} {er : Int} (h : OpenR L sl rl rh wg ks is er) (hc : chkV L sl rl rh wg ks = true) (hi : is = true) (hT : ∃ h, Truth (cvOf L sl rl rh wg ks) h) : er = 0 := by
  rcases h with ⟨h1, _⟩ | ⟨_, h2, _⟩ | ⟨_, _, _, h4⟩ | ⟨_, _, h3, _⟩
  · rw [hc] at h1; cases h1
  · rw [hi] at h2; cases h2
  · obtain ⟨g, hg⟩ := hT
    exact absurd ⟨g, hg, fun i hi n hn => nomatch hn⟩ h4
  · exact h3
theorem ex_height {lo hi er : Int} (h : HeightR 4 3 0 10 0 exK 3 lo hi er) : lo = 3 ∧ hi = 9 ∧ er = 0 := by
  have he := openR_val h.1 ex_chk (by decide) ex_T
  have := (h.2.1 he).uniq ex_ht3
  exact ⟨this.1, this.2, he⟩
theorem ex_integral {lo hi er : Int} (h : IntegralR 4 3 0 10 0 exK 0 4 lo hi er) : lo = 12 ∧ hi = 42 ∧ er = 0 := by
  have he := openR_val h.1 ex_chk (by decide) ex_T
  have := (h.2.1 he).uniq ex_in4
  exact ⟨this.1, this.2, he⟩
theorem ex_draw {ls : List Sp} {er : Int} (h : DrawR 4 3 0 10 0 exK ls er) : mids ls = [0, 1, 6, 15, 27] ∧ er = 0 := by
  have he := openR_val h.1 ex_chk rfl ex_T
  obtain ⟨hl, hd⟩ := h.2.1 he
  have hl' : ls.length = 5 := hl
  match ls, hl', hd with
  | [s0, s1, s2, s3, s4], _, hd =>
    have u0 := (show IsSp (InP exC 0 0) s0.1 s0.2 from hd 0 s0 rfl).uniq ex_in0
    have u1 := (show IsSp (InP exC 0 1) s1.1 s1.2 from hd 1 s1 rfl).uniq ex_in1
    have u2 := (show IsSp (InP exC 0 2) s2.1 s2.2 from hd 2 s2 rfl).uniq ex_in2
    have u3 := (show IsSp (InP exC 0 3) s3.1 s3.2 from hd 3 s3 rfl).uniq ex_in3
    have u4 := (show IsSp (InP exC 0 4) s4.1 s4.2 from hd 4 s4 rfl).uniq ex_in4
    refine ⟨?_, he⟩
    simp only [mids, midI, List.map_cons, List.map_nil, u0, u1, u2, u3, u4]
    decide
theorem ex_wst2 : WstP exC 2 12 := by
  refine ⟨⟨wit 3 3 6, wit 0 3 3, ex_wit (by omega) (by omega) (by omega), ex_wit (by omega) (by omega) (by omega), rfl, ?_⟩, fun h g k j e => ?_⟩
  · show sUp (wit 3 3 6) 0 4 4 - sUp (wit 0 3 3) 0 4 4 = 12
    rw [ex_sum, ex_sum]; rfl
  · show sUp h 0 4 4 - sUp g 0 4 4 ≤ 12
    have a := ex_truth k
    have b := ex_truth j
    rw [ex_sum, ex_sum]
    simp
    omega
theorem ex_wide2 : Wide exC 2 := ⟨0, 3, ⟨wit 0 0 3, ex_wit (by omega) (by omega) (by omega), rfl⟩, ⟨wit 0 3 3, ex_wit (by omega) (by omega) (by omega), rfl⟩, by omega⟩
theorem ex_next {n er : Int} (h : NextR 4 3 0 10 0 exK n er) : n = 2 ∧ er = 0 := by
  rcases h with ⟨h1, h2, _⟩ | ⟨_, _, _, h4⟩ | ⟨_, h2, q, rfl, h3, h4, m, h5, h6⟩
  · exact absurd (openR_val h2 ex_chk rfl ex_T) h1
  · exact absurd ex_wide2 (h4 2 (by decide))
  · refine ⟨?_, h2⟩
    have hm := (h6 2 (by decide) ex_wide2 12 ex_wst2).1
    have hq : q ≤ 4 := h3
    obtain ⟨x, y, ⟨a, ka, ea⟩, ⟨b, kb, eb⟩, hxy⟩ := h4
    have ta := ex_truth ka
    have tb := ex_truth kb
    match q, hq with
    | 0, _ => omega
    | 1, _ =>
      have := h5.2 (wit 3 6 9) (wit 3 0 3) (ex_wit (by omega) (by omega) (by omega)) (ex_wit (by omega) (by omega) (by omega)) rfl
      have e1 : sUp (wit 3 6 9) 0 4 4 = 42 := by rw [ex_sum]; rfl
      have e2 : sUp (wit 3 0 3) 0 4 4 = 18 := by rw [ex_sum]; rfl
      have : sUp (wit 3 6 9) 0 4 4 - sUp (wit 3 0 3) 0 4 4 ≤ m := this
      omega
    | 2, _ => rfl
    | 3, _ =>
      have := h5.2 (wit 3 6 3) (wit 0 0 3) (ex_wit (by omega) (by omega) (by omega)) (ex_wit (by omega) (by omega) (by omega)) rfl
      have e1 : sUp (wit 3 6 3) 0 4 4 = 30 := by rw [ex_sum]; rfl
      have e2 : sUp (wit 0 0 3) 0 4 4 = 12 := by rw [ex_sum]; rfl
      have : sUp (wit 3 6 3) 0 4 4 - sUp (wit 0 0 3) 0 4 4 ≤ m := this
      omega
    | 4, _ => omega
end Go.Proofs.Ytphcpphmoeiioaa
namespace Go.Proofs.Ytphcpphmoeiioaa
open Go.RowKit Go.Maps

set_option maxRecDepth 100000 in
set_option maxHeartbeats 4000000 in
theorem example49 (w : World) :
    Calls Try.prog 49 #[] w fun e w' => ∃ b : Nat, e = .returned (.agg #[.int .i64 4, .int .i64 3, .int .i64 0, .int .i64 10, .slice (some ⟨b, 0, none⟩) 2 2, .int .i64 0]) ∧ Rd 3 w' (some ⟨b, 0, none⟩) (exK.map krow) ∧ Below w.heap.size w w' := by
  go_enter Try.func49, Try.ntmps49
  go_wp2
  trace_state
  go_returns
  refine ⟨w.heap.size + 1, rfl, ?_, ?_⟩
  · refine Own.rd (vs := [.int .i64 0, .int .i64 0, .int .i64 0, .int .i64 4, .int .i64 6, .int .i64 6]) ?_ rfl (by simp [exK, krow])
    exact Own.new' _ _ (by simp) rfl
  · (repeat' (first | (with_reducible exact Below.refl _ _) | (with_reducible assumption) | (with_reducible refine Below.drew ?_) | (with_reducible refine below_drewN ?_ _) | (with_reducible refine Below.setCell ?_ ?_ _) | (with_reducible refine Below.alloc ?_ ?_ _) | (refine Below.trans ?_ (Below.mono (by with_reducible assumption) ?_)) | omega | (exact Below.size (by with_reducible assumption)) | (simp; done) | (simp; omega)))
set_option maxRecDepth 100000 in
set_option maxHeartbeats 4000000 in
theorem works13 (w : World) : Calls Try.prog 13 #[] w fun e w' => e = .returned (.bool true) ∧ Below w.heap.size w w' := by
  go_enter Try.func13, Try.ntmps13
  go_wp2_with fail
  refine (example49 _).mono ?_
  rintro e w1 ⟨b, rfl, hA, hb1⟩
  have HA := Lib.hid hA
  clear hA
  have hz1 := hb1.size
  go_wp2_with fail
  refine calls_gen fun W1 hW1 => ?_
  have o1 : Own W1 w1.heap.size [.int .i64 4, .int .i64 3, .int .i64 0, .int .i64 10, .slice (some ⟨b, 0, none⟩) 2 2, .int .i64 0] := by rw [hW1]; exact Own.new' _ _ rfl rfl
  have hB1 : Below w1.heap.size w1 W1 := by rw [hW1]; (repeat' (first | (with_reducible exact Below.refl _ _) | (with_reducible assumption) | (with_reducible refine Below.drew ?_) | (with_reducible refine below_drewN ?_ _) | (with_reducible refine Below.setCell ?_ ?_ _) | (with_reducible refine Below.alloc ?_ ?_ _) | (refine Below.trans ?_ (Below.mono (by with_reducible assumption) ?_)) | omega | (exact Below.size (by with_reducible assumption)) | (simp; done) | (simp; omega)))
  clear hW1
  refine (height31 4 3 0 10 0 (some ⟨b, 0, none⟩) 2 2 exK 3 W1 (HA.out.below hB1 (Nat.le_refl _)) rfl (by omega)).mono ?_
  rintro e w2 ⟨lo, hi, er, rfl, hR, hb2⟩
  obtain ⟨rfl, rfl, rfl⟩ := ex_height hR.out
  have hB2 := hB1.trans (hb2.mono hB1.size)
  have o2 := o1.below hb2 o1.lt
  have ho2 := Lib.hid o2
  clear hb2 hB1 o1 hR
  obtain ⟨l2, k2, f2⟩ := o2
  go_wp2_with fail
  refine calls_gen fun W2 hW2 => ?_
  have p0 : Own W2 w1.heap.size [.int .i64 4, .int .i64 3, .int .i64 0, .int .i64 10, .slice (some ⟨b, 0, none⟩) 2 2, .int .i64 0] := by rw [hW2]; exact ho2.out.alloc _
  have p1 : Own W2 w2.heap.size [.int .i64 3, .int .i64 9] := by rw [hW2]; exact Own.new' _ _ rfl rfl
  have hB2' : Below w1.heap.size w1 W2 := by rw [hW2]; (repeat' (first | (with_reducible exact Below.refl _ _) | (with_reducible assumption) | (with_reducible refine Below.drew ?_) | (with_reducible refine below_drewN ?_ _) | (with_reducible refine Below.setCell ?_ ?_ _) | (with_reducible refine Below.alloc ?_ ?_ _) | (refine Below.trans ?_ (Below.mono (by with_reducible assumption) ?_)) | omega | (exact Below.size (by with_reducible assumption)) | (simp; done) | (simp; omega)))
  clear hW2 ho2 l2 k2 f2
  refine (integral20 4 3 0 10 0 (some ⟨b, 0, none⟩) 2 2 exK 0 4 W2 (HA.out.below hB2' (Nat.le_refl _)) rfl (by omega)).mono ?_
  rintro e w3 ⟨lo, hi, er, rfl, hR, hb3⟩
  obtain ⟨rfl, rfl, rfl⟩ := ex_integral hR.out
  have hB3 := hB2'.trans (hb3.mono hB2'.size)
  have q0 := Lib.hid (p0.below hb3 p0.lt)
  have q1 := Lib.hid (p1.below hb3 p1.lt)
  clear hb3 hB2 hB2' p0 p1 hR
  obtain ⟨l3, k3, f3⟩ := q0.out
  go_wp2_with fail
  refine calls_gen fun W3 hW3 => ?_
  have p0 : Own W3 w1.heap.size [.int .i64 4, .int .i64 3, .int .i64 0, .int .i64 10, .slice (some ⟨b, 0, none⟩) 2 2, .int .i64 0] := by rw [hW3]; exact q0.out.alloc _
  have p1 : Own W3 w2.heap.size [.int .i64 3, .int .i64 9] := by rw [hW3]; exact q1.out.alloc _
  have p2 : Own W3 w3.heap.size [.int .i64 12, .int .i64 42] := by rw [hW3]; exact Own.new' _ _ rfl rfl
  have hB3' : Below w1.heap.size w1 W3 := by rw [hW3]; (repeat' (first | (with_reducible exact Below.refl _ _) | (with_reducible assumption) | (with_reducible refine Below.drew ?_) | (with_reducible refine below_drewN ?_ _) | (with_reducible refine Below.setCell ?_ ?_ _) | (with_reducible refine Below.alloc ?_ ?_ _) | (refine Below.trans ?_ (Below.mono (by with_reducible assumption) ?_)) | omega | (exact Below.size (by with_reducible assumption)) | (simp; done) | (simp; omega)))
  clear hW3 q0 q1 l3 k3 f3
  refine (best25 4 3 0 10 0 (some ⟨b, 0, none⟩) 2 2 exK W3 (HA.out.below hB3' (Nat.le_refl _)) rfl (by omega)).mono ?_
  rintro e w4 ⟨A4, cap4, ls, er, rfl, hR, hr4, hll, hb4⟩
  obtain ⟨em, rfl⟩ := ex_draw hR.out
  rw [em] at hr4 ⊢
  have hB4 := hB3'.trans (hb4.mono hB3'.size)
  have q0 := Lib.hid (p0.below hb4 p0.lt)
  have q1 := Lib.hid (p1.below hb4 p1.lt)
  have q2 := Lib.hid (p2.below hb4 p2.lt)
  have HR4 := Lib.hid hr4
  clear hb4 hB3 hB3' p0 p1 p2 hR hr4
  obtain ⟨l3, k3, f3⟩ := q0.out
  go_wp2_with fail
  refine (next15 4 3 0 10 0 (some ⟨b, 0, none⟩) 2 2 exK w4 (HA.out.below hB4 (Nat.le_refl _)) rfl (by omega)).mono ?_
  rintro e w5 ⟨nx, er, rfl, hR, hb5⟩
  obtain ⟨rfl, rfl⟩ := ex_next hR.out
  have hB5 := hB4.trans (hb5.mono hB4.size)
  have q1' := Lib.hid (q1.out.below hb5 q1.out.lt)
  have q2' := Lib.hid (q2.out.below hb5 q2.out.lt)
  have HR5 := Lib.hid (HR4.out.below hb5 (Nat.le_refl _))
  clear hb5 hB4 q0 q1 q2 hR HR4 l3 k3 f3
  obtain ⟨l1, k1, f1⟩ := q1'.out
  obtain ⟨l2, k2, f2⟩ := q2'.out
  go_wp2_with fail
  have oY : Below w5.heap.size w5 (w5.alloc (.cells #[.int .i64 0, .int .i64 1, .int .i64 6, .int .i64 15, .int .i64 27] 3)) := by (repeat' (first | (with_reducible exact Below.refl _ _) | (with_reducible assumption) | (with_reducible refine Below.drew ?_) | (with_reducible refine below_drewN ?_ _) | (with_reducible refine Below.setCell ?_ ?_ _) | (with_reducible refine Below.alloc ?_ ?_ _) | (refine Below.trans ?_ (Below.mono (by with_reducible assumption) ?_)) | omega | (exact Below.size (by with_reducible assumption)) | (simp; done) | (simp; omega)))
  refine (sameInts30 _ _ _ _ _ _ [0, 1, 6, 15, 27] [0, 1, 6, 15, 27] _ (HR5.out.below oY (Nat.le_refl _)) (Own.rd (vs := [.int .i64 0, .int .i64 1, .int .i64 6, .int .i64 15, .int .i64 27]) (Own.new' _ _ rfl rfl) rfl (by simp [irow])) rfl rfl (by decide) (by decide)).mono ?_
  rw [show decide (([0, 1, 6, 15, 27] : List Int) = [0, 1, 6, 15, 27]) = true from rfl]
  rintro e w7 ⟨rfl, hb7⟩
  have hz5 := hB5.size
  have hB7 : Below w.heap.size w w7 := (hb1.trans (hB5.mono hz1)).trans ((oY.trans (hb7.mono (by simp))).mono (by omega))
  go_wp2
  go_ret
  exact ⟨rfl, hB7⟩
end Go.Proofs.Ytphcpphmoeiioaa
