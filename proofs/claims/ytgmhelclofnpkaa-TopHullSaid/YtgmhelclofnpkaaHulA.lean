/- TopHull, plain: chains, hulls, their areas, how points lie to them. -/
import Derived.Test.YtgmhelclofnpkaaPl
import Derived.Test.YtgmhelclofnpkaaGb
namespace Go.Proofs.Ytgmhelclofnpkaa
namespace Hu
open Pl
/-- A number that orders points: the lower ones first, in a row the left ones; times s. -/
def fv (s : Int) (p : P2) : Int := s * (1000 * p.2 + p.1)
theorem four0 (a b c d : P2) : turn b c d - turn a c d + turn a b d - turn a b c = 0 := by unfold turn; grind
theorem four1 (s : Int) (a b c d : P2) : turn b c d * fv s a - turn a c d * fv s b + turn a b d * fv s c - turn a b c * fv s d = 0 := by unfold turn fv; grind
theorem mp {a k : Int} (hk : 0 < k) (h : 0 < a * k) : 0 < a := by
  false_or_by_contra
  have := Int.mul_nonpos_of_nonpos_of_nonneg (show a ≤ 0 by omega) (show 0 ≤ k by omega)
  omega
theorem mn {a k : Int} (hk : 0 < k) (h : 0 ≤ a * k) : 0 ≤ a := by
  false_or_by_contra
  have := Int.mul_neg_of_neg_of_pos (show a < 0 by omega) hk
  omega
theorem mz {a k : Int} (hk : 0 < k) (h : a * k ≤ 0) : a ≤ 0 := by
  have := mn (a := -a) hk (by rw [Int.neg_mul]; omega)
  omega
theorem nn {a b : Int} (h : 0 ≤ a) (k : 0 ≤ b) : 0 ≤ a * b := Int.mul_nonneg h k
theorem turn_cyc (a b c : P2) : turn b c a = turn a b c := by unfold turn; grind
theorem turn_swap (a b c : P2) : turn a c b = - turn a b c := by unfold turn; grind
theorem turn_swap' (a b c : P2) : turn b a c = - turn a b c := by unfold turn; grind
theorem turn_aab (a b : P2) : turn a a b = 0 := by unfold turn; grind
theorem turn_aba (a b : P2) : turn a b a = 0 := by unfold turn; grind
theorem turn_abb (a b : P2) : turn a b b = 0 := by unfold turn; grind

section
variable {s : Int} {a b c d : P2}
/-- The first and the last one. -/
theorem l1 (h1 : fv s a < fv s b) (_h2 : fv s b < fv s c) (h3 : fv s c < fv s d) (k1 : turn b c d ≤ 0) (k2 : turn a b d ≤ 0) : turn a c d ≤ 0 := by
  have e0 := four0 a b c d
  have e1 := four1 s a b c d
  have e : (- turn a c d) * (fv s d - fv s b) = (- turn b c d) * (fv s d - fv s a) + (- turn a b d) * (fv s d - fv s c) := by grind
  have := nn (show 0 ≤ - turn b c d by omega) (show 0 ≤ fv s d - fv s a by omega)
  have := nn (show 0 ≤ - turn a b d by omega) (show 0 ≤ fv s d - fv s c by omega)
  have := mn (a := - turn a c d) (k := fv s d - fv s b) (by omega) (by omega)
  omega
theorem l2 (h1 : fv s a < fv s b) (_h2 : fv s b < fv s c) (h3 : fv s c < fv s d) (k1 : turn a b c ≤ 0) (k2 : turn a c d ≤ 0) : turn a b d ≤ 0 := by
  have e0 := four0 a b c d
  have e1 := four1 s a b c d
  have e : (- turn a b d) * (fv s c - fv s a) = (- turn a c d) * (fv s b - fv s a) + (- turn a b c) * (fv s d - fv s a) := by grind
  have := nn (show 0 ≤ - turn a c d by omega) (show 0 ≤ fv s b - fv s a by omega)
  have := nn (show 0 ≤ - turn a b c by omega) (show 0 ≤ fv s d - fv s a by omega)
  have := mn (a := - turn a b d) (k := fv s c - fv s a) (by omega) (by omega)
  omega
theorem l3 (h1 : fv s a < fv s b) (h2 : fv s b < fv s c) (h3 : fv s c < fv s d) (k1 : turn a b c ≤ 0) (k2 : 0 ≤ turn a c d) : 0 ≤ turn b c d := by
  have e0 := four0 a b c d
  have e1 := four1 s a b c d
  have e : turn b c d * (fv s c - fv s a) = turn a c d * (fv s c - fv s b) + (- turn a b c) * (fv s d - fv s c) := by grind
  have := nn k2 (show 0 ≤ fv s c - fv s b by omega)
  have := nn (show 0 ≤ - turn a b c by omega) (show 0 ≤ fv s d - fv s c by omega)
  exact mn (k := fv s c - fv s a) (by omega) (by omega)
theorem l4 (h1 : fv s a < fv s b) (h2 : fv s b < fv s c) (h3 : fv s c < fv s d) (k1 : 0 ≤ turn a b c) (k2 : 0 ≤ turn b c d) : 0 ≤ turn a c d := by
  have e0 := four0 a b c d
  have e1 := four1 s a b c d
  have e : turn a c d * (fv s c - fv s b) = turn b c d * (fv s c - fv s a) + turn a b c * (fv s d - fv s c) := by grind
  have := nn k2 (show 0 ≤ fv s c - fv s a by omega)
  have := nn k1 (show 0 ≤ fv s d - fv s c by omega)
  exact mn (k := fv s c - fv s b) (by omega) (by omega)
theorem l5 (h1 : fv s a < fv s b) (h2 : fv s b < fv s c) (h3 : fv s c < fv s d) (k1 : 0 < turn a b c) (k2 : 0 < turn b c d) : 0 < turn a b d := by
  have e0 := four0 a b c d
  have e1 := four1 s a b c d
  have e : turn a b d * (fv s c - fv s b) = turn b c d * (fv s b - fv s a) + turn a b c * (fv s d - fv s b) := by grind
  have := Int.mul_pos k2 (show 0 < fv s b - fv s a by omega)
  have := Int.mul_pos k1 (show 0 < fv s d - fv s b by omega)
  exact mp (k := fv s c - fv s b) (by omega) (by omega)
end
/-- What is taken away before a point is put behind: the last one stands first. -/
def pop (p : P2) : List P2 → List P2
  | b :: a :: r => if turn a b p ≤ 0 then pop p (a :: r) else b :: a :: r
  | l => l
def push (l : List P2) (p : P2) : List P2 := p :: pop p l
/-- A chain with all points on its left. -/
def Ch (s : Int) (D : P2 → Prop) : List P2 → Prop
  | b :: a :: r => fv s a < fv s b ∧ (∀ d, D d → 0 ≤ turn a b d) ∧ (∀ z ∈ r.head?, 0 < turn z a b) ∧ Ch s D (a :: r)
  | _ => True
theorem ch_old {s : Int} {D : P2 → Prop} {p : P2} : ∀ {r : List P2} {b a : P2}, Ch s D (b :: a :: r) → 0 < turn a b p → fv s b < fv s p → Ch s (fun d => D d ∨ d = p) (b :: a :: r)
  | [], b, a, h, k, hv => ⟨h.1, fun d hd => by
      rcases hd with hd | rfl
      · exact h.2.1 d hd
      · omega, fun z hz => (by cases hz), trivial⟩
  | z :: r, b, a, h, k, hv => ⟨h.1, fun d hd => by
      rcases hd with hd | rfl
      · exact h.2.1 d hd
      · omega, h.2.2.1, ch_old h.2.2.2 (l5 h.2.2.2.1 h.1 hv (h.2.2.1 z rfl) k) (by have := h.1; omega)⟩
theorem pop_ok {s : Int} {D : P2 → Prop} {p : P2} (hinj : ∀ x y, D x → D y → fv s x = fv s y → x = y) (hp : ∀ d, D d → fv s d < fv s p) : ∀ {r : List P2} {t : P2}, Ch s D (t :: r) → (∀ x ∈ t :: r, D x) → (∀ d, D d → fv s t < fv s d → turn t d p ≤ 0) →
    ∃ t' r', pop p (t :: r) = t' :: r' ∧ Ch s D (t' :: r') ∧ (∀ x ∈ t' :: r', x ∈ t :: r) ∧ (t' :: r').getLast? = (t :: r).getLast? ∧ (∀ d, D d → fv s t' < fv s d → turn t' d p ≤ 0) ∧ ∀ z ∈ r'.head?, 0 < turn z t' p
  | [], t, hc, hD, hb => ⟨t, [], rfl, hc, fun x hx => hx, rfl, hb, fun z hz => (by cases hz)⟩
  | z :: r, t, hc, hD, hb => by
    by_cases k : turn z t p ≤ 0
    · obtain ⟨t', r', e1, e2, e3, e4, e5, e6⟩ := pop_ok hinj hp (r := r) (t := z) hc.2.2.2 (fun x hx => hD x (List.mem_cons_of_mem _ hx)) (fun d hd hz => by
        have ht := hD t (List.mem_cons_self ..)
        rcases Int.lt_trichotomy (fv s d) (fv s t) with c | c | c
        · have h1 := hc.2.1 d hd
          exact l2 hz c (hp t ht) (by rw [turn_swap]; omega) k
        · obtain rfl := hinj _ _ hd ht c; exact k
        · exact l1 hc.1 c (hp d hd) (hb d hd c) k)
      refine ⟨t', r', ?_, e2, fun x hx => List.mem_cons_of_mem _ (e3 x hx), by rw [e4, List.getLast?_cons_cons], e5, e6⟩
      show (if turn z t p ≤ 0 then pop p (z :: r) else t :: z :: r) = _
      rw [if_pos k, e1]
    · refine ⟨t, z :: r, ?_, hc, fun x hx => hx, rfl, hb, fun y hy => ?_⟩
      · show (if turn z t p ≤ 0 then pop p (z :: r) else t :: z :: r) = _
        rw [if_neg k]
      · cases hy; omega
theorem push_ok {s : Int} {D : P2 → Prop} {p q : P2} (hinj : ∀ x y, D x → D y → fv s x = fv s y → x = y) (hp : ∀ d, D d → fv s d < fv s p) (hq : ∀ d, D d → fv s q ≤ fv s d) {r : List P2} {t : P2} (hc : Ch s D (t :: r)) (hD : ∀ x ∈ t :: r, D x) (ht : ∀ d, D d → fv s d ≤ fv s t) (hl : (t :: r).getLast? = some q) :
    Ch s (fun d => D d ∨ d = p) (push (t :: r) p) ∧ (∀ x ∈ push (t :: r) p, D x ∨ x = p) ∧ (push (t :: r) p).getLast? = some q := by
  obtain ⟨t', r', e1, e2, e3, e4, e5, e6⟩ := pop_ok hinj hp hc hD (fun d hd k => by have := ht d hd; omega)
  have hD' : ∀ x ∈ t' :: r', D x := fun x hx => hD x (e3 x hx)
  have ht' := hD' t' (List.mem_cons_self ..)
  have ho : Ch s (fun d => D d ∨ d = p) (t' :: r') := by
    cases r' with
    | nil => exact trivial
    | cons z r' => exact ch_old e2 (e6 z rfl) (hp _ ht')
  unfold push
  rw [e1]
  refine ⟨⟨hp _ ht', fun d hd => ?_, e6, ho⟩, fun x hx => ?_, ?_⟩
  · rcases hd with hd | rfl
    · rcases Int.lt_trichotomy (fv s d) (fv s t') with c | c | c
      · cases r' with
        | nil =>
          rw [hl] at e4
          simp only [List.getLast?_singleton, Option.some.injEq] at e4
          subst e4
          have := hq d hd; omega
        | cons z r' =>
          have h1 := e6 z rfl
          have h2 := e2.2.1 d hd
          rw [turn_cyc d t' p]
          rcases Int.lt_trichotomy (fv s d) (fv s z) with c' | c' | c'
          · exact l4 c' e2.1 (hp _ ht') (by rw [← turn_cyc d z t']; exact h2) (by omega)
          · obtain rfl := hinj _ _ hd (hD' z (by simp)) c'
            omega
          · exact l3 c' c (hp _ ht') (by rw [turn_swap z t' d]; omega) (by omega)
      · obtain rfl := hinj _ _ hd ht' c
        rw [turn_aba]; omega
      · have := e5 d hd c
        rw [turn_swap]; omega
    · rw [turn_abb]; omega
  · rcases List.mem_cons.1 hx with rfl | hx
    · exact Or.inr rfl
    · exact Or.inl (hD' x hx)
  · rw [List.getLast?_cons_cons, e4, hl]
theorem Ch.weak {s : Int} {D E : P2 → Prop} (h : ∀ d, E d → D d) : ∀ {l : List P2}, Ch s D l → Ch s E l
  | [], _ => trivial
  | [_], _ => trivial
  | b :: a :: r, k => ⟨k.1, fun d hd => k.2.1 d (h d hd), k.2.2.1, Ch.weak h (l := a :: r) k.2.2.2⟩
/-- A chain along points in their order. -/
theorem chain_ok {s : Int} {q : P2} : ∀ (l : List P2) (D : P2 → Prop) (t : P2) (r : List P2), (∀ x y, (D x ∨ x ∈ l) → (D y ∨ y ∈ l) → fv s x = fv s y → x = y) → (∀ d, D d → ∀ x ∈ l, fv s d < fv s x) → l.Pairwise (fun x y => fv s x < fv s y) → (∀ d, D d → fv s q ≤ fv s d) →
    Ch s D (t :: r) → (∀ x ∈ t :: r, D x) → (∀ d, D d → fv s d ≤ fv s t) → (t :: r).getLast? = some q → D q →
    Ch s (fun d => D d ∨ d ∈ l) (l.foldl push (t :: r)) ∧ (∀ x ∈ l.foldl push (t :: r), D x ∨ x ∈ l) ∧ (l.foldl push (t :: r)).getLast? = some q ∧ ((l.foldl push (t :: r)).head? = some ((t :: l).getLast (by simp)))
  | [], D, t, r, _, _, _, _, hc, hD, _, hl, _ => ⟨hc.weak (fun d hd => by rcases hd with h | h; exact h; cases h), fun x hx => Or.inl (hD x hx), hl, rfl⟩
  | p :: l, D, t, r, hinj, hlt, hpw, hq, hc, hD, ht, hl, hDq => by
    obtain ⟨f1, f2, f3⟩ := push_ok (p := p) (q := q) (fun x y hx hy => hinj x y (Or.inl hx) (Or.inl hy)) (fun d hd => hlt d hd p (List.mem_cons_self ..)) hq hc hD ht hl
    rw [List.pairwise_cons] at hpw
    have ih := chain_ok (s := s) (q := q) l (fun d => D d ∨ d = p) p (pop p (t :: r)) (fun x y hx hy => hinj x y (by simpa [or_assoc] using hx) (by simpa [or_assoc] using hy)) (fun d hd x hx => by
        rcases hd with hd | rfl
        · exact hlt d hd x (List.mem_cons_of_mem _ hx)
        · exact hpw.1 x hx) hpw.2 (fun d hd => by
        rcases hd with hd | rfl
        · exact hq d hd
        · have := hlt q hDq d (List.mem_cons_self ..); omega) f1 f2 (fun d hd => by
        rcases hd with hd | rfl
        · have := hlt d hd p (List.mem_cons_self ..); omega
        · omega) f3 (Or.inl hDq)
    obtain ⟨g1, g2, g3, g4⟩ := ih
    refine ⟨g1.weak (fun d hd => by simpa [or_assoc] using hd), fun x hx => by simpa [or_assoc] using g2 x hx, g3, ?_⟩
    show (l.foldl push (p :: pop p (t :: r))).head? = _
    rw [g4, List.getLast_cons_cons]
end Hu
end Go.Proofs.Ytgmhelclofnpkaa
namespace Go.Proofs.Ytgmhelclofnpkaa
namespace Hu
open Pl
abbrev u (p : P2) : Int := fv 1 p
/-- H is a hull of points: its first e sides go up, the others down; all points are on their left. -/
structure HullOf (ps H : List P2) (e : Nat) : Prop where
  e0 : 0 < e
  eN : e < H.length
  mem : ∀ i, crn H i ∈ ps
  left : ∀ i, ∀ d ∈ ps, 0 ≤ turn (crn H i) (crn H (i + 1)) d
  up : ∀ i, i < e → u (crn H i) < u (crn H (i + 1))
  dn : ∀ i, e ≤ i → i < H.length → u (crn H (i + 1)) < u (crn H i)
  tu : ∀ i, i < H.length → i + 1 ≠ e → i + 1 ≠ H.length → 0 < turn (crn H i) (crn H (i + 1)) (crn H (i + 2))
theorem u_inj {p q : P2} (hp : isP p = true) (hq : isP q = true) (h : u p = u q) : p = q := by
  have h1 := isP_iff.1 hp
  have h2 := isP_iff.1 hq
  unfold u fv at h
  exact Prod.ext (by omega) (by omega)
/-- Points of one line have no area. -/
theorem line_area {ps : List P2} {r q : P2} (hne : u r ≠ u q) (h : ∀ d ∈ ps, turn r q d = 0) (hn : 0 < ps.length) : area ps = 0 := by
  have hc : ∀ i, turn r q (crn ps i) = 0 := fun i => h _ (at_mem (Nat.mod_lt _ hn))
  have key : ∀ k, k ≤ ps.length → (u q - u r) * sumTo ps k = (r.1 * q.2 - r.2 * q.1) * (u (crn ps k) - u (crn ps 0)) := by
    intro k
    induction k with
    | zero => intro _; simp [sumTo]
    | succ k ih =>
      intro hk
      have := ih (by omega)
      rw [sumTo, Int.mul_add, this]
      have e1 := hc k
      have e2 := hc (k + 1)
      have e3 : cross (at' ps k) (nx ps k) = cross (crn ps k) (crn ps (k + 1)) := by rw [crn_lt (show k < ps.length by omega), crn_nx (show k < ps.length by omega)]
      rw [e3]
      generalize crn ps k = a at *
      generalize crn ps (k + 1) = b at *
      generalize crn ps 0 = c at *
      unfold turn at e1 e2
      unfold cross u fv
      grind
  have k := key ps.length (Nat.le_refl _)
  have e : crn ps ps.length = crn ps 0 := by have := crn_per ps 0; rwa [Nat.zero_add] at this
  rw [e, Int.sub_self, Int.mul_zero] at k
  rcases Int.mul_eq_zero.1 k with k | k
  · omega
  · exact k
section
variable {ps H : List P2} {e : Nat} (K : HullOf ps H e) (hok : ok ps = true)
include K hok
theorem n0 : 0 < H.length := by have := K.eN; have _h := hok; omega
theorem crn_is (i : Nat) : isP (crn H i) = true := List.all_eq_true.1 (ok_parts hok).2.1 _ (K.mem i)
theorem u_eq {i j : Nat} (h : u (crn H i) = u (crn H j)) : crn H i = crn H j := u_inj (crn_is K hok i) (crn_is K hok j) h
theorem no_line {r q : P2} (hne : u r ≠ u q) (h : ∀ d ∈ ps, turn r q d = 0) : False := by
  have _k := K
  exact area_ne hok (line_area hne h (by have := (ok_parts hok).1; omega))
theorem crn_m (i k : Nat) : crn H (i % H.length + k) = crn H (i + k) := by have _k := K; have _h := hok; exact crn_succ H i k
theorem tu_all (i : Nat) : 0 < turn (crn H i) (crn H (i + 1)) (crn H (i + 2)) := by
  have hn := n0 K hok
  have key : ∀ i, i < H.length → 0 < turn (crn H i) (crn H (i + 1)) (crn H (i + 2)) := by
    intro i hi
    have hl := K.left i _ (K.mem (i + 2))
    by_cases h1 : i + 1 = e
    · false_or_by_contra
      have h0 : turn (crn H i) (crn H (i + 1)) (crn H (i + 2)) = 0 := by omega
      have u1 := K.up i (by omega)
      have u2 : u (crn H (i + 2)) < u (crn H (i + 1)) := K.dn (i + 1) (by omega) (by have := K.eN; omega)
      refine no_line K hok (r := crn H i) (q := crn H (i + 1)) (by omega) fun d hd => ?_
      have a1 := K.left i d hd
      have a2 : 0 ≤ turn (crn H (i + 1)) (crn H (i + 2)) d := K.left (i + 1) d hd
      have e0 := four0 (crn H i) (crn H (i + 1)) (crn H (i + 2)) d
      have e1 := four1 1 (crn H i) (crn H (i + 1)) (crn H (i + 2)) d
      rw [h0] at e0 e1
      have e2 : turn (crn H (i + 1)) (crn H (i + 2)) d * (u (crn H (i + 1)) - u (crn H i)) + turn (crn H i) (crn H (i + 1)) d * (u (crn H (i + 1)) - u (crn H (i + 2))) = 0 := by unfold u; grind
      have m1 := nn a2 (show 0 ≤ u (crn H (i + 1)) - u (crn H i) by omega)
      have m2 := mz (a := turn (crn H i) (crn H (i + 1)) d) (k := u (crn H (i + 1)) - u (crn H (i + 2))) (by omega) (by omega)
      omega
    · by_cases h2 : i + 1 = H.length
      · false_or_by_contra
        have h0 : turn (crn H i) (crn H (i + 1)) (crn H (i + 2)) = 0 := by omega
        have u1 := K.dn i (by have := K.eN; omega) hi
        have u2 : u (crn H (i + 1)) < u (crn H (i + 2)) := by
          have := K.up 0 K.e0
          have e1 := crn_per H 0
          have e2 := crn_per H 1
          rw [Nat.zero_add] at e1 this
          rw [show i + 2 = 1 + H.length by omega, h2, e1, e2]; exact this
        refine no_line K hok (r := crn H i) (q := crn H (i + 1)) (by omega) fun d hd => ?_
        have a1 := K.left i d hd
        have a2 : 0 ≤ turn (crn H (i + 1)) (crn H (i + 2)) d := K.left (i + 1) d hd
        have e0 := four0 (crn H i) (crn H (i + 1)) (crn H (i + 2)) d
        have e1 := four1 1 (crn H i) (crn H (i + 1)) (crn H (i + 2)) d
        rw [h0] at e0 e1
        have e2 : turn (crn H (i + 1)) (crn H (i + 2)) d * (u (crn H i) - u (crn H (i + 1))) + turn (crn H i) (crn H (i + 1)) d * (u (crn H (i + 2)) - u (crn H (i + 1))) = 0 := by unfold u; grind
        have m1 := nn a2 (show 0 ≤ u (crn H i) - u (crn H (i + 1)) by omega)
        have m2 := mz (a := turn (crn H i) (crn H (i + 1)) d) (k := u (crn H (i + 2)) - u (crn H (i + 1))) (by omega) (by omega)
        omega
      · exact K.tu i hi h1 h2
  have := key (i % H.length) (Nat.mod_lt _ hn)
  have e0 := crn_m K hok i 0
  have e1 := crn_m K hok i 1
  have e2 := crn_m K hok i 2
  simp only [Nat.add_zero] at e0
  rw [e0, e1, e2] at this
  exact this
theorem up_lt {i j : Nat} (hij : i < j) (hj : j ≤ e) : u (crn H i) < u (crn H j) := by
  have _h := hok
  induction j with
  | zero => omega
  | succ j ih =>
    have := K.up j (by omega)
    by_cases h : i = j
    · subst h; exact this
    · have := ih (by omega) (by omega); omega
theorem dn_lt {i j : Nat} (he : e ≤ i) (hij : i < j) (hj : j ≤ H.length) : u (crn H j) < u (crn H i) := by
  have _h := hok
  induction j with
  | zero => omega
  | succ j ih =>
    have := K.dn j (by omega) (by omega)
    by_cases h : i = j
    · subst h; exact this
    · have := ih (by omega) (by omega); omega
theorem nodup {i j : Nat} (hij : i < j) (hj : j < H.length) : crn H i ≠ crn H j := by
  intro hv
  have hu : u (crn H i) = u (crn H j) := by rw [hv]
  have eN := crn_per H 0
  rw [Nat.zero_add] at eN
  have h1 : i < e := by
    false_or_by_contra
    have := dn_lt K hok (show e ≤ i by omega) hij (by omega); omega
  have h2 : e < j := by
    false_or_by_contra
    have := up_lt K hok hij (show j ≤ e by omega); omega
  have h3 : 0 < i := by
    false_or_by_contra
    obtain rfl : i = 0 := by omega
    have := dn_lt K hok (show e ≤ j by omega) hj (Nat.le_refl _)
    rw [eN] at this; omega
  obtain ⟨i, rfl⟩ : ∃ k, i = k + 1 := ⟨i - 1, by omega⟩
  obtain ⟨j, rfl⟩ : ∃ k, j = k + 1 := ⟨j - 1, by omega⟩
  have a1 := K.up i (by omega)
  have a3 := K.dn j (by omega) (by omega)
  have t1 := tu_all K hok i
  have b1 := K.left j _ (K.mem i)
  have b2 := K.left i _ (K.mem j)
  have b3 := K.left j _ (K.mem (i + 2))
  rw [← hv] at b1 b3 a3
  have c1 : turn (crn H j) (crn H (i + 1)) (crn H i) = - turn (crn H i) (crn H (i + 1)) (crn H j) := by unfold turn; grind
  have c0 : turn (crn H i) (crn H (i + 1)) (crn H j) = 0 := by omega
  have e0 := four0 (crn H i) (crn H (i + 1)) (crn H j) (crn H (i + 2))
  have e1 := four1 1 (crn H i) (crn H (i + 1)) (crn H j) (crn H (i + 2))
  have c2 : turn (crn H (i + 1)) (crn H j) (crn H (i + 2)) = - turn (crn H j) (crn H (i + 1)) (crn H (i + 2)) := turn_swap' _ _ _
  rw [c0, c2] at e0 e1
  have e2 : turn (crn H j) (crn H (i + 1)) (crn H (i + 2)) * (u (crn H (i + 1)) - u (crn H i)) + turn (crn H i) (crn H (i + 1)) (crn H (i + 2)) * (u (crn H j) - u (crn H (i + 1))) = 0 := by unfold u; grind
  have m1 := nn b3 (show 0 ≤ u (crn H (i + 1)) - u (crn H i) by omega)
  have m2 := Int.mul_pos t1 (show 0 < u (crn H j) - u (crn H (i + 1)) by omega)
  omega
theorem u_side (i : Nat) : u (crn H i) ≠ u (crn H (i + 1)) := by
  have hn := n0 K hok
  have hi := Nat.mod_lt i hn
  have e0 := crn_m K hok i 0
  have e1 := crn_m K hok i 1
  simp only [Nat.add_zero] at e0
  rw [← e0, ← e1]
  by_cases h : i % H.length < e
  · have := K.up _ h; omega
  · have := K.dn _ (by omega) hi; omega
/-- The side before. -/
theorem pre (i : Nat) : ∃ k, crn H (k + 1) = crn H i ∧ crn H (k + 2) = crn H (i + 1) := by
  have hn := n0 K hok
  refine ⟨i + (H.length - 1), ?_, ?_⟩
  · rw [show i + (H.length - 1) + 1 = i + H.length by omega, crn_per]
  · rw [show i + (H.length - 1) + 2 = i + 1 + H.length by omega, crn_per]
/-- Beyond a side's end there is no point on its line. -/
theorem beyond {i : Nat} {v : P2} (hv : v ∈ ps) (h0 : turn (crn H i) (crn H (i + 1)) v = 0) : ¬ ((u (crn H i) < u (crn H (i + 1)) ∧ u (crn H (i + 1)) < u v) ∨ (u v < u (crn H (i + 1)) ∧ u (crn H (i + 1)) < u (crn H i))) := by
  intro h
  have t1 := tu_all K hok i
  have b1 : 0 ≤ turn (crn H (i + 1)) (crn H (i + 2)) v := K.left (i + 1) v hv
  have e0 := four0 (crn H i) (crn H (i + 1)) (crn H (i + 2)) v
  have e1 := four1 1 (crn H i) (crn H (i + 1)) (crn H (i + 2)) v
  rw [h0] at e0 e1
  have e2 : turn (crn H (i + 1)) (crn H (i + 2)) v * (u (crn H i) - u (crn H (i + 1))) + turn (crn H i) (crn H (i + 1)) (crn H (i + 2)) * (u (crn H (i + 1)) - u v) = 0 := by unfold u; grind
  rcases h with ⟨k1, k2⟩ | ⟨k1, k2⟩
  · have m1 := nn b1 (show 0 ≤ u (crn H (i + 1)) - u (crn H i) by omega)
    have m2 := Int.mul_pos t1 (show 0 < u v - u (crn H (i + 1)) by omega)
    have e3 : turn (crn H (i + 1)) (crn H (i + 2)) v * (u (crn H (i + 1)) - u (crn H i)) + turn (crn H i) (crn H (i + 1)) (crn H (i + 2)) * (u v - u (crn H (i + 1))) = 0 := by grind
    omega
  · have m1 := nn b1 (show 0 ≤ u (crn H i) - u (crn H (i + 1)) by omega)
    have m2 := Int.mul_pos t1 (show 0 < u (crn H (i + 1)) - u v by omega)
    omega
theorem before {i : Nat} {v : P2} (hv : v ∈ ps) (h0 : turn (crn H i) (crn H (i + 1)) v = 0) : ¬ ((u v < u (crn H i) ∧ u (crn H i) < u (crn H (i + 1))) ∨ (u (crn H (i + 1)) < u (crn H i) ∧ u (crn H i) < u v)) := by
  intro h
  obtain ⟨k, hk1, hk2⟩ := pre K hok i
  have t1 := tu_all K hok k
  have b1 := K.left k v hv
  rw [hk1, hk2] at t1
  rw [hk1] at b1
  have e0 := four0 (crn H k) (crn H i) (crn H (i + 1)) v
  have e1 := four1 1 (crn H k) (crn H i) (crn H (i + 1)) v
  rw [h0] at e0 e1
  have e2 : turn (crn H k) (crn H i) v * (u (crn H (i + 1)) - u (crn H i)) + turn (crn H k) (crn H i) (crn H (i + 1)) * (u (crn H i) - u v) = 0 := by unfold u; grind
  rcases h with ⟨k1, k2⟩ | ⟨k1, k2⟩
  · have m1 := nn b1 (show 0 ≤ u (crn H (i + 1)) - u (crn H i) by omega)
    have m2 := Int.mul_pos t1 (show 0 < u (crn H i) - u v by omega)
    omega
  · have m1 := nn b1 (show 0 ≤ u (crn H i) - u (crn H (i + 1)) by omega)
    have m2 := Int.mul_pos t1 (show 0 < u v - u (crn H i) by omega)
    have e3 : turn (crn H k) (crn H i) v * (u (crn H i) - u (crn H (i + 1))) + turn (crn H k) (crn H i) (crn H (i + 1)) * (u v - u (crn H i)) = 0 := by grind
    omega
/-- The other corners are strictly on the left of a side. -/
theorem strict (i j : Nat) (h1 : crn H j ≠ crn H i) (h2 : crn H j ≠ crn H (i + 1)) : 0 < turn (crn H i) (crn H (i + 1)) (crn H j) := by
  false_or_by_contra
  have hl := K.left i _ (K.mem j)
  have h0 : turn (crn H i) (crn H (i + 1)) (crn H j) = 0 := by omega
  have n1 : u (crn H j) ≠ u (crn H i) := fun h => h1 (u_eq K hok h)
  have n2 : u (crn H j) ≠ u (crn H (i + 1)) := fun h => h2 (u_eq K hok h)
  have n3 := u_side K hok i
  have b1 := beyond K hok (K.mem j) h0
  have b2 := before K hok (K.mem j) h0
  obtain ⟨k, hk1, hk2⟩ := pre K hok j
  have t1 := tu_all K hok k
  have c1 := K.left k _ (K.mem i)
  have c2 := K.left k _ (K.mem (i + 1))
  have c3 := K.left j _ (K.mem i)
  have c4 := K.left j _ (K.mem (i + 1))
  have c5 := K.left i _ (K.mem k)
  have c6 := K.left i _ (K.mem (j + 1))
  rw [hk1, hk2] at t1
  rw [hk1] at c1 c2
  generalize crn H (i + 1) = b at *
  generalize crn H i = a at *
  generalize crn H (j + 1) = d at *
  generalize crn H j = v at *
  generalize crn H k = c at *
  have z : ∀ x y : Int, 0 ≤ x → 0 ≤ y → x * (u a - u v) = y * (u b - u v) → x = 0 ∧ y = 0 := by
    intro x y hx hy he
    have : (u a < u v ∧ u v < u b) ∨ (u b < u v ∧ u v < u a) := by omega
    rcases this with ⟨k1, k2⟩ | ⟨k1, k2⟩
    · have m1 := nn hx (show 0 ≤ u v - u a by omega)
      have m2 := nn hy (show 0 ≤ u b - u v by omega)
      have e3 : x * (u v - u a) + y * (u b - u v) = 0 := by grind
      exact ⟨by have := mz (a := x) (k := u v - u a) (by omega) (by omega); omega, by have := mz (a := y) (k := u b - u v) (by omega) (by omega); omega⟩
    · have m1 := nn hx (show 0 ≤ u a - u v by omega)
      have m2 := nn hy (show 0 ≤ u v - u b by omega)
      have e3 : x * (u a - u v) + y * (u v - u b) = 0 := by grind
      exact ⟨by have := mz (a := x) (k := u a - u v) (by omega) (by omega); omega, by have := mz (a := y) (k := u v - u b) (by omega) (by omega); omega⟩
  have k1 : turn c v a = 0 := by
    have e1 : turn c v b * (u a - u v) = turn c v a * (u b - u v) := by unfold u fv; unfold turn at h0 ⊢; grind
    exact (z _ _ c2 c1 e1).2
  have k2 : turn v d a = 0 := by
    have e1 : turn v d b * (u a - u v) = turn v d a * (u b - u v) := by unfold u fv; unfold turn at h0 ⊢; grind
    exact (z _ _ c4 c3 e1).2
  have e0 := four0 c v d a
  have e1 := four1 1 c v d a
  rw [k1, k2] at e0 e1
  have e2 : turn c v d * (u v - u a) = 0 := by unfold u; grind
  rcases Int.mul_eq_zero.1 e2 with h | h <;> omega
end
end Hu
end Go.Proofs.Ytgmhelclofnpkaa
namespace Go.Proofs.Ytgmhelclofnpkaa
namespace Hu
open Pl
theorem len_le : ∀ {l m : List P2}, (∀ i j, i < j → j < l.length → at' l i ≠ at' l j) → (∀ x ∈ l, x ∈ m) → l.length ≤ m.length
  | [], m, _, _ => Nat.zero_le _
  | a :: l, m, hd, hs => by
    have ha := hs a (List.mem_cons_self ..)
    have ih := len_le (l := l) (m := m.erase a) (fun i j hij hj => by
      have := hd (i + 1) (j + 1) (by omega) (by simp; omega)
      simpa [at'] using this) (fun x hx => by
      have hne : x ≠ a := by
        rintro rfl
        obtain ⟨j, hj, e⟩ := List.getElem_of_mem hx
        have := hd 0 (j + 1) (by omega) (by simp; omega)
        apply this
        simp [at', List.getD_eq_getElem?_getD, hj, e]
      exact (List.mem_erase_of_ne hne).2 (hs x (List.mem_cons_of_mem _ hx)))
    rw [List.length_erase_of_mem ha] at ih
    have : 0 < m.length := List.length_pos_of_mem ha
    simp; omega
theorem dup_no {l : List P2} (h : ∀ i j, i < j → j < l.length → at' l i ≠ at' l j) : dup l = false := by
  unfold dup
  rw [List.any_eq_false]
  intro j hj
  rw [List.mem_range] at hj
  intro hc
  rw [List.contains_iff_mem] at hc
  obtain ⟨i, hi, e⟩ := List.getElem_of_mem hc
  rw [List.length_take] at hi
  refine h i j (by omega) hj ?_
  rw [List.getElem_take] at e
  rw [← e]
  unfold at'
  rw [List.getD_eq_getElem?_getD, List.getElem?_eq_getElem (by omega)]; rfl
theorem has_no {a b p : P2} (h : 0 < turn a b p) : has a b p = false := by
  unfold has
  rw [decide_eq_false (by omega), Bool.false_and]
theorem apart_no {a b p q : P2} (h : 0 < turn a b p) (k : 0 < turn a b q) : apart a b p q = false := by
  unfold apart
  rw [decide_eq_false (p := turn a b p < 0) (by omega), decide_eq_false (p := turn a b q < 0) (by omega), Bool.false_and, Bool.and_false]; rfl
section
variable {ps H : List P2} {e : Nat} (K : HullOf ps H e) (hok : ok ps = true)
include K hok
theorem n3 : 3 ≤ H.length := by
  have h1 := K.e0
  have h2 := K.eN
  false_or_by_contra
  have hn : H.length = 2 := by omega
  have t := tu_all K hok 0
  have e1 := crn_per H 0
  rw [hn] at e1
  rw [e1, Nat.zero_add, turn_aba] at t
  omega
theorem nodup_at {i j : Nat} (hij : i < j) (hj : j < H.length) : at' H i ≠ at' H j := by
  have := nodup K hok hij hj
  rwa [crn_lt (by omega), crn_lt hj] at this
theorem mem_H {x : P2} (hx : x ∈ H) : x ∈ ps := by
  have _h := hok
  obtain ⟨i, hi, e⟩ := List.getElem_of_mem hx
  have := K.mem i
  rw [crn_lt hi] at this
  unfold at' at this
  rw [List.getD_eq_getElem?_getD, List.getElem?_eq_getElem hi] at this
  simpa [e] using this
theorem len_ps : H.length ≤ ps.length := len_le (fun _ _ h k => nodup_at K hok h k) (fun _ hx => mem_H K hok hx)
theorem crn_ne {i j : Nat} (h : i % H.length ≠ j % H.length) : crn H i ≠ crn H j := by
  have hn := n0 K hok
  have e1 := crn_m K hok i 0
  have e2 := crn_m K hok j 0
  simp only [Nat.add_zero] at e1 e2
  rw [← e1, ← e2]
  rcases Nat.lt_or_gt_of_ne h with c | c
  · exact nodup K hok c (Nat.mod_lt _ hn)
  · exact (nodup K hok c (Nat.mod_lt _ hn)).symm
theorem hull_ok : ok H = true := by
  obtain ⟨h1, h2, _, _⟩ := ok_parts hok
  have hl := len_ps K hok
  have h3 := n3 K hok
  have hn := n0 K hok
  unfold ok
  rw [Bool.and_eq_true, Bool.and_eq_true, Bool.and_eq_true]
  refine ⟨⟨by rw [btw_iff]; omega, List.all_eq_true.2 fun x hx => List.all_eq_true.1 h2 x (mem_H K hok hx)⟩, ?_, ?_⟩
  · rw [dup_no (fun _ _ h k => nodup_at K hok h k)]; rfl
  · rw [simple_iff]
    intro i k hi hk
    have e0 : at' H i = crn H i := (crn_lt hi).symm
    have e1 : nx H i = crn H (i + 1) := (crn_nx hi).symm
    have f0 : at' H k = crn H k := (crn_lt hk).symm
    have f1 : nx H k = crn H (k + 1) := (crn_nx hk).symm
    unfold bad
    rw [e0, e1, f0, f1]
    split
    · rfl
    · rename_i hne
      split
      · rename_i hk1
        have g0 : crn H k = crn H (i + 1) := by rw [hk1]; exact crn_m K hok (i + 1) 0
        have g1 : crn H (k + 1) = crn H (i + 2) := by rw [hk1]; exact crn_m K hok (i + 1) 1
        have t := tu_all K hok i
        rw [g0, g1, has_no t, has_no (by rw [turn_cyc]; exact t)]; rfl
      · rename_i hk1
        split
        · rfl
        · rename_i hi1
          have mi := Nat.mod_eq_of_lt hi
          have mk := Nat.mod_eq_of_lt hk
          have q1 : crn H k ≠ crn H i := crn_ne K hok (by omega)
          have q2 : crn H k ≠ crn H (i + 1) := crn_ne K hok (by omega)
          have q3 : crn H (k + 1) ≠ crn H i := crn_ne K hok (by omega)
          have q4 : crn H (k + 1) ≠ crn H (i + 1) := crn_ne K hok (fun h => by
            have := Nat.add_mod_right
            rcases Nat.lt_or_ge (i + 1) H.length with c1 | c1 <;> rcases Nat.lt_or_ge (k + 1) H.length with c2 | c2
            · rw [Nat.mod_eq_of_lt c1, Nat.mod_eq_of_lt c2] at h; omega
            · rw [Nat.mod_eq_of_lt c1, show k + 1 = H.length by omega, Nat.mod_self] at h; omega
            · rw [Nat.mod_eq_of_lt c2, show i + 1 = H.length by omega, Nat.mod_self] at h; omega
            · omega)
          have s1 := strict K hok i k q1 q2
          have s2 := strict K hok i (k + 1) q3 q4
          have s3 := strict K hok k i q1.symm q3.symm
          have s4 := strict K hok k (i + 1) q2.symm q4.symm
          unfold meets
          rw [has_no s1, has_no s2, has_no s3, has_no s4, apart_no s1 s2]; rfl
end
end Hu
end Go.Proofs.Ytgmhelclofnpkaa
namespace Go.Proofs.Ytgmhelclofnpkaa
namespace Hu
open Pl
theorem ch_idx {s : Int} {D : P2 → Prop} : ∀ {S : List P2}, Ch s D S → ∀ k, k + 1 < S.length → fv s (at' S (k + 1)) < fv s (at' S k) ∧ (∀ d, D d → 0 ≤ turn (at' S (k + 1)) (at' S k) d) ∧ (k + 2 < S.length → 0 < turn (at' S (k + 2)) (at' S (k + 1)) (at' S k))
  | [], _, k, hk => by simp at hk
  | [_], _, k, hk => by simp at hk
  | b :: a :: r, h, 0, _ => ⟨h.1, h.2.1, fun h2 => by
      cases r with
      | nil => simp at h2
      | cons z r => exact h.2.2.1 z rfl⟩
  | b :: a :: r, h, k + 1, hk => by
    have h' := ch_idx (S := a :: r) h.2.2.2 k (by simpa using hk)
    exact ⟨h'.1, h'.2.1, fun h2 => h'.2.2 (by simp at h2 ⊢; omega)⟩
theorem at_rev {S : List P2} {k : Nat} (h : k < S.length) : at' S.reverse k = at' S (S.length - 1 - k) := by
  unfold at'
  rw [List.getD_eq_getElem?_getD, List.getD_eq_getElem?_getD, List.getElem?_reverse h]
theorem at_app1 {A B : List P2} {k : Nat} (h : k < A.length) : at' (A ++ B) k = at' A k := by
  unfold at'
  rw [List.getD_eq_getElem?_getD, List.getD_eq_getElem?_getD, List.getElem?_append_left h]
theorem at_app2 {A B : List P2} {k : Nat} (h : A.length ≤ k) : at' (A ++ B) k = at' B (k - A.length) := by
  unfold at'
  rw [List.getD_eq_getElem?_getD, List.getD_eq_getElem?_getD, List.getElem?_append_right h]
theorem at_tail (S : List P2) (k : Nat) : at' S.tail k = at' S (k + 1) := by
  cases S <;> simp [at']
theorem at_head {S : List P2} {x : P2} (h : S.head? = some x) : at' S 0 = x := by
  cases S <;> simp_all [at']
theorem at_last {S : List P2} {x : P2} (h : S.getLast? = some x) : at' S (S.length - 1) = x := by
  rw [List.getLast?_eq_getElem?] at h
  unfold at'
  rw [List.getD_eq_getElem?_getD, h]; rfl
theorem fv_neg (p : P2) : fv (-1) p = - u p := by unfold u fv; omega
/-- The hull of points in their order. -/
def lower (L : List P2) : List P2 := L.tail.foldl push [L.headD (0, 0)]
def upper (L : List P2) : List P2 := L.dropLast.reverse.foldl push [L.getLastD (0, 0)]
def hullL (L : List P2) : List P2 := (lower L).tail.reverse ++ (upper L).tail.reverse
theorem hull_of {ps L : List P2} (hok : ok ps = true) (hm : ∀ x, x ∈ L ↔ x ∈ ps) (hpw : L.Pairwise (fun x y => u x < u y)) (h2 : 2 ≤ L.length) : HullOf ps (hullL L) ((lower L).length - 1) := by
  have hP : ∀ x, x ∈ L → isP x = true := fun x hx => List.all_eq_true.1 (ok_parts hok).2.1 x ((hm x).1 hx)
  have hinj : ∀ x y, x ∈ L → y ∈ L → u x = u y → x = y := fun x y hx hy h => u_inj (hP x hx) (hP y hy) h
  obtain ⟨q, l, rfl⟩ : ∃ q l, L = q :: l := by cases L with | nil => simp at h2 | cons q l => exact ⟨q, l, rfl⟩
  have hl0 : l ≠ [] := by rintro rfl; simp at h2
  obtain ⟨A, m, hAm⟩ : ∃ A m, q :: l = A ++ [m] := ⟨(q :: l).dropLast, (q :: l).getLast (by simp), (List.dropLast_concat_getLast (by simp)).symm⟩
  have hA0 : A ≠ [] := by
    rintro rfl
    simp at hAm
    exact hl0 hAm.2
  obtain ⟨A', hA'⟩ : ∃ A', A = q :: A' := by
    cases A with
    | nil => exact absurd rfl hA0
    | cons a A' => exact ⟨A', by simp at hAm; rw [hAm.1]⟩
  have hq1 := List.pairwise_cons.1 hpw
  have hpw2 := hpw
  rw [hAm, List.pairwise_append] at hpw2
  obtain ⟨p1, _, p3⟩ := hpw2
  have hAL : ∀ x ∈ A, x ∈ q :: l := fun x hx => by rw [hAm]; exact List.mem_append_left _ hx
  have hmL : m ∈ q :: l := by rw [hAm]; simp
  have c1 := chain_ok (s := 1) (q := q) l (fun d => d = q) q [] (fun x y hx hy h => hinj x y (by simpa using hx) (by simpa using hy) h) (fun d hd x hx => by subst hd; exact hq1.1 x hx) hq1.2 (fun d hd => by subst hd; exact Int.le_refl _) trivial (by simp) (fun d hd => by subst hd; exact Int.le_refl _) rfl rfl
  have c2 := chain_ok (s := -1) (q := m) A.reverse (fun d => d = m) m [] (fun x y hx hy h => hinj x y (by rcases hx with rfl | hx; exact hmL; exact hAL x (by simpa using hx)) (by rcases hy with rfl | hy; exact hmL; exact hAL y (by simpa using hy)) (by rw [fv_neg, fv_neg] at h; omega)) (fun d hd x hx => by
      subst hd
      have := p3 x (by simpa using hx) d (by simp)
      rw [fv_neg, fv_neg]; omega) (by
      rw [List.pairwise_reverse]
      exact p1.imp fun h => by rw [fv_neg, fv_neg]; omega) (fun d hd => by subst hd; exact Int.le_refl _) trivial (by simp) (fun d hd => by subst hd; exact Int.le_refl _) rfl rfl
  have eS1 : lower (q :: l) = l.foldl push [q] := rfl
  have eS2 : upper (q :: l) = A.reverse.foldl push [m] := by
    unfold upper
    rw [hAm, List.dropLast_concat]
    congr 1
    simp
  unfold hullL
  rw [eS1, eS2]
  generalize l.foldl push [q] = S1 at *
  generalize A.reverse.foldl push [m] = S2 at *
  obtain ⟨g1, g2, g3, g4⟩ := c1
  obtain ⟨k1, k2, k3, k4⟩ := c2
  have hm1 : ∀ h, (q :: l).getLast h = m := by rw [hAm]; intro h; simp
  have hq2 : ∀ h, (m :: A.reverse).getLast h = q := by
    subst hA'
    rw [List.reverse_cons, ← List.cons_append]; intro h; exact List.getLast_concat ..
  rw [hm1] at g4
  rw [hq2] at k4
  have uqm : u q < u m := by
    have := p3 q (by rw [hA']; simp) m (by simp); exact this
  have t1 := at_head g4
  have t2 := at_last g3
  have t3 := at_head k4
  have t4 := at_last k3
  have n1 : 2 ≤ S1.length := by
    false_or_by_contra
    have : S1.length - 1 = 0 := by omega
    rw [this, t1] at t2
    subst t2; omega
  have n2 : 2 ≤ S2.length := by
    false_or_by_contra
    have : S2.length - 1 = 0 := by omega
    rw [this, t3] at t4
    subst t4; omega
  obtain ⟨e, he⟩ : ∃ e, S1.length = e + 1 := ⟨S1.length - 1, by omega⟩
  obtain ⟨f, hf⟩ : ∃ f, S2.length = f + 1 := ⟨S2.length - 1, by omega⟩
  rw [he, Nat.add_sub_cancel] at t2 ⊢
  rw [hf, Nat.add_sub_cancel] at t4
  have hN : (S1.tail.reverse ++ S2.tail.reverse).length = e + f := by simp [he, hf]
  obtain ⟨H, hH⟩ : ∃ H, S1.tail.reverse ++ S2.tail.reverse = H := ⟨_, rfl⟩
  have cl0 : ∀ i, i < e → at' H i = at' S1 (e - i) := fun i hi => by
    rw [← hH, at_app1 (by simp [he]; omega), at_rev (by simp [he]; omega), at_tail]
    congr 1
    simp [he]; omega
  have cl1 : ∀ j, j < f → at' H (e + j) = at' S2 (f - j) := fun j hj => by
    rw [← hH, at_app2 (by simp [he]), at_rev (by simp [he, hf]; omega), at_tail]
    congr 1
    simp [he, hf]; omega
  rw [hH] at hN ⊢
  have lo : ∀ i, i ≤ e → crn H i = at' S1 (e - i) := fun i hi => by
    rw [crn_lt (by omega)]
    by_cases h : i < e
    · exact cl0 i h
    · obtain rfl : i = e := by omega
      have := cl1 0 (by omega)
      rw [Nat.add_zero, Nat.sub_zero, t4] at this
      rw [this, Nat.sub_self, t1]
  have up' : ∀ j, j ≤ f → crn H (e + j) = at' S2 (f - j) := fun j hj => by
    by_cases h : j < f
    · rw [crn_lt (by omega)]; exact cl1 j h
    · obtain rfl : j = f := by omega
      have := crn_per H 0
      rw [Nat.zero_add, hN] at this
      rw [this, lo 0 (by omega), Nat.sub_zero, t2, Nat.sub_self, t3]
  have hD1 : ∀ d, d ∈ ps → d = q ∨ d ∈ l := fun d hd => by simpa using (hm d).2 hd
  have hD2 : ∀ d, d ∈ ps → d = m ∨ d ∈ A.reverse := fun d hd => by
    have := (hm d).2 hd
    rw [hAm] at this
    simp at this ⊢
    exact this.symm
  have mem1 : ∀ k, k ≤ e → at' S1 k ∈ ps := fun k hk => (hm _).1 (by simpa using g2 _ (at_mem (by omega)))
  have mem2 : ∀ k, k ≤ f → at' S2 k ∈ ps := fun k hk => (hm _).1 (by
    rcases k2 _ (at_mem (show k < S2.length by omega)) with h | h
    · rw [h]; exact hmL
    · exact hAL _ (by simpa using h))
  have hlo : ∀ i, i < e → u (crn H i) < u (crn H (i + 1)) ∧ (∀ d ∈ ps, 0 ≤ turn (crn H i) (crn H (i + 1)) d) ∧ (i + 1 < e → 0 < turn (crn H i) (crn H (i + 1)) (crn H (i + 2))) := fun i hi => by
    have := ch_idx g1 (e - (i + 1)) (by omega)
    rw [show e - (i + 1) + 1 = e - i by omega] at this
    rw [lo i (by omega), lo (i + 1) (by omega)]
    refine ⟨this.1, fun d hd => this.2.1 d (hD1 d hd), fun h => ?_⟩
    rw [lo (i + 2) (by omega)]
    have := (ch_idx g1 (e - (i + 2)) (by omega)).2.2 (by omega)
    rw [show e - (i + 2) + 2 = e - i by omega, show e - (i + 2) + 1 = e - (i + 1) by omega] at this
    exact this
  have hup : ∀ j, j < f → u (crn H (e + j + 1)) < u (crn H (e + j)) ∧ (∀ d ∈ ps, 0 ≤ turn (crn H (e + j)) (crn H (e + j + 1)) d) ∧ (j + 1 < f → 0 < turn (crn H (e + j)) (crn H (e + j + 1)) (crn H (e + j + 2))) := fun j hj => by
    have := ch_idx k1 (f - (j + 1)) (by omega)
    rw [show f - (j + 1) + 1 = f - j by omega] at this
    rw [up' j (by omega), show e + j + 1 = e + (j + 1) by omega, up' (j + 1) (by omega)]
    rw [fv_neg, fv_neg] at this
    refine ⟨by omega, fun d hd => this.2.1 d (hD2 d hd), fun h => ?_⟩
    rw [show e + j + 2 = e + (j + 2) by omega, up' (j + 2) (by omega)]
    have := (ch_idx k1 (f - (j + 2)) (by omega)).2.2 (by omega)
    rw [show f - (j + 2) + 2 = f - j by omega, show f - (j + 2) + 1 = f - (j + 1) by omega] at this
    exact this
  have hmod : ∀ i, crn H (i % H.length) = crn H i ∧ crn H (i % H.length + 1) = crn H (i + 1) := fun i => ⟨crn_succ H i 0, crn_succ H i 1⟩
  refine ⟨by omega, by omega, fun i => ?_, fun i d hd => ?_, fun i hi => (hlo i hi).1, fun i h1 h2 => ?_, fun i h1 h2 h3 => ?_⟩
  · rw [← (hmod i).1]
    have hi := Nat.mod_lt i (show 0 < H.length by omega)
    by_cases h : i % H.length ≤ e
    · rw [lo _ h]; exact mem1 _ (by omega)
    · obtain ⟨j, hj⟩ : ∃ j, i % H.length = e + j := ⟨i % H.length - e, by omega⟩
      rw [hj, up' j (by omega)]; exact mem2 _ (by omega)
  · rw [← (hmod i).1, ← (hmod i).2]
    have hi := Nat.mod_lt i (show 0 < H.length by omega)
    by_cases h : i % H.length < e
    · exact (hlo _ h).2.1 d hd
    · obtain ⟨j, hj⟩ : ∃ j, i % H.length = e + j := ⟨i % H.length - e, by omega⟩
      rw [hj]; exact (hup j (by omega)).2.1 d hd
  · obtain ⟨j, rfl⟩ : ∃ j, i = e + j := ⟨i - e, by omega⟩
    exact (hup j (by omega)).1
  · by_cases h : i < e
    · exact (hlo i h).2.2 (by omega)
    · obtain ⟨j, rfl⟩ : ∃ j, i = e + j := ⟨i - e, by omega⟩
      exact (hup j (by omega)).2.2 (by omega)
end Hu
end Go.Proofs.Ytgmhelclofnpkaa
namespace Go.Proofs.Ytgmhelclofnpkaa
namespace Hu
open Pl
theorem scale {n : Nat} {x y q : Nat → Int} {D c E : Int} (G : Geo.Gen n x y q D) (hc : 0 < c) (hE : E = c * D) : Geo.Gen n x y (fun i => c * q i) E := by
  subst hE
  exact ⟨G.n3, G.px, G.py, fun i => by rw [G.pq], G.dy, Int.mul_pos hc G.D0, fun i => by rw [Int.mul_assoc, G.hq], G.nb1, G.nb2, G.far⟩
theorem lin_ge {c b s u t : Int} (h1 : 0 ≤ c + s * b) (h2 : 0 ≤ c + u * b) (hs : s ≤ t) (hu : t ≤ u) : 0 ≤ c + t * b := by
  rcases Int.le_total 0 b with hb | hb
  · have := Geo.lin_out (c := c) hb hs; omega
  · have := Geo.lin_out (c := -c) (b := -b) (s := u) (t := t) (by omega) hu
    simp only [Int.mul_neg] at this
    omega
/-- Where a line is in the row of a point, and the point. -/
theorem Z_pt {n : Nat} {x y q : Nat → Int} {D : Int} (G : Geo.Gen n x y q D) (i : Nat) (px py : Int) : Geo.Z x y q D i (2 * py) - 2 * D * px = 2 * (q i * ((x (i + 1) - x i) * (py - y i) - (y (i + 1) - y i) * (px - x i))) := by
  have h := G.hq i
  unfold Geo.Z
  rw [← h]
  grind
theorem q_up {n : Nat} {x y q : Nat → Int} {D : Int} (G : Geo.Gen n x y q D) {i : Nat} (h : y i < y (i + 1)) : 0 < q i := by
  have := G.hq i
  exact mp (k := y (i + 1) - y i) (by omega) (by rw [this]; exact G.D0)
theorem q_dn {n : Nat} {x y q : Nat → Int} {D : Int} (G : Geo.Gen n x y q D) {i : Nat} (h : y (i + 1) < y i) : q i < 0 := by
  have h1 := G.hq i
  have := mp (a := - q i) (k := y i - y (i + 1)) (by omega) (by
    rw [show - q i * (y i - y (i + 1)) = q i * (y (i + 1) - y i) by grind, h1]; exact G.D0)
  omega
/-- Both ends of a side lie on one side of a line: so does what is between. -/
theorem row_le {n m : Nat} {x y q X Y Q : Nat → Int} {D : Int} (G : Geo.Gen n x y q D) (F : Geo.Gen m X Y Q D) {i a : Nat} {k : Int} (c : Geo.cov y i k)
    (h1 : 2 * D * x i ≤ Geo.Z X Y Q D a (2 * y i)) (h2 : 2 * D * x (i + 1) ≤ Geo.Z X Y Q D a (2 * y (i + 1))) : Geo.Z x y q D i (2 * k + 1) ≤ Geo.Z X Y Q D a (2 * k + 1) := by
  have e1 := Geo.Z_own G i
  have e2 := Geo.Z_nxt G i
  have l1 := Geo.Z_lin G i (2 * y i)
  have l2 := Geo.Z_lin G i (2 * y (i + 1))
  have l3 := Geo.Z_lin G i (2 * k + 1)
  have r1 := Geo.Z_lin F a (2 * y i)
  have r2 := Geo.Z_lin F a (2 * y (i + 1))
  have r3 := Geo.Z_lin F a (2 * k + 1)
  have k1 : 0 ≤ (Geo.Z X Y Q D a 0 - Geo.Z x y q D i 0) + (2 * y i) * (Q a * (X (a + 1) - X a) - q i * (x (i + 1) - x i)) := by rw [Int.mul_sub]; omega
  have k2 : 0 ≤ (Geo.Z X Y Q D a 0 - Geo.Z x y q D i 0) + (2 * y (i + 1)) * (Q a * (X (a + 1) - X a) - q i * (x (i + 1) - x i)) := by rw [Int.mul_sub]; omega
  have k3 : 0 ≤ (Geo.Z X Y Q D a 0 - Geo.Z x y q D i 0) + (2 * k + 1) * (Q a * (X (a + 1) - X a) - q i * (x (i + 1) - x i)) := by
    unfold Geo.cov at c
    rcases c with c | c
    · exact lin_ge k1 k2 (by omega) (by omega)
    · exact lin_ge k2 k1 (by omega) (by omega)
  rw [Int.mul_sub] at k3
  omega
theorem row_ge {n m : Nat} {x y q X Y Q : Nat → Int} {D : Int} (G : Geo.Gen n x y q D) (F : Geo.Gen m X Y Q D) {i a : Nat} {k : Int} (c : Geo.cov y i k)
    (h1 : Geo.Z X Y Q D a (2 * y i) ≤ 2 * D * x i) (h2 : Geo.Z X Y Q D a (2 * y (i + 1)) ≤ 2 * D * x (i + 1)) : Geo.Z X Y Q D a (2 * k + 1) ≤ Geo.Z x y q D i (2 * k + 1) := by
  have e1 := Geo.Z_own G i
  have e2 := Geo.Z_nxt G i
  have l1 := Geo.Z_lin G i (2 * y i)
  have l2 := Geo.Z_lin G i (2 * y (i + 1))
  have l3 := Geo.Z_lin G i (2 * k + 1)
  have r1 := Geo.Z_lin F a (2 * y i)
  have r2 := Geo.Z_lin F a (2 * y (i + 1))
  have r3 := Geo.Z_lin F a (2 * k + 1)
  have k1 : 0 ≤ (Geo.Z x y q D i 0 - Geo.Z X Y Q D a 0) + (2 * y i) * (q i * (x (i + 1) - x i) - Q a * (X (a + 1) - X a)) := by rw [Int.mul_sub]; omega
  have k2 : 0 ≤ (Geo.Z x y q D i 0 - Geo.Z X Y Q D a 0) + (2 * y (i + 1)) * (q i * (x (i + 1) - x i) - Q a * (X (a + 1) - X a)) := by rw [Int.mul_sub]; omega
  have k3 : 0 ≤ (Geo.Z x y q D i 0 - Geo.Z X Y Q D a 0) + (2 * k + 1) * (q i * (x (i + 1) - x i) - Q a * (X (a + 1) - X a)) := by
    unfold Geo.cov at c
    rcases c with c | c
    · exact lin_ge k1 k2 (by omega) (by omega)
    · exact lin_ge k2 k1 (by omega) (by omega)
  rw [Int.mul_sub] at k3
  omega
/-- From one height to another one a row is passed. -/
theorem pass {f : Nat → Int} {k : Int} : ∀ (m : Nat), f 0 ≤ k → k < f m → ∃ a, a < m ∧ f a ≤ k ∧ k < f (a + 1)
  | 0, h, h' => by omega
  | m + 1, h, h' => by
    by_cases c : k < f m
    · obtain ⟨a, h1, h2⟩ := pass m h c
      exact ⟨a, by omega, h2⟩
    · exact ⟨m, by omega, by omega, h'⟩
theorem S_two {n a b : Nat} (ha : a < n) (hb : b < n) (hab : a ≠ b) {g : Nat → Int} (h : ∀ i, i < n → i ≠ a → i ≠ b → g i = 0) : Geo.S n g = g a + g b := by
  have h1 := Geo.S_one (f := g) (g := fun i => if i = b then 0 else g i) (m := b) n hb (fun i _ hne => by rw [if_neg hne])
  have h2 := Geo.S_one (f := fun i => if i = b then 0 else g i) (g := fun _ => 0) (m := a) n ha (fun i hi hne => by
    by_cases e : i = b
    · rw [if_pos e]
    · rw [if_neg e]; exact h i hi hne e)
  rw [h1, h2, Geo.S_zero]
  simp only [if_true, if_neg hab]
  omega
theorem gy_u (ps : List P2) (i : Nat) : gy ps i = u (crn ps i) := by unfold gy u fv; omega
theorem tn_pt (ps : List P2) (i : Nat) (p : P2) : (gx ps (i + 1) - gx ps i) * (u p - gy ps i) - (gy ps (i + 1) - gy ps i) * (p.1 - gx ps i) = 1000 * turn (crn ps i) (crn ps (i + 1)) p := by
  unfold gx gy turn u fv
  grind
section
variable {ps H : List P2} {e : Nat} (K : HullOf ps H e) (hok : ok ps = true)
include K hok
theorem bigs : 0 < bigD ps ∧ 0 < bigD H := ⟨(gen_of hok).D0, (gen_of (hull_ok K hok)).D0⟩
theorem genP : Geo.Gen ps.length (gx ps) (gy ps) (fun i => bigD H * gq ps i) (bigD H * bigD ps) := scale (gen_of hok) (bigs K hok).2 rfl
theorem genH : Geo.Gen H.length (gx H) (gy H) (fun i => bigD ps * gq H i) (bigD H * bigD ps) := scale (gen_of (hull_ok K hok)) (bigs K hok).1 (Int.mul_comm _ _)
abbrev ZP (ps H : List P2) (i : Nat) (t : Int) : Int := Geo.Z (gx ps) (gy ps) (fun i => bigD H * gq ps i) (bigD H * bigD ps) i t
abbrev ZH (ps H : List P2) (i : Nat) (t : Int) : Int := Geo.Z (gx H) (gy H) (fun i => bigD ps * gq H i) (bigD H * bigD ps) i t
abbrev VP (ps H : List P2) (k : Int) : Int := Geo.V ps.length (gx ps) (gy ps) (fun i => bigD H * gq ps i) (bigD H * bigD ps) k
abbrev VH (ps H : List P2) (k : Int) : Int := Geo.V H.length (gx H) (gy H) (fun i => bigD ps * gq H i) (bigD H * bigD ps) k
/-- A point is on the left of what goes up, on the right of what goes down. -/
theorem pt_up {a : Nat} {p : P2} (hp : p ∈ ps) (ha : gy H a < gy H (a + 1)) : 2 * (bigD H * bigD ps) * p.1 ≤ ZH ps H a (2 * u p) := by
  have h := Z_pt (genH K hok) a p.1 (u p)
  rw [tn_pt] at h
  have := nn (Int.le_of_lt (q_up (genH K hok) ha)) (nn (show (0 : Int) ≤ 1000 by omega) (K.left a p hp))
  show _ ≤ Geo.Z _ _ _ _ _ _
  omega
theorem pt_dn {b : Nat} {p : P2} (hp : p ∈ ps) (hb : gy H (b + 1) < gy H b) : ZH ps H b (2 * u p) ≤ 2 * (bigD H * bigD ps) * p.1 := by
  have h := Z_pt (genH K hok) b p.1 (u p)
  rw [tn_pt] at h
  have hq := q_dn (genH K hok) hb
  have := nn (show 0 ≤ - (bigD ps * gq H b) by omega) (nn (show (0 : Int) ≤ 1000 by omega) (K.left b p hp))
  rw [Int.neg_mul] at this
  show Geo.Z _ _ _ _ _ _ ≤ _
  omega
theorem memP (i : Nat) : crn ps i ∈ ps := by have _k := K; exact at_mem (Nat.mod_lt _ (by have := (ok_parts hok).1; omega))
theorem p_in {i a b : Nat} {k : Int} (c : Geo.cov (gy ps) i k) (ha : gy H a < gy H (a + 1)) (hb : gy H (b + 1) < gy H b) : ZH ps H b (2 * k + 1) ≤ ZP ps H i (2 * k + 1) ∧ ZP ps H i (2 * k + 1) ≤ ZH ps H a (2 * k + 1) := by
  refine ⟨row_ge (genP K hok) (genH K hok) c ?_ ?_, row_le (genP K hok) (genH K hok) c ?_ ?_⟩
  · rw [gy_u]; exact pt_dn K hok (memP K hok i) hb
  · rw [gy_u]; exact pt_dn K hok (memP K hok (i + 1)) hb
  · rw [gy_u]; exact pt_up K hok (memP K hok i) ha
  · rw [gy_u]; exact pt_up K hok (memP K hok (i + 1)) ha
theorem up_le {i j : Nat} (hij : i ≤ j) (hj : j ≤ e) : u (crn H i) ≤ u (crn H j) := by
  by_cases h : i = j
  · rw [h]; exact Int.le_refl _
  · have := up_lt K hok (show i < j by omega) hj; omega
theorem dn_le {i j : Nat} (he : e ≤ i) (hij : i ≤ j) (hj : j ≤ H.length) : u (crn H j) ≤ u (crn H i) := by
  by_cases h : i = j
  · rw [h]; exact Int.le_refl _
  · have := dn_lt K hok he (show i < j by omega) hj; omega
/-- The two sides of a hull in a row. -/
theorem h_row {k : Int} (h0 : u (crn H 0) ≤ k) (h1 : k < u (crn H e)) : ∃ a b, a < H.length ∧ b < H.length ∧ Geo.cov (gy H) a k ∧ Geo.cov (gy H) b k ∧ gy H a < gy H (a + 1) ∧ gy H (b + 1) < gy H b ∧ VH ps H k = ZH ps H a (2 * k + 1) - ZH ps H b (2 * k + 1) ∧ ZH ps H b (2 * k + 1) ≤ ZH ps H a (2 * k + 1) := by
  have eN := K.eN
  have e0 := K.e0
  obtain ⟨a, a1, a2, a3⟩ := pass (f := fun i => u (crn H i)) e h0 h1
  obtain ⟨b', b1, b2, b3⟩ := pass (f := fun i => - u (crn H (e + i))) (k := - k - 1) (H.length - e) (by simp only [Nat.add_zero]; omega) (by
    have := crn_per H 0
    rw [Nat.zero_add] at this
    simp only [show e + (H.length - e) = H.length by omega, this]; omega)
  (try simp only at b2 b3)
  obtain ⟨b, hb⟩ : ∃ b, e + b' = b := ⟨_, rfl⟩
  rw [show e + (b' + 1) = b + 1 by omega] at b3
  rw [hb] at b2
  have ca : Geo.cov (gy H) a k := Or.inl (by rw [gy_u, gy_u]; omega)
  have cb : Geo.cov (gy H) b k := Or.inr (by rw [gy_u, gy_u]; omega)
  have ua : gy H a < gy H (a + 1) := by rw [gy_u, gy_u]; exact K.up a a1
  have db : gy H (b + 1) < gy H b := by rw [gy_u, gy_u]; exact K.dn b (by omega) (by omega)
  have hV : VH ps H k = ZH ps H a (2 * k + 1) - ZH ps H b (2 * k + 1) := by
    show Geo.S _ _ = _
    rw [S_two (a := a) (b := b) (by omega) (by omega) (by omega) (fun i hi ha hb' => by
      refine if_neg fun c => ?_
      unfold Geo.cov at c
      rw [gy_u, gy_u] at c
      by_cases hie : i < e
      · have := K.up i hie
        rcases Nat.lt_or_gt_of_ne ha with h | h
        · have := up_le K hok (i := i + 1) (j := a) (by omega) (by omega); omega
        · have := up_le K hok (i := a + 1) (j := i) (by omega) (by omega); omega
      · have := K.dn i (by omega) hi
        rcases Nat.lt_or_gt_of_ne hb' with h | h
        · have := dn_le K hok (i := i + 1) (j := b) (by omega) (by omega) (by omega); omega
        · have := dn_le K hok (i := b + 1) (j := i) (by omega) (by omega) (by omega); omega), if_pos ca, if_pos cb]
    unfold Geo.dir
    rw [if_pos ua, if_neg (by omega)]
    have ee : ∀ z v : Int, 1 * z + (-1) * v = z - v := fun z v => by omega
    exact ee _ _
  refine ⟨a, b, by omega, by omega, ca, cb, ua, db, hV, ?_⟩
  refine row_le (genH K hok) (genH K hok) cb ?_ ?_
  · rw [gy_u]; exact pt_up K hok (K.mem b) ua
  · rw [gy_u]; exact pt_up K hok (K.mem (b + 1)) ua
/-- All points lie between the lowest and the highest corner. -/
theorem corner_row (i : Nat) {p : P2} (hp : p ∈ ps) : turn (crn H (i + 1)) (crn H (i + 2)) p * (u (crn H i) - u (crn H (i + 1))) + turn (crn H i) (crn H (i + 1)) p * (u (crn H (i + 2)) - u (crn H (i + 1))) + turn (crn H i) (crn H (i + 1)) (crn H (i + 2)) * (u (crn H (i + 1)) - u p) = 0 := by
  have _k := K
  have _h := hok
  have _p := hp
  have e0 := four0 (crn H i) (crn H (i + 1)) (crn H (i + 2)) p
  have e1 := four1 1 (crn H i) (crn H (i + 1)) (crn H (i + 2)) p
  unfold u
  grind
theorem u_hi {p : P2} (hp : p ∈ ps) : u p ≤ u (crn H e) := by
  have e0 := K.e0
  obtain ⟨i, rfl⟩ : ∃ i, e = i + 1 := ⟨e - 1, by omega⟩
  have h := corner_row K hok i hp
  have u1 := K.up i (by omega)
  have u2 : u (crn H (i + 2)) < u (crn H (i + 1)) := K.dn (i + 1) (by omega) K.eN
  have a1 := K.left i p hp
  have a2 : 0 ≤ turn (crn H (i + 1)) (crn H (i + 2)) p := K.left (i + 1) p hp
  have t := tu_all K hok i
  have m1 := nn a2 (show 0 ≤ u (crn H (i + 1)) - u (crn H i) by omega)
  have m2 := nn a1 (show 0 ≤ u (crn H (i + 1)) - u (crn H (i + 2)) by omega)
  have e3 : turn (crn H i) (crn H (i + 1)) (crn H (i + 2)) * (u (crn H (i + 1)) - u p) = turn (crn H (i + 1)) (crn H (i + 2)) p * (u (crn H (i + 1)) - u (crn H i)) + turn (crn H i) (crn H (i + 1)) p * (u (crn H (i + 1)) - u (crn H (i + 2))) := by grind
  have := mn (a := u (crn H (i + 1)) - u p) (k := turn (crn H i) (crn H (i + 1)) (crn H (i + 2))) t (by rw [Int.mul_comm, e3]; omega)
  omega
theorem u_lo {p : P2} (hp : p ∈ ps) : u (crn H 0) ≤ u p := by
  have hn := n3 K hok
  obtain ⟨i, hi⟩ : ∃ i, H.length = i + 1 := ⟨H.length - 1, by omega⟩
  have c0 := crn_per H 0
  have c1 := crn_per H 1
  rw [hi, Nat.zero_add] at c0
  rw [hi, show 1 + (i + 1) = i + 2 by omega] at c1
  have h := corner_row K hok i hp
  have u1 := K.dn i (by have := K.eN; omega) (by omega)
  have u2 := K.up 0 K.e0
  have a1 := K.left i p hp
  have a2 : 0 ≤ turn (crn H (i + 1)) (crn H (i + 2)) p := K.left (i + 1) p hp
  have t := tu_all K hok i
  rw [c0, c1] at h t a2
  rw [c0] at u1 a1
  rw [Nat.zero_add] at u2
  have m1 := nn a2 (show 0 ≤ u (crn H i) - u (crn H 0) by omega)
  have m2 := nn a1 (show 0 ≤ u (crn H 1) - u (crn H 0) by omega)
  have e3 : turn (crn H i) (crn H 0) (crn H 1) * (u p - u (crn H 0)) = turn (crn H 0) (crn H 1) p * (u (crn H i) - u (crn H 0)) + turn (crn H i) (crn H 0) p * (u (crn H 1) - u (crn H 0)) := by grind
  have := mn (a := u p - u (crn H 0)) (k := turn (crn H i) (crn H 0) (crn H 1)) t (by rw [Int.mul_comm, e3]; omega)
  omega
theorem cov_p {i : Nat} {k : Int} (c : Geo.cov (gy ps) i k) : u (crn H 0) ≤ k ∧ k < u (crn H e) := by
  have a1 := u_lo K hok (memP K hok i)
  have a2 := u_lo K hok (memP K hok (i + 1))
  have b1 := u_hi K hok (memP K hok i)
  have b2 := u_hi K hok (memP K hok (i + 1))
  unfold Geo.cov at c
  rw [gy_u, gy_u] at c
  omega
theorem cov_h {i : Nat} {k : Int} (c : Geo.cov (gy H) i k) : u (crn H 0) ≤ k ∧ k < u (crn H e) := by
  have a1 := u_lo K hok (K.mem i)
  have a2 := u_lo K hok (K.mem (i + 1))
  have b1 := u_hi K hok (K.mem i)
  have b2 := u_hi K hok (K.mem (i + 1))
  unfold Geo.cov at c
  rw [gy_u, gy_u] at c
  omega
theorem v_none {k : Int} (h : ¬ (u (crn H 0) ≤ k ∧ k < u (crn H e))) : VP ps H k = 0 ∧ VH ps H k = 0 := by
  refine ⟨?_, ?_⟩
  · show Geo.S _ _ = _
    rw [Geo.S_congr (g := fun _ => 0) _ (fun i _ => if_neg fun c => h (cov_p K hok c)), Geo.S_zero]
  · show Geo.S _ _ = _
    rw [Geo.S_congr (g := fun _ => 0) _ (fun i _ => if_neg fun c => h (cov_h K hok c)), Geo.S_zero]
theorem rows_le : ∃ s : Int, (s = 1 ∨ s = -1) ∧ (∀ k, 0 ≤ s * VP ps H k) ∧ ∀ k, s * VP ps H k ≤ VH ps H k := by
  obtain ⟨s, hs, hr⟩ := Geo.rows (genP K hok)
  refine ⟨s, hs, fun k => (hr k).1, fun k => ?_⟩
  by_cases h : u (crn H 0) ≤ k ∧ k < u (crn H e)
  · obtain ⟨a, b, _, _, ca, cb, ua, db, hV, hle⟩ := h_row K hok h.1 h.2
    rw [hV]
    exact (hr k).2.2 _ _ hle fun i _ c => p_in K hok c ua db
  · obtain ⟨h1, h2⟩ := v_none K hok h
    rw [h1, h2, Int.mul_zero]; exact Int.le_refl _
theorem gy_bd (f : Nat → Int) (hf : ∀ i, ∃ p, isP p = true ∧ f i = u p) : ∀ i, (-200200 : Int) ≤ f i ∧ f i ≤ -200200 + ((400400 : Nat) : Int) := fun i => by
  have _k := K
  have _h := hok
  obtain ⟨p, h1, h2⟩ := hf i
  have := isP_iff.1 h1
  rw [h2]; unfold u fv; omega
theorem areas : Geo.S 400400 (fun m => VP ps H (-200200 + m)) = bigD H * bigD ps * (1000 * area ps) ∧ Geo.S 400400 (fun m => VH ps H (-200200 + m)) = bigD H * bigD ps * (1000 * area H) := by
  have i1 : ∀ i, isP (crn ps i) = true := fun i => List.all_eq_true.1 (ok_parts hok).2.1 _ (memP K hok i)
  refine ⟨?_, ?_⟩
  · have := Geo.area_rows (genP K hok) (-200200) 400400 (gy_bd K hok _ fun i => ⟨_, i1 i, gy_u ps i⟩)
    rw [this]
    unfold Geo.area
    rw [area_S ps _ (Nat.le_refl _)]; rfl
  · have := Geo.area_rows (genH K hok) (-200200) 400400 (gy_bd K hok _ fun i => ⟨_, crn_is K hok i, gy_u H i⟩)
    rw [this]
    unfold Geo.area
    rw [area_S H _ (Nat.le_refl _)]; rfl
/-- A hull is not less than what it is the hull of. -/
theorem area_le : 0 < area H ∧ max (area ps) (- area ps) ≤ area H := by
  obtain ⟨s, hs, h0, h1⟩ := rows_le K hok
  obtain ⟨a1, a2⟩ := areas K hok
  have hD : 0 < bigD H * bigD ps := Int.mul_pos (bigs K hok).2 (bigs K hok).1
  have l1 : s * Geo.S 400400 (fun m => VP ps H (-200200 + m)) ≤ Geo.S 400400 (fun m => VH ps H (-200200 + m)) := by
    rw [← Geo.S_mul]; exact Geo.S_le _ fun i _ => h1 _
  have l2 : 0 ≤ s * Geo.S 400400 (fun m => VP ps H (-200200 + m)) := by
    rw [← Geo.S_mul]; exact Geo.S_nonneg _ fun i _ => h0 _
  rw [a1, a2] at l1
  rw [a1] at l2
  have ne := area_ne hok
  generalize bigD H * bigD ps = D at *
  have e1 : s * (D * (1000 * area ps)) = (1000 * (s * area ps)) * D := by grind
  rw [e1] at l1 l2
  have l3 := mn hD l2
  have l4 := mn (a := 1000 * area H - 1000 * (s * area ps)) hD (by rw [Int.sub_mul]; have : 1000 * area H * D = D * (1000 * area H) := Int.mul_comm _ _; omega)
  rcases hs with rfl | rfl <;> omega
end
end Hu
end Go.Proofs.Ytgmhelclofnpkaa
namespace Go.Proofs.Ytgmhelclofnpkaa
namespace Hu
open Pl
theorem five (F E a b c d : P2) : turn b c d * turn F E a - turn a c d * turn F E b + turn a b d * turn F E c - turn a b c * turn F E d = 0 := by unfold turn; grind
theorem far' {n : Nat} {x y q : Nat → Int} {D : Int} (G : Geo.Gen n x y q D) (i t : Nat) (h1 : 2 ≤ t) (h2 : t + 2 ≤ n) : ¬ Geo.hs x y i (i + t) ∧ ¬ Geo.hs x y i (i + t + 1) ∧ ¬ Geo.hs x y (i + t) i ∧ ¬ Geo.hs x y (i + t) (i + 1) ∧ ¬ (Geo.ap x y i (i + t) ∧ Geo.ap x y (i + t) i) := by
  have key : ∀ i, i < n → ¬ Geo.hs x y i (i + t) ∧ ¬ Geo.hs x y i (i + t + 1) ∧ ¬ Geo.hs x y (i + t) i ∧ ¬ Geo.hs x y (i + t) (i + 1) ∧ ¬ (Geo.ap x y i (i + t) ∧ Geo.ap x y (i + t) i) := by
    intro i hi
    by_cases hc : i + t < n
    · have m1 : (i + 1) % n = i + 1 := Nat.mod_eq_of_lt (by omega)
      refine G.far i (i + t) hi hc (by omega) (by omega) ?_
      by_cases hd : i + t + 1 < n
      · rw [Nat.mod_eq_of_lt hd]; omega
      · rw [show i + t + 1 = n by omega, Nat.mod_self]; omega
    · obtain ⟨j, hj⟩ : ∃ j, i + t = j + n := ⟨i + t - n, by omega⟩
      have m1 : (j + 1) % n = j + 1 := Nat.mod_eq_of_lt (by omega)
      have f := G.far i j hi (by omega) (by omega) (by
        by_cases hd : i + 1 < n
        · rw [Nat.mod_eq_of_lt hd]; omega
        · rw [show i + 1 = n by omega, Nat.mod_self]; omega) (by omega)
      have px0 := G.px j
      have px1 : x (j + n + 1) = x (j + 1) := by rw [show j + n + 1 = j + 1 + n by omega]; exact G.px _
      have py0 := G.py j
      have py1 : y (j + n + 1) = y (j + 1) := by rw [show j + n + 1 = j + 1 + n by omega]; exact G.py _
      unfold Geo.hs Geo.ap Geo.tn at f ⊢
      rw [hj, px0, px1, py0, py1]
      exact f
  have per : ∀ m, i + n * m = i + n * m := fun _ => rfl
  obtain ⟨m, hm⟩ : ∃ m, i = i % n + n * m := ⟨i / n, (Nat.mod_add_div i n).symm⟩
  have hn : 0 < n := by have := G.n3; omega
  have k := key (i % n) (Nat.mod_lt _ hn)
  have px : ∀ j m, x (j + n * m) = x j := fun j m => by
    induction m with
    | zero => rfl
    | succ m ih => rw [Nat.mul_succ, ← Nat.add_assoc, G.px, ih]
  have py : ∀ j m, y (j + n * m) = y j := fun j m => by
    induction m with
    | zero => rfl
    | succ m ih => rw [Nat.mul_succ, ← Nat.add_assoc, G.py, ih]
  generalize i % n = r at *
  subst hm
  have e : ∀ c, r + n * m + c = r + c + n * m := fun c => by omega
  unfold Geo.hs Geo.ap Geo.tn at k ⊢
  rw [show r + n * m + t + 1 = r + (t + 1) + n * m by omega, e t, e 1, px, py, px, py, px, py, px, py]
  exact k
section
variable {ps H : List P2} {e : Nat} (K : HullOf ps H e) (hok : ok ps = true)
include K hok
theorem noncol {f : Nat} {a b c : P2} (h1 : turn (crn H f) (crn H (f + 1)) a = 0) (h2 : turn (crn H f) (crn H (f + 1)) b = 0) (h3 : turn (crn H f) (crn H (f + 1)) c = 0) : turn a b c = 0 := by
  have t := tu_all K hok f
  have h := five (crn H f) (crn H (f + 1)) a b c (crn H (f + 2))
  rw [h1, h2, h3] at h
  have : turn a b c * turn (crn H f) (crn H (f + 1)) (crn H (f + 2)) = 0 := by omega
  rcases Int.mul_eq_zero.1 this with h | h <;> omega
/-- A side of a hull is no line with points on both sides. -/
theorem both {f : Nat} {a b c d : P2} (hc : c ∈ ps) (hd : d ∈ ps) (h1 : turn (crn H f) (crn H (f + 1)) a = 0) (h2 : turn (crn H f) (crn H (f + 1)) b = 0) (k1 : 0 < turn a b c) (k2 : turn a b d < 0) : False := by
  have a1 := K.left f c hc
  have a2 := K.left f d hd
  have h := five (crn H f) (crn H (f + 1)) a b c d
  rw [h1, h2] at h
  have m1 := nn (show 0 ≤ - turn a b d by omega) a1
  have m2 := nn (show 0 ≤ turn a b c by omega) a2
  rw [Int.neg_mul] at m1
  have m3 : (- turn a b d) * turn (crn H f) (crn H (f + 1)) c = 0 := by rw [Int.neg_mul]; omega
  rcases Int.mul_eq_zero.1 m3 with h | h
  · omega
  · have := noncol K hok h1 h2 h; omega
/-- A corner on the line of a side with corners on both sides is on the side. -/
theorem on_line {i j f g : Nat} (hf : turn (crn H f) (crn H (f + 1)) (crn ps i) = 0) (hg : turn (crn H g) (crn H (g + 1)) (crn ps (i + 1)) = 0) {c d : P2} (hc : c ∈ ps) (hd : d ∈ ps) (k1 : 0 < turn (crn ps i) (crn ps (i + 1)) c) (k2 : turn (crn ps i) (crn ps (i + 1)) d < 0)
    (h0 : turn (crn ps i) (crn ps (i + 1)) (crn ps j) = 0) : Geo.hs (gx ps) (gy ps) i j := by
  refine ⟨by rw [tn_turn, h0]; rfl, ?_⟩
  rw [gy_u, gy_u, gy_u]
  have a1 := K.left g _ (memP K hok i)
  have a2 := K.left g _ (memP K hok j)
  have b1 := K.left f _ (memP K hok (i + 1))
  have b2 := K.left f _ (memP K hok j)
  have e1 : turn (crn H g) (crn H (g + 1)) (crn ps i) * (u (crn ps (i + 1)) - u (crn ps j)) + turn (crn H g) (crn H (g + 1)) (crn ps j) * (u (crn ps i) - u (crn ps (i + 1))) = 0 := by
    have : turn (crn H g) (crn H (g + 1)) (crn ps i) * (u (crn ps (i + 1)) - u (crn ps j)) + turn (crn H g) (crn H (g + 1)) (crn ps (i + 1)) * (u (crn ps j) - u (crn ps i)) + turn (crn H g) (crn H (g + 1)) (crn ps j) * (u (crn ps i) - u (crn ps (i + 1))) = 0 := by
      unfold turn at h0
      unfold turn u fv
      grind
    rw [hg] at this; omega
  have e2 : turn (crn H f) (crn H (f + 1)) (crn ps (i + 1)) * (u (crn ps j) - u (crn ps i)) + turn (crn H f) (crn H (f + 1)) (crn ps j) * (u (crn ps i) - u (crn ps (i + 1))) = 0 := by
    have : turn (crn H f) (crn H (f + 1)) (crn ps i) * (u (crn ps (i + 1)) - u (crn ps j)) + turn (crn H f) (crn H (f + 1)) (crn ps (i + 1)) * (u (crn ps j) - u (crn ps i)) + turn (crn H f) (crn H (f + 1)) (crn ps j) * (u (crn ps i) - u (crn ps (i + 1))) = 0 := by
      unfold turn at h0
      unfold turn u fv
      grind
    rw [hf] at this; omega
  have hne : u (crn ps i) ≠ u (crn ps (i + 1)) := fun h => hgt_ne hok i (by unfold hgt; rw [gy_u, gy_u]; omega)
  have z : ∀ x y p r : Int, 0 ≤ x → 0 ≤ y → 0 < p → 0 < r → x * p + y * r = 0 → x = 0 := by
    intro x y p r hx hy hp hr h
    have := nn hy (Int.le_of_lt hr)
    have := mz (a := x) hp (by omega)
    omega
  have na : turn (crn H g) (crn H (g + 1)) (crn ps i) ≠ 0 := fun h => both K hok hc hd h hg k1 k2
  have nb : turn (crn H f) (crn H (f + 1)) (crn ps (i + 1)) ≠ 0 := fun h => both K hok hc hd hf h k1 k2
  generalize turn (crn H g) (crn H (g + 1)) (crn ps i) = A at *
  generalize turn (crn H g) (crn H (g + 1)) (crn ps j) = B at *
  generalize turn (crn H f) (crn H (f + 1)) (crn ps (i + 1)) = C at *
  generalize turn (crn H f) (crn H (f + 1)) (crn ps j) = E at *
  generalize u (crn ps i) = p at *
  generalize u (crn ps (i + 1)) = r at *
  generalize u (crn ps j) = w at *
  false_or_by_contra
  rcases Int.lt_or_gt_of_ne hne with h | h
  · by_cases c1 : w < p
    · exact nb (z C E (p - w) (r - p) b1 b2 (by omega) (by omega) (by grind))
    · exact na (z A B (w - r) (r - p) a1 a2 (by omega) (by omega) (by grind))
  · by_cases c1 : p < w
    · exact nb (z C E (w - p) (p - r) b1 b2 (by omega) (by omega) (by grind))
    · exact na (z A B (r - w) (p - r) a1 a2 (by omega) (by omega) (by grind))
/-- A side that goes through the line of another one meets it. -/
theorem through {i j f g : Nat} (hf : turn (crn H f) (crn H (f + 1)) (crn ps i) = 0) (hg : turn (crn H g) (crn H (g + 1)) (crn ps (i + 1)) = 0)
    (h : (0 < turn (crn ps i) (crn ps (i + 1)) (crn ps j) ∧ turn (crn ps i) (crn ps (i + 1)) (crn ps (j + 1)) < 0) ∨ (turn (crn ps i) (crn ps (i + 1)) (crn ps j) < 0 ∧ 0 < turn (crn ps i) (crn ps (i + 1)) (crn ps (j + 1)))) :
    Geo.hs (gx ps) (gy ps) j i ∨ Geo.hs (gx ps) (gy ps) j (i + 1) ∨ (Geo.ap (gx ps) (gy ps) i j ∧ Geo.ap (gx ps) (gy ps) j i) := by
  have b1 : ∀ f, ¬ (turn (crn H f) (crn H (f + 1)) (crn ps i) = 0 ∧ turn (crn H f) (crn H (f + 1)) (crn ps (i + 1)) = 0) := by
    rintro f ⟨x, y⟩
    rcases h with ⟨h1, h2⟩ | ⟨h1, h2⟩
    · exact both K hok (memP K hok j) (memP K hok (j + 1)) x y h1 h2
    · exact both K hok (memP K hok (j + 1)) (memP K hok j) x y h2 h1
  have w1 := five (crn H f) (crn H (f + 1)) (crn ps i) (crn ps (i + 1)) (crn ps j) (crn ps (j + 1))
  have w2 := five (crn H g) (crn H (g + 1)) (crn ps i) (crn ps (i + 1)) (crn ps j) (crn ps (j + 1))
  have e0 := four0 (crn ps i) (crn ps (i + 1)) (crn ps j) (crn ps (j + 1))
  have e1 := four1 1 (crn ps i) (crn ps (i + 1)) (crn ps j) (crn ps (j + 1))
  have n1 := b1 f
  have n2 := b1 g
  rw [hf] at w1 n1
  rw [hg] at w2 n2
  have l1 := K.left f _ (memP K hok (i + 1))
  have l2 := K.left f _ (memP K hok j)
  have l3 := K.left f _ (memP K hok (j + 1))
  have l4 := K.left g _ (memP K hok i)
  have l5 := K.left g _ (memP K hok j)
  have l6 := K.left g _ (memP K hok (j + 1))
  have c1 : turn (crn ps (i + 1)) (crn ps j) (crn ps (j + 1)) = turn (crn ps j) (crn ps (j + 1)) (crn ps (i + 1)) := (turn_cyc _ _ _).symm
  have c2 : turn (crn ps i) (crn ps j) (crn ps (j + 1)) = turn (crn ps j) (crn ps (j + 1)) (crn ps i) := (turn_cyc _ _ _).symm
  rw [c1, c2] at w1 w2 e0 e1
  unfold Geo.hs Geo.ap
  rw [tn_turn, tn_turn, tn_turn, tn_turn, gy_u, gy_u, gy_u, gy_u]
  simp only [show ∀ p, fv 1 p = u p from fun _ => rfl] at e1
  generalize turn (crn ps j) (crn ps (j + 1)) (crn ps i) = P at *
  generalize turn (crn ps j) (crn ps (j + 1)) (crn ps (i + 1)) = Q at *
  generalize turn (crn ps i) (crn ps (i + 1)) (crn ps j) = sc at *
  generalize turn (crn ps i) (crn ps (i + 1)) (crn ps (j + 1)) = sd at *
  generalize turn (crn H f) (crn H (f + 1)) (crn ps (i + 1)) = fb at *
  generalize turn (crn H f) (crn H (f + 1)) (crn ps j) = fc at *
  generalize turn (crn H f) (crn H (f + 1)) (crn ps (j + 1)) = fd at *
  generalize turn (crn H g) (crn H (g + 1)) (crn ps i) = ga at *
  generalize turn (crn H g) (crn H (g + 1)) (crn ps j) = gc at *
  generalize turn (crn H g) (crn H (g + 1)) (crn ps (j + 1)) = gd at *
  generalize u (crn ps i) = ua at *
  generalize u (crn ps (i + 1)) = ub at *
  generalize u (crn ps j) = uc at *
  generalize u (crn ps (j + 1)) = ud at *
  have hfb : 0 < fb := by
    false_or_by_contra
    exact n1 ⟨rfl, by omega⟩
  have hga : 0 < ga := by
    false_or_by_contra
    exact n2 ⟨by omega, rfl⟩
  rcases h with ⟨h1, h2⟩ | ⟨h1, h2⟩
  · have p1 : ¬ 0 < P := fun k => by
      have := Int.mul_pos k hfb
      have := nn (show 0 ≤ - sd by omega) l2
      have := nn (show 0 ≤ sc by omega) l3
      rw [Int.neg_mul] at *
      omega
    have p2 : ¬ Q < 0 := fun k => by
      have := Int.mul_pos (show 0 < - Q by omega) hga
      have := nn (show 0 ≤ - sd by omega) l5
      have := nn (show 0 ≤ sc by omega) l6
      rw [Int.neg_mul] at *
      omega
    by_cases p0 : P = 0
    · left
      subst p0
      have q1 : (ua - uc) * Q = sc * (ud - uc) := by grind
      have q2 : (ud - ua) * Q = (- sd) * (ud - uc) := by grind
      refine ⟨by omega, ?_⟩
      rcases Int.le_total uc ud with c | c
      · have := mn (show 0 < Q by omega) (by rw [q1]; exact nn (by omega) (by omega))
        have := mn (show 0 < Q by omega) (by rw [q2]; exact nn (by omega) (by omega))
        omega
      · have z1 : (uc - ua) * Q = sc * (uc - ud) := by grind
        have z2 : (ua - ud) * Q = (- sd) * (uc - ud) := by grind
        have := mn (show 0 < Q by omega) (by rw [z1]; exact nn (by omega) (by omega))
        have := mn (show 0 < Q by omega) (by rw [z2]; exact nn (by omega) (by omega))
        omega
    · by_cases q0 : Q = 0
      · right; left
        subst q0
        have q1 : (ub - uc) * (- P) = sc * (ud - uc) := by grind
        have q2 : (ud - ub) * (- P) = (- sd) * (ud - uc) := by grind
        refine ⟨by omega, ?_⟩
        rcases Int.le_total uc ud with c | c
        · have := mn (show 0 < - P by omega) (by rw [q1]; exact nn (by omega) (by omega))
          have := mn (show 0 < - P by omega) (by rw [q2]; exact nn (by omega) (by omega))
          omega
        · have z1 : (uc - ub) * (- P) = sc * (uc - ud) := by grind
          have z2 : (ub - ud) * (- P) = (- sd) * (uc - ud) := by grind
          have := mn (show 0 < - P by omega) (by rw [z1]; exact nn (by omega) (by omega))
          have := mn (show 0 < - P by omega) (by rw [z2]; exact nn (by omega) (by omega))
          omega
      · right; right
        exact ⟨by omega, by omega⟩
  · have p1 : ¬ P < 0 := fun k => by
      have := Int.mul_pos (show 0 < - P by omega) hfb
      have := nn (show 0 ≤ sd by omega) l2
      have := nn (show 0 ≤ - sc by omega) l3
      rw [Int.neg_mul] at *
      omega
    have p2 : ¬ 0 < Q := fun k => by
      have := Int.mul_pos k hga
      have := nn (show 0 ≤ sd by omega) l5
      have := nn (show 0 ≤ - sc by omega) l6
      rw [Int.neg_mul] at *
      omega
    by_cases p0 : P = 0
    · left
      subst p0
      have q1 : (ua - uc) * (- Q) = (- sc) * (ud - uc) := by grind
      have q2 : (ud - ua) * (- Q) = sd * (ud - uc) := by grind
      refine ⟨by omega, ?_⟩
      rcases Int.le_total uc ud with c | c
      · have := mn (show 0 < - Q by omega) (by rw [q1]; exact nn (by omega) (by omega))
        have := mn (show 0 < - Q by omega) (by rw [q2]; exact nn (by omega) (by omega))
        omega
      · have z1 : (uc - ua) * (- Q) = (- sc) * (uc - ud) := by grind
        have z2 : (ua - ud) * (- Q) = sd * (uc - ud) := by grind
        have := mn (show 0 < - Q by omega) (by rw [z1]; exact nn (by omega) (by omega))
        have := mn (show 0 < - Q by omega) (by rw [z2]; exact nn (by omega) (by omega))
        omega
    · by_cases q0 : Q = 0
      · right; left
        subst q0
        have q1 : (ub - uc) * P = (- sc) * (ud - uc) := by grind
        have q2 : (ud - ub) * P = sd * (ud - uc) := by grind
        refine ⟨by omega, ?_⟩
        rcases Int.le_total uc ud with c | c
        · have := mn (show 0 < P by omega) (by rw [q1]; exact nn (by omega) (by omega))
          have := mn (show 0 < P by omega) (by rw [q2]; exact nn (by omega) (by omega))
          omega
        · have z1 : (uc - ub) * P = (- sc) * (uc - ud) := by grind
          have z2 : (ub - ud) * P = sd * (uc - ud) := by grind
          have := mn (show 0 < P by omega) (by rw [z1]; exact nn (by omega) (by omega))
          have := mn (show 0 < P by omega) (by rw [z2]; exact nn (by omega) (by omega))
          omega
      · right; right
        exact ⟨by omega, by omega⟩
end
end Hu
end Go.Proofs.Ytgmhelclofnpkaa
namespace Go.Proofs.Ytgmhelclofnpkaa
namespace Hu
open Pl
section
variable {ps H : List P2} {e : Nat} (K : HullOf ps H e) (hok : ok ps = true)
include K hok
/-- A polygon on a hull's sides lies on one side of each of its sides. -/
theorem one_side (hb : ∀ i, ∃ f, turn (crn H f) (crn H (f + 1)) (crn ps i) = 0) (i : Nat) : (∀ d ∈ ps, 0 ≤ turn (crn ps i) (crn ps (i + 1)) d) ∨ (∀ d ∈ ps, turn (crn ps i) (crn ps (i + 1)) d ≤ 0) := by
  obtain ⟨f, hf⟩ := hb i
  obtain ⟨g, hg⟩ := hb (i + 1)
  have G := gen_of hok
  have hn3 := (ok_parts hok).1
  by_cases hall : ∀ d ∈ ps, 0 ≤ turn (crn ps i) (crn ps (i + 1)) d
  · exact Or.inl hall
  refine Or.inr fun c hc => ?_
  false_or_by_contra
  rename_i hcp
  obtain ⟨d, hd, hdn⟩ : ∃ d ∈ ps, turn (crn ps i) (crn ps (i + 1)) d < 0 := by
    false_or_by_contra
    rename_i hno
    exact hall fun d hd => by
      false_or_by_contra
      exact hno ⟨d, hd, by omega⟩
  have hcp : 0 < turn (crn ps i) (crn ps (i + 1)) c := by omega
  -- all other corners are off the line
  have hne : ∀ t, 1 ≤ t → t + 2 ≤ ps.length → turn (crn ps i) (crn ps (i + 1)) (crn ps (i + 1 + t)) ≠ 0 := by
    intro t h1 h2 h0
    have hs := on_line K hok hf hg hc hd hcp hdn h0
    by_cases t1 : t = 1
    · subst t1; exact G.nb1 i hs
    · by_cases t2 : t + 2 = ps.length
      · have := G.nb2 (i + 1 + t)
        apply this
        have e1 : gx ps (i + 1 + t + 1) = gx ps i := by rw [show i + 1 + t + 1 = i + ps.length by omega]; exact G.px i
        have e2 : gy ps (i + 1 + t + 1) = gy ps i := by rw [show i + 1 + t + 1 = i + ps.length by omega]; exact G.py i
        have e3 : gx ps (i + 1 + t + 1 + 1) = gx ps (i + 1) := by rw [show i + 1 + t + 1 + 1 = i + 1 + ps.length by omega]; exact G.px _
        have e4 : gy ps (i + 1 + t + 1 + 1) = gy ps (i + 1) := by rw [show i + 1 + t + 1 + 1 = i + 1 + ps.length by omega]; exact G.py _
        unfold Geo.hs Geo.tn at hs ⊢
        rw [e1, e2, e3, e4]
        exact hs
      · have := (far' G i (t + 1) (by omega) (by omega)).1
        rw [show i + (t + 1) = i + 1 + t by omega] at this
        exact this hs
  have hsame : ∀ t, 1 ≤ t → t + 3 ≤ ps.length → (0 < turn (crn ps i) (crn ps (i + 1)) (crn ps (i + 1 + t)) ↔ 0 < turn (crn ps i) (crn ps (i + 1)) (crn ps (i + 1 + (t + 1)))) := by
    intro t h1 h2
    have z1 := hne t h1 (by omega)
    have z2 := hne (t + 1) (by omega) (by omega)
    have fr := far' G i (t + 1) (by omega) (by omega)
    rw [show i + (t + 1) = i + 1 + t by omega] at fr
    have th := through K hok (j := i + 1 + t) hf hg
    rw [show i + 1 + t + 1 = i + 1 + (t + 1) by omega] at th
    false_or_by_contra
    rename_i hno
    rcases th (by omega) with h | h | h
    · exact fr.2.2.1 h
    · exact fr.2.2.2.1 h
    · exact fr.2.2.2.2 h
  have hall1 : ∀ t, 1 ≤ t → t + 2 ≤ ps.length → (0 < turn (crn ps i) (crn ps (i + 1)) (crn ps (i + 1 + 1)) ↔ 0 < turn (crn ps i) (crn ps (i + 1)) (crn ps (i + 1 + t))) := by
    intro t
    induction t with
    | zero => intro h; omega
    | succ t ih =>
      intro _ h2
      by_cases t0 : t = 0
      · subst t0; exact Iff.rfl
      · exact (ih (by omega) (by omega)).trans (hsame t (by omega) (by omega))
  have hidx : ∀ d ∈ ps, turn (crn ps i) (crn ps (i + 1)) d ≠ 0 → ∃ t, 1 ≤ t ∧ t + 2 ≤ ps.length ∧ crn ps (i + 1 + t) = d := by
    intro d hd hnz
    obtain ⟨m, hm, e1⟩ := List.getElem_of_mem hd
    have e2 : crn ps m = d := by
      rw [crn_lt hm]; unfold at'; rw [List.getD_eq_getElem?_getD, List.getElem?_eq_getElem hm, e1]; rfl
    obtain ⟨t, ht, e3⟩ : ∃ t, t < ps.length ∧ crn ps (i + 1 + t) = d := by
      have hi := Nat.mod_lt (i + 1) (show 0 < ps.length by omega)
      have em := crn_succ ps (i + 1)
      generalize (i + 1) % ps.length = r at hi em
      rcases Nat.le_total r m with c | c
      · exact ⟨m - r, by omega, by rw [← em, show r + (m - r) = m by omega, e2]⟩
      · by_cases c' : r = m
        · subst c'; exact ⟨0, by omega, by rw [← em]; exact e2⟩
        · exact ⟨m + ps.length - r, by omega, by rw [← em, show r + (m + ps.length - r) = m + ps.length by omega, crn_per, e2]⟩
    refine ⟨t, ?_, ?_, e3⟩
    · false_or_by_contra
      obtain rfl : t = 0 := by omega
      rw [← e3] at hnz
      exact hnz (turn_abb _ _)
    · false_or_by_contra
      have : t = ps.length - 1 := by omega
      subst this
      rw [show i + 1 + (ps.length - 1) = i + ps.length by omega, crn_per] at e3
      rw [← e3] at hnz
      exact hnz (turn_aba _ _)
  obtain ⟨t1, a1, a2, a3⟩ := hidx c hc (by omega)
  obtain ⟨t2, b1, b2, b3⟩ := hidx d hd (by omega)
  have r1 := hall1 t1 a1 a2
  have r2 := hall1 t2 b1 b2
  rw [a3] at r1
  rw [b3] at r2
  omega
/-- A side of such a polygon is at one end of each row. -/
theorem at_end (hb : ∀ i, ∃ f, turn (crn H f) (crn H (f + 1)) (crn ps i) = 0) {i a b : Nat} {k : Int} (ci : Geo.cov (gy ps) i k) (ca : Geo.cov (gy H) a k) (cb : Geo.cov (gy H) b k) (ua : gy H a < gy H (a + 1)) (db : gy H (b + 1) < gy H b) :
    ZP ps H i (2 * k + 1) = ZH ps H a (2 * k + 1) ∨ ZP ps H i (2 * k + 1) = ZH ps H b (2 * k + 1) := by
  obtain ⟨l1, l2⟩ := p_in K hok ci ua db
  have hq := (genP K hok).hq i
  have hz : ∀ d, ZP ps H i (2 * u d) - 2 * (bigD H * bigD ps) * d.1 = 2 * ((bigD H * gq ps i) * (1000 * turn (crn ps i) (crn ps (i + 1)) d)) := fun d => by
    have h := Z_pt (genP K hok) i d.1 (u d)
    rw [tn_pt] at h
    exact h
  have hh : ∀ j, 2 * (bigD H * bigD ps) * gx H j = 2 * (bigD H * bigD ps) * (crn H j).1 := fun _ => rfl
  have pos : (∀ d ∈ ps, 2 * (bigD H * bigD ps) * d.1 ≤ ZP ps H i (2 * u d)) → ZP ps H i (2 * k + 1) = ZH ps H a (2 * k + 1) := fun h => by
    have : ZH ps H a (2 * k + 1) ≤ ZP ps H i (2 * k + 1) := row_le (genH K hok) (genP K hok) ca (by rw [gy_u]; exact h _ (K.mem a)) (by rw [gy_u]; exact h _ (K.mem (a + 1)))
    omega
  have neg : (∀ d ∈ ps, ZP ps H i (2 * u d) ≤ 2 * (bigD H * bigD ps) * d.1) → ZP ps H i (2 * k + 1) = ZH ps H b (2 * k + 1) := fun h => by
    have : ZP ps H i (2 * k + 1) ≤ ZH ps H b (2 * k + 1) := row_ge (genH K hok) (genP K hok) cb (by rw [gy_u]; exact h _ (K.mem b)) (by rw [gy_u]; exact h _ (K.mem (b + 1)))
    omega
  have hy : gy ps i < gy ps (i + 1) ∨ gy ps (i + 1) < gy ps i := by
    have := hgt_ne hok i
    unfold hgt at this
    omega
  rcases hy with hy | hy
  · have q0 := q_up (genP K hok) hy
    rcases one_side K hok hb i with s | s
    · exact Or.inl (pos fun d hd => by
        have := hz d
        have := nn (Int.le_of_lt q0) (nn (show (0 : Int) ≤ 1000 by omega) (s d hd))
        omega)
    · exact Or.inr (neg fun d hd => by
        have h1 := hz d
        have := nn (Int.le_of_lt q0) (nn (show (0 : Int) ≤ 1000 by omega) (show 0 ≤ - turn (crn ps i) (crn ps (i + 1)) d by have := s d hd; omega))
        rw [Int.mul_neg, Int.mul_neg] at this
        omega)
  · have q0 := q_dn (genP K hok) hy
    rcases one_side K hok hb i with s | s
    · exact Or.inr (neg fun d hd => by
        have h1 := hz d
        have := nn (show 0 ≤ - (bigD H * gq ps i) by omega) (nn (show (0 : Int) ≤ 1000 by omega) (s d hd))
        rw [Int.neg_mul] at this
        omega)
    · exact Or.inl (pos fun d hd => by
        have h1 := hz d
        have := nn (show 0 ≤ - (bigD H * gq ps i) by omega) (nn (show (0 : Int) ≤ 1000 by omega) (show 0 ≤ - turn (crn ps i) (crn ps (i + 1)) d by have := s d hd; omega))
        rw [Int.mul_neg, Int.mul_neg, Int.neg_mul, Int.neg_neg] at this
        omega)
theorem Z_ne {i j : Nat} {k : Int} (hi : i < ps.length) (hj : j < ps.length) (ci : Geo.cov (gy ps) i k) (cj : Geo.cov (gy ps) j k) (h : ZP ps H i (2 * k + 1) = ZP ps H j (2 * k + 1)) : i = j := by
  by_cases ne : i = j
  · exact ne
  · exfalso
    have h' : Geo.Z (gx ps) (gy ps) (fun i => bigD H * gq ps i) (bigD H * bigD ps) i (2 * k + 1) = Geo.Z (gx ps) (gy ps) (fun i => bigD H * gq ps i) (bigD H * bigD ps) j (2 * k + 1) := h
    rcases Geo.keep (genP K hok) hi hj ne k ci cj with h1 | h1
    · have := h1 (2 * k + 1) (by omega) (by omega) (Geo.not_mid (genP K hok) k); omega
    · have := h1 (2 * k + 1) (by omega) (by omega) (Geo.not_mid (genP K hok) k); omega
theorem idx_of {p : P2} (hp : p ∈ ps) : ∃ m, m < ps.length ∧ crn ps m = p := by
  have _k := K
  have _h := hok
  obtain ⟨m, hm, e1⟩ := List.getElem_of_mem hp
  exact ⟨m, hm, by rw [crn_lt hm]; unfold at'; rw [List.getD_eq_getElem?_getD, List.getElem?_eq_getElem hm, e1]; rfl⟩
/-- A row of the hull has a side of the polygon. -/
theorem some_side {k : Int} (h0 : u (crn H 0) ≤ k) (h1 : k < u (crn H e)) : ∃ i, i < ps.length ∧ Geo.cov (gy ps) i k := by
  obtain ⟨m0, a1, a2⟩ := idx_of K hok (K.mem 0)
  obtain ⟨m1, b1, b2⟩ := idx_of K hok (K.mem e)
  have hn := (ok_parts hok).1
  obtain ⟨t, _, c1, c2⟩ := pass (f := fun t => u (crn ps (m0 + t))) (k := k) (m1 + ps.length - m0) (by simp only [Nat.add_zero]; rw [a2]; exact h0) (by
    simp only [show m0 + (m1 + ps.length - m0) = m1 + ps.length by omega]
    rw [crn_per, b2]; exact h1)
  refine ⟨(m0 + t) % ps.length, Nat.mod_lt _ (by omega), Or.inl ?_⟩
  rw [gy_mods, gy_mod, gy_u, gy_u]
  (try simp only at c1 c2)
  rw [show m0 + (t + 1) = m0 + t + 1 by omega] at c2
  omega
/-- Each row of such a polygon is as wide as the hull. -/
theorem row_eq (hb : ∀ i, ∃ f, turn (crn H f) (crn H (f + 1)) (crn ps i) = 0) {s : Int} (hs : s = 1 ∨ s = -1) {k : Int} (hV : 0 ≤ s * VP ps H k) : s * VP ps H k = VH ps H k := by
  by_cases h : u (crn H 0) ≤ k ∧ k < u (crn H e)
  · obtain ⟨a, b, _, _, ca, cb, ua, db, hVH, hle⟩ := h_row K hok h.1 h.2
    obtain ⟨i, hi, ci⟩ := some_side K hok h.1 h.2
    have hd := Geo.dirs_none (genP K hok) k
    have pm := fun j => Geo.dir_pm (genP K hok) j
    obtain ⟨j, hj, cj, hji, hZ⟩ : ∃ j, j < ps.length ∧ Geo.cov (gy ps) j k ∧ j ≠ i ∧ ∀ m, m < ps.length → m ≠ i → m ≠ j → ¬ Geo.cov (gy ps) m k := by
      by_cases hex : ∃ j, j < ps.length ∧ Geo.cov (gy ps) j k ∧ j ≠ i
      · obtain ⟨j, hj, cj, hji⟩ := hex
        refine ⟨j, hj, cj, hji, fun m hm h1 h2 cm => ?_⟩
        have z0 := at_end K hok hb ci ca cb ua db
        have z1 := at_end K hok hb cj ca cb ua db
        have z2 := at_end K hok hb cm ca cb ua db
        have n1 : ZP ps H j (2 * k + 1) ≠ ZP ps H i (2 * k + 1) := fun e => hji (Z_ne K hok hj hi cj ci e)
        have n2 : ZP ps H m (2 * k + 1) ≠ ZP ps H i (2 * k + 1) := fun e => h1 (Z_ne K hok hm hi cm ci e)
        have n3 : ZP ps H m (2 * k + 1) ≠ ZP ps H j (2 * k + 1) := fun e => h2 (Z_ne K hok hm hj cm cj e)
        omega
      · exfalso
        rw [Geo.S_one (g := fun _ => 0) (m := i) _ hi (fun m hm hne => if_neg fun c => hex ⟨m, hm, c, hne⟩), Geo.S_zero, if_pos ci] at hd
        have := pm i
        omega
    have e1 := S_two (a := i) (b := j) hi hj (fun h => hji h.symm) (g := fun m => if Geo.cov (gy ps) m k then Geo.dir (gy ps) m else 0) (fun m hm h1 h2 => if_neg (hZ m hm h1 h2))
    have e2 : VP ps H k = _ := S_two (a := i) (b := j) hi hj (fun h => hji h.symm) (g := fun m => if Geo.cov (gy ps) m k then Geo.dir (gy ps) m * ZP ps H m (2 * k + 1) else 0) (fun m hm h1 h2 => if_neg (hZ m hm h1 h2))
    rw [hd, if_pos ci, if_pos cj] at e1
    rw [if_pos ci, if_pos cj] at e2
    have z0 := at_end K hok hb ci ca cb ua db
    have z1 := at_end K hok hb cj ca cb ua db
    have n1 : ZP ps H j (2 * k + 1) ≠ ZP ps H i (2 * k + 1) := fun e => hji (Z_ne K hok hj hi cj ci e)
    rw [hVH]
    rw [e2] at hV ⊢
    generalize ZP ps H i (2 * k + 1) = A at *
    generalize ZP ps H j (2 * k + 1) = B at *
    generalize ZH ps H a (2 * k + 1) = C at *
    generalize ZH ps H b (2 * k + 1) = E at *
    have pi := pm i
    have pj := pm j
    generalize Geo.dir (gy ps) i = x at *
    generalize Geo.dir (gy ps) j = y at *
    rcases pi with rfl | rfl
    · obtain rfl : y = -1 := by omega
      rcases hs with rfl | rfl <;> omega
    · obtain rfl : y = 1 := by omega
      rcases hs with rfl | rfl <;> omega
  · obtain ⟨h1, h2⟩ := v_none K hok h
    rw [h1, h2, Int.mul_zero]
/-- A polygon whose corners all lie on a hull's sides is as great as the hull. -/
theorem area_eq (hb : ∀ i, ∃ f, turn (crn H f) (crn H (f + 1)) (crn ps i) = 0) : max (area ps) (- area ps) = area H := by
  obtain ⟨s, hs, h0, _⟩ := rows_le K hok
  obtain ⟨a1, a2⟩ := areas K hok
  have hD : 0 < bigD H * bigD ps := Int.mul_pos (bigs K hok).2 (bigs K hok).1
  have hpos := (area_le K hok).1
  have l1 : s * Geo.S 400400 (fun m => VP ps H (-200200 + m)) = Geo.S 400400 (fun m => VH ps H (-200200 + m)) := by
    rw [← Geo.S_mul]; exact Geo.S_congr _ fun i _ => row_eq K hok hb hs (h0 _)
  rw [a1, a2] at l1
  generalize bigD H * bigD ps = D at *
  have e1 : D * (1000 * (s * area ps)) = D * (1000 * area H) := by grind
  have e2 := Int.eq_of_mul_eq_mul_left (by omega) e1
  rcases hs with rfl | rfl <;> omega
end
end Hu
end Go.Proofs.Ytgmhelclofnpkaa
namespace Go.Proofs.Ytgmhelclofnpkaa
namespace Hu
open Pl
/-- A side is crossed to the right of a point. -/
def crs (a b p : P2) : Bool :=
  if b.2 < a.2 then (decide (b.2 ≤ p.2) && decide (p.2 < a.2)) && decide (0 < turn b a p)
  else (decide (a.2 ≤ p.2) && decide (p.2 < b.2)) && decide (0 < turn a b p)
def crsTo (H : List P2) (p : P2) : Nat → Nat
  | 0 => 0
  | i + 1 => crsTo H p i + (if crs (at' H i) (nx H i) p = true then 1 else 0)
theorem crsTo_le (H : List P2) (p : P2) : ∀ k, crsTo H p k ≤ k
  | 0 => Nat.le_refl _
  | k + 1 => by
    have := crsTo_le H p k
    unfold crsTo
    split <;> omega
theorem crsTo_one {H : List P2} {p : P2} {a : Nat} : ∀ k, (∀ i, i < k → (crs (at' H i) (nx H i) p = true ↔ i = a)) → crsTo H p k = if a < k then 1 else 0
  | 0, _ => by rw [if_neg (by omega)]; rfl
  | k + 1, h => by
    have ih := crsTo_one k (fun i hi => h i (by omega))
    have hk := h k (by omega)
    unfold crsTo
    rw [ih]
    by_cases e : k = a
    · subst e
      rw [if_neg (by omega), if_pos (hk.2 rfl), if_pos (by omega)]
    · rw [if_neg (show ¬ crs (at' H k) (nx H k) p = true from fun c => e (hk.1 c))]
      by_cases c : a < k
      · rw [if_pos c, if_pos (by omega)]
      · rw [if_neg c, if_neg (by omega)]
section
variable {ps H : List P2} {e : Nat} (K : HullOf ps H e) (hok : ok ps = true)
include K hok
/-- A point of a side's line is on the side. -/
theorem on_side {i : Nat} {p : P2} (hp : p ∈ ps) (h0 : turn (crn H i) (crn H (i + 1)) p = 0) : has (crn H i) (crn H (i + 1)) p = true := by
  have b1 := beyond K hok hp h0
  have b2 := before K hok hp h0
  have n3 := u_side K hok i
  generalize crn H i = a at *
  generalize crn H (i + 1) = b at *
  unfold u fv at b1 b2 n3
  have hb : ((min a.1 b.1 ≤ p.1 ∧ p.1 ≤ max a.1 b.1) ∧ min a.2 b.2 ≤ p.2 ∧ p.2 ≤ max a.2 b.2) := by
    have h0' := h0
    unfold turn at h0'
    rcases Int.lt_or_gt_of_ne n3 with c | c
    · have := between (dX := b.1 - a.1) (dY := b.2 - a.2) (u := p.1 - a.1) (v := p.2 - a.2) (by grind) (by omega) (by omega) (by omega)
      omega
    · have := between (dX := a.1 - b.1) (dY := a.2 - b.2) (u := p.1 - b.1) (v := p.2 - b.2) (by grind) (by omega) (by omega) (by omega)
      omega
  unfold has
  rw [decide_eq_true h0, Bool.true_and, Bool.and_eq_true, btw_iff, btw_iff]
  exact ⟨hb.1, hb.2⟩
/-- A point on no side is inside. -/
theorem inside {p : P2} (hp : p ∈ ps) (hno : ∀ i, i < H.length → has (at' H i) (nx H i) p = false) : crsTo H p H.length = 1 := by
  have hn := n3 K hok
  have eN := K.eN
  have e0 := K.e0
  have hP := isP_iff.1 (List.all_eq_true.1 (ok_parts hok).2.1 _ hp)
  have hc : ∀ i, i < H.length → 0 < turn (crn H i) (crn H (i + 1)) p := fun i hi => by
    have h1 := K.left i p hp
    have h2 := hno i hi
    rw [← crn_lt hi, ← crn_nx hi] at h2
    false_or_by_contra
    rw [on_side K hok hp (by omega)] at h2
    cases h2
  have ib := fun i => isP_iff.1 (crn_is K hok i)
  have y0 : (crn H 0).2 ≤ p.2 := by
    have := u_lo K hok hp
    have := ib 0
    unfold u fv at *
    omega
  have y1 : p.2 < (crn H e).2 := by
    have h1 := u_hi K hok hp
    have h2 := ib e
    have h3 := ib (e + 1)
    have h4 := K.dn e (Nat.le_refl _) eN
    have h5 := hc e eN
    unfold u fv at h1 h4
    false_or_by_contra
    have e1 : p.2 = (crn H e).2 := by omega
    unfold turn at h5
    rw [e1, Int.sub_self, Int.mul_zero, Int.zero_sub] at h5
    have h6 := nn (show 0 ≤ (crn H e).2 - (crn H (e + 1)).2 by omega) (show 0 ≤ (crn H e).1 - p.1 by omega)
    have h7 : ((crn H e).2 - (crn H (e + 1)).2) * ((crn H e).1 - p.1) = ((crn H (e + 1)).2 - (crn H e).2) * (p.1 - (crn H e).1) := by grind
    omega
  have yu : ∀ i, i < e → (crn H i).2 ≤ (crn H (i + 1)).2 := fun i hi => by
    have h1 := K.up i hi
    have h2 := ib i
    have h3 := ib (i + 1)
    unfold u fv at h1
    omega
  have yd : ∀ i, e ≤ i → i < H.length → (crn H (i + 1)).2 ≤ (crn H i).2 := fun i h1 hi => by
    have h1 := K.dn i h1 hi
    have h2 := ib i
    have h3 := ib (i + 1)
    unfold u fv at h1
    omega
  have yl : ∀ j i, i ≤ j → j ≤ e → (crn H i).2 ≤ (crn H j).2 := fun j => by
    induction j with
    | zero => intro i h _; obtain rfl : i = 0 := by omega
              exact Int.le_refl _
    | succ j ih =>
      intro i h hj
      by_cases c : i = j + 1
      · rw [c]; exact Int.le_refl _
      · have := ih i (by omega) (by omega)
        have := yu j (by omega)
        omega
  obtain ⟨a, a1, a2, a3⟩ := pass (f := fun i => (crn H i).2) e y0 y1
  (try simp only at a2 a3)
  have key : ∀ i, i < H.length → (crs (at' H i) (nx H i) p = true ↔ i = a) := by
    intro i hi
    rw [← crn_lt hi, ← crn_nx hi]
    have ht := hc i hi
    unfold crs
    by_cases hie : i < e
    · have h1 := yu i hie
      rw [if_neg (by omega), decide_eq_true ht, Bool.and_true, Bool.and_eq_true, decide_eq_true_eq, decide_eq_true_eq]
      constructor
      · rintro ⟨c1, c2⟩
        false_or_by_contra
        rename_i hne
        rcases Nat.lt_or_gt_of_ne hne with c | c
        · have := yl a (i + 1) (by omega) (by omega); omega
        · have := yl i (a + 1) (by omega) (by omega); omega
      · rintro rfl
        exact ⟨a2, a3⟩
    · have h1 := yd i (by omega) hi
      constructor
      · intro h
        exfalso
        by_cases c : (crn H (i + 1)).2 < (crn H i).2
        · rw [if_pos c] at h
          simp only [Bool.and_eq_true, decide_eq_true_eq] at h
          rw [turn_swap'] at h
          omega
        · rw [if_neg c] at h
          simp only [Bool.and_eq_true, decide_eq_true_eq] at h
          omega
      · intro h; omega
  rw [crsTo_one _ key, if_pos (by omega)]
end
end Hu
end Go.Proofs.Ytgmhelclofnpkaa
