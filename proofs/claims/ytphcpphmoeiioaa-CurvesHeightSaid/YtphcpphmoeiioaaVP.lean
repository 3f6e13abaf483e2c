/- Plain: curves. Knots, the wrong ones, rows of heights as functions, what a front holds. No program in sight. -/
namespace Go.Proofs.Ytphcpphmoeiioaa
structure Kn where
  pos : Int
  lo : Int
  hi : Int
structure Cv where
  long : Nat
  slope : Int
  rlo : Int
  rhi : Int
  kn : List Kn
  wrong : Int
def badK (p x : Int) (k : Kn) : Bool := decide (k.pos = p) && !(decide (k.lo ≤ x) && decide (x ≤ k.hi))
/-- How many knots at a place are wrong with a height. -/
def wrs (kn : List Kn) (p x : Int) : Nat := kn.countP (badK p x)
/-- How many knots of the places up to k are wrong. -/
def wUp (kn : List Kn) (h : Nat → Int) : Nat → Nat
  | 0 => wrs kn 0 (h 0)
  | k + 1 => wUp kn h k + wrs kn ((k : Int) + 1) (h (k + 1))
/-- The integral from a to b, of the ways up to place k. -/
def sUp (h : Nat → Int) (a b : Int) : Nat → Int
  | 0 => 0
  | k + 1 => sUp h a b k + (if a < (k : Int) + 1 ∧ (k : Int) + 1 ≤ b then h k + h (k + 1) else 0)
/-- Heights of the places up to k are in the range and not too steep. -/
def Ok (c : Cv) (k : Nat) (h : Nat → Int) : Prop :=
  (∀ i, i ≤ k → c.rlo ≤ h i ∧ h i ≤ c.rhi) ∧ ∀ i, i < k → h i - c.slope ≤ h (i + 1) ∧ h (i + 1) ≤ h i + c.slope
def Fits (f : Int → Option Int) (k : Nat) (h : Nat → Int) : Prop := ∀ i : Nat, i ≤ k → ∀ n, f i = some n → n = h i
def Truth (c : Cv) (h : Nat → Int) : Prop := Ok c c.long h ∧ (wUp c.kn h c.long : Int) ≤ c.wrong
/-- What 'allows' says. -/
def Al (c : Cv) (f : Int → Option Int) (p x : Int) : Prop := c.rlo ≤ x ∧ x ≤ c.rhi ∧ ∀ n, f p = some n → n = x
/-- The states at place k: height, wrong knots up to it, an integral up to it. -/
def St (c : Cv) (f : Int → Option Int) (a b : Int) : Nat → Int → Int → Int → Prop
  | 0, x, w, s => Al c f 0 x ∧ w = wrs c.kn 0 x ∧ s = 0
  | k + 1, x, w, s => ∃ y v t, St c f a b k y v t ∧ y - c.slope ≤ x ∧ x ≤ y + c.slope ∧ Al c f ((k : Int) + 1) x ∧
      w = v + wrs c.kn ((k : Int) + 1) x ∧ w ≤ 8 ∧ s = t + (if a < (k : Int) + 1 ∧ (k : Int) + 1 ≤ b then y + x else 0)
def upK (k : Nat) (h : Nat → Int) (q : Kn) : Bool := decide (0 ≤ q.pos) && decide (q.pos ≤ k) && !(decide (q.lo ≤ h q.pos.toNat) && decide (h q.pos.toNat ≤ q.hi))
theorem wUp_count (kn : List Kn) (h : Nat → Int) (k : Nat) : wUp kn h k = kn.countP (upK k h) := by
  induction k with
  | zero =>
    unfold wUp wrs
    congr 1
    funext q
    unfold badK upK
    by_cases e : q.pos = 0
    · simp [e]
    · have : ¬ (0 ≤ q.pos ∧ q.pos ≤ 0) := by omega
      simp only [decide_eq_false e, Bool.false_and]
      by_cases e1 : 0 ≤ q.pos
      · have e2 : ¬ q.pos ≤ ((0 : Nat) : Int) := by simp; omega
        rw [decide_eq_false e2]; simp
      · rw [decide_eq_false e1]; simp
  | succ k ih =>
    show wUp kn h k + wrs kn ((k : Int) + 1) (h (k + 1)) = _
    rw [ih]
    unfold wrs
    clear ih
    induction kn with
    | nil => rfl
    | cons q l ih =>
      rw [List.countP_cons, List.countP_cons, List.countP_cons]
      have key : (if upK k h q = true then 1 else 0) + (if badK ((k : Int) + 1) (h (k + 1)) q = true then 1 else 0) = (if upK (k + 1) h q = true then 1 else 0) := by
        by_cases e : q.pos = (k : Int) + 1
        · have e1 : upK k h q = false := by
            unfold upK
            have : ¬ q.pos ≤ (k : Int) := by omega
            rw [decide_eq_false this]; simp
          have e3 : q.pos.toNat = k + 1 := by omega
          have e2 : upK (k + 1) h q = badK ((k : Int) + 1) (h (k + 1)) q := by
            unfold upK badK
            have a1 : (0 : Int) ≤ q.pos := by omega
            have a2 : q.pos ≤ ((k + 1 : Nat) : Int) := by omega
            rw [decide_eq_true e, decide_eq_true a1, decide_eq_true a2, e3]; rfl
          rw [e1, e2]; simp
        · have e1 : badK ((k : Int) + 1) (h (k + 1)) q = false := by unfold badK; rw [decide_eq_false e]; rfl
          have e2 : upK (k + 1) h q = upK k h q := by
            unfold upK
            have : (q.pos ≤ ((k + 1 : Nat) : Int)) ↔ (q.pos ≤ (k : Int)) := by omega
            rw [decide_eq_decide.mpr this]
          rw [e1, e2]; simp
      omega
theorem wUp_le (kn : List Kn) (h : Nat → Int) (k : Nat) : wUp kn h k ≤ kn.length := by
  rw [wUp_count]; exact List.countP_le_length
theorem wUp_congr {kn : List Kn} {h g : Nat → Int} {k : Nat} (e : ∀ i, i ≤ k → h i = g i) : wUp kn h k = wUp kn g k := by
  induction k with
  | zero => show wrs _ _ _ = wrs _ _ _; rw [e 0 (Nat.le_refl _)]
  | succ k ih => show wUp kn h k + wrs _ _ _ = wUp kn g k + wrs _ _ _; rw [ih (fun i hi => e i (by omega)), e (k + 1) (Nat.le_refl _)]
theorem sUp_congr {h g : Nat → Int} {a b : Int} {k : Nat} (e : ∀ i, i ≤ k → h i = g i) : sUp h a b k = sUp g a b k := by
  induction k with
  | zero => rfl
  | succ k ih => show sUp h a b k + _ = sUp g a b k + _; rw [ih (fun i hi => e i (by omega)), e (k + 1) (Nat.le_refl _), e k (by omega)]
/-- A state is the end of a row of heights. -/
theorem st_iff (c : Cv) (hk : c.kn.length ≤ 8) (f : Int → Option Int) (a b : Int) (k : Nat) : ∀ x w s, St c f a b k x w s ↔ ∃ h, Ok c k h ∧ Fits f k h ∧ h k = x ∧ (wUp c.kn h k : Int) = w ∧ sUp h a b k = s := by
  induction k with
  | zero =>
    intro x w s
    constructor
    · rintro ⟨⟨a1, a2, a3⟩, rfl, rfl⟩
      refine ⟨fun _ => x, ⟨fun i _ => ⟨a1, a2⟩, fun i hi => by omega⟩, fun i hi n hn => ?_, rfl, rfl, rfl⟩
      have : i = 0 := by omega
      subst this
      exact a3 n hn
    · rintro ⟨h, ⟨h1, _⟩, h3, rfl, rfl, rfl⟩
      exact ⟨⟨(h1 0 (Nat.le_refl _)).1, (h1 0 (Nat.le_refl _)).2, fun n hn => h3 0 (Nat.le_refl _) n hn⟩, rfl, rfl⟩
  | succ k ih =>
    intro x w s
    constructor
    · rintro ⟨y, v, t, h0, b1, b2, ⟨a1, a2, a3⟩, rfl, _, rfl⟩
      obtain ⟨h, ⟨h1, h2⟩, h3, rfl, rfl, rfl⟩ := (ih y v t).1 h0
      have e : ∀ i, i ≤ k → (if i ≤ k then h i else x) = h i := fun i hi => if_pos hi
      have e' : (if k + 1 ≤ k then h (k + 1) else x) = x := if_neg (by omega)
      refine ⟨fun i => if i ≤ k then h i else x, ⟨fun i hi => ?_, fun i hi => ?_⟩, fun i hi n hn => ?_, e', ?_, ?_⟩
      · by_cases e1 : i ≤ k
        · show c.rlo ≤ (if i ≤ k then h i else x) ∧ (if i ≤ k then h i else x) ≤ c.rhi
          rw [if_pos e1]; exact h1 i e1
        · show c.rlo ≤ (if i ≤ k then h i else x) ∧ (if i ≤ k then h i else x) ≤ c.rhi
          rw [if_neg e1]; exact ⟨a1, a2⟩
      · show (if i ≤ k then h i else x) - c.slope ≤ (if i + 1 ≤ k then h (i + 1) else x) ∧ (if i + 1 ≤ k then h (i + 1) else x) ≤ (if i ≤ k then h i else x) + c.slope
        by_cases e1 : i < k
        · rw [if_pos (by omega), if_pos (by omega)]; exact h2 i e1
        · have : i = k := by omega
          subst this
          rw [if_pos (Nat.le_refl _), e']; exact ⟨b1, b2⟩
      · show n = if i ≤ k then h i else x
        by_cases e1 : i ≤ k
        · rw [if_pos e1]; exact h3 i e1 n hn
        · rw [if_neg e1]
          have : i = k + 1 := by omega
          subst this
          exact a3 n (by simpa using hn)
      · show ((wUp c.kn _ k + wrs c.kn ((k : Int) + 1) (if k + 1 ≤ k then h (k + 1) else x) : Nat) : Int) = _
        rw [wUp_congr e, e']; push_cast; rfl
      · show sUp _ a b k + (if a < (k : Int) + 1 ∧ (k : Int) + 1 ≤ b then (if k ≤ k then h k else x) + (if k + 1 ≤ k then h (k + 1) else x) else 0) = _
        rw [sUp_congr e, e', if_pos (Nat.le_refl k)]
    · rintro ⟨h, ⟨h1, h2⟩, h3, rfl, rfl, rfl⟩
      refine ⟨h k, wUp c.kn h k, sUp h a b k, (ih _ _ _).2 ⟨h, ⟨fun i hi => h1 i (by omega), fun i hi => h2 i (by omega)⟩, fun i hi => h3 i (by omega), rfl, rfl, rfl⟩, (h2 k (by omega)).1, (h2 k (by omega)).2, ⟨(h1 _ (Nat.le_refl _)).1, (h1 _ (Nat.le_refl _)).2, fun n hn => h3 _ (Nat.le_refl _) n (by simpa using hn)⟩, ?_, ?_, rfl⟩
      · show ((wUp c.kn h k + wrs c.kn ((k : Int) + 1) (h (k + 1)) : Nat) : Int) = _
        push_cast; rfl
      · have := wUp_le c.kn h (k + 1)
        omega
/-- The least and the greatest number of a kind. -/
def IsSp (P : Int → Prop) (lo hi : Int) : Prop := P lo ∧ P hi ∧ ∀ s, P s → lo ≤ s ∧ s ≤ hi
theorem IsSp.uniq {P : Int → Prop} {lo hi lo' hi' : Int} (h : IsSp P lo hi) (k : IsSp P lo' hi') : lo = lo' ∧ hi = hi' := by
  have a1 := h.2.2 _ k.1; have a2 := h.2.2 _ k.2.1; have b1 := k.2.2 _ h.1; have b2 := k.2.2 _ h.2.1
  omega
theorem IsSp.congr {P Q : Int → Prop} {lo hi : Int} (h : IsSp P lo hi) (e : ∀ s, P s ↔ Q s) : IsSp Q lo hi :=
  ⟨(e _).1 h.1, (e _).1 h.2.1, fun s hs => h.2.2 s ((e s).2 hs)⟩
/-- What a front holds: for each state its least and its greatest integral. -/
def Fro (F : Int → Int → Option (Int × Int)) (R : Int → Int → Int → Prop) : Prop :=
  ∀ x w, match F x w with
    | none => ∀ s, ¬ R x w s
    | some p => IsSp (R x w) p.1 p.2
/-- One sum more, put into a front. -/
def putF (F : Int → Int → Option (Int × Int)) (x w lo hi : Int) : Int → Int → Option (Int × Int) := fun y v =>
  if y = x ∧ v = w then (match F x w with
    | none => some (lo, hi)
    | some p => some (min lo p.1, max hi p.2))
  else F y v
theorem fro_put {F : Int → Int → Option (Int × Int)} {R : Int → Int → Int → Prop} (h : Fro F R) {x w lo hi : Int} {P : Int → Prop} (k : IsSp P lo hi) :
    Fro (putF F x w lo hi) (fun y v s => R y v s ∨ (y = x ∧ v = w ∧ P s)) := by
  intro y v
  unfold putF
  by_cases e : y = x ∧ v = w
  · rw [if_pos e]
    obtain ⟨rfl, rfl⟩ := e
    have := h y v
    cases hF : F y v with
    | none =>
      rw [hF] at this
      exact ⟨Or.inr ⟨rfl, rfl, k.1⟩, Or.inr ⟨rfl, rfl, k.2.1⟩, fun s hs => by
        rcases hs with hs | ⟨_, _, hs⟩
        · exact absurd hs (this s)
        · exact k.2.2 s hs⟩
    | some p =>
      rw [hF] at this
      refine ⟨?_, ?_, fun s hs => ?_⟩
      · show R y v (min lo p.1) ∨ (y = y ∧ v = v ∧ P (min lo p.1))
        rcases Int.le_total lo p.1 with e | e
        · rw [Int.min_eq_left e]; exact Or.inr ⟨rfl, rfl, k.1⟩
        · rw [Int.min_eq_right e]; exact Or.inl this.1
      · show R y v (max hi p.2) ∨ (y = y ∧ v = v ∧ P (max hi p.2))
        rcases Int.le_total hi p.2 with e | e
        · rw [Int.max_eq_right e]; exact Or.inl this.2.1
        · rw [Int.max_eq_left e]; exact Or.inr ⟨rfl, rfl, k.2.1⟩
      · show min lo p.1 ≤ s ∧ s ≤ max hi p.2
        rcases hs with hs | ⟨_, _, hs⟩
        · have := this.2.2 s hs; omega
        · have := k.2.2 s hs; omega
  · rw [if_neg e]
    have := h y v
    cases hF : F y v with
    | none =>
      rw [hF] at this
      exact fun s hs => by
        rcases hs with hs | ⟨e1, e2, _⟩
        · exact this s hs
        · exact e ⟨e1, e2⟩
    | some p =>
      rw [hF] at this
      exact this.congr fun s => ⟨Or.inl, fun hs => by
        rcases hs with hs | ⟨e1, e2, _⟩
        · exact hs
        · exact absurd ⟨e1, e2⟩ e⟩
theorem Fro.congr {F : Int → Int → Option (Int × Int)} {R Q : Int → Int → Int → Prop} (h : Fro F R) (e : ∀ x w s, R x w s ↔ Q x w s) : Fro F Q := by
  intro x w
  have := h x w
  cases hF : F x w with
  | none => rw [hF] at this; exact fun s hs => this s ((e _ _ _).2 hs)
  | some p => rw [hF] at this; exact this.congr (e x w)
end Go.Proofs.Ytphcpphmoeiioaa
