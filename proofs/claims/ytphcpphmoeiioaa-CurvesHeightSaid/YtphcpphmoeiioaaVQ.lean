/- Plain: the laws of curves about their truths. -/
import Derived.Test.YtphcpphmoeiioaaVP
namespace Go.Proofs.Ytphcpphmoeiioaa
def HtP (c : Cv) (p : Nat) (x : Int) : Prop := ∃ h, Truth c h ∧ h p = x
def InP (c : Cv) (a b s : Int) : Prop := ∃ h, Truth c h ∧ sUp h a b c.long = s
def LnP (c : Cv) (p : Nat) (r : Int) : Prop := ∃ h, Truth c h ∧ h (p + 1) - h p = r
def FewP (c : Cv) (n : Int) : Prop := (∃ h, Ok c c.long h ∧ (wUp c.kn h c.long : Int) = n) ∧ ∀ h, Ok c c.long h → n ≤ (wUp c.kn h c.long : Int)
/-- The greatest doubt left if the height at p is known. -/
def WstP (c : Cv) (p : Nat) (m : Int) : Prop :=
  (∃ h g, Truth c h ∧ Truth c g ∧ h p = g p ∧ sUp h 0 c.long c.long - sUp g 0 c.long c.long = m) ∧
  ∀ h g, Truth c h → Truth c g → h p = g p → sUp h 0 c.long c.long - sUp g 0 c.long c.long ≤ m
theorem sUp_add (h : Nat → Int) {a b d : Int} (h1 : a ≤ b) (h2 : b ≤ d) (k : Nat) : sUp h a d k = sUp h a b k + sUp h b d k := by
  induction k with
  | zero => rfl
  | succ k ih =>
    show sUp h a d k + _ = (sUp h a b k + _) + (sUp h b d k + _)
    rw [ih]
    by_cases e1 : a < (k : Int) + 1 ∧ (k : Int) + 1 ≤ b
    · have e2 : a < (k : Int) + 1 ∧ (k : Int) + 1 ≤ d := by omega
      have e3 : ¬ (b < (k : Int) + 1 ∧ (k : Int) + 1 ≤ d) := by omega
      rw [if_pos e1, if_pos e2, if_neg e3]; omega
    · by_cases e2 : b < (k : Int) + 1 ∧ (k : Int) + 1 ≤ d
      · have e3 : a < (k : Int) + 1 ∧ (k : Int) + 1 ≤ d := by omega
        rw [if_neg e1, if_pos e2, if_pos e3]; omega
      · have e3 : ¬ (a < (k : Int) + 1 ∧ (k : Int) + 1 ≤ d) := by omega
        rw [if_neg e1, if_neg e2, if_neg e3]; omega
theorem sUp_mono {h g : Nat → Int} {k : Nat} (e : ∀ i, i ≤ k → h i ≤ g i) (a b : Int) : sUp h a b k ≤ sUp g a b k := by
  induction k with
  | zero => exact Int.le_refl _
  | succ k ih =>
    show sUp h a b k + _ ≤ sUp g a b k + _
    have := ih fun i hi => e i (by omega)
    have e1 := e k (by omega)
    have e2 := e (k + 1) (Nat.le_refl _)
    split <;> omega
theorem sUp_same (h : Nat → Int) (a : Int) (k : Nat) : sUp h a a k = 0 := by
  induction k with
  | zero => rfl
  | succ k ih =>
    show sUp h a a k + _ = 0
    rw [ih, if_neg (by omega)]; rfl
/-- P7.12, the half that always is so. -/
theorem joined_le {c : Cv} {a b d s1 s2 t1 t2 u1 u2 : Int} (h1 : a ≤ b) (h2 : b ≤ d) (hs : IsSp (InP c a b) s1 s2) (ht : IsSp (InP c b d) t1 t2) (hu : IsSp (InP c a d) u1 u2) : s1 + t1 ≤ u1 ∧ u2 ≤ s2 + t2 := by
  constructor
  · obtain ⟨h, k1, k2⟩ := hu.1
    have e1 := hs.2.2 _ ⟨h, k1, rfl⟩
    have e2 := ht.2.2 _ ⟨h, k1, rfl⟩
    have := sUp_add h h1 h2 c.long
    omega
  · obtain ⟨h, k1, k2⟩ := hu.2.1
    have e1 := hs.2.2 _ ⟨h, k1, rfl⟩
    have e2 := ht.2.2 _ ⟨h, k1, rfl⟩
    have := sUp_add h h1 h2 c.long
    omega
theorem ok_min {c : Cv} {k : Nat} {h g : Nat → Int} (h1 : Ok c k h) (h2 : Ok c k g) : Ok c k (fun i => min (h i) (g i)) := by
  refine ⟨fun i hi => ?_, fun i hi => ?_⟩
  · have := h1.1 i hi; have := h2.1 i hi; show c.rlo ≤ min (h i) (g i) ∧ min (h i) (g i) ≤ c.rhi; omega
  · have := h1.2 i hi; have := h2.2 i hi
    show min (h i) (g i) - c.slope ≤ min (h (i + 1)) (g (i + 1)) ∧ min (h (i + 1)) (g (i + 1)) ≤ min (h i) (g i) + c.slope; omega
theorem ok_max {c : Cv} {k : Nat} {h g : Nat → Int} (h1 : Ok c k h) (h2 : Ok c k g) : Ok c k (fun i => max (h i) (g i)) := by
  refine ⟨fun i hi => ?_, fun i hi => ?_⟩
  · have := h1.1 i hi; have := h2.1 i hi; show c.rlo ≤ max (h i) (g i) ∧ max (h i) (g i) ≤ c.rhi; omega
  · have := h1.2 i hi; have := h2.2 i hi
    show max (h i) (g i) - c.slope ≤ max (h (i + 1)) (g (i + 1)) ∧ max (h (i + 1)) (g (i + 1)) ≤ max (h i) (g i) + c.slope; omega
theorem upK_false {k : Nat} {h : Nat → Int} {q : Kn} : upK k h q = false ↔ (0 ≤ q.pos → q.pos ≤ k → q.lo ≤ h q.pos.toNat ∧ h q.pos.toNat ≤ q.hi) := by
  unfold upK
  by_cases e1 : 0 ≤ q.pos <;> by_cases e2 : q.pos ≤ (k : Int) <;> by_cases e3 : q.lo ≤ h q.pos.toNat <;> by_cases e4 : h q.pos.toNat ≤ q.hi <;> simp [e1, e2, e3, e4]
theorem wUp_zero {kn : List Kn} {h : Nat → Int} {k : Nat} : wUp kn h k = 0 ↔ ∀ q, q ∈ kn → 0 ≤ q.pos → q.pos ≤ k → q.lo ≤ h q.pos.toNat ∧ h q.pos.toNat ≤ q.hi := by
  rw [wUp_count, List.countP_eq_zero]
  constructor
  · intro H q hq
    exact upK_false.1 (by simpa using H q hq)
  · intro H q hq
    have := upK_false.2 (H q hq)
    rw [this]; decide
theorem truth_min {c : Cv} (h0 : c.wrong ≤ 0) {h g : Nat → Int} (h1 : Truth c h) (h2 : Truth c g) : Truth c (fun i => min (h i) (g i)) := by
  refine ⟨ok_min h1.1 h2.1, ?_⟩
  have a1 := wUp_zero.1 (show wUp c.kn h c.long = 0 by have := h1.2; omega)
  have a2 := wUp_zero.1 (show wUp c.kn g c.long = 0 by have := h2.2; omega)
  have a3 : wUp c.kn (fun i => min (h i) (g i)) c.long = 0 := wUp_zero.2 fun q hq e1 e2 => by
    have b1 := a1 q hq e1 e2
    have b2 := a2 q hq e1 e2
    show q.lo ≤ min (h q.pos.toNat) (g q.pos.toNat) ∧ min (h q.pos.toNat) (g q.pos.toNat) ≤ q.hi
    omega
  have := h1.2
  omega
theorem truth_max {c : Cv} (h0 : c.wrong ≤ 0) {h g : Nat → Int} (h1 : Truth c h) (h2 : Truth c g) : Truth c (fun i => max (h i) (g i)) := by
  refine ⟨ok_max h1.1 h2.1, ?_⟩
  have a1 := wUp_zero.1 (show wUp c.kn h c.long = 0 by have := h1.2; omega)
  have a2 := wUp_zero.1 (show wUp c.kn g c.long = 0 by have := h2.2; omega)
  have a3 : wUp c.kn (fun i => max (h i) (g i)) c.long = 0 := wUp_zero.2 fun q hq e1 e2 => by
    have b1 := a1 q hq e1 e2
    have b2 := a2 q hq e1 e2
    show q.lo ≤ max (h q.pos.toNat) (g q.pos.toNat) ∧ max (h q.pos.toNat) (g q.pos.toNat) ≤ q.hi
    omega
  have := h1.2
  omega
/-- P7.12, if no knot is wrong: the least of two truths is one. -/
theorem joined_eq {c : Cv} (h0 : c.wrong ≤ 0) {a b d s1 s2 t1 t2 u1 u2 : Int} (h1 : a ≤ b) (h2 : b ≤ d) (hs : IsSp (InP c a b) s1 s2) (ht : IsSp (InP c b d) t1 t2) (hu : IsSp (InP c a d) u1 u2) : u1 = s1 + t1 ∧ u2 = s2 + t2 := by
  have hle := joined_le h1 h2 hs ht hu
  constructor
  · obtain ⟨h, k1, k2⟩ := hs.1
    obtain ⟨g, j1, j2⟩ := ht.1
    have tm := truth_min h0 k1 j1
    have e := hu.2.2 _ ⟨_, tm, rfl⟩
    have e1 := sUp_add (fun i => min (h i) (g i)) h1 h2 c.long
    have e2 := sUp_mono (h := fun i => min (h i) (g i)) (g := h) (k := c.long) (fun i _ => by show min (h i) (g i) ≤ h i; omega) a b
    have e3 := sUp_mono (h := fun i => min (h i) (g i)) (g := g) (k := c.long) (fun i _ => by show min (h i) (g i) ≤ g i; omega) b d
    omega
  · obtain ⟨h, k1, k2⟩ := hs.2.1
    obtain ⟨g, j1, j2⟩ := ht.2.1
    have tm := truth_max h0 k1 j1
    have e := hu.2.2 _ ⟨_, tm, rfl⟩
    have e1 := sUp_add (fun i => max (h i) (g i)) h1 h2 c.long
    have e2 := sUp_mono (h := h) (g := fun i => max (h i) (g i)) (k := c.long) (fun i _ => by show h i ≤ max (h i) (g i); omega) a b
    have e3 := sUp_mono (h := g) (g := fun i => max (h i) (g i)) (k := c.long) (fun i _ => by show g i ≤ max (h i) (g i); omega) b d
    omega
/-- Two curves whose truths are alike by a map. -/
theorem sp_map {P Q : Int → Prop} {lo hi : Int} (h : IsSp P lo hi) (f : Int → Int) (mono : ∀ x y, x ≤ y → f x ≤ f y) (to : ∀ s, P s → Q (f s)) (back : ∀ s, Q s → ∃ t, P t ∧ s = f t) : IsSp Q (f lo) (f hi) :=
  ⟨to _ h.1, to _ h.2.1, fun s hs => by obtain ⟨t, h1, rfl⟩ := back s hs; exact ⟨mono _ _ (h.2.2 t h1).1, mono _ _ (h.2.2 t h1).2⟩⟩
theorem sp_anti {P Q : Int → Prop} {lo hi : Int} (h : IsSp P lo hi) (to : ∀ s, P s → Q (-s)) (back : ∀ s, Q s → P (-s)) : IsSp Q (-hi) (-lo) :=
  ⟨to _ h.2.1, to _ h.1, fun s hs => by have := h.2.2 _ (back s hs); omega⟩
theorem sp_sub {P Q : Int → Prop} {lo hi lo' hi' : Int} (h : IsSp P lo hi) (k : IsSp Q lo' hi') (e : ∀ s, P s → Q s) : lo' ≤ lo ∧ lo ≤ hi ∧ hi ≤ hi' :=
  ⟨(k.2.2 _ (e _ h.1)).1, (h.2.2 _ h.2.1).1, (k.2.2 _ (e _ h.2.1)).2⟩
/-- P7.13: a curve that allows more. -/
structure Wider (c d : Cv) : Prop where
  long : d.long = c.long
  slope : c.slope ≤ d.slope
  rlo : d.rlo ≤ c.rlo
  rhi : c.rhi ≤ d.rhi
  wrong : c.wrong ≤ d.wrong
  kn : ∀ h k, wUp d.kn h k ≤ wUp c.kn h k
theorem Wider.truth {c d : Cv} (w : Wider c d) {h : Nat → Int} (k : Truth c h) : Truth d h := by
  have e := w.long; have e1 := w.slope; have e2 := w.rlo; have e3 := w.rhi; have e4 := w.wrong
  refine ⟨⟨fun i hi => ?_, fun i hi => ?_⟩, ?_⟩
  · have := k.1.1 i (by omega); omega
  · have := k.1.2 i (by omega); omega
  · have := w.kn h c.long; have := k.2; rw [e]; omega
theorem wUp_append (l : List Kn) (q : Kn) (h : Nat → Int) (k : Nat) : wUp l h k ≤ wUp (l ++ [q]) h k := by
  rw [wUp_count, wUp_count, List.countP_append]; omega
theorem Wider.knot (c : Cv) (q : Kn) : Wider { c with kn := c.kn ++ [q] } c :=
  ⟨rfl, Int.le_refl _, Int.le_refl _, Int.le_refl _, Int.le_refl _, fun h k => wUp_append c.kn q h k⟩
theorem Wider.more (c : Cv) {s w r : Int} (h1 : 0 ≤ s) (h2 : 0 ≤ w) (h3 : 0 ≤ r) : Wider c { c with slope := c.slope + s, wrong := c.wrong + w, rlo := c.rlo - r, rhi := c.rhi + r } :=
  ⟨rfl, by show c.slope ≤ c.slope + s; omega, by show c.rlo - r ≤ c.rlo; omega, by show c.rhi ≤ c.rhi + r; omega, by show c.wrong ≤ c.wrong + w; omega, fun _ _ => Nat.le_refl _⟩
theorem Wider.ht {c d : Cv} (w : Wider c d) (p : Nat) (x : Int) : HtP c p x → HtP d p x := fun ⟨h, k, e⟩ => ⟨h, w.truth k, e⟩
theorem Wider.inp {c d : Cv} (w : Wider c d) (a b x : Int) : InP c a b x → InP d a b x := fun ⟨h, k, e⟩ => ⟨h, w.truth k, by rw [w.long]; exact e⟩
theorem Wider.ln {c d : Cv} (w : Wider c d) (p : Nat) (x : Int) : LnP c p x → LnP d p x := fun ⟨h, k, e⟩ => ⟨h, w.truth k, e⟩
/-- P7.15: all bounds greater by n. -/
def up (c : Cv) (n : Int) : Cv := { c with rlo := c.rlo + n, rhi := c.rhi + n, kn := c.kn.map fun q => ⟨q.pos, q.lo + n, q.hi + n⟩ }
theorem wUp_up (l : List Kn) (n : Int) (h : Nat → Int) (k : Nat) : wUp (l.map fun q => ⟨q.pos, q.lo + n, q.hi + n⟩) (fun i => h i + n) k = wUp l h k := by
  rw [wUp_count, wUp_count, List.countP_map]
  congr 1
  funext q
  show upK k (fun i => h i + n) ⟨q.pos, q.lo + n, q.hi + n⟩ = upK k h q
  unfold upK
  show (decide (0 ≤ q.pos) && decide (q.pos ≤ (k : Int)) && !(decide (q.lo + n ≤ h q.pos.toNat + n) && decide (h q.pos.toNat + n ≤ q.hi + n))) = _
  rw [decide_eq_decide.mpr (show (q.lo + n ≤ h q.pos.toNat + n) ↔ (q.lo ≤ h q.pos.toNat) by omega), decide_eq_decide.mpr (show (h q.pos.toNat + n ≤ q.hi + n) ↔ (h q.pos.toNat ≤ q.hi) by omega)]
theorem ok_up {c : Cv} {n : Int} {k : Nat} {h : Nat → Int} (H : Ok c k h) : Ok (up c n) k (fun i => h i + n) := by
  refine ⟨fun i hi => ?_, fun i hi => ?_⟩
  · have := H.1 i hi; show c.rlo + n ≤ h i + n ∧ h i + n ≤ c.rhi + n; omega
  · have := H.2 i hi; show h i + n - c.slope ≤ h (i + 1) + n ∧ h (i + 1) + n ≤ h i + n + c.slope; omega
theorem truth_up {c : Cv} {n : Int} {h : Nat → Int} (H : Truth c h) : Truth (up c n) (fun i => h i + n) :=
  ⟨ok_up H.1, by show ((wUp (c.kn.map _) _ c.long : Nat) : Int) ≤ c.wrong; rw [wUp_up]; exact H.2⟩
theorem up_up (c : Cv) (n : Int) : up (up c n) (-n) = c := by
  unfold up
  have e1 : c.rlo + n + -n = c.rlo := by omega
  have e2 : c.rhi + n + -n = c.rhi := by omega
  show Cv.mk c.long c.slope (c.rlo + n + -n) (c.rhi + n + -n) ((c.kn.map _).map _) c.wrong = c
  rw [e1, e2, List.map_map]
  have e3 : c.kn.map ((fun q : Kn => (⟨q.pos, q.lo + -n, q.hi + -n⟩ : Kn)) ∘ fun q : Kn => (⟨q.pos, q.lo + n, q.hi + n⟩ : Kn)) = c.kn := by
    conv => rhs; rw [← List.map_id c.kn]
    refine List.map_congr_left fun q _ => ?_
    show Kn.mk q.pos (q.lo + n + -n) (q.hi + n + -n) = q
    rw [Int.add_neg_cancel_right, Int.add_neg_cancel_right]
  rw [e3]
theorem truth_dn {c : Cv} {n : Int} {h : Nat → Int} (H : Truth (up c n) h) : Truth c (fun i => h i + -n) := by
  have := truth_up (n := -n) H
  rwa [up_up] at this
/-- How many ways from a to b lie up to place k. -/
def cUp (a b : Int) : Nat → Int
  | 0 => 0
  | k + 1 => cUp a b k + (if a < (k : Int) + 1 ∧ (k : Int) + 1 ≤ b then 1 else 0)
theorem cUp_eq (a b : Int) (h0 : 0 ≤ a) (h1 : a ≤ b) (k : Nat) : cUp a b k = max 0 (min b k - a) := by
  induction k with
  | zero => show (0 : Int) = _; simp only [Int.natCast_zero] at *; omega
  | succ k ih =>
    show cUp a b k + _ = _
    rw [ih]
    split <;> omega
theorem sUp_up (h : Nat → Int) (n a b : Int) (k : Nat) : sUp (fun i => h i + n) a b k = sUp h a b k + 2 * n * cUp a b k := by
  induction k with
  | zero => show (0 : Int) = 0 + 2 * n * 0; omega
  | succ k ih =>
    show sUp (fun i => h i + n) a b k + (if _ then (h k + n) + (h (k + 1) + n) else 0) = (sUp h a b k + _) + 2 * n * (cUp a b k + _)
    rw [ih, Int.mul_add]
    split
    · show _ + (h k + n + (h (k + 1) + n)) = _
      omega
    · omega
theorem up_ht {c : Cv} {n : Int} {p : Nat} {lo hi : Int} (H : IsSp (HtP c p) lo hi) : IsSp (HtP (up c n) p) (lo + n) (hi + n) :=
  sp_map H (· + n) (fun _ _ h => Int.add_le_add_right h n) (fun s ⟨h, k, e⟩ => ⟨_, truth_up k, by show h p + n = s + n; rw [e]⟩)
    (fun s ⟨h, k, e⟩ => ⟨s + -n, ⟨_, truth_dn k, by show h p + -n = s + -n; rw [e]⟩, by show s = s + -n + n; omega⟩)
theorem up_in {c : Cv} {n a b : Int} (h0 : 0 ≤ a) (h1 : a ≤ b) (h2 : b ≤ c.long) {lo hi : Int} (H : IsSp (InP c a b) lo hi) : IsSp (InP (up c n) a b) (lo + 2 * n * (b - a)) (hi + 2 * n * (b - a)) := by
  have e : cUp a b c.long = b - a := by rw [cUp_eq a b h0 h1]; omega
  refine sp_map H (· + 2 * n * (b - a)) (fun _ _ h => Int.add_le_add_right h _) (fun s ⟨h, k, e1⟩ => ⟨_, truth_up k, ?_⟩) (fun s ⟨h, k, e1⟩ => ⟨s + -(2 * n * (b - a)), ⟨_, truth_dn k, ?_⟩, ?_⟩)
  · show sUp (fun i => h i + n) a b c.long = _
    rw [sUp_up, e, e1]
  · rw [sUp_up, e]
    have e2 : 2 * -n * (b - a) = -(2 * n * (b - a)) := by rw [Int.mul_neg, Int.neg_mul]
    rw [e2]
    show sUp h a b c.long + _ = _
    have e3 : sUp h a b c.long = s := e1
    rw [e3]
  · show s = s + -(2 * n * (b - a)) + 2 * n * (b - a); omega
theorem up_ln {c : Cv} {n : Int} {p : Nat} {lo hi : Int} (H : IsSp (LnP c p) lo hi) : IsSp (LnP (up c n) p) lo hi :=
  H.congr fun s => ⟨fun ⟨h, k, e⟩ => ⟨_, truth_up k, by show h (p + 1) + n - (h p + n) = s; omega⟩, fun ⟨h, k, e⟩ => ⟨_, truth_dn k, by show h (p + 1) + -n - (h p + -n) = s; omega⟩⟩
theorem up_few {c : Cv} {n m : Int} (H : FewP c m) : FewP (up c n) m := by
  obtain ⟨⟨h, k, e⟩, H2⟩ := H
  refine ⟨⟨_, ok_up k, ?_⟩, fun g hg => ?_⟩
  · show ((wUp (c.kn.map _) _ c.long : Nat) : Int) = m; rw [wUp_up]; exact e
  · have k1 := ok_up (n := -n) hg
    rw [up_up] at k1
    have e1 := H2 _ k1
    have e2 := wUp_up (up c n).kn (-n) g c.long
    have e3 : ((up c n).kn.map fun q => (⟨q.pos, q.lo + -n, q.hi + -n⟩ : Kn)) = c.kn := congrArg Cv.kn (up_up c n)
    rw [e3] at e2
    rw [e2] at e1
    exact e1
theorem up_wst {c : Cv} {n : Int} {p : Nat} {m : Int} (H : WstP c p m) : WstP (up c n) p m := by
  obtain ⟨⟨h, g, k1, k2, k3, k4⟩, H2⟩ := H
  refine ⟨⟨_, _, truth_up k1, truth_up k2, by show h p + n = g p + n; rw [k3], ?_⟩, fun h g j1 j2 j3 => ?_⟩
  · show sUp (fun i => h i + n) 0 c.long c.long - sUp (fun i => g i + n) 0 c.long c.long = m
    rw [sUp_up, sUp_up]; omega
  · have := H2 _ _ (truth_dn j1) (truth_dn j2) (by show h p + -n = g p + -n; rw [j3])
    rw [sUp_up, sUp_up] at this
    show sUp h 0 c.long c.long - sUp g 0 c.long c.long ≤ m
    omega
end Go.Proofs.Ytphcpphmoeiioaa
