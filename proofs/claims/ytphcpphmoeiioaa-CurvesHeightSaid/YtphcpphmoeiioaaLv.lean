/- Level: below and above. -/
import Derived.Test.YtphcpphmoeiioaaWD
import Derived.Test.YtphcpphmoeiioaaFwA
import Derived.Test.YtphcpphmoeiioaaWK
namespace Go.Proofs.Ytphcpphmoeiioaa
open Go.RowKit Go.Maps

def delF (F : Int → Int → Option (Int × Int)) (x v : Int) : Int → Int → Option (Int × Int) := fun y u => if y = x ∧ u = v then none else F y u
theorem holdsF_del {D : DataW Unit} {F : Int → Int → Option (Int × Int)} (h : HoldsF D F) {x v : Int} (hx : (Lit.int .i64 x).wf = true) (hv : (Lit.int .i64 v).wf = true) : HoldsF (D.del (kS x v)) (delF F x v) := by
  intro y u hy hu
  unfold delF
  by_cases e : y = x ∧ u = v
  · rw [if_pos e]
    obtain ⟨rfl, rfl⟩ := e
    exact has_del_same
  · rw [if_neg e]
    have hne : kS y u ≠ kS x v := fun e' => e (kS_inj hy hu hx hv e')
    have := h y u hy hu
    cases hf : F y u with
    | none => rw [hf] at this; simpa [has_del_other hne] using this
    | some p => rw [hf] at this; exact ⟨by rw [has_del_other hne]; exact this.1, fun z => by rw [atKey_del_other hne]; exact this.2 z⟩
theorem MapF.congrW {w : World} {b n : Nat} {F G : Int → Int → Option (Int × Int)} (h : MapF w b n F) (e : ∀ x v, (Lit.int .i64 x).wf = true → (Lit.int .i64 v).wf = true → F x v = G x v) : MapF w b n G := by
  obtain ⟨D, h1, h2⟩ := h
  exact ⟨D, h1, fun x v hx hv => by rw [← e x v hx hv]; exact h2 x v hx hv⟩
theorem RngF.congr {w : World} {b r n cnt : Nat} {F G : Int → Int → Option (Int × Int)} {left l2 : Int → Int → Bool} (h : RngF w b r n F left cnt) (e1 : ∀ x v, F x v = G x v) (e2 : ∀ x v, left x v = l2 x v) : RngF w b r n G l2 cnt := by
  obtain rfl : F = G := funext fun x => funext fun v => e1 x v
  obtain rfl : left = l2 := funext fun x => funext fun v => e2 x v
  exact h
section
variable (w : World) {ops : Array Oper} {rest : List Oper} {o : Oper} {a : Act} {Q : Exit → Act → World → Prop}
set_option maxRecDepth 100000 in
/-- 'delete(f, x)' in a round over f. -/
theorem wp_delF (hg : o.guard = none) (m x : Operand) (t : TypeId) (hop : o.op = Op.call { callee := Callee.builtin Builtin.delete, args := #[m, x], argTypes := #[t, 106] }) (ht : Try.prog.underlying t = some (.map 106 83)) (b r n : Nat) (F : Int → Int → Option (Int × Int)) (left : Int → Int → Bool) (cnt : Nat)
    (hm : a.eval m = .map (some b)) (h : RngF w b r n F left cnt) (y u : Int) (hx : a.eval x = .agg #[.int .i64 y, .int .i64 u]) (hy : (Lit.int .i64 y).wf = true) (hu : (Lit.int .i64 u).wf = true)
    (hK : ∀ w' cnt', RngF w' b r n (delF F y u) (fun z v => left z v && !decide (z = y ∧ v = u)) cnt' → cnt' ≤ cnt → w.grownBy w' (some b) → wpList Try.prog ops Q rest (a.put o.dst (.tuple #[])) w') :
    wpList Try.prog ops Q (o :: rest) a w := by
  obtain ⟨D, l, h1, h2, h3⟩ := h
  refine wpList_delete_ranges w hg m x t 106 hop 83 keyedS ht sumR b r n D l cnt hm h1 _ (kS y u) hx (keyS hy hu) ?_
  intro w' cnt' hr hle ht'
  refine hK w' cnt' ⟨_, _, hr, holdsF_del h2 hy hu, fun z v hz hv => ?_⟩ hle ht'.grown
  show (l (kS z v) && !(kS z v).sameKey (kS y u)) = _
  rw [h3 z v hz hv]
  congr 2
  by_cases e : z = y ∧ v = u
  · obtain ⟨rfl, rfl⟩ := e
    rw [decide_eq_true ⟨rfl, rfl⟩]
    exact WideAt.sameKey_self (keyedS.key (keyS hy hu))
  · rw [decide_eq_false e]
    exact sameKey_ne (fun e' => e (kS_inj hz hv hy hu e'))
end
/-- What is left of a front while the bad heights are struck. -/
def dL (F : Int → Int → Option (Int × Int)) (left : Int → Int → Bool) (bad : Int → Bool) : Int → Int → Option (Int × Int) := fun z u => if (left z u || !bad z) = true then F z u else none
theorem dL_start (F : Int → Int → Option (Int × Int)) (bad : Int → Bool) (x v : Int) : F x v = dL F (fun z u => (F z u).isSome) bad x v := by
  unfold dL
  cases h : F x v with
  | none => simp
  | some p => simp [h]
theorem dL_end {F : Int → Int → Option (Int × Int)} {left : Int → Int → Bool} {bad : Int → Bool} {x v : Int} (h : left x v = false) : dL F left bad x v = if bad x = true then none else F x v := by
  unfold dL
  rw [h]
  cases bad x <;> rfl
theorem dL_skip {F : Int → Int → Option (Int × Int)} {left l2 : Int → Int → Bool} {bad : Int → Bool} {x v : Int} (hb : bad x = false) (hl : ∀ z u, l2 z u = (left z u && !decide (z = x ∧ u = v))) (z u : Int) : dL F left bad z u = dL F l2 bad z u := by
  unfold dL
  rw [hl]
  by_cases e : z = x ∧ u = v
  · obtain ⟨rfl, rfl⟩ := e
    rw [hb]; simp
  · rw [decide_eq_false e]; simp
theorem dL_del {F : Int → Int → Option (Int × Int)} {left l2 : Int → Int → Bool} {bad : Int → Bool} {x v : Int} (hb : bad x = true) (hl : ∀ z u, l2 z u = (left z u && !decide (z = x ∧ u = v))) (z u : Int) : delF (dL F left bad) x v z u = dL F l2 bad z u := by
  unfold delF dL
  rw [hl]
  by_cases e : z = x ∧ u = v
  · rw [if_pos e]
    obtain ⟨rfl, rfl⟩ := e
    rw [hb]; simp
  · rw [if_neg e, decide_eq_false e]; simp
/-- Whether a height at a place is at least the level, between both places. -/
def badB (lv a b p x : Int) : Bool := btw p a b && decide (lv ≤ x)
/-- The states at place k of rows of heights that are below the level between both places. -/
def StB (c : Cv) (lv a b : Int) (k : Nat) (x w s : Int) : Prop := ∃ h, Ok c k h ∧ (∀ i : Nat, i ≤ k → badB lv a b i (h i) = false) ∧ h k = x ∧ (wUp c.kn h k : Int) = w ∧ s = 0
theorem fro_fil {F : Int → Int → Option (Int × Int)} {R T : Int → Int → Int → Prop} {bad : Int → Bool} (h : Fro F R) (e : ∀ x w s, T x w s ↔ R x w s ∧ bad x = false) : Fro (fun z u => if bad z = true then none else F z u) T := by
  intro x w
  have hk := h x w
  show match (if bad x = true then none else F x w) with | none => _ | some p => _
  cases hb : bad x with
  | true =>
    rw [if_pos rfl]
    intro s hs
    have := ((e x w s).1 hs).2
    rw [hb] at this; cases this
  | false =>
    rw [if_neg (by simp)]
    cases hf : F x w with
    | none =>
      rw [hf] at hk
      exact fun s hs => hk s ((e x w s).1 hs).1
    | some p =>
      rw [hf] at hk
      exact IsSp.congr hk fun s => ⟨fun hs => (e x w s).2 ⟨hs, hb⟩, fun hs => ((e x w s).1 hs).1⟩
theorem stB_zero {L sl rl rh wg : Int} {ks : List Kn} {lv a b x w s : Int} : StB (cvOf L sl rl rh wg ks) lv a b 0 x w s ↔ BegR rl rh ks (fun _ => none) 0 (rh + 1) x w s ∧ badB lv a b 0 x = false := by
  constructor
  · rintro ⟨h, h1, h2, rfl, rfl, rfl⟩
    have k1 : rl ≤ h 0 ∧ h 0 ≤ rh := h1.1 0 (Nat.le_refl _)
    exact ⟨⟨k1.1, by omega, alB_1' k1, rfl, rfl⟩, h2 0 (Nat.le_refl _)⟩
  · rintro ⟨⟨k1, k2, _, rfl, rfl⟩, k3⟩
    refine ⟨fun _ => x, ⟨fun i hi => ⟨k1, by show x ≤ rh; omega⟩, fun i hi => by omega⟩, fun i hi => ?_, rfl, rfl, rfl⟩
    obtain rfl : i = 0 := by omega
    exact k3
where
  alB_1' {rl rh x : Int} (k : rl ≤ x ∧ x ≤ rh) : alB rl rh (fun _ => none) 0 x = true := by
    rw [alB_2 (btw_iff.2 k) rfl]
theorem stB_next {L sl rl rh wg : Int} {ks : List Kn} (hk : ks.length ≤ 8) {lv a b x w s : Int} {k : Nat} : StB (cvOf L sl rl rh wg ks) lv a b (k + 1) x w s ↔ NxR sl rl rh ks (fun _ => none) ((k : Int) + 1) false (StB (cvOf L sl rl rh wg ks) lv a b k) x w s ∧ badB lv a b ((k : Int) + 1) x = false := by
  constructor
  · rintro ⟨h, h1, h2, rfl, rfl, rfl⟩
    have k1 : rl ≤ h (k + 1) ∧ h (k + 1) ≤ rh := h1.1 (k + 1) (Nat.le_refl _)
    have k2 : h k - sl ≤ h (k + 1) ∧ h (k + 1) ≤ h k + sl := h1.2 k (by omega)
    refine ⟨⟨h k, wUp ks h k, 0, trivial, ⟨h, ⟨fun i hi => h1.1 i (by omega), fun i hi => h1.2 i (by omega)⟩, fun i hi => h2 i (by omega), rfl, rfl, rfl⟩, k2, by rw [alB_2 (btw_iff.2 k1) rfl], ?_, ?_, by simp⟩, by simpa using h2 (k + 1) (Nat.le_refl _)⟩
    · show ((wUp ks h k + wrs ks ((k : Int) + 1) (h (k + 1)) : Nat) : Int) = _
      push_cast; rfl
    · have := wUp_le ks h (k + 1)
      show (wUp ks h (k + 1) : Int) ≤ 8
      omega
  · rintro ⟨⟨y, v, t, _, ⟨h, h1, h2, rfl, rfl, rfl⟩, k2, k3, rfl, _, rfl⟩, k4⟩
    have k5 : rl ≤ x ∧ x ≤ rh := btw_iff.1 (by unfold alB at k3; rw [Bool.and_eq_true] at k3; exact k3.1)
    have e : ∀ i, i ≤ k → (if i ≤ k then h i else x) = h i := fun i hi => if_pos hi
    have e' : (if k + 1 ≤ k then h (k + 1) else x) = x := if_neg (by omega)
    refine ⟨fun i => if i ≤ k then h i else x, ⟨fun i hi => ?_, fun i hi => ?_⟩, fun i hi => ?_, e', ?_, by simp⟩
    · show rl ≤ (if i ≤ k then h i else x) ∧ (if i ≤ k then h i else x) ≤ rh
      by_cases e1 : i ≤ k
      · rw [if_pos e1]; exact h1.1 i e1
      · rw [if_neg e1]; exact k5
    · show (if i ≤ k then h i else x) - sl ≤ (if i + 1 ≤ k then h (i + 1) else x) ∧ (if i + 1 ≤ k then h (i + 1) else x) ≤ (if i ≤ k then h i else x) + sl
      by_cases e1 : i < k
      · rw [if_pos (by omega), if_pos (by omega)]; exact h1.2 i e1
      · obtain rfl : i = k := by omega
        rw [if_pos (Nat.le_refl _), e']; exact k2
    · show badB lv a b i (if i ≤ k then h i else x) = false
      by_cases e1 : i ≤ k
      · rw [if_pos e1]; exact h2 i e1
      · rw [if_neg e1]
        obtain rfl : i = k + 1 := by omega
        simpa using k4
    · show ((wUp ks _ k + wrs ks ((k : Int) + 1) (if k + 1 ≤ k then h (k + 1) else x) : Nat) : Int) = _
      rw [wUp_congr e, e']; push_cast; rfl
theorem stB_Bd {L sl rl rh wg : Int} {ks : List Kn} (h1 : -100 ≤ rl) (h2 : rh ≤ 100) (hk : ks.length ≤ 8) (lv a b : Int) (k : Nat) : Bd (StB (cvOf L sl rl rh wg ks) lv a b k) := by
  rintro x v s ⟨h, k1, _, rfl, rfl, rfl⟩
  have k2 : rl ≤ h k ∧ h k ≤ rh := k1.1 k (Nat.le_refl _)
  have := wUp_le ks h k
  show (-100 ≤ h k ∧ h k ≤ 100) ∧ (0 ≤ (wUp ks h k : Int) ∧ (wUp ks h k : Int) ≤ 8) ∧ _
  omega
/-- There is a truth all of whose heights between both places are below the level. -/
def BelT (c : Cv) (lv a b : Int) : Prop := ∃ h, Truth c h ∧ ∀ i : Nat, i ≤ c.long → a ≤ i → (i : Int) ≤ b → h i < lv
theorem badB_f {lv a b p x : Int} : badB lv a b p x = false ↔ (a ≤ p → p ≤ b → x < lv) := by
  unfold badB
  rw [Bool.and_eq_false_iff, decide_eq_false_iff_not]
  constructor
  · rintro (h | h) h1 h2
    · rw [btw_iff.2 ⟨h1, h2⟩] at h; cases h
    · omega
  · intro h
    cases hb : btw p a b with
    | false => exact Or.inl rfl
    | true => right; have := h (btw_iff.1 hb).1 (btw_iff.1 hb).2; omega
theorem belT_of {L sl rl rh wg : Int} {ks : List Kn} (h1 : -100 ≤ rl) (h2 : rh ≤ 100) (hk : ks.length ≤ 8) {lv a b : Int} {F : Int → Int → Option (Int × Int)} (hF : Fro F (StB (cvOf L sl rl rh wg ks) lv a b L.toNat)) {v : Int} (hL : LeastF F (fun _ _ => false) v) :
    (decide (0 ≤ v) && decide (v ≤ wg)) = true ↔ BelT (cvOf L sl rl rh wg ks) lv a b := by
  rw [Bool.and_eq_true, decide_eq_true_eq, decide_eq_true_eq]
  have hb := stB_Bd (L := L) (sl := sl) (wg := wg) h1 h2 hk lv a b L.toNat
  constructor
  · rintro ⟨k1, k2⟩
    rcases hL with ⟨_, _⟩ | ⟨_, ⟨x, _, hx⟩, _⟩
    · omega
    · cases e : F x v with
      | none => rw [e] at hx; cases hx
      | some p =>
        obtain ⟨h, j1, j2, _, j3, _⟩ := (hF.at e).1
        exact ⟨h, ⟨j1, by show (wUp ks h L.toNat : Int) ≤ wg; have : (wUp ks h L.toNat : Int) = v := j3; omega⟩, fun i hi => badB_f.1 (j2 i hi)⟩
  · rintro ⟨h, ⟨j1, j2⟩, j3⟩
    have hs : StB (cvOf L sl rl rh wg ks) lv a b L.toNat (h L.toNat) (wUp ks h L.toNat) 0 := ⟨h, j1, fun i hi => badB_f.2 (j3 i hi), rfl, rfl, rfl⟩
    have j2' : (wUp ks h L.toNat : Int) ≤ wg := j2
    obtain ⟨lo, hi, e⟩ := hF.some hs
    have hsm : (F (h L.toNat) (wUp ks h L.toNat)).isSome = true := by rw [e]; rfl
    rcases hL with ⟨_, k2⟩ | ⟨k0, _, k2⟩
    · have := k2 _ _ (hb.wf1 hs) (hb.wf2 hs) hsm; cases this
    · have := k2 _ _ (hb.wf1 hs) (hb.wf2 hs) hsm rfl
      omega
end Go.Proofs.Ytphcpphmoeiioaa
namespace Go.Proofs.Ytphcpphmoeiioaa
open Go.RowKit Go.Maps

/-- A front ahead of the k-th deleting, and behind it. -/
def PreB (sl rl rh : Int) (ks : List Kn) (R : Nat → Int → Int → Int → Prop) : Nat → Int → Int → Int → Prop
  | 0 => BegR rl rh ks (fun _ => none) 0 (rh + 1)
  | k + 1 => NxR sl rl rh ks (fun _ => none) ((k : Int) + 1) false (R k)
def AftB (rl rh : Int) (ks : List Kn) (R : Nat → Int → Int → Int → Prop) : Nat → Int → Int → Int → Prop
  | 0 => BegR rl rh ks (fun _ => none) 0 (rh + 1)
  | k + 1 => R k
theorem stB_pre {L sl rl rh wg : Int} {ks : List Kn} (hk : ks.length ≤ 8) {lv a b x w s : Int} : ∀ {k : Nat}, StB (cvOf L sl rl rh wg ks) lv a b k x w s ↔ PreB sl rl rh ks (StB (cvOf L sl rl rh wg ks) lv a b) k x w s ∧ badB lv a b k x = false
  | 0 => stB_zero
  | k + 1 => by
    have := stB_next (L := L) (sl := sl) (rl := rl) (rh := rh) (wg := wg) hk (lv := lv) (a := a) (b := b) (x := x) (w := w) (s := s) (k := k)
    simpa [PreB] using this
set_option maxRecDepth 100000 in
set_option maxHeartbeats 8000000 in
theorem below75 (L sl rl rh wg : Int) (A : Option Addr) (n cap : Nat) (ks : List Kn) (lv a b : Int) (w : World) (hA : Rd 3 w A (ks.map krow)) (hn : Hid (n = ks.length)) (hV : Hid (CvV L sl rl rh wg ks)) :
    Calls Try.prog 75 #[.agg #[.int .i64 L, .int .i64 sl, .int .i64 rl, .int .i64 rh, .slice A n cap, .int .i64 wg, .map none], .int .i64 lv, .int .i64 a, .int .i64 b] w fun e w' => ∃ r : Bool, e = .returned (.bool r) ∧ Hid (r = true ↔ BelT (cvOf L sl rl rh wg ks) lv a b) ∧ Below w.heap.size w w' := by
  have HA := Lib.hid hA
  have hk : Hid (ks.length ≤ 8) := hV.out.kl
  have hl1 := hV.out.l1
  have hl2 := hV.out.l2
  have hf0 : ∀ w : World, FixM w (.map none) (fun _ => none) := fun _ => Or.inl ⟨rfl, rfl⟩
  clear hA
  go_enter Try.func75, Try.ntmps75
  go_wp2_with fail
  refine (begin82s (wr := wg) (L := L) (sl := sl) (rl := rl) (rh := rh) (A := A) (n := n) (cap := cap) (ks := ks) (.map none) (fun _ => none) 0 _ (HA.out.below (Below.alloc (Below.refl w.heap.size _) (Nat.le_refl _) _) (Nat.le_refl _)) hn hk (hf0 _) rfl hV.out.r1 hV.out.r0 hV.out.r2).mono ?_
  rintro e w1 ⟨b1, F1, rfl, hbb, hm1, hfr1, hb1⟩
  have o1 : Own w1 w.heap.size [.int .i64 L, .int .i64 sl, .int .i64 rl, .int .i64 rh, .slice A n cap, .int .i64 wg, .map none] := (Own.new' _ _ rfl rfl).below hb1 (by simp)
  have hB1 : Below w.heap.size w w1 := by (repeat' (first | (with_reducible exact Below.refl _ _) | (with_reducible assumption) | (with_reducible refine Below.drew ?_) | (with_reducible refine below_drewN ?_ _) | (with_reducible refine Below.setCell ?_ ?_ _) | (with_reducible refine Below.alloc ?_ ?_ _) | (refine Below.trans ?_ (Below.mono (by with_reducible assumption) ?_)) | omega | (exact Below.size (by with_reducible assumption)) | (simp; done) | (simp; omega)))
  have hg1 : w.heap.size < b1 := by simp only [World.size_alloc] at hbb; omega
  clear hb1 hbb
  go_wp2
  go_loopg [9, 10] (L.toNat + 1) (fun K y z w5 => ∃ (k b' : Nat) (F : Int → Int → Option (Int × Int)) (p : Int), z = .int .i64 p ∧ p = (k : Int) ∧ y = .map (some b') ∧ K + k = L.toNat + 1 ∧ w.heap.size < b' ∧ MapF w5 b' 1809 F ∧ Hid (Fro F (AftB rl rh ks (StB (cvOf L sl rl rh wg ks) lv a b) k)) ∧ Own w5 w.heap.size [.int .i64 L, .int .i64 sl, .int .i64 rl, .int .i64 rh, .slice A n cap, .int .i64 wg, .map none] ∧ Below w.heap.size w w5)
  case atStart => exact ⟨0, b1, F1, 0, rfl, rfl, rfl, rfl, hg1, hm1, hfr1, o1, hB1⟩
  case round =>
    clear hm1 hfr1 o1 hB1 hg1
    obtain ⟨k, b', F, p, rfl, hp, rfl, hK, hgb, hm, hS, hown, hbw⟩ := hrel
    have HP := Lib.hid hp
    by_cases hlt : p ≤ L
    · rcases k with _ | j
      · obtain rfl : p = 0 := hp
        have hG : Hid (Fro F (PreB sl rl rh ks (StB (cvOf L sl rl rh wg ks) lv a b) 0)) := hS
        clear hS
        try clear hp
        have HM := Lib.hid hm
        have hml := hm.lt
        have HW := Lib.hid hown
        obtain ⟨l0, k0, f0⟩ := hown
        have hsz := hbw.size
        have HB := Lib.hid hbw
        have HRz : Hid (wr.heap.size = wr.heap.size) := rfl
        clear hm hbw
        go_wp2_with (first | (at_range; go_must (refine wp_rangeF _ rfl _ _ rfl Try.underlying92 b' 1809 F rfl (HM.out.below (B := wr.heap.size) (by (repeat' (first | (with_reducible exact Below.refl _ _) | (with_reducible assumption) | (with_reducible refine Below.drew ?_) | (with_reducible refine below_drewN ?_ _) | (with_reducible refine Below.setCell ?_ ?_ _) | (with_reducible refine Below.alloc ?_ ?_ _) | (refine Below.trans ?_ (Below.mono (by with_reducible assumption) ?_)) | omega | (exact Below.size (by with_reducible assumption)) | (simp; done) | (simp; omega)))) hml) ?_); intro w4 cn hr4 hb4 hz4 hcn))
        (try go_frame)
        have HR4 := Lib.hid (hr4.congr (dL_start F (badB lv a b 0)) (fun _ _ => rfl))
        have hB4 := Lib.hid (HB.out.trans (hb4.mono hsz))
        have HW4 := Lib.hid (HW.out.below hb4 l0)
        obtain ⟨r4, hr4e⟩ : ∃ r, r = wr.heap.size := ⟨_, rfl⟩
        have hr4l : w.heap.size < r4 := by omega
        rw [← hr4e] at HR4 ⊢
        clear hr4 hb4 hr4e hz4
        go_loopg [] cn (fun K w5 => ∃ left : Int → Int → Bool, Hid (RngF w5 b' r4 1809 (dL F left (badB lv a b 0)) left K) ∧ Hid (Own w5 w.heap.size [.int .i64 L, .int .i64 sl, .int .i64 rl, .int .i64 rh, .slice A n cap, .int .i64 wg, .map none]) ∧ Hid (Below w.heap.size w w5))
        case atStart => exact ⟨_, HR4, HW4, hB4⟩
        case round =>
          clear HR4 HW4 hB4 HB HW HM l0 k0 f0
          obtain ⟨left, hrg, hown, hbw⟩ := hrel
          obtain ⟨l0, k0, f0⟩ := hown.out
          have hsw := hbw.out.size
          go_wp2_with (at_next; refine wp_nextF _ rfl _ rfl b' r4 1809 (dL F left (badB lv a b 0)) left _ rfl hrg.out ?_ ?_)
          · intro hc0 hl0
            have hm9 := Lib.hid (hrg.out.map.congrW (fun x v hx hv => dL_end (F := F) (bad := badB lv a b 0) (hl0 x v hx hv)))
            have hS9 := Lib.hid (fro_fil (T := StB (cvOf L sl rl rh wg ks) lv a b (0)) hG.out (fun x w s => by have := stB_pre (L := L) (sl := sl) (rl := rl) (rh := rh) (wg := wg) hk.out (lv := lv) (a := a) (b := b) (x := x) (w := w) (s := s) (k := 0); rwa [← HP.out] at this))
            clear hl0 hrg hG k0 f0
            go_wp2
            go_roundg (L.toNat + 1 - (0 + 1))
            case measure => have := HP.out; omega
            case rel => exact ⟨0 + 1, b', _, 0 + 1, by go_num, by have := HP.out; omega, rfl, by have := HP.out; omega, hgb, hm9.out, hS9, hown.out, hbw.out⟩
          · intro x u lo hi w6 cnt6 hwx hwu hlx hfx hrg6 hlt6 hg6 hs6 hen
            obtain ⟨l2, hL2, hR6⟩ : ∃ l2 : Int → Int → Bool, Hid (∀ z v, l2 z v = (left z v && !decide (z = x ∧ v = u))) ∧ Hid (RngF w6 b' r4 1809 (dL F left (badB lv a b 0)) l2 cnt6) := ⟨_, Lib.hid (fun _ _ => (by first | rfl | simp)), Lib.hid hrg6⟩
            have hrl := hR6.out.lt
            have hbl := hR6.out.map.lt
            have hox := Lib.hid (hown.out.grown hg6 (by simp; omega))
            have hb6 := Lib.hid (hbw.out.grown hg6 hbw.out.size (fun i hi => by cases hi; omega))
            have HX := Lib.hid hwx
            have HU := Lib.hid hwu
            clear hrg6 hlx hfx hrg hown hbw l0 k0 f0 hwx hwu hg6
            obtain ⟨l0, k0, f0⟩ := hox.out
            have hs6' := hb6.out.size
            cases hbt : btw 0 a b
            · have HBT := Lib.hid hbt
              clear hbt
              go_wp2_with (first | (go_at_call 66; refine (within66 _ _ _ _).mono ?_; rw [HBT.out]; rintro e w7 ⟨rfl, rfl⟩))
              go_roundg cnt6
              case measure => omega
              case rel => exact ⟨l2, Lib.hid ((hR6.out.below (B := w6.heap.size) (by (repeat' (first | (with_reducible exact Below.refl _ _) | (with_reducible assumption) | (with_reducible refine Below.drew ?_) | (with_reducible refine below_drewN ?_ _) | (with_reducible refine Below.setCell ?_ ?_ _) | (with_reducible refine Below.alloc ?_ ?_ _) | (refine Below.trans ?_ (Below.mono (by with_reducible assumption) ?_)) | omega | (exact Below.size (by with_reducible assumption)) | (simp; done) | (simp; omega)))) hbl hrl).congr (dL_skip (by unfold badB; rw [HBT.out]; rfl) hL2.out) (fun _ _ => rfl)), Lib.hid (hox.out.below (B := w6.heap.size) (by (repeat' (first | (with_reducible exact Below.refl _ _) | (with_reducible assumption) | (with_reducible refine Below.drew ?_) | (with_reducible refine below_drewN ?_ _) | (with_reducible refine Below.setCell ?_ ?_ _) | (with_reducible refine Below.alloc ?_ ?_ _) | (refine Below.trans ?_ (Below.mono (by with_reducible assumption) ?_)) | omega | (exact Below.size (by with_reducible assumption)) | (simp; done) | (simp; omega)))) l0), Lib.hid (hb6.out.trans ((show Below w6.heap.size w6 _ by (repeat' (first | (with_reducible exact Below.refl _ _) | (with_reducible assumption) | (with_reducible refine Below.drew ?_) | (with_reducible refine below_drewN ?_ _) | (with_reducible refine Below.setCell ?_ ?_ _) | (with_reducible refine Below.alloc ?_ ?_ _) | (refine Below.trans ?_ (Below.mono (by with_reducible assumption) ?_)) | omega | (exact Below.size (by with_reducible assumption)) | (simp; done) | (simp; omega)))).mono hs6'))⟩
            · have HBT := Lib.hid hbt
              clear hbt
              by_cases hxl : lv ≤ x
              · have HXL := Lib.hid hxl
                go_wp2_with (first | (go_at_call 66; refine (within66 _ _ _ _).mono ?_; rw [HBT.out]; rintro e w7 ⟨rfl, rfl⟩) | (at_delete; go_must (refine wp_delF _ rfl _ _ _ rfl Try.underlying92 b' r4 1809 (dL F left (badB lv a b 0)) l2 cnt6 rfl (hR6.out.below (B := w6.heap.size) (by (repeat' (first | (with_reducible exact Below.refl _ _) | (with_reducible assumption) | (with_reducible refine Below.drew ?_) | (with_reducible refine below_drewN ?_ _) | (with_reducible refine Below.setCell ?_ ?_ _) | (with_reducible refine Below.alloc ?_ ?_ _) | (refine Below.trans ?_ (Below.mono (by with_reducible assumption) ?_)) | omega | (exact Below.size (by with_reducible assumption)) | (simp; done) | (simp; omega)))) hbl hrl) x u rfl HX.out HU.out ?_); intro w8 cnt8 hR8 hle8 hg8))
                go_roundg cnt8
                case measure => omega
                case rel => exact ⟨l2, Lib.hid (hR8.congr (dL_del (by unfold badB; rw [HBT.out]; exact decide_eq_true HXL.out) hL2.out) (fun z v => by rw [hL2.out]; cases left z v <;> simp)), Lib.hid ((hox.out.below (B := w6.heap.size) (by (repeat' (first | (with_reducible exact Below.refl _ _) | (with_reducible assumption) | (with_reducible refine Below.drew ?_) | (with_reducible refine below_drewN ?_ _) | (with_reducible refine Below.setCell ?_ ?_ _) | (with_reducible refine Below.alloc ?_ ?_ _) | (refine Below.trans ?_ (Below.mono (by with_reducible assumption) ?_)) | omega | (exact Below.size (by with_reducible assumption)) | (simp; done) | (simp; omega)))) l0).grown hg8 (by simp; omega)), Lib.hid ((hb6.out.trans ((show Below w6.heap.size w6 _ by (repeat' (first | (with_reducible exact Below.refl _ _) | (with_reducible assumption) | (with_reducible refine Below.drew ?_) | (with_reducible refine below_drewN ?_ _) | (with_reducible refine Below.setCell ?_ ?_ _) | (with_reducible refine Below.alloc ?_ ?_ _) | (refine Below.trans ?_ (Below.mono (by with_reducible assumption) ?_)) | omega | (exact Below.size (by with_reducible assumption)) | (simp; done) | (simp; omega)))).mono hs6')).grown hg8 (by first | omega | (simp; omega)) (fun i hi => by cases hi; omega))⟩
              · have HXL := Lib.hid hxl
                go_wp2_with (first | (go_at_call 66; refine (within66 _ _ _ _).mono ?_; rw [HBT.out]; rintro e w7 ⟨rfl, rfl⟩))
                go_roundg cnt6
                case measure => omega
                case rel => exact ⟨l2, Lib.hid ((hR6.out.below (B := w6.heap.size) (by (repeat' (first | (with_reducible exact Below.refl _ _) | (with_reducible assumption) | (with_reducible refine Below.drew ?_) | (with_reducible refine below_drewN ?_ _) | (with_reducible refine Below.setCell ?_ ?_ _) | (with_reducible refine Below.alloc ?_ ?_ _) | (refine Below.trans ?_ (Below.mono (by with_reducible assumption) ?_)) | omega | (exact Below.size (by with_reducible assumption)) | (simp; done) | (simp; omega)))) hbl hrl).congr (dL_skip (by unfold badB; rw [HBT.out]; exact decide_eq_false (by have := HXL.out; omega)) hL2.out) (fun _ _ => rfl)), Lib.hid (hox.out.below (B := w6.heap.size) (by (repeat' (first | (with_reducible exact Below.refl _ _) | (with_reducible assumption) | (with_reducible refine Below.drew ?_) | (with_reducible refine below_drewN ?_ _) | (with_reducible refine Below.setCell ?_ ?_ _) | (with_reducible refine Below.alloc ?_ ?_ _) | (refine Below.trans ?_ (Below.mono (by with_reducible assumption) ?_)) | omega | (exact Below.size (by with_reducible assumption)) | (simp; done) | (simp; omega)))) l0), Lib.hid (hb6.out.trans ((show Below w6.heap.size w6 _ by (repeat' (first | (with_reducible exact Below.refl _ _) | (with_reducible assumption) | (with_reducible refine Below.drew ?_) | (with_reducible refine below_drewN ?_ _) | (with_reducible refine Below.setCell ?_ ?_ _) | (with_reducible refine Below.alloc ?_ ?_ _) | (refine Below.trans ?_ (Below.mono (by with_reducible assumption) ?_)) | omega | (exact Below.size (by with_reducible assumption)) | (simp; done) | (simp; omega)))).mono hs6'))⟩
      · have hp0 : 0 < p := by omega
        have hp' : Hid (p = (j : Int) + 1) := Lib.hid (by omega)
        have hpw : (Lit.int .i64 p).wf = true := Go.WalkArith.wf_i64 (by omega)
        have HPW := Lib.hid hpw
        have hS' : Hid (Fro F (StB (cvOf L sl rl rh wg ks) lv a b j)) := hS
        have HM := Lib.hid hm
        have hml := hm.lt
        have HW := Lib.hid hown
        obtain ⟨l0, k0, f0⟩ := hown
        have hsz := hbw.size
        have HB := Lib.hid hbw
        clear hm hbw hS hpw hp
        go_wp2_with fail
        refine (step83s L sl rl rh wg A n cap ks (.map none) (fun _ => none) p false b' F _ _ (HA.out.below HB.out (Nat.le_refl _)) hn hk (hf0 _) HPW.out HM.out hS' (stB_Bd (L := L) (sl := sl) (wg := wg) hV.out.r1 hV.out.r2 hV.out.kl lv a b j) hV.out.r1 hV.out.r0 hV.out.r2 hV.out.s1 hV.out.s2).mono ?_
        rintro e w3 ⟨b3, G, rfl, hb3g, hm3, hG3, hb3⟩
        have hgb3 : w.heap.size < b3 := by have := l0; omega
        have hG : Hid (Fro G (PreB sl rl rh ks (StB (cvOf L sl rl rh wg ks) lv a b) (j + 1))) := by have := hG3.out; rw [hp'.out] at this; exact Lib.hid this
        have hown := HW.out.below hb3 l0
        have hbw := HB.out.trans (hb3.mono hsz)
        have hm := hm3
        clear hgb hml l0 k0 f0 HM HW HB hS' hsz hb3 hm3 hG3 hb3g
        have hgb := hgb3
        clear hgb3
        have HM := Lib.hid hm
        have hml := hm.lt
        have HW := Lib.hid hown
        obtain ⟨l0, k0, f0⟩ := hown
        have hsz := hbw.size
        have HB := Lib.hid hbw
        have HRz : Hid (w3.heap.size = w3.heap.size) := rfl
        clear hm hbw
        go_wp2_with (first | (at_range; go_must (refine wp_rangeF _ rfl _ _ rfl Try.underlying92 b3 1809 G rfl (HM.out.below (B := w3.heap.size) (by (repeat' (first | (with_reducible exact Below.refl _ _) | (with_reducible assumption) | (with_reducible refine Below.drew ?_) | (with_reducible refine below_drewN ?_ _) | (with_reducible refine Below.setCell ?_ ?_ _) | (with_reducible refine Below.alloc ?_ ?_ _) | (refine Below.trans ?_ (Below.mono (by with_reducible assumption) ?_)) | omega | (exact Below.size (by with_reducible assumption)) | (simp; done) | (simp; omega)))) hml) ?_); intro w4 cn hr4 hb4 hz4 hcn))
        (try go_frame)
        have HR4 := Lib.hid (hr4.congr (dL_start G (badB lv a b p)) (fun _ _ => rfl))
        have hB4 := Lib.hid (HB.out.trans (hb4.mono hsz))
        have HW4 := Lib.hid (HW.out.below hb4 l0)
        obtain ⟨r4, hr4e⟩ : ∃ r, r = w3.heap.size := ⟨_, rfl⟩
        have hr4l : w.heap.size < r4 := by omega
        rw [← hr4e] at HR4 ⊢
        clear hr4 hb4 hr4e hz4
        go_loopg [] cn (fun K w5 => ∃ left : Int → Int → Bool, Hid (RngF w5 b3 r4 1809 (dL G left (badB lv a b p)) left K) ∧ Hid (Own w5 w.heap.size [.int .i64 L, .int .i64 sl, .int .i64 rl, .int .i64 rh, .slice A n cap, .int .i64 wg, .map none]) ∧ Hid (Below w.heap.size w w5))
        case atStart => exact ⟨_, HR4, HW4, hB4⟩
        case round =>
          clear HR4 HW4 hB4 HB HW HM l0 k0 f0
          obtain ⟨left, hrg, hown, hbw⟩ := hrel
          obtain ⟨l0, k0, f0⟩ := hown.out
          have hsw := hbw.out.size
          go_wp2_with (at_next; refine wp_nextF _ rfl _ rfl b3 r4 1809 (dL G left (badB lv a b p)) left _ rfl hrg.out ?_ ?_)
          · intro hc0 hl0
            have hm9 := Lib.hid (hrg.out.map.congrW (fun x v hx hv => dL_end (F := G) (bad := badB lv a b p) (hl0 x v hx hv)))
            have hS9 := Lib.hid (fro_fil (T := StB (cvOf L sl rl rh wg ks) lv a b ((j + 1))) hG.out (fun x w s => by have := stB_pre (L := L) (sl := sl) (rl := rl) (rh := rh) (wg := wg) hk.out (lv := lv) (a := a) (b := b) (x := x) (w := w) (s := s) (k := (j + 1)); rwa [← HP.out] at this))
            clear hl0 hrg hG k0 f0
            go_wp2
            go_roundg (L.toNat + 1 - ((j + 1) + 1))
            case measure => have := HP.out; omega
            case rel => exact ⟨(j + 1) + 1, b3, _, p + 1, by go_num, by have := HP.out; omega, rfl, by have := HP.out; omega, hgb, hm9.out, hS9, hown.out, hbw.out⟩
          · intro x u lo hi w6 cnt6 hwx hwu hlx hfx hrg6 hlt6 hg6 hs6 hen
            obtain ⟨l2, hL2, hR6⟩ : ∃ l2 : Int → Int → Bool, Hid (∀ z v, l2 z v = (left z v && !decide (z = x ∧ v = u))) ∧ Hid (RngF w6 b3 r4 1809 (dL G left (badB lv a b p)) l2 cnt6) := ⟨_, Lib.hid (fun _ _ => (by first | rfl | simp)), Lib.hid hrg6⟩
            have hrl := hR6.out.lt
            have hbl := hR6.out.map.lt
            have hox := Lib.hid (hown.out.grown hg6 (by simp; omega))
            have hb6 := Lib.hid (hbw.out.grown hg6 hbw.out.size (fun i hi => by cases hi; omega))
            have HX := Lib.hid hwx
            have HU := Lib.hid hwu
            clear hrg6 hlx hfx hrg hown hbw l0 k0 f0 hwx hwu hg6
            obtain ⟨l0, k0, f0⟩ := hox.out
            have hs6' := hb6.out.size
            cases hbt : btw p a b
            · have HBT := Lib.hid hbt
              clear hbt
              go_wp2_with (first | (go_at_call 66; refine (within66 _ _ _ _).mono ?_; rw [HBT.out]; rintro e w7 ⟨rfl, rfl⟩))
              go_roundg cnt6
              case measure => omega
              case rel => exact ⟨l2, Lib.hid ((hR6.out.below (B := w6.heap.size) (by (repeat' (first | (with_reducible exact Below.refl _ _) | (with_reducible assumption) | (with_reducible refine Below.drew ?_) | (with_reducible refine below_drewN ?_ _) | (with_reducible refine Below.setCell ?_ ?_ _) | (with_reducible refine Below.alloc ?_ ?_ _) | (refine Below.trans ?_ (Below.mono (by with_reducible assumption) ?_)) | omega | (exact Below.size (by with_reducible assumption)) | (simp; done) | (simp; omega)))) hbl hrl).congr (dL_skip (by unfold badB; rw [HBT.out]; rfl) hL2.out) (fun _ _ => rfl)), Lib.hid (hox.out.below (B := w6.heap.size) (by (repeat' (first | (with_reducible exact Below.refl _ _) | (with_reducible assumption) | (with_reducible refine Below.drew ?_) | (with_reducible refine below_drewN ?_ _) | (with_reducible refine Below.setCell ?_ ?_ _) | (with_reducible refine Below.alloc ?_ ?_ _) | (refine Below.trans ?_ (Below.mono (by with_reducible assumption) ?_)) | omega | (exact Below.size (by with_reducible assumption)) | (simp; done) | (simp; omega)))) l0), Lib.hid (hb6.out.trans ((show Below w6.heap.size w6 _ by (repeat' (first | (with_reducible exact Below.refl _ _) | (with_reducible assumption) | (with_reducible refine Below.drew ?_) | (with_reducible refine below_drewN ?_ _) | (with_reducible refine Below.setCell ?_ ?_ _) | (with_reducible refine Below.alloc ?_ ?_ _) | (refine Below.trans ?_ (Below.mono (by with_reducible assumption) ?_)) | omega | (exact Below.size (by with_reducible assumption)) | (simp; done) | (simp; omega)))).mono hs6'))⟩
            · have HBT := Lib.hid hbt
              clear hbt
              by_cases hxl : lv ≤ x
              · have HXL := Lib.hid hxl
                go_wp2_with (first | (go_at_call 66; refine (within66 _ _ _ _).mono ?_; rw [HBT.out]; rintro e w7 ⟨rfl, rfl⟩) | (at_delete; go_must (refine wp_delF _ rfl _ _ _ rfl Try.underlying92 b3 r4 1809 (dL G left (badB lv a b p)) l2 cnt6 rfl (hR6.out.below (B := w6.heap.size) (by (repeat' (first | (with_reducible exact Below.refl _ _) | (with_reducible assumption) | (with_reducible refine Below.drew ?_) | (with_reducible refine below_drewN ?_ _) | (with_reducible refine Below.setCell ?_ ?_ _) | (with_reducible refine Below.alloc ?_ ?_ _) | (refine Below.trans ?_ (Below.mono (by with_reducible assumption) ?_)) | omega | (exact Below.size (by with_reducible assumption)) | (simp; done) | (simp; omega)))) hbl hrl) x u rfl HX.out HU.out ?_); intro w8 cnt8 hR8 hle8 hg8))
                go_roundg cnt8
                case measure => omega
                case rel => exact ⟨l2, Lib.hid (hR8.congr (dL_del (by unfold badB; rw [HBT.out]; exact decide_eq_true HXL.out) hL2.out) (fun z v => by rw [hL2.out]; cases left z v <;> simp)), Lib.hid ((hox.out.below (B := w6.heap.size) (by (repeat' (first | (with_reducible exact Below.refl _ _) | (with_reducible assumption) | (with_reducible refine Below.drew ?_) | (with_reducible refine below_drewN ?_ _) | (with_reducible refine Below.setCell ?_ ?_ _) | (with_reducible refine Below.alloc ?_ ?_ _) | (refine Below.trans ?_ (Below.mono (by with_reducible assumption) ?_)) | omega | (exact Below.size (by with_reducible assumption)) | (simp; done) | (simp; omega)))) l0).grown hg8 (by simp; omega)), Lib.hid ((hb6.out.trans ((show Below w6.heap.size w6 _ by (repeat' (first | (with_reducible exact Below.refl _ _) | (with_reducible assumption) | (with_reducible refine Below.drew ?_) | (with_reducible refine below_drewN ?_ _) | (with_reducible refine Below.setCell ?_ ?_ _) | (with_reducible refine Below.alloc ?_ ?_ _) | (refine Below.trans ?_ (Below.mono (by with_reducible assumption) ?_)) | omega | (exact Below.size (by with_reducible assumption)) | (simp; done) | (simp; omega)))).mono hs6')).grown hg8 (by first | omega | (simp; omega)) (fun i hi => by cases hi; omega))⟩
              · have HXL := Lib.hid hxl
                go_wp2_with (first | (go_at_call 66; refine (within66 _ _ _ _).mono ?_; rw [HBT.out]; rintro e w7 ⟨rfl, rfl⟩))
                go_roundg cnt6
                case measure => omega
                case rel => exact ⟨l2, Lib.hid ((hR6.out.below (B := w6.heap.size) (by (repeat' (first | (with_reducible exact Below.refl _ _) | (with_reducible assumption) | (with_reducible refine Below.drew ?_) | (with_reducible refine below_drewN ?_ _) | (with_reducible refine Below.setCell ?_ ?_ _) | (with_reducible refine Below.alloc ?_ ?_ _) | (refine Below.trans ?_ (Below.mono (by with_reducible assumption) ?_)) | omega | (exact Below.size (by with_reducible assumption)) | (simp; done) | (simp; omega)))) hbl hrl).congr (dL_skip (by unfold badB; rw [HBT.out]; exact decide_eq_false (by have := HXL.out; omega)) hL2.out) (fun _ _ => rfl)), Lib.hid (hox.out.below (B := w6.heap.size) (by (repeat' (first | (with_reducible exact Below.refl _ _) | (with_reducible assumption) | (with_reducible refine Below.drew ?_) | (with_reducible refine below_drewN ?_ _) | (with_reducible refine Below.setCell ?_ ?_ _) | (with_reducible refine Below.alloc ?_ ?_ _) | (refine Below.trans ?_ (Below.mono (by with_reducible assumption) ?_)) | omega | (exact Below.size (by with_reducible assumption)) | (simp; done) | (simp; omega)))) l0), Lib.hid (hb6.out.trans ((show Below w6.heap.size w6 _ by (repeat' (first | (with_reducible exact Below.refl _ _) | (with_reducible assumption) | (with_reducible refine Below.drew ?_) | (with_reducible refine below_drewN ?_ _) | (with_reducible refine Below.setCell ?_ ?_ _) | (with_reducible refine Below.alloc ?_ ?_ _) | (refine Below.trans ?_ (Below.mono (by with_reducible assumption) ?_)) | omega | (exact Below.size (by with_reducible assumption)) | (simp; done) | (simp; omega)))).mono hs6'))⟩
    · obtain rfl : k = L.toNat + 1 := by omega
      clear hp
      have HM := Lib.hid hm
      have hS' : Hid (Fro F (StB (cvOf L sl rl rh wg ks) lv a b L.toNat)) := hS
      have hpos : Hid (∀ x u, (F x u).isSome = true → 0 ≤ u) := Lib.hid fun x u hx => by
        cases e : F x u with
        | none => rw [e] at hx; cases hx
        | some q => exact (stB_Bd (L := L) (sl := sl) (wg := wg) hV.out.r1 hV.out.r2 hV.out.kl lv a b L.toNat x u _ (hS'.out.at e).1).2.1.1
      have HB := Lib.hid hbw
      have hsz := hbw.size
      have HW := Lib.hid hown
      obtain ⟨l0, k0, f0⟩ := hown
      clear hm hbw hS
      go_wp2_with fail
      refine (least65 b' 1809 F _ HM.out hpos).mono ?_
      rintro e w3 ⟨v, hv, rfl, hb3⟩
      have HR := Lib.hid (belT_of hV.out.r1 hV.out.r2 hV.out.kl hS'.out hv.out)
      obtain ⟨l1, k1, f1⟩ := HW.out.below hb3 l0
      have HB3 := Lib.hid (HB.out.trans (hb3.mono hsz))
      clear hb3 HB l0 k0 f0 HM
      by_cases hq : BelT (cvOf L sl rl rh wg ks) lv a b
      · have hq' := HR.out.2 hq
        simp only [Bool.and_eq_true, decide_eq_true_eq] at hq'
        obtain ⟨hv0, hvw⟩ := hq'
        have HQ := Lib.hid hq
        clear hq HR
        go_wp2
        all_goals go_ret
        all_goals (first | exact ⟨true, rfl, Lib.hid ⟨fun _ => HQ.out, fun _ => rfl⟩, HB3.out⟩ | exact ⟨false, rfl, Lib.hid ⟨fun h => (by cases h), fun h => absurd h HQ.out⟩, HB3.out⟩ | exact ⟨decide (v ≤ wg), rfl, Lib.hid ⟨fun _ => HQ.out, fun _ => decide_eq_true hvw⟩, HB3.out⟩ | exact ⟨decide (v ≤ wg), rfl, Lib.hid ⟨fun h => (by have := of_decide_eq_true h; omega), fun h => absurd h HQ.out⟩, HB3.out⟩ | exact Or.inl ⟨rfl, HB3.out⟩ | exact Or.inr ⟨rfl, HB3.out⟩ | exact ⟨rfl, HB3.out⟩ | exact HB3.out | exact ⟨HQ, HB3.out⟩ | exact Or.inr ⟨HQ, HB3.out⟩ | exact Or.inl ⟨HQ, HB3.out⟩ | exact ⟨ret_bool (by simp_all), HQ, HB3.out⟩ | exact Or.inr ⟨ret_bool (by simp_all), HQ, HB3.out⟩ | exact Or.inl ⟨ret_bool (by simp_all), HQ, HB3.out⟩ | exact HQ)
      · have hq' : ¬ (0 ≤ v ∧ v ≤ wg) := fun h => hq (HR.out.1 (by simp only [Bool.and_eq_true, decide_eq_true_eq]; exact h))
        have HQ := Lib.hid hq
        clear hq HR
        by_cases hv0 : 0 ≤ v
        · have hvw : ¬ v ≤ wg := fun h => hq' ⟨hv0, h⟩
          clear hq'
          go_wp2
          all_goals go_ret
          all_goals (first | exact ⟨true, rfl, Lib.hid ⟨fun _ => HQ.out, fun _ => rfl⟩, HB3.out⟩ | exact ⟨false, rfl, Lib.hid ⟨fun h => (by cases h), fun h => absurd h HQ.out⟩, HB3.out⟩ | exact ⟨decide (v ≤ wg), rfl, Lib.hid ⟨fun _ => HQ.out, fun _ => decide_eq_true hvw⟩, HB3.out⟩ | exact ⟨decide (v ≤ wg), rfl, Lib.hid ⟨fun h => (by have := of_decide_eq_true h; omega), fun h => absurd h HQ.out⟩, HB3.out⟩ | exact Or.inl ⟨rfl, HB3.out⟩ | exact Or.inr ⟨rfl, HB3.out⟩ | exact ⟨rfl, HB3.out⟩ | exact HB3.out | exact ⟨HQ, HB3.out⟩ | exact Or.inr ⟨HQ, HB3.out⟩ | exact Or.inl ⟨HQ, HB3.out⟩ | exact ⟨ret_bool (by simp_all), HQ, HB3.out⟩ | exact Or.inr ⟨ret_bool (by simp_all), HQ, HB3.out⟩ | exact Or.inl ⟨ret_bool (by simp_all), HQ, HB3.out⟩ | exact HQ)
        · clear hq'
          go_wp2
          all_goals go_ret
          all_goals (first | exact ⟨true, rfl, Lib.hid ⟨fun _ => HQ.out, fun _ => rfl⟩, HB3.out⟩ | exact ⟨false, rfl, Lib.hid ⟨fun h => (by cases h), fun h => absurd h HQ.out⟩, HB3.out⟩ | exact ⟨decide (v ≤ wg), rfl, Lib.hid ⟨fun _ => HQ.out, fun _ => decide_eq_true hvw⟩, HB3.out⟩ | exact ⟨decide (v ≤ wg), rfl, Lib.hid ⟨fun h => (by have := of_decide_eq_true h; omega), fun h => absurd h HQ.out⟩, HB3.out⟩ | exact Or.inl ⟨rfl, HB3.out⟩ | exact Or.inr ⟨rfl, HB3.out⟩ | exact ⟨rfl, HB3.out⟩ | exact HB3.out | exact ⟨HQ, HB3.out⟩ | exact Or.inr ⟨HQ, HB3.out⟩ | exact Or.inl ⟨HQ, HB3.out⟩ | exact ⟨ret_bool (by simp_all), HQ, HB3.out⟩ | exact Or.inr ⟨ret_bool (by simp_all), HQ, HB3.out⟩ | exact Or.inl ⟨ret_bool (by simp_all), HQ, HB3.out⟩ | exact HQ)
end Go.Proofs.Ytphcpphmoeiioaa
namespace Go.Proofs.Ytphcpphmoeiioaa
open Go.RowKit Go.Maps Go.Shelf

attribute [local go_sem] Oper.semAt_some
set_option maxRecDepth 100000 in
theorem stops79s (L sl rl rh wg : Int) (A : Option Addr) (n cap : Nat) (ks : List Kn) (p : Nat) (B0 B1 n₁ : Nat) (w : World) (nF : Nat) (hnF : 2 ≤ nF) (hA : ∀ W, Below n₁ w W → Rd 3 W A (ks.map krow)) (hn₁ : n₁ ≤ w.heap.size) (hn : Hid (n = ks.length)) (hV : Hid (CvV L sl rl rh wg ks)) (hp : (p : Int) ≤ L)
    (h0 : Own w B0 [.int .i64 L, .int .i64 sl, .int .i64 rl, .int .i64 rh, .slice A n cap, .int .i64 wg, .map none]) (h1 : Own w B1 [.int .i64 p]) :
    SeqStopsK Fence.wide nF Try.prog 79 #[.pointer (some ⟨B0, 0, none⟩), .pointer (some ⟨B1, 0, none⟩)] (fun x : Ht => #[.int .i64 x.1]) (KpB n₁ B0 B1) (fun xs => xs.map (·.1) = htL (cvOf L sl rl rh wg ks) p (rh - rl + 1).toNat) (fun xs => ∀ x ∈ xs, HtP (cvOf L sl rl rh wg ks) p x.1) 201 w := by
  intro l J Jx W hW hJ hJx hY hJ0
  have hz := hW.size
  have hl0 := h0.lt
  have hl1 := h1.lt
  refine (heights79s L sl rl rh wg A n cap ks p B0 B1 nF hnF hn hV hp l (fun pre W1 => ∃ pre' : List Ht, pre'.map (·.1) = pre ∧ J pre' W1 ∧ Below n₁ w W1 ∧ W1.heap[B0]? = w.heap[B0]? ∧ W1.heap[B1]? = w.heap[B1]?) (fun pre W1 => ∃ pre' : List Ht, pre'.map (·.1) = pre ∧ Jx pre' W1) W ?_ ?_ ?_ ?_).mono ?_
  · rintro s W1 W2 row ⟨pre', e, hj, hb, e0, e1⟩ hg hr
    have hs := hb.size
    have hrow : ∀ r, row = some r → W.heap.size ≤ r := fun r e => (hr r e).1
    exact ⟨pre', e, hJ _ _ _ row hj hg hr, hb.grown hg (by omega) (fun k ek => by have := hrow k ek; omega), (hg.block B0 (by omega) (fun ek => by have := hrow _ ek.symm; omega)).trans e0, (hg.block B1 (by omega) (fun ek => by have := hrow _ ek.symm; omega)).trans e1⟩
  · rintro pre W1 ⟨pre', e, hj, hb, e0, e1⟩
    exact ⟨h0.ofBlock e0, h1.ofBlock e1, hA _ hb⟩
  · rintro pre x W1 ⟨pre', e, hj, hb, e0, e1⟩ hlen hx1 hx2
    have hs := hb.size
    have hl : pre'.length < 201 := by rw [← e, List.length_map] at hlen; exact hlen
    refine (hY pre' ⟨x, hx1, hx2⟩ W1 hj hl).mono ?_
    rintro e' W' (⟨rfl, h1, h2, h3, h4⟩ | ⟨rfl, h1⟩)
    · exact Or.inl ⟨rfl, pre' ++ [⟨x, hx1, hx2⟩], by simp [e], h1, hb.trans h2, h3.trans e0, h4.trans e1⟩
    · exact Or.inr ⟨rfl, pre' ++ [⟨x, hx1, hx2⟩], by simp [e], h1⟩
  · exact ⟨[], rfl, hJ0, hW.mono hn₁, hW.block B0 hl0, hW.block B1 hl1⟩
  · rintro e W' ⟨h1, ⟨pre', h2, h3, _⟩ | ⟨pre, hp', pre', rfl, h2⟩⟩
    · exact ⟨h1, Or.inl ⟨pre', h2, h3⟩⟩
    · exact ⟨h1, Or.inr ⟨pre', fun x hx => hp' _ (List.mem_map.2 ⟨x, hx, rfl⟩), h2⟩⟩

/-- The marks that loops over functions leave among a frame's deferred calls: each a block of its own from B on, the later ones first, all below U. -/
def Marks (B : Nat) (W : World) : Nat → List Deferred → Prop
  | _, [] => True
  | U, d :: ds => ∃ D, d = { target := .collected D, args := #[] } ∧ B ≤ D ∧ D < U ∧ W.heap[D]? = some (.deferred (some [])) ∧ Marks B W D ds
theorem Marks.kept {B : Nat} {W W' : World} : ∀ {ds : List Deferred} {U : Nat}, Marks B W U ds → (∀ D, B ≤ D → D < U → W'.heap[D]? = W.heap[D]?) → Marks B W' U ds
  | [], _, _, _ => trivial
  | _ :: _, _, ⟨D, h1, h2, h3, h4, h5⟩, e => ⟨D, h1, h2, h3, (e D h2 h3).trans h4, Marks.kept h5 fun D' k1 k2 => e D' k1 (by omega)⟩
theorem Marks.grown {B U : Nat} {W W' : World} {ds : List Deferred} {row : Option Nat} (h : Marks B W U ds) (hg : W.grownBy W' row) (hU : U ≤ W.heap.size) (hr : ∀ r, row = some r → U ≤ r ∨ r < B) : Marks B W' U ds :=
  h.kept fun D k1 k2 => hg.block D (by omega) fun e => by rcases hr D e.symm with k | k <;> omega
theorem Marks.mono {B : Nat} {W : World} : ∀ {ds : List Deferred} {U V : Nat}, Marks B W U ds → U ≤ V → Marks B W V ds
  | [], _, _, _, _ => trivial
  | _ :: _, _, _, ⟨D, h1, h2, h3, h4, h5⟩, e => ⟨D, h1, h2, by omega, h4, h5⟩
theorem leaves_marks {F : Fence} {n : Nat} {P : Program} {fn : Func} {tmps : Array Value} {R : Ending → World → Prop} {u : FrameMode} (hu : u ≠ .run) {B : Nat} : ∀ {ds : List Deferred} {U : Nat} {W : World}, Marks B W U ds → (∀ W', Below B W W' → LeavesInM F n P fn tmps R [] u W') → LeavesInM F n P fn tmps R ds u W
  | [], _, W, _, h => h W (Below.refl _ _)
  | d :: ds, U, W, ⟨D, h1, h2, h3, h4, h5⟩, h => by
    subst h1
    refine ⟨hu, .inl ⟨_, _, rfl, run_takeDeferred h4, ?_⟩⟩
    have hb : Below B W (W.putObj D (.deferred none)) := (Below.refl B W).grown (grownBy_putObj' W D _) (by have := (Array.getElem?_eq_some_iff.1 h4).1; omega) (fun k e => by cases e; omega)
    refine leaves_marks hu (U := D) (h5.kept fun D' k1 k2 => World.putObj_heap_other (by omega)) fun W' k => h W' (hb.trans k)
theorem results_cellB {P : Program} {fn : Func} {tmps : Array Value} {w : World} {a B t : Nat} {v : Value} (hr : fn.results = #[.cell a t]) (ha : tmps.getD a undef = .pointer (some ⟨B, 0, none⟩)) (ho : Own w B [v])
    (hagg : (isAgg t).run P w = .ok false w) (hsz : (sizeOf t).run P w = .ok 1 w) : (results fn tmps).run P w = .ok v w := by
  have ha' : tmps[a]?.getD undef = .pointer (some ⟨B, 0, none⟩) := by simpa using ha
  have hc : w.cell? ⟨B, 0, none⟩ = some v := ho.c 0
  simp [results, hr, go_sem, loadVar, hagg, hsz, loadCells, ha', asAddr, hc]
/-- Some height between both places is at least the level in a truth. -/
def AbvT (c : Cv) (lv a b : Int) : Prop := ∃ p : Nat, a ≤ p ∧ (p : Int) ≤ b ∧ ∃ x, HtP c p x ∧ lv ≤ x
def AllLt (lv : Int) (pre : List Ht) : Prop := ∀ x ∈ pre, x.1 < lv
def SomeGe (lv : Int) (pre : List Ht) : Prop := ∃ x ∈ pre, lv ≤ x.1
set_option maxRecDepth 100000 in
set_option maxHeartbeats 4000000 in
theorem above76 (L sl rl rh wg : Int) (A : Option Addr) (n cap : Nat) (ks : List Kn) (lv a b : Int) (w : World) (hA : Rd 3 w A (ks.map krow)) (hn : Hid (n = ks.length)) (hV : Hid (CvV L sl rl rh wg ks)) (ha : 0 ≤ a) (hb : b ≤ L) (hbl : -100000 ≤ b) :
    Calls Try.prog 76 #[.agg #[.int .i64 L, .int .i64 sl, .int .i64 rl, .int .i64 rh, .slice A n cap, .int .i64 wg, .map none], .int .i64 lv, .int .i64 a, .int .i64 b] w fun e w' => ∃ v : Value, e = .returned v ∧ Hid ((v = .bool true ∧ AbvT (cvOf L sl rl rh wg ks) lv a b) ∨ (v = .bool false ∧ ¬ AbvT (cvOf L sl rl rh wg ks) lv a b)) ∧ Below w.heap.size w w' := by
  have HA := Lib.hid hA
  have hl1 := hV.out.l1
  have hl2 := hV.out.l2
  have hr1 := hV.out.r1
  have hr0 := hV.out.r0
  have hr2 := hV.out.r2
  clear hA
  have f52 : Fence.wide.fn 52 := trivial
  have f79 : Fence.wide.fn 79 := trivial
  refine (callsIn_wide (n := 6)).1 ?_
  refine callsIn_of_wp_marks Try.func76 rfl trivial ?_ rfl
  simp only [Try.ntmps76, List.size_toArray, List.length_cons, List.length_nil, Nat.reduceAdd, Nat.reduceSub, Array.replicate_succ, Array.replicate_zero, List.push_toArray, List.append_toArray, List.nil_append, List.cons_append]
  gi_wp2
  refine wpIn_loop (fun a' w' => ∃ (q : Int) (u10 u12 u13 u14 u15 u16 u17 u18 u19 u20 u21 u22 u23 : Value) (ds : List Deferred) (U : Nat), a' = { tmps := #[.agg #[.int .i64 L, .int .i64 sl, .int .i64 rl, .int .i64 rh, .slice A n cap, .int .i64 wg, .map none], .int .i64 lv, .int .i64 a, .int .i64 b, .pointer (some ⟨w.heap.size, 0, none⟩), .pointer (some ⟨w.heap.size + 1, 0, none⟩), undef, undef, .pointer (some ⟨w.heap.size + 1 + 1, 0, none⟩), .int .i64 q, u10, .int .i64 a, u12, u13, u14, u15, u16, u17, u18, u19, u20, u21, u22, u23], defers := ds } ∧ (a ≤ q ∧ (q ≤ b + 1 ∨ q = a)) ∧ U ≤ w'.heap.size ∧ Hid (Marks (w.heap.size + 3) w' U ds) ∧ Hid (Own w' w.heap.size [.int .i64 L, .int .i64 sl, .int .i64 rl, .int .i64 rh, .slice A n cap, .int .i64 wg, .map none]) ∧ Hid (Own w' (w.heap.size + 1) [.int .i64 lv]) ∧ Hid (Own w' (w.heap.size + 1 + 1) [.bool false]) ∧ Hid (Below w.heap.size w w') ∧ Hid (∀ p : Nat, a ≤ p → (p : Int) < q → ∀ x, HtP (cvOf L sl rl rh wg ks) p x → x < lv)) (fun a' _ => (b + 1 - iOf (a'.tmps.getD 9 undef)).toNat) ?_ ?_
  · exact ⟨a, _, _, _, _, _, _, _, _, _, _, _, _, _, [], w.heap.size + 3, rfl, ⟨Int.le_refl _, Or.inr rfl⟩, by simp, trivial, Lib.hid (((Own.new' _ _ rfl rfl).alloc _).alloc _), Lib.hid ((Own.new' _ _ (by simp) rfl).alloc _), Lib.hid (Own.new' _ _ (by simp) rfl), Lib.hid (by (repeat' (first | (with_reducible exact Below.refl _ _) | (with_reducible assumption) | (with_reducible refine Below.drew ?_) | (with_reducible refine below_drewN ?_ _) | (with_reducible refine Below.setCell ?_ ?_ _) | (with_reducible refine Below.alloc ?_ ?_ _) | (refine Below.trans ?_ (Below.mono (by with_reducible assumption) ?_)) | omega | (exact Below.size (by with_reducible assumption)) | (simp; done) | (simp; omega)))), Lib.hid fun p h1 h2 => by omega⟩
  rintro a9 w1 ⟨q, u10, u12, u13, u14, u15, u16, u17, u18, u19, u20, u21, u22, u23, ds, U, rfl, ⟨hq1, hq2⟩, hU, hmk, hop, holv, hor, hB, hno⟩
  obtain ⟨l0, k0, f0⟩ := hop.out
  obtain ⟨l1, k1, f1⟩ := holv.out
  obtain ⟨l2, k2, f2⟩ := hor.out
  by_cases hlt : q ≤ b
  · obtain ⟨p, rfl⟩ : ∃ p : Nat, q = (p : Int) := ⟨q.toNat, by omega⟩
    gi_wp2_with (gi_at_call 52; refine (callsIn_wide.2 (heights52 _ _ _ _ _ _ _ _ _)).mono ?_; rintro e w' ⟨rfl, rfl⟩)
    refine wpIn_gen fun W0 hW0 => ?_
    have hB0 : Below w1.heap.size w1 W0 := by rw [hW0]; (repeat' (first | (with_reducible exact Below.refl _ _) | (with_reducible assumption) | (with_reducible refine Below.drew ?_) | (with_reducible refine below_drewN ?_ _) | (with_reducible refine Below.setCell ?_ ?_ _) | (with_reducible refine Below.alloc ?_ ?_ _) | (refine Below.trans ?_ (Below.mono (by with_reducible assumption) ?_)) | omega | (exact Below.size (by with_reducible assumption)) | (simp; done) | (simp; omega)))
    have hsz : W0.heap.size = w1.heap.size + 2 := by rw [hW0]; simp
    have o3 : Own W0 w1.heap.size [.int .i64 L, .int .i64 sl, .int .i64 rl, .int .i64 rh, .slice A n cap, .int .i64 wg, .map none] := by rw [hW0]; exact (Own.new' _ _ rfl rfl).alloc _
    have o4 : Own W0 (w1.heap.size + 1) [.int .i64 p] := by rw [hW0]; exact Own.new' _ _ (by simp) rfl
    have p0 := hop.out.below hB0 l0
    have p1 := holv.out.below hB0 l1
    have p2 := hor.out.below hB0 l2
    have pm := hmk.out.kept (W' := W0) (fun D _ h2 => hB0.block D (by omega))
    have pB := hB.out.trans (hB0.mono hB.out.size)
    have hbs := hB.out.size
    have hw2 := l2
    clear hW0 l0 k0 f0 l1 k1 f1 l2 k2 f2 hop holv hor hmk hB hB0
    have HA0 := Lib.hid (HA.out.below pB (Nat.le_refl _))
    refine wpIn_rangeFunc_ownG rfl (by omega) (gf := 79) (lb := #[.pointer (some ⟨w1.heap.size, 0, none⟩), .pointer (some ⟨w1.heap.size + 1, 0, none⟩)]) rfl f79 (enters_of Try.func79 (by kernel_rfl) rfl)
      (stops79s L sl rl rh wg A n cap ks p w1.heap.size (w1.heap.size + 1) w.heap.size W0 5 (by omega) (fun W hW => HA.out.below (pB.trans hW) (Nat.le_refl _)) pB.size hn hV (by omega) o3 o4)
      (fun h1 h2 => ⟨h1.1.trans h2.1, h2.2.1.trans h1.2.1, h2.2.2.trans h1.2.2⟩)
      (fun W l o o' hl ho hc hw => ⟨?kb, World.putObj_heap_other (by omega), World.putObj_heap_other (by omega)⟩)
      (Below.refl _ _) (fun _ => rfl)
      (fun pre W => Own W w.heap.size [.int .i64 L, .int .i64 sl, .int .i64 rl, .int .i64 rh, .slice A n cap, .int .i64 wg, .map none] ∧ Own W (w.heap.size + 1) [.int .i64 lv] ∧ Own W (w.heap.size + 1 + 1) [.bool false] ∧ W0.heap.size ≤ W.heap.size ∧ Below w.heap.size w W ∧ Marks (w.heap.size + 3) W U ds ∧ Hid (AllLt lv pre))
      (fun c pre W => c = .ret ∧ Own W w.heap.size [.int .i64 L, .int .i64 sl, .int .i64 rl, .int .i64 rh, .slice A n cap, .int .i64 wg, .map none] ∧ Own W (w.heap.size + 1) [.int .i64 lv] ∧ Own W (w.heap.size + 1 + 1) [.bool true] ∧ W0.heap.size ≤ W.heap.size ∧ Below w.heap.size w W ∧ Marks (w.heap.size + 3) W U ds ∧ Hid (SomeGe lv pre))
      ?hI ?hIx ⟨p0, p1, p2, Nat.le_refl _, pB, pm, Lib.hid fun x h => (by cases h)⟩ ?act ?assign ?body ?done ?stop
    case kb =>
      have hlt := (Array.getElem?_eq_some_iff.1 ho).1
      exact (Below.refl w.heap.size W).grown (grownBy_putObj' W l o') (by omega) (fun k e => by cases e; omega)
    case hI =>
      rintro s W W' row ⟨h0, h1, h2, h3, h4, h5, h6⟩ hgr hr
      have hrow : ∀ r, row = some r → W0.heap.size ≤ r := fun r e => (hr r e).1
      exact ⟨h0.grown hgr (fun e => by have := hrow _ e.symm; omega), h1.grown hgr (fun e => by have := hrow _ e.symm; omega), h2.grown hgr (fun e => by have := hrow _ e.symm; omega), Nat.le_trans h3 hgr.size, h4.grown hgr h4.size (fun k e => by have := hrow k e; omega), h5.grown hgr (by omega) (fun r e => Or.inl (by have := hrow r e; omega)), h6⟩
    case hIx =>
      rintro c s W W' row ⟨hc, h0, h1, h2, h3, h4, h5, h6⟩ hgr hr
      have hrow : ∀ r, row = some r → W0.heap.size ≤ r := fun r e => (hr r e).1
      exact ⟨hc, h0.grown hgr (fun e => by have := hrow _ e.symm; omega), h1.grown hgr (fun e => by have := hrow _ e.symm; omega), h2.grown hgr (fun e => by have := hrow _ e.symm; omega), Nat.le_trans h3 hgr.size, h4.grown hgr h4.size (fun k e => by have := hrow k e; omega), h5.grown hgr (by omega) (fun r e => Or.inl (by have := hrow r e; omega)), h6⟩
    case assign =>
      intro l x W K hK
      gi_wp2
      exact hK
    case done =>
      rintro D ys W hD hS ⟨h0, h1, h2, h3, h4, h5, h6⟩ hK
      have hno2 : Hid (∀ q : Nat, a ≤ q → (q : Int) < (p : Int) + 1 → ∀ x, HtP (cvOf L sl rl rh wg ks) q x → x < lv) := Lib.hid fun q k1 k2 x hx => by
        by_cases e : (q : Int) < (p : Int)
        · exact hno.out q k1 e x hx
        · obtain rfl : q = p := by omega
          have hm : x ∈ htL (cvOf L sl rl rh wg ks) q (rh - rl + 1).toNat := (htL_mem (cvOf L sl rl rh wg ks) q x _).2 ⟨hx, by obtain ⟨g, j1, rfl⟩ := hx; have : rl ≤ g q ∧ g q ≤ rh := j1.1.1 q (by show q ≤ L.toNat; omega); show rl ≤ g q ∧ g q < rl + ((rh - rl + 1).toNat : Int); omega⟩
          rw [← hS] at hm
          obtain ⟨y, hy, rfl⟩ := List.mem_map.1 hm
          exact h6.out y hy
      have hDs := (Array.getElem?_eq_some_iff.1 hK).1
      have hmk2 := Lib.hid (show Marks (w.heap.size + 3) W (D + 1) ({ target := .collected D, args := #[] } :: ds) from ⟨D, rfl, by omega, by omega, hK, h5.mono (by omega)⟩)
      have g0 := Lib.hid h0
      have g1 := Lib.hid h1
      have g2 := Lib.hid h2
      have g4 := Lib.hid h4
      clear h0 h1 h2 h4 h5 hK hno h6
      gi_wp2
      refine ⟨⟨(p : Int) + 1, _, _, _, _, _, _, _, _, _, _, _, _, _, _, D + 1, by go_num, ⟨by omega, by omega⟩, by omega, hmk2, g0, g1, g2, g4, hno2⟩, ?_⟩
      simp [iOf]
      omega
    case stop =>
      rintro D c pre W hD hSp ⟨rfl, h0, h1, h2, h3, h4, h5, h6⟩ hK
      have hT : AbvT (cvOf L sl rl rh wg ks) lv a b := by
        obtain ⟨x, hx, hxl⟩ := h6.out
        exact ⟨p, by omega, by omega, x.1, hSp x hx, hxl⟩
      have HT := Lib.hid hT
      have hmk2 := Lib.hid (show Marks (w.heap.size + 3) W (D + 1) ({ target := .collected D, args := #[] } :: ds) from ⟨D, rfl, by omega, by omega, hK, h5.mono (by omega)⟩)
      have g2 := Lib.hid h2
      have g4 := Lib.hid h4
      clear h0 h1 h2 h4 h5 hK hno h6 hT
      gi_wp2
      refine leaves_marks (by simp) hmk2.out fun W' hb => ?_
      exact ⟨_, results_cellB (B := w.heap.size + 1 + 1) rfl rfl (g2.out.below hb (by omega)) (by kernel_rfl) (by kernel_rfl), _, rfl, Lib.hid (Or.inl ⟨rfl, HT.out⟩), g4.out.trans (hb.mono (by omega))⟩
    case body =>
      rintro l pre x W ⟨h0, h1, h2, h3, h4, h5, h6⟩ hlen
      have g0 := Lib.hid h0
      have g1 := Lib.hid h1
      have g2 := Lib.hid h2
      have g4 := Lib.hid h4
      have g5 := Lib.hid h5
      obtain ⟨l0, k0, f0⟩ := h0
      obtain ⟨l1, k1, f1⟩ := h1
      obtain ⟨l2, k2, f2⟩ := h2
      clear h4 h5
      by_cases hx : lv ≤ x.1
      · have HX := Lib.hid hx
        gi_wp2
        simp only [ownPostG]
        refine ⟨(KeepsOthers.setCell _ _ _).from _, (by first | rfl | trivial), g0.out.setOther (by show w.heap.size + 1 + 1 ≠ _; omega) _, g1.out.setOther (by show w.heap.size + 1 + 1 ≠ _; omega) _, g2.out.set 0 (by simp) _, (by first | (simp; omega) | omega), g4.out.setCell (by show w.heap.size ≤ w.heap.size + 1 + 1; omega) _, g5.out.kept fun D d1 _ => Below.heap_setCell _ _ _ _ (by show D ≠ w.heap.size + 1 + 1; omega), Lib.hid ⟨x, by simp, HX.out⟩⟩
      · have HX := Lib.hid hx
        gi_wp2
        simp only [ownPostG]
        refine ⟨KeepsFrom.refl _ _, ⟨Below.refl _ _, rfl, rfl⟩, g0.out, g1.out, g2.out, (by omega), g4.out, g5.out, Lib.hid fun y hy => ?_⟩
        rcases List.mem_append.1 hy with h | h
        · exact h6.out y h
        · rw [List.mem_singleton.1 h]; have := HX.out; omega
  · have hF : ¬ AbvT (cvOf L sl rl rh wg ks) lv a b := by
      rintro ⟨p, j1, j2, x, j3, j4⟩
      have := hno.out p j1 (by omega) x j3
      omega
    have hbs := hB.out.size
    have HF := Lib.hid hF
    clear hF
    gi_wp2
    have g2 := Lib.hid (hor.out.set 0 (by simp) (.bool false))
    have hmk2 := hmk.out.kept (W' := w1.setCell ⟨w.heap.size + 1 + 1, 0, none⟩ (.bool false)) (fun D d1 _ => Below.heap_setCell _ _ _ _ (by show D ≠ w.heap.size + 1 + 1; omega))
    refine leaves_marks (by simp) hmk2 fun W' hb => ?_
    exact ⟨_, results_cellB (B := w.heap.size + 1 + 1) rfl rfl (g2.out.below hb (by omega)) (by kernel_rfl) (by kernel_rfl), _, rfl, Lib.hid (Or.inr ⟨rfl, HF.out⟩), (hB.out.setCell (by show w.heap.size ≤ w.heap.size + 1 + 1; omega) _).trans (hb.mono (by first | (simp; done) | (simp; omega)))⟩
end Go.Proofs.Ytphcpphmoeiioaa
