/- Lean: regions within a round, plain laws, steps of maps in a region that draws its order. -/
import Derived.Test.YtphcpphmoeiioaaGen
import Derived.Test.YtphcpphmoeiioaaWH
import Derived.Test.YtphcpphmoeiioaaOpR
import Derived.RangeFuncWrites
import Derived.Test.YtphcpphmoeiioaaWK
namespace Go.Proofs.Ytphcpphmoeiioaa
open Go.RowKit

def noDefB (l : List Oper) : Bool := l.all fun o => match o.op with | .defer _ => false | _ => true
theorem noDef_at {l : List Oper} (h : noDefB l = true) {i : Nat} {o : Oper} (e : l.toArray[i]? = some o) : ∀ c, o.op ≠ .defer c := by
  intro c hc
  have hm : o ∈ l := List.mem_of_getElem? (by simpa using e)
  have := List.all_eq_true.1 h o hm
  rw [hc] at this
  cases this
section
variable {P : Program} {Q : Exit → Act → World → Prop} {S : World → Prop} {l : List Oper} {r n : Nat}
theorem upon_in {o : Oper} {a : Act} {K K' : Act → World → Prop} (hK : ∀ a w, K a w → K' a w) {x : Result Next} (h : o.upon P a K Q x) : o.uponIn (Fence.wide.inRound r) n P a K' Q x := by
  cases x with
  | ok y w' =>
    cases y <;> simp only [Oper.upon, Oper.uponIn] at h ⊢
    case value => exact hK _ _ h
    case skip => exact hK _ _ h
    case defer => exact hK _ _ h
    case enter f args =>
      refine ⟨fun e => (by cases e), ?_⟩
      refine CallsIn.inRound r (callsIn_wide.2 (h.mono fun e w'' he => ?_))
      cases e with
      | returned u => exact hK _ _ he
      | panicked c => exact he
      | outgrown => exact he
    case row row args =>
      refine ⟨fun e => (by cases e), ?_⟩
      intro c cs _
      obtain ⟨v, w'', q, hs⟩ := h c cs
      exact ⟨v, w'', hK _ _ q, stepsIn_wide.2 hs⟩
  | halt y w' =>
    cases y <;> simp only [Oper.upon, Oper.uponIn] at h ⊢
    case panic => exact h
theorem any_in (hnd : noDefB l = true) (hlo : ¬ LetsOut Q) : ∀ (fuel : Nat) (listed : Array Bool) (a : Act) (w : World), wpAnyH P .any l.toArray Q S fuel listed a w → wpAnyIn (Fence.wide.inRound r) n P .any l.toArray Q fuel listed a w
  | 0, _, _, _, h => h
  | fuel + 1, listed, a, w, h => by
    refine ⟨h.1, fun i hi => ?_⟩
    have h2 := h.2 i hi
    unfold wpOp at h2
    unfold wpOpIn
    cases e : l.toArray[i]? with
    | none => rw [e] at h2; exact any_in hnd hlo fuel _ _ _ h2.2
    | some o =>
      rw [e] at h2
      simp only at h2 ⊢
      split
      · rename_i hw
        rw [if_pos hw] at h2
        rcases h2 with h2 | ⟨_, h2⟩
        · refine ⟨fun _ _ => trivial, ?_⟩
          rw [Oper.semAt_plain _ _ _ (noDef_at hnd e)]
          exact upon_in (fun a w k => any_in hnd hlo fuel _ a w k.2) h2
        · exact absurd h2 hlo
      · rename_i hw
        rw [if_neg hw] at h2
        exact ⟨fun _ _ => trivial, any_in hnd hlo fuel _ _ _ h2.2⟩
theorem region_in {id : Nat} {a : Act} {w : World} (S : World → Prop) (k : Nat) (hm : P.follows .mixedOrders = true) (hk : l.toArray.size = k) (hnd : noDefB l = true) (hlo : ¬ LetsOut Q) (h : RG P l Q S k (Array.replicate k false) a w.drew) : (Code.region id l.toArray true).wpIn (Fence.wide.inRound r) n P Q a w := by
  subst hk
  exact wpIn_region_any hm (any_in hnd hlo _ _ _ _ h)
end
end Go.Proofs.Ytphcpphmoeiioaa
namespace Go.Proofs.Ytphcpphmoeiioaa
open Go.RowKit Go.Maps

structure OpJ (w : World) (B0 B1 B2 : Nat) (cv av rz : List Value) (W : World) : Prop where
  c : Own W B0 cv
  d : Own W B1 av
  r : Own W B2 rz
  b : Below w.heap.size w W
section
variable {w W W' : World} {B0 B1 B2 g : Nat} {cv av rz : List Value}
theorem OpJ.below (h : OpJ w B0 B1 B2 cv av rz W) (k : Below W.heap.size W W') : OpJ w B0 B1 B2 cv av rz W' :=
  ⟨h.c.below k h.c.lt, h.d.below k h.d.lt, h.r.below k h.r.lt, h.b.trans (k.mono h.b.size)⟩
theorem OpJ.drew (h : OpJ w B0 B1 B2 cv av rz W) : OpJ w B0 B1 B2 cv av rz W.drew := ⟨h.c.drew, h.d.drew, h.r.drew, h.b.drew⟩
theorem OpJ.set (h : OpJ w B0 B1 B2 cv av rz W) (hg : w.heap.size ≤ g ∧ B0 ≠ g ∧ B1 ≠ g ∧ B2 ≠ g) (i : Nat) (v : Value) : OpJ w B0 B1 B2 cv av rz (W.setCell ⟨g, i, none⟩ v) :=
  ⟨h.c.setOther (fun e => hg.2.1 e.symm) _, h.d.setOther (fun e => hg.2.2.1 e.symm) _, h.r.setOther (fun e => hg.2.2.2 e.symm) _, h.b.setCell hg.1 _⟩
theorem OpJ.fresh (h : OpJ w B0 B1 B2 cv av rz W) : w.heap.size ≤ W.heap.size ∧ B0 ≠ W.heap.size ∧ B1 ≠ W.heap.size ∧ B2 ≠ W.heap.size := ⟨h.b.size, Nat.ne_of_lt h.c.lt, Nat.ne_of_lt h.d.lt, Nat.ne_of_lt h.r.lt⟩
theorem OpJ.set7 (h : OpJ w B0 B1 B2 cv av rz W) (hg : w.heap.size ≤ g ∧ B0 ≠ g ∧ B1 ≠ g ∧ B2 ≠ g) (x0 x1 x2 x3 x4 x5 x6 : Value) :
    OpJ w B0 B1 B2 cv av rz (((((((W.setCell ⟨g, 0, none⟩ x0).setCell ⟨g, 1, none⟩ x1).setCell ⟨g, 2, none⟩ x2).setCell ⟨g, 3, none⟩ x3).setCell ⟨g, 4, none⟩ x4).setCell ⟨g, 5, none⟩ x5).setCell ⟨g, 6, none⟩ x6) :=
  (((((((h.set hg _ _).set hg _ _).set hg _ _).set hg _ _).set hg _ _).set hg _ _).set hg _ _)
end
def LeanR (L sl rl rh wg : Int) (ks : List Kn) (p lo hi er : Int) : Prop :=
  OpenR L sl rl rh wg ks (btw p 0 (L - 1)) er ∧ (er = 0 → IsSp (LnP (cvOf L sl rl rh wg ks) p.toNat) lo hi) ∧ (er ≠ 0 → lo = 0 ∧ hi = 0)
/-- From a height n at place p a truth rises by r. -/
def EL (c : Cv) (p : Nat) (n r : Int) : Prop := ∃ h, Truth c h ∧ h p = n ∧ h (p + 1) = n + r
theorem hasT_two (c : Cv) (p : Nat) (hp : p + 1 ≤ c.long) (n r : Int) : HasT c (upd (upd (fun _ => none) (p : Int) n) ((p : Int) + 1) (n + r)) ↔ EL c p n r := by
  constructor
  · rintro ⟨h, k1, k2⟩
    refine ⟨h, k1, (k2 p (by omega) n (by unfold upd; rw [if_neg (by omega), if_pos rfl])).symm, (k2 (p + 1) hp (n + r) (by simp [upd])).symm⟩
  · rintro ⟨h, k1, k2, k3⟩
    refine ⟨h, k1, fun i hi m hm => ?_⟩
    unfold upd at hm
    by_cases e : (i : Int) = (p : Int) + 1
    · rw [if_pos e] at hm
      have : i = p + 1 := by omega
      subst this
      cases hm; exact k3.symm
    · rw [if_neg e] at hm
      by_cases e2 : (i : Int) = (p : Int)
      · rw [if_pos e2] at hm
        have : i = p := by omega
        subst this
        cases hm; exact k2.symm
      · rw [if_neg e2] at hm; cases hm
/-- The rises that have come up: of heights before, and of this one up to r. -/
def LP (c : Cv) (p : Nat) (pre : List Int) (n q r : Int) : Prop := (∃ m, m ∈ pre ∧ EL c p m r) ∨ (EL c p n r ∧ r < q)
def LP0 (c : Cv) (p : Nat) (pre : List Int) (r : Int) : Prop := ∃ m, m ∈ pre ∧ EL c p m r
def LI (sl : Int) (P : Int → Prop) (lo hi : Int) : Prop := (lo = sl + 1 ∧ hi = -sl - 1 ∧ ∀ r, ¬ P r) ∨ IsSp P lo hi
theorem LI.congr {sl : Int} {P Q : Int → Prop} {lo hi : Int} (h : LI sl P lo hi) (e : ∀ r, P r ↔ Q r) : LI sl Q lo hi := by
  rcases h with ⟨h1, h2, h3⟩ | h
  · exact Or.inl ⟨h1, h2, fun r k => h3 r ((e r).2 k)⟩
  · exact Or.inr (h.congr e)
theorem LI.take {sl : Int} {P T : Int → Prop} {lo hi r : Int} (h : LI sl P lo hi) (hr : -sl ≤ r ∧ r ≤ sl) (e : ∀ x, T x ↔ P x ∨ x = r) : LI sl T (min lo r) (max hi r) := by
  rcases h with ⟨rfl, rfl, h3⟩ | h
  · rw [Int.min_eq_right (by omega), Int.max_eq_right (by omega)]
    exact Or.inr ⟨(e r).2 (Or.inr rfl), (e r).2 (Or.inr rfl), fun s hs => by
      rcases (e s).1 hs with k | k
      · exact absurd k (h3 s)
      · omega⟩
  · refine Or.inr ⟨(e _).2 ?_, (e _).2 ?_, fun s hs => ?_⟩
    · rcases Int.le_total lo r with k | k
      · rw [Int.min_eq_left k]; exact Or.inl h.1
      · exact Or.inr (Int.min_eq_right k)
    · rcases Int.le_total hi r with k | k
      · exact Or.inr (Int.max_eq_right k)
      · rw [Int.max_eq_left k]; exact Or.inl h.2.1
    · rcases (e s).1 hs with k | k
      · have := h.2.2 s k; omega
      · omega
theorem LI.skip {sl : Int} {P T : Int → Prop} {lo hi r : Int} (h : LI sl P lo hi) (hl : lo ≤ r ∧ r ≤ hi) (hr : -sl ≤ r ∧ r ≤ sl) (e1 : ∀ x, P x → T x) (e2 : ∀ x, T x → P x ∨ x = r) : LI sl T lo hi := by
  rcases h with ⟨rfl, rfl, h3⟩ | h
  · omega
  · exact Or.inr ⟨e1 _ h.1, e1 _ h.2.1, fun s hs => by
      rcases e2 s hs with k | k
      · exact h.2.2 s k
      · omega⟩
theorem lp_step (c : Cv) (p : Nat) (pre : List Int) (n q x : Int) : LP c p pre n (q + 1) x ↔ LP c p pre n q x ∨ (EL c p n q ∧ x = q) := by
  unfold LP
  constructor
  · rintro (h | ⟨h1, h2⟩)
    · exact Or.inl (Or.inl h)
    · by_cases e : x = q
      · subst e; exact Or.inr ⟨h1, rfl⟩
      · exact Or.inl (Or.inr ⟨h1, by omega⟩)
  · rintro ((h | ⟨h1, h2⟩) | ⟨h1, rfl⟩)
    · exact Or.inl h
    · exact Or.inr ⟨h1, by omega⟩
    · exact Or.inr ⟨h1, by omega⟩
theorem el_bd {c : Cv} {p : Nat} (hp : p + 1 ≤ c.long) {n r : Int} (h : EL c p n r) : -c.slope ≤ r ∧ r ≤ c.slope := by
  obtain ⟨g, k1, k2, k3⟩ := h
  have := k1.1.2 p (by omega)
  omega
theorem lp_start {c : Cv} {p : Nat} (hp : p + 1 ≤ c.long) (pre : List Int) (n x : Int) : LP c p pre n (-c.slope) x ↔ LP0 c p pre x := by
  constructor
  · rintro (h | ⟨h1, h2⟩)
    · exact h
    · have := el_bd hp h1; omega
  · intro h; exact Or.inl h
theorem lp_end {c : Cv} {p : Nat} (hp : p + 1 ≤ c.long) (pre : List Int) (n x : Int) : LP c p pre n (c.slope + 1) x ↔ LP0 c p (pre ++ [n]) x := by
  unfold LP LP0
  constructor
  · rintro (⟨m, h1, h2⟩ | ⟨h1, h2⟩)
    · exact ⟨m, List.mem_append_left _ h1, h2⟩
    · exact ⟨n, by simp, h1⟩
  · rintro ⟨m, h1, h2⟩
    rcases List.mem_append.1 h1 with h1 | h1
    · exact Or.inl ⟨m, h1, h2⟩
    · obtain rfl := List.mem_singleton.1 h1
      have := el_bd hp h2
      exact Or.inr ⟨h2, by omega⟩
theorem lp_all {c : Cv} {p : Nat} (hp : p + 1 ≤ c.long) {K : Nat} (hK : c.rhi < c.rlo + K) (x : Int) : LP0 c p (htL c p K) x ↔ LnP c p x := by
  constructor
  · rintro ⟨m, _, h, k1, k2, k3⟩
    exact ⟨h, k1, by omega⟩
  · rintro ⟨h, k1, k2⟩
    have := k1.1.1 p (by omega)
    exact ⟨h p, (htL_mem c p _ K).2 ⟨⟨h, k1, rfl⟩, this.1, by omega⟩, h, k1, rfl, by omega⟩
theorem LI.sp {c : Cv} {sl : Int} {P : Int → Prop} {lo hi : Int} (h : LI sl P lo hi) (p : Nat) (e : ∀ r, P r ↔ LnP c p r) (hT : ∃ h, Truth c h) : IsSp (LnP c p) lo hi := by
  rcases h with ⟨_, _, h3⟩ | h
  · obtain ⟨g, hg⟩ := hT
    exact absurd ((e _).2 ⟨g, hg, rfl⟩) (h3 _)
  · exact h.congr e
end Go.Proofs.Ytphcpphmoeiioaa
namespace Go.Proofs.Ytphcpphmoeiioaa
open Go.RowKit Go.Maps

section
variable {ops : Array Oper} {Q : Exit → Act → World → Prop} {K : Act → World → Prop} {o : Oper} {a : Act} {w : World}
theorem step_made (t : TypeId) (hw : Region.wanted o (yielded ops a.tmps) = true) (ho : o.op = Op.makeMap t none)
    (h : ∀ b w', MapI w' b 0 (fun _ => none) → Below w.heap.size w w' → w.heap.size ≤ b → K (a.put o.dst (.map (some b))) w') : wpHead Try.prog ops Q K a w [o] := by
  simp only [wpHead]
  rw [if_pos hw]
  have hmm := @run_makeMap Try.prog t w
  unfold Oper.wp
  simp [execOp, ho, hmm, Result.andThen]
  exact h _ _ (MapI.made w) ((Below.refl _ _).alloc (Nat.le_refl _) _) (Nat.le_refl _)
theorem step_ins (hw : Region.wanted o (yielded ops a.tmps) = true) (m x v : Operand) (t : TypeId) (ho : o.op = Op.insert t m x v) (ht : Try.prog.underlying t = some (.map 3 3)) (b n : Nat) (f : Int → Option Int)
    (hm : a.eval m = .map (some b)) (hown : MapI w b n f) (hn : n < 100000000000000) (k u : Int) (hx : a.eval x = .int .i64 k) (hv : a.eval v = .int .i64 u) (hk : (Lit.int .i64 k).wf = true) (hu : (Lit.int .i64 u).wf = true)
    (h : ∀ w', MapI w' b (n + 1) (upd f k u) → w.grownBy w' (some b) → K (a.put o.dst undef) w') : wpHead Try.prog ops Q K a w [o] := by
  obtain ⟨D, h1, h2⟩ := hown
  obtain ⟨w', hrun, r1, r2⟩ := h1.update key3 ht (by unfold maxLen; omega) (keyOf_int_mk Try.underlying3 hk) (plainElem_int Try.underlying3 hu)
  simp only [wpHead]
  rw [if_pos hw]
  unfold Oper.wp
  simp [execOp, ho, hm, hx, hv, hrun, Result.andThen]
  exact h w' ⟨_, r1, holds_put h2 h1.isMap hk⟩ r2
end
/-- What the region of Lean keeps. -/
structure OpK (W0 : World) (n₁ B8 Bg B1 : Nat) (ov pv av : List Value) (W : World) : Prop where
  o : Own W B8 ov
  p : Own W Bg pv
  t : Own W B1 av
  b : Below n₁ W0 W
  z : n₁ ≤ W.heap.size
section
variable {W0 W W' : World} {n₁ B8 Bg B1 : Nat} {ov pv av : List Value}
theorem OpK.below (h : OpK W0 n₁ B8 Bg B1 ov pv av W) (k : Below W.heap.size W W') : OpK W0 n₁ B8 Bg B1 ov pv av W' :=
  ⟨h.o.below k h.o.lt, h.p.below k h.p.lt, h.t.below k h.t.lt, h.b.trans (k.mono h.z), Nat.le_trans h.z k.size⟩
theorem OpK.drew (h : OpK W0 n₁ B8 Bg B1 ov pv av W) : OpK W0 n₁ B8 Bg B1 ov pv av W.drew := ⟨h.o.drew, h.p.drew, h.t.drew, h.b.drew, h.z⟩
theorem OpK.grown (h : OpK W0 n₁ B8 Bg B1 ov pv av W) {b : Nat} (k : W.grownBy W' (some b)) (hb : n₁ ≤ b ∧ B8 ≠ b ∧ Bg ≠ b ∧ B1 ≠ b) : OpK W0 n₁ B8 Bg B1 ov pv av W' :=
  ⟨h.o.grown k (fun e => hb.2.1 (by injection e)), h.p.grown k (fun e => hb.2.2.1 (by injection e)), h.t.grown k (fun e => hb.2.2.2 (by injection e)), h.b.grown k h.z (fun i e => by cases e; exact hb.1), Nat.le_trans h.z k.size⟩
theorem OpK.fresh (h : OpK W0 n₁ B8 Bg B1 ov pv av W) {b : Nat} (hb : W.heap.size ≤ b) : n₁ ≤ b ∧ B8 ≠ b ∧ Bg ≠ b ∧ B1 ≠ b :=
  ⟨Nat.le_trans h.z hb, Nat.ne_of_lt (Nat.lt_of_lt_of_le h.o.lt hb), Nat.ne_of_lt (Nat.lt_of_lt_of_le h.p.lt hb), Nat.ne_of_lt (Nat.lt_of_lt_of_le h.t.lt hb)⟩
end
theorem upd_comm (p : Int) (x y : Int) : ∀ z, upd (upd (fun _ => none) (p + 1) y) p x z = upd (upd (fun _ => none) p x) (p + 1) y z := fun z => by
  unfold upd
  by_cases e1 : z = p
  · subst e1; rw [if_pos rfl, if_neg (by omega), if_pos rfl]
  · rw [if_neg e1]
    by_cases e2 : z = p + 1
    · rw [if_pos e2, if_pos e2]
    · rw [if_neg e2, if_neg e2, if_neg e1]
/-- What a loop's rounds keep. -/
structure Kq (z n₁ B0 B1 : Nat) (W W' : World) : Prop where
  k : KeepsFrom z W W'
  p : KpB n₁ B0 B1 W W'
theorem Kq.refl (z n₁ B0 B1 : Nat) (W : World) : Kq z n₁ B0 B1 W W := ⟨KeepsFrom.refl _ _, Below.refl _ _, rfl, rfl⟩
theorem Kq.below {z n₁ B0 B1 : Nat} {W V V' : World} (h : Kq z n₁ B0 B1 W V) (k : Below V.heap.size V V') (hn : n₁ ≤ V.heap.size) (h0 : B0 < V.heap.size) (h1 : B1 < V.heap.size) : Kq z n₁ B0 B1 W V' :=
  ⟨h.k.trans ((KeepsOthers.of_grownBy (grown_of_below k) (fun j o e _ => by cases e)).from _), h.p.1.trans (k.mono hn), (k.block _ h0).trans h.p.2.1, (k.block _ h1).trans h.p.2.2⟩
theorem Kq.set {z n₁ B0 B1 M : Nat} {W V : World} (h : Kq z n₁ B0 B1 W V) (hM : n₁ ≤ M) (h0 : M ≠ B0) (h1 : M ≠ B1) (i : Nat) (v : Value) : Kq z n₁ B0 B1 W (V.setCell ⟨M, i, none⟩ v) :=
  ⟨h.k.trans ((KeepsOthers.setCell _ _ _).from _), h.p.1.setCell hM _, (Below.heap_setCell _ _ _ _ (fun e => h0 e.symm)).trans h.p.2.1, (Below.heap_setCell _ _ _ _ (fun e => h1 e.symm)).trans h.p.2.2⟩
end Go.Proofs.Ytphcpphmoeiioaa
