/- Walks: integral, can. -/
import Derived.Test.YtphcpphmoeiioaaWD
namespace Go.Proofs.Ytphcpphmoeiioaa
open Go.RowKit Go.Maps

def IntR (P : Int → Prop) (m : Nat) (lo hi : Int) : Prop := (m = 0 ∧ lo = 0 ∧ hi = 0 ∧ ∀ s, ¬ P s) ∨ (0 < m ∧ IsSp P lo hi)
theorem IntR.congr {P Q : Int → Prop} {m : Nat} {lo hi : Int} (h : IntR P m lo hi) (e : ∀ s, P s ↔ Q s) : IntR Q m lo hi := by
  rcases h with ⟨h1, h2, h3, h4⟩ | ⟨h1, h2⟩
  · exact Or.inl ⟨h1, h2, h3, fun s hs => h4 s ((e s).2 hs)⟩
  · exact Or.inr ⟨h1, h2.congr e⟩
theorem IntR.new {P Q T : Int → Prop} {m : Nat} {lo hi lo' hi' : Int} (h : IntR P m lo hi) (hm : m = 0) (k : IsSp Q lo' hi') (e : ∀ s, T s ↔ P s ∨ Q s) : IntR T (m + 1) lo' hi' := by
  rcases h with ⟨h1, h2, h3, h4⟩ | ⟨h1, h2⟩
  · exact Or.inr ⟨by omega, k.congr fun s => ⟨fun hs => (e s).2 (Or.inr hs), fun hs => by
      rcases (e s).1 hs with h | h
      · exact absurd h (h4 s)
      · exact h⟩⟩
  · omega
theorem IntR.more {P Q T : Int → Prop} {m : Nat} {lo hi lo' hi' : Int} (h : IntR P m lo hi) (hm : 0 < m) (k : IsSp Q lo' hi') (e : ∀ s, T s ↔ P s ∨ Q s) : IntR T (m + 1) (min lo lo') (max hi hi') := by
  rcases h with ⟨h1, h2, h3, h4⟩ | ⟨h1, h2⟩
  · omega
  · refine Or.inr ⟨by omega, (e _).2 ?_, (e _).2 ?_, fun s hs => ?_⟩
    · rcases Int.le_total lo lo' with h | h
      · rw [Int.min_eq_left h]; exact Or.inl h2.1
      · rw [Int.min_eq_right h]; exact Or.inr k.1
    · rcases Int.le_total hi hi' with h | h
      · rw [Int.max_eq_right h]; exact Or.inr k.2.1
      · rw [Int.max_eq_left h]; exact Or.inl h2.2.1
    · rcases (e s).1 hs with h | h
      · have := h2.2.2 s h; omega
      · have := k.2.2 s h; omega
def InF (c : Cv) (f : Int → Option Int) (a b s : Int) : Prop := ∃ h, Truth c h ∧ Fits f c.long h ∧ sUp h a b c.long = s
/-- The integrals of the states marked, of truths. -/
def InL (R : Int → Int → Int → Prop) (wg : Int) (left : Int → Int → Bool) (s : Int) : Prop := ∃ x v, v ≤ wg ∧ left x v = false ∧ R x v s
theorem inL_none {R : Int → Int → Int → Prop} {wg : Int} {F : Int → Int → Option (Int × Int)} (h : Fro F R) : IntR (InL R wg (fun x v => (F x v).isSome)) 0 0 0 :=
  Or.inl ⟨rfl, rfl, rfl, fun s ⟨x, v, _, h2, h3⟩ => by
    obtain ⟨lo, hi, e⟩ := h.some h3
    dsimp only at h2; rw [e] at h2; cases h2⟩
theorem inL_step {R : Int → Int → Int → Prop} {wg : Int} {left l2 : Int → Int → Bool} {x v : Int} (hl : ∀ z y, l2 z y = false ↔ left z y = false ∨ (z = x ∧ y = v)) (hv : v ≤ wg) (s : Int) : InL R wg l2 s ↔ InL R wg left s ∨ R x v s := by
  constructor
  · rintro ⟨z, y, h1, h2, h3⟩
    rcases (hl z y).1 h2 with h | ⟨rfl, rfl⟩
    · exact Or.inl ⟨z, y, h1, h, h3⟩
    · exact Or.inr h3
  · rintro (⟨z, y, h1, h2, h3⟩ | h)
    · exact ⟨z, y, h1, (hl z y).2 (Or.inl h2), h3⟩
    · exact ⟨x, v, hv, (hl x v).2 (Or.inr ⟨rfl, rfl⟩), h⟩
theorem inL_skip {R : Int → Int → Int → Prop} {wg : Int} {left l2 : Int → Int → Bool} {x v : Int} (hl : ∀ z y, l2 z y = false ↔ left z y = false ∨ (z = x ∧ y = v)) (hv : ¬ v ≤ wg) (s : Int) : InL R wg left s ↔ InL R wg l2 s := by
  constructor
  · rintro ⟨z, y, h1, h2, h3⟩
    exact ⟨z, y, h1, (hl z y).2 (Or.inl h2), h3⟩
  · rintro ⟨z, y, h1, h2, h3⟩
    rcases (hl z y).1 h2 with h | ⟨rfl, rfl⟩
    · exact ⟨z, y, h1, h, h3⟩
    · exact absurd h1 hv
theorem inL_all {c : Cv} {f : Int → Option Int} {a b : Int} (hV : Bd (St c f a b c.long)) (hk : c.kn.length ≤ 8) {left : Int → Int → Bool} (hl : ∀ x v, (Lit.int .i64 x).wf = true → (Lit.int .i64 v).wf = true → left x v = false) (s : Int) : InL (St c f a b c.long) c.wrong left s ↔ InF c f a b s := by
  constructor
  · rintro ⟨x, v, h1, h2, h3⟩
    obtain ⟨h, k1, k2, rfl, rfl, k3⟩ := (st_iff c hk f a b c.long x v s).1 h3
    exact ⟨h, ⟨k1, h1⟩, k2, k3⟩
  · rintro ⟨h, ⟨k1, k2⟩, k3, k4⟩
    have := (st_iff c hk f a b c.long _ _ s).2 ⟨h, k1, k3, rfl, rfl, k4⟩
    exact ⟨h c.long, (wUp c.kn h c.long : Int), k2, hl _ _ (hV.wf1 this) (hV.wf2 this), this⟩
theorem grown_setCell (W : World) (a : Addr) (v : Value) : W.grownBy (W.setCell a v) (some a.block) :=
  ⟨rfl, rfl, rfl, by simp, fun k _ hk => Below.heap_setCell _ _ _ k (fun e => hk (by rw [e]))⟩
theorem RngF.set {w : World} {b r n cnt B : Nat} {F : Int → Int → Option (Int × Int)} {left : Int → Int → Bool} (h : RngF w b r n F left cnt) (hb : b ≠ B) (hr : r ≠ B) (i : Nat) (v : Value) : RngF (w.setCell ⟨B, i, none⟩ v) b r n F left cnt := h.kept (grown_setCell _ _ _) (fun e => hb (by injection e)) (fun e => hr (by injection e))
theorem RngF.alloc {w : World} {b r n cnt : Nat} {F : Int → Int → Option (Int × Int)} {left : Int → Int → Bool} (h : RngF w b r n F left cnt) (o : Obj) : RngF (w.alloc o) b r n F left cnt := h.kept (World.grownBy_alloc _ _ none) (by simp) (by simp)
theorem MapF.set {w : World} {b n B : Nat} {F : Int → Int → Option (Int × Int)} (h : MapF w b n F) (hb : b ≠ B) (i : Nat) (v : Value) : MapF (w.setCell ⟨B, i, none⟩ v) b n F := h.kept (grown_setCell _ _ _) (fun e => hb (by injection e))
theorem MapF.alloc {w : World} {b n : Nat} {F : Int → Int → Option (Int × Int)} (h : MapF w b n F) (o : Obj) : MapF (w.alloc o) b n F := h.kept (World.grownBy_alloc _ _ none) (by simp)
theorem MapF.ne_own {w : World} {b n B : Nat} {F : Int → Int → Option (Int × Int)} {v : Value} {vs : List Value} (h : MapF w b n F) (k : Own w B (v :: vs)) : b ≠ B := by
  rintro rfl
  obtain ⟨D, ⟨es, clock, e, _⟩, _⟩ := h
  have := k.c 0
  simp [World.cell?, e] at this
theorem calls_gen {P : Program} {f : FuncId} {args : Array Value} {Q : Ending → World → Prop} {w : World} (h : ∀ W, W = w → Calls P f args W Q) : Calls P f args w Q := h w rfl
set_option maxRecDepth 100000 in
set_option maxHeartbeats 8000000 in
theorem integral57 (L sl rl rh wg : Int) (A : Option Addr) (n cap : Nat) (ks : List Kn) (fv : Value) (f : Int → Option Int) (a b : Int) (w : World) (hA : Rd 3 w A (ks.map krow)) (hn : Hid (n = ks.length)) (hf : FixM w fv f) (hV : Hid (CvV L sl rl rh wg ks)) :
    Calls Try.prog 57 #[.agg #[.int .i64 L, .int .i64 sl, .int .i64 rl, .int .i64 rh, .slice A n cap, .int .i64 wg, fv], .int .i64 a, .int .i64 b] w fun e w' => ∃ (m : Nat) (lo hi : Int), e = .returned (.tuple #[.agg #[.int .i64 lo, .int .i64 hi], .bool (decide (0 < m))]) ∧ Hid (IntR (InF (cvOf L sl rl rh wg ks) f a b) m lo hi) ∧ Below w.heap.size w w' := by
  have HA := Lib.hid hA
  have HF := Lib.hid hf
  have hl1 := hV.out.l1
  have hl2 := hV.out.l2
  have hBd : Hid (Bd (St (cvOf L sl rl rh wg ks) f a b L.toNat)) := st_Bd (cvOf L sl rl rh wg ks) hV.out.r1 hV.out.r2 hV.out.kl f a b L.toNat (by omega)
  clear hA hf
  go_enter Try.func57, Try.ntmps57
  go_wp2_with fail
  refine (walk64 L sl rl rh wg A n cap ks fv f a b _ (HA.out.below (B := w.heap.size) (by (repeat' (first | (with_reducible exact Below.refl _ _) | (with_reducible assumption) | (with_reducible refine Below.drew ?_) | (with_reducible refine below_drewN ?_ _) | (with_reducible refine Below.setCell ?_ ?_ _) | (with_reducible refine Below.alloc ?_ ?_ _) | (refine Below.trans ?_ (Below.mono (by with_reducible assumption) ?_)) | omega | (exact Below.size (by with_reducible assumption)) | (simp; done) | (simp; omega)))) (Nat.le_refl _)) hn (HF.out.below (B := w.heap.size) (by (repeat' (first | (with_reducible exact Below.refl _ _) | (with_reducible assumption) | (with_reducible refine Below.drew ?_) | (with_reducible refine below_drewN ?_ _) | (with_reducible refine Below.setCell ?_ ?_ _) | (with_reducible refine Below.alloc ?_ ?_ _) | (refine Below.trans ?_ (Below.mono (by with_reducible assumption) ?_)) | omega | (exact Below.size (by with_reducible assumption)) | (simp; done) | (simp; omega)))) (Nat.le_refl _)) hV).mono ?_
  rintro e w1 ⟨b1, F1, rfl, hm1, hfr1, hb1⟩
  have o1 : Own w1 w.heap.size [.int .i64 L, .int .i64 sl, .int .i64 rl, .int .i64 rh, .slice A n cap, .int .i64 wg, fv] := (((Own.new' _ _ rfl rfl).alloc _).alloc _).below hb1 (by simp; try omega)
  have o2 : Own w1 (w.heap.size + 1) [.int .i64 0, .int .i64 0] := ((Own.new' _ _ (by simp) rfl).alloc _).below hb1 (by simp; try omega)
  have o3 : Own w1 (w.heap.size + 1 + 1) [.int .i64 0, .int .i64 0] := (Own.new' _ _ (by simp) rfl).below hb1 (by simp; try omega)
  have hB1 : Below w.heap.size w w1 := by (repeat' (first | (with_reducible exact Below.refl _ _) | (with_reducible assumption) | (with_reducible refine Below.drew ?_) | (with_reducible refine below_drewN ?_ _) | (with_reducible refine Below.setCell ?_ ?_ _) | (with_reducible refine Below.alloc ?_ ?_ _) | (refine Below.trans ?_ (Below.mono (by with_reducible assumption) ?_)) | omega | (exact Below.size (by with_reducible assumption)) | (simp; done) | (simp; omega)))
  have hz1 := hb1.size
  have hml := hm1.lt
  simp only [World.size_alloc] at hz1
  have HM := Lib.hid hm1
  have hne3 := hm1.ne_own o3
  clear hb1 hm1
  go_wp2_with (first | (at_range; go_must (refine wp_rangeF _ rfl _ _ rfl Try.underlying92 b1 1809 F1 rfl (HM.out.below (B := w1.heap.size) (by (repeat' (first | (with_reducible exact Below.refl _ _) | (with_reducible assumption) | (with_reducible refine Below.drew ?_) | (with_reducible refine below_drewN ?_ _) | (with_reducible refine Below.setCell ?_ ?_ _) | (with_reducible refine Below.alloc ?_ ?_ _) | (refine Below.trans ?_ (Below.mono (by with_reducible assumption) ?_)) | omega | (exact Below.size (by with_reducible assumption)) | (simp; done) | (simp; omega)))) hml) ?_); intro w2 cn hr2 hb2 hz2 hcn; simp only [World.size_alloc] at hr2 hz2 ⊢))
  go_frame
  go_loopg [9] cn (fun K y w5 => ∃ (left : Int → Int → Bool) (m : Nat) (lo hi : Int), y = .int .i64 m ∧ m + K ≤ 1809 ∧ RngF w5 b1 w1.heap.size 1809 F1 left K ∧ Hid (IntR (InL (St (cvOf L sl rl rh wg ks) f a b L.toNat) wg left) m lo hi) ∧ Own w5 w.heap.size [.int .i64 L, .int .i64 sl, .int .i64 rl, .int .i64 rh, .slice A n cap, .int .i64 wg, fv] ∧ Own w5 (w.heap.size + 1) [.int .i64 0, .int .i64 0] ∧ Own w5 (w.heap.size + 1 + 1) [.int .i64 lo, .int .i64 hi] ∧ Below w.heap.size w w5)
  case atStart => exact ⟨_, 0, 0, 0, rfl, by omega, hr2, inL_none hfr1.out, o1.below hb2 (by omega), o2.below hb2 (by omega), o3.below hb2 (by omega), by (repeat' (first | (with_reducible exact Below.refl _ _) | (with_reducible assumption) | (with_reducible refine Below.drew ?_) | (with_reducible refine below_drewN ?_ _) | (with_reducible refine Below.setCell ?_ ?_ _) | (with_reducible refine Below.alloc ?_ ?_ _) | (refine Below.trans ?_ (Below.mono (by with_reducible assumption) ?_)) | omega | (exact Below.size (by with_reducible assumption)) | (simp; done) | (simp; omega)))⟩
  case round =>
    clear hr2 hb2 hz2 o1 o2 o3 hB1
    obtain ⟨left, m, lo, hi, rfl, hmk, hrg, hI, ho1, ho2, ho3, hbw⟩ := hrel
    obtain ⟨l1, k1, f1⟩ := ho1
    obtain ⟨l2, k2, f2⟩ := ho2
    obtain ⟨l3, k3, f3⟩ := ho3
    have ho1 := Lib.hid (Own.mk l1 k1 f1)
    have ho2 := Lib.hid (Own.mk l2 k2 f2)
    have ho3 := Lib.hid (Own.mk l3 k3 f3)
    go_wp2_with (at_next; refine wp_nextF _ rfl _ rfl b1 w1.heap.size 1809 F1 left _ rfl hrg ?_ ?_)
    · intro hc0 hl0
      have hE := hI.out.congr (inL_all (c := cvOf L sl rl rh wg ks) hBd.out hV.out.kl hl0)
      have q0 := (ho2.out.set 0 (by simp) (.int .i64 lo)).c
      have q1 := ((ho2.out.set 0 (by simp) (.int .i64 lo)).set 1 (by simp) (.int .i64 hi)).c
      go_wp2
      (try simp only [Exit.inBlock, Exit.then])
      refine bodyPost_ret (v := .tuple #[.agg #[.int .i64 lo, .int .i64 hi], .bool (decide (0 < m))]) (by simp [results, Try.results57, go_sem, *]) rfl ?_
      exact ⟨m, lo, hi, rfl, hE, by (repeat' (first | (with_reducible exact Below.refl _ _) | (with_reducible assumption) | (with_reducible refine Below.drew ?_) | (with_reducible refine below_drewN ?_ _) | (with_reducible refine Below.setCell ?_ ?_ _) | (with_reducible refine Below.alloc ?_ ?_ _) | (refine Below.trans ?_ (Below.mono (by with_reducible assumption) ?_)) | omega | (exact Below.size (by with_reducible assumption)) | (simp; done) | (simp; omega)))⟩
    · intro x u lo1 hi1 w3 cnt1 hwx hwu hlx hfx hrg1 hlt hg1 hs1 hen
      obtain ⟨lf, hl2⟩ : ∃ lf : Int → Int → Bool, lf = (fun z y => left z y && (!decide (z = x) || !decide (y = u))) := ⟨_, rfl⟩
      rw [← hl2] at hrg1
      have hL2 : Hid (∀ z y, lf z y = false ↔ left z y = false ∨ (z = x ∧ y = u)) := fun z y => by rw [hl2]; exact left_next z y
      clear hl2
      have hsp := Lib.hid (hfr1.out.at hfx)
      have hB3 : Below w.heap.size w w3 := hbw.grown hg1 hbw.size (fun k e => by cases e; omega)
      have p1 := Lib.hid (ho1.out.grown hg1 (fun e => by injection e; omega))
      have p2 := Lib.hid (ho2.out.grown hg1 (fun e => by injection e; omega))
      have p3 := Lib.hid (ho3.out.grown hg1 (fun e => by injection e; omega))
      have hrl := hrg1.lt
      have hml3 := hrg1.map.lt
      clear hfx hlx hrg ho1 ho2 ho3 l1 k1 f1 l2 k2 f2 l3 k3 f3 hbw hg1 hs1
      obtain ⟨l1, k1, f1⟩ := p1.out
      obtain ⟨l2, k2, f2⟩ := p2.out
      obtain ⟨l3, k3, f3⟩ := p3.out
      by_cases hq : u ≤ wg
      · by_cases hm0 : m = 0
        · subst hm0
          go_wp2_with fail
          refine calls_gen fun W hW => ?_
          have hB3' : Below w.heap.size w W := by rw [hW]; (repeat' (first | (with_reducible exact Below.refl _ _) | (with_reducible assumption) | (with_reducible refine Below.drew ?_) | (with_reducible refine below_drewN ?_ _) | (with_reducible refine Below.setCell ?_ ?_ _) | (with_reducible refine Below.alloc ?_ ?_ _) | (refine Below.trans ?_ (Below.mono (by with_reducible assumption) ?_)) | omega | (exact Below.size (by with_reducible assumption)) | (simp; done) | (simp; omega)))
          have r1 : Own W w.heap.size [.int .i64 L, .int .i64 sl, .int .i64 rl, .int .i64 rh, .slice A n cap, .int .i64 wg, fv] := by rw [hW]; (repeat' (first | (with_reducible assumption) | (with_reducible exact Own.mk (by with_reducible assumption) (by with_reducible assumption) (by with_reducible assumption)) | (with_reducible refine Own.new' _ _ (by first | rfl | (simp; done)) rfl) | (with_reducible refine Own.drew ?_) | (with_reducible refine Own.drewN ?_ _) | (with_reducible refine Own.alloc ?_ _) | (with_reducible refine Own.setOther ?_ ?_ _) | (refine Own.below ?_ (by with_reducible assumption) ?_) | omega | (simp; done) | (simp; omega)))
          have r2 : Own W (w.heap.size + 1) [.int .i64 0, .int .i64 0] := by rw [hW]; (repeat' (first | (with_reducible assumption) | (with_reducible exact Own.mk (by with_reducible assumption) (by with_reducible assumption) (by with_reducible assumption)) | (with_reducible refine Own.new' _ _ (by first | rfl | (simp; done)) rfl) | (with_reducible refine Own.drew ?_) | (with_reducible refine Own.drewN ?_ _) | (with_reducible refine Own.alloc ?_ _) | (with_reducible refine Own.setOther ?_ ?_ _) | (refine Own.below ?_ (by with_reducible assumption) ?_) | omega | (simp; done) | (simp; omega)))
          have r3 : Own W (w.heap.size + 1 + 1) [.int .i64 lo1, .int .i64 hi1] := by rw [hW]; exact (((p3.out.set 0 (by simp) _).set 1 (by simp) _).alloc _).alloc _
          have r4 : RngF W b1 w1.heap.size 1809 F1 lf cnt1 := by rw [hW]; (repeat' (first | (with_reducible assumption) | (with_reducible refine RngF.alloc ?_ _) | (with_reducible refine RngF.set ?_ ?_ ?_ _ _) | (with_reducible refine MapF.alloc ?_ _) | (with_reducible refine MapF.set ?_ ?_ _ _) | omega | (simp; done) | (simp; omega)))
          have hzW := hB3'.size
          clear hW l1 k1 f1 l2 k2 f2 l3 k3 f3
          refine (with81 _ _ _ _ _).mono ?_
          rintro e w4 ⟨rfl, hb4⟩
          rw [Int.min_self, Int.max_self]
          have hz4 := hb4.size
          have hB4 : Below w.heap.size w w4 := hB3'.trans (hb4.mono hzW)
          have r4' := r4.below hb4 r4.map.lt r4.lt
          have r1' := Lib.hid (r1.below hb4 r1.lt)
          have r2' := Lib.hid (r2.below hb4 r2.lt)
          have r3' := Lib.hid (r3.below hb4 r3.lt)
          clear r1 r2 r3 r4 hb4
          obtain ⟨l1, k1, f1⟩ := r1'.out
          obtain ⟨l2, k2, f2⟩ := r2'.out
          obtain ⟨l3, k3, f3⟩ := r3'.out
          go_wp2
          go_roundg cnt1
          case measure => omega
          case rel =>
            refine ⟨lf, 1, lo1, hi1, by go_num, by omega, by (repeat' (first | (with_reducible assumption) | (with_reducible refine RngF.alloc ?_ _) | (with_reducible refine RngF.set ?_ ?_ ?_ _ _) | (with_reducible refine MapF.alloc ?_ _) | (with_reducible refine MapF.set ?_ ?_ _ _) | omega | (simp; done) | (simp; omega))), hI.out.new rfl hsp.out (inL_step hL2.out hq), by (repeat' (first | (with_reducible assumption) | (with_reducible exact Own.mk (by with_reducible assumption) (by with_reducible assumption) (by with_reducible assumption)) | (with_reducible refine Own.new' _ _ (by first | rfl | (simp; done)) rfl) | (with_reducible refine Own.drew ?_) | (with_reducible refine Own.drewN ?_ _) | (with_reducible refine Own.alloc ?_ _) | (with_reducible refine Own.setOther ?_ ?_ _) | (refine Own.below ?_ (by with_reducible assumption) ?_) | omega | (simp; done) | (simp; omega))), by (repeat' (first | (with_reducible assumption) | (with_reducible exact Own.mk (by with_reducible assumption) (by with_reducible assumption) (by with_reducible assumption)) | (with_reducible refine Own.new' _ _ (by first | rfl | (simp; done)) rfl) | (with_reducible refine Own.drew ?_) | (with_reducible refine Own.drewN ?_ _) | (with_reducible refine Own.alloc ?_ _) | (with_reducible refine Own.setOther ?_ ?_ _) | (refine Own.below ?_ (by with_reducible assumption) ?_) | omega | (simp; done) | (simp; omega))), (r3'.out.set 0 (by simp) _).set 1 (by simp) _, by (repeat' (first | (with_reducible exact Below.refl _ _) | (with_reducible assumption) | (with_reducible refine Below.drew ?_) | (with_reducible refine below_drewN ?_ _) | (with_reducible refine Below.setCell ?_ ?_ _) | (with_reducible refine Below.alloc ?_ ?_ _) | (refine Below.trans ?_ (Below.mono (by with_reducible assumption) ?_)) | omega | (exact Below.size (by with_reducible assumption)) | (simp; done) | (simp; omega)))⟩
        · go_wp2_with fail
          refine calls_gen fun W hW => ?_
          have hB3' : Below w.heap.size w W := by rw [hW]; (repeat' (first | (with_reducible exact Below.refl _ _) | (with_reducible assumption) | (with_reducible refine Below.drew ?_) | (with_reducible refine below_drewN ?_ _) | (with_reducible refine Below.setCell ?_ ?_ _) | (with_reducible refine Below.alloc ?_ ?_ _) | (refine Below.trans ?_ (Below.mono (by with_reducible assumption) ?_)) | omega | (exact Below.size (by with_reducible assumption)) | (simp; done) | (simp; omega)))
          have r1 : Own W w.heap.size [.int .i64 L, .int .i64 sl, .int .i64 rl, .int .i64 rh, .slice A n cap, .int .i64 wg, fv] := by rw [hW]; (repeat' (first | (with_reducible assumption) | (with_reducible exact Own.mk (by with_reducible assumption) (by with_reducible assumption) (by with_reducible assumption)) | (with_reducible refine Own.new' _ _ (by first | rfl | (simp; done)) rfl) | (with_reducible refine Own.drew ?_) | (with_reducible refine Own.drewN ?_ _) | (with_reducible refine Own.alloc ?_ _) | (with_reducible refine Own.setOther ?_ ?_ _) | (refine Own.below ?_ (by with_reducible assumption) ?_) | omega | (simp; done) | (simp; omega)))
          have r2 : Own W (w.heap.size + 1) [.int .i64 0, .int .i64 0] := by rw [hW]; (repeat' (first | (with_reducible assumption) | (with_reducible exact Own.mk (by with_reducible assumption) (by with_reducible assumption) (by with_reducible assumption)) | (with_reducible refine Own.new' _ _ (by first | rfl | (simp; done)) rfl) | (with_reducible refine Own.drew ?_) | (with_reducible refine Own.drewN ?_ _) | (with_reducible refine Own.alloc ?_ _) | (with_reducible refine Own.setOther ?_ ?_ _) | (refine Own.below ?_ (by with_reducible assumption) ?_) | omega | (simp; done) | (simp; omega)))
          have r3 : Own W (w.heap.size + 1 + 1) [.int .i64 lo, .int .i64 hi] := by rw [hW]; exact (p3.out.alloc _).alloc _
          have r4 : RngF W b1 w1.heap.size 1809 F1 lf cnt1 := by rw [hW]; (repeat' (first | (with_reducible assumption) | (with_reducible refine RngF.alloc ?_ _) | (with_reducible refine RngF.set ?_ ?_ ?_ _ _) | (with_reducible refine MapF.alloc ?_ _) | (with_reducible refine MapF.set ?_ ?_ _ _) | omega | (simp; done) | (simp; omega)))
          have hzW := hB3'.size
          clear hW l1 k1 f1 l2 k2 f2 l3 k3 f3
          refine (with81 _ _ _ _ _).mono ?_
          rintro e w4 ⟨rfl, hb4⟩
          have hz4 := hb4.size
          have hB4 : Below w.heap.size w w4 := hB3'.trans (hb4.mono hzW)
          have r4' := r4.below hb4 r4.map.lt r4.lt
          have r1' := Lib.hid (r1.below hb4 r1.lt)
          have r2' := Lib.hid (r2.below hb4 r2.lt)
          have r3' := Lib.hid (r3.below hb4 r3.lt)
          clear r1 r2 r3 r4 hb4
          obtain ⟨l1, k1, f1⟩ := r1'.out
          obtain ⟨l2, k2, f2⟩ := r2'.out
          obtain ⟨l3, k3, f3⟩ := r3'.out
          go_wp2
          go_roundg cnt1
          case measure => omega
          case rel =>
            refine ⟨lf, m + 1, min lo lo1, max hi hi1, by go_num, by omega, by (repeat' (first | (with_reducible assumption) | (with_reducible refine RngF.alloc ?_ _) | (with_reducible refine RngF.set ?_ ?_ ?_ _ _) | (with_reducible refine MapF.alloc ?_ _) | (with_reducible refine MapF.set ?_ ?_ _ _) | omega | (simp; done) | (simp; omega))), hI.out.more (by omega) hsp.out (inL_step hL2.out hq), by (repeat' (first | (with_reducible assumption) | (with_reducible exact Own.mk (by with_reducible assumption) (by with_reducible assumption) (by with_reducible assumption)) | (with_reducible refine Own.new' _ _ (by first | rfl | (simp; done)) rfl) | (with_reducible refine Own.drew ?_) | (with_reducible refine Own.drewN ?_ _) | (with_reducible refine Own.alloc ?_ _) | (with_reducible refine Own.setOther ?_ ?_ _) | (refine Own.below ?_ (by with_reducible assumption) ?_) | omega | (simp; done) | (simp; omega))), by (repeat' (first | (with_reducible assumption) | (with_reducible exact Own.mk (by with_reducible assumption) (by with_reducible assumption) (by with_reducible assumption)) | (with_reducible refine Own.new' _ _ (by first | rfl | (simp; done)) rfl) | (with_reducible refine Own.drew ?_) | (with_reducible refine Own.drewN ?_ _) | (with_reducible refine Own.alloc ?_ _) | (with_reducible refine Own.setOther ?_ ?_ _) | (refine Own.below ?_ (by with_reducible assumption) ?_) | omega | (simp; done) | (simp; omega))), (r3'.out.set 0 (by simp) _).set 1 (by simp) _, by (repeat' (first | (with_reducible exact Below.refl _ _) | (with_reducible assumption) | (with_reducible refine Below.drew ?_) | (with_reducible refine below_drewN ?_ _) | (with_reducible refine Below.setCell ?_ ?_ _) | (with_reducible refine Below.alloc ?_ ?_ _) | (refine Below.trans ?_ (Below.mono (by with_reducible assumption) ?_)) | omega | (exact Below.size (by with_reducible assumption)) | (simp; done) | (simp; omega)))⟩
      · go_wp2
        go_roundg cnt1
        case measure => omega
        case rel => exact ⟨lf, m, lo, hi, rfl, by omega, (hrg1.kept (World.grownBy_alloc _ _ none) (by simp) (by simp)).kept (World.grownBy_alloc _ _ none) (by simp) (by simp), hI.out.congr (inL_skip hL2.out (by omega)), by (repeat' (first | (with_reducible assumption) | (with_reducible exact Own.mk (by with_reducible assumption) (by with_reducible assumption) (by with_reducible assumption)) | (with_reducible refine Own.new' _ _ (by first | rfl | (simp; done)) rfl) | (with_reducible refine Own.drew ?_) | (with_reducible refine Own.drewN ?_ _) | (with_reducible refine Own.alloc ?_ _) | (with_reducible refine Own.setOther ?_ ?_ _) | (refine Own.below ?_ (by with_reducible assumption) ?_) | omega | (simp; done) | (simp; omega))), by (repeat' (first | (with_reducible assumption) | (with_reducible exact Own.mk (by with_reducible assumption) (by with_reducible assumption) (by with_reducible assumption)) | (with_reducible refine Own.new' _ _ (by first | rfl | (simp; done)) rfl) | (with_reducible refine Own.drew ?_) | (with_reducible refine Own.drewN ?_ _) | (with_reducible refine Own.alloc ?_ _) | (with_reducible refine Own.setOther ?_ ?_ _) | (refine Own.below ?_ (by with_reducible assumption) ?_) | omega | (simp; done) | (simp; omega))), by (repeat' (first | (with_reducible assumption) | (with_reducible exact Own.mk (by with_reducible assumption) (by with_reducible assumption) (by with_reducible assumption)) | (with_reducible refine Own.new' _ _ (by first | rfl | (simp; done)) rfl) | (with_reducible refine Own.drew ?_) | (with_reducible refine Own.drewN ?_ _) | (with_reducible refine Own.alloc ?_ _) | (with_reducible refine Own.setOther ?_ ?_ _) | (refine Own.below ?_ (by with_reducible assumption) ?_) | omega | (simp; done) | (simp; omega))), by (repeat' (first | (with_reducible exact Below.refl _ _) | (with_reducible assumption) | (with_reducible refine Below.drew ?_) | (with_reducible refine below_drewN ?_ _) | (with_reducible refine Below.setCell ?_ ?_ _) | (with_reducible refine Below.alloc ?_ ?_ _) | (refine Below.trans ?_ (Below.mono (by with_reducible assumption) ?_)) | omega | (exact Below.size (by with_reducible assumption)) | (simp; done) | (simp; omega)))⟩
end Go.Proofs.Ytphcpphmoeiioaa
