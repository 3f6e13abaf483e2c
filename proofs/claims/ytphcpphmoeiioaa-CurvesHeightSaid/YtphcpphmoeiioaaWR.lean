/- Walks: Next. -/
import Derived.Test.YtphcpphmoeiioaaWNa
namespace Go.Proofs.Ytphcpphmoeiioaa
open Go.RowKit Go.Maps

def Wide (c : Cv) (p : Nat) : Prop := ∃ x y, HtP c p x ∧ HtP c p y ∧ x < y
theorem htL_wide (c : Cv) (p : Nat) (hp : p ≤ c.long) (K : Nat) (hK : c.rhi < c.rlo + K) : 2 ≤ (htL c p K).length ↔ Wide c p := by
  have hm : ∀ s, HtP c p s → s ∈ htL c p K := fun s hs => (htL_mem c p s K).2 ⟨hs, by obtain ⟨h, k1, rfl⟩ := hs; have := k1.1.1 p hp; exact ⟨this.1, by omega⟩⟩
  constructor
  · intro h
    have hs := List.pairwise_iff_getElem.1 (htL_sorted c p K) 0 1 (by omega) (by omega) (by omega)
    exact ⟨_, _, ((htL_mem c p _ K).1 (List.getElem_mem (by omega))).1, ((htL_mem c p _ K).1 (List.getElem_mem (by omega))).1, hs⟩
  · rintro ⟨x, y, h1, h2, h3⟩
    obtain ⟨i, hi, ei⟩ := List.getElem_of_mem (hm x h1)
    obtain ⟨j, hj, ej⟩ := List.getElem_of_mem (hm y h2)
    by_cases e : i = j
    · subst e; rw [ei] at ej; omega
    · omega
/-- The best place among the first k ones. -/
def NxI (c : Cv) (k : Nat) (best least : Int) : Prop :=
  (best = -1 ∧ ∀ q, q < k → ¬ Wide c q) ∨
  ∃ q : Nat, best = q ∧ q < k ∧ Wide c q ∧ WstP c q least ∧ ∀ r, r < k → Wide c r → ∀ m, WstP c r m → least ≤ m ∧ (r < q → least < m)
theorem WstP.uniq {c : Cv} {p : Nat} {m k : Int} (h : WstP c p m) (j : WstP c p k) : m = k := by
  obtain ⟨⟨a, b, h1, h2, h3, h4⟩, h5⟩ := h
  obtain ⟨⟨d, e, j1, j2, j3, j4⟩, j5⟩ := j
  have := h5 d e j1 j2 j3
  have := j5 a b h1 h2 h3
  omega
theorem NxI.skip {c : Cv} {k : Nat} {best least : Int} (h : NxI c k best least) (hw : ¬ Wide c k) : NxI c (k + 1) best least := by
  rcases h with ⟨h1, h2⟩ | ⟨q, h1, h2, h3, h4, h5⟩
  · refine Or.inl ⟨h1, fun q hq => ?_⟩
    by_cases e : q = k
    · subst e; exact hw
    · exact h2 q (by omega)
  · refine Or.inr ⟨q, h1, by omega, h3, h4, fun r hr hwr m hm => ?_⟩
    by_cases e : r = k
    · subst e; exact absurd hwr hw
    · exact h5 r (by omega) hwr m hm
theorem NxI.take {c : Cv} {k : Nat} {best least n : Int} (h : NxI c k best least) (hw : Wide c k) (hn : WstP c k n) (hlt : best < 0 ∨ n < least) : NxI c (k + 1) k n := by
  refine Or.inr ⟨k, rfl, by omega, hw, hn, fun r hr hwr m hm => ?_⟩
  by_cases e : r = k
  · subst e
    have := hn.uniq hm
    omega
  · rcases h with ⟨h1, h2⟩ | ⟨q, h1, h2, h3, h4, h5⟩
    · exact absurd hwr (h2 r (by omega))
    · have := (h5 r (by omega) hwr m hm).1
      omega
theorem NxI.keep {c : Cv} {k : Nat} {best least n : Int} (h : NxI c k best least) (hn : WstP c k n) (h0 : 0 ≤ best) (hle : least ≤ n) : NxI c (k + 1) best least := by
  rcases h with ⟨h1, h2⟩ | ⟨q, h1, h2, h3, h4, h5⟩
  · omega
  · refine Or.inr ⟨q, h1, by omega, h3, h4, fun r hr hwr m hm => ?_⟩
    by_cases e : r = k
    · subst e
      have := hn.uniq hm
      omega
    · exact h5 r (by omega) hwr m hm
def NextP (c : Cv) (q : Nat) : Prop := q ≤ c.long ∧ Wide c q ∧ ∃ m, WstP c q m ∧ ∀ r, r ≤ c.long → Wide c r → ∀ k, WstP c r k → m ≤ k ∧ (r < q → m < k)
def NextR (L sl rl rh wg : Int) (ks : List Kn) (n er : Int) : Prop :=
  (er ≠ 0 ∧ OpenR L sl rl rh wg ks true er ∧ n = 0) ∨
  (OpenR L sl rl rh wg ks true 0 ∧ n = 0 ∧ er = 3 ∧ ∀ q, q ≤ L.toNat → ¬ Wide (cvOf L sl rl rh wg ks) q) ∨
  (OpenR L sl rl rh wg ks true 0 ∧ er = 0 ∧ ∃ q : Nat, n = q ∧ NextP (cvOf L sl rl rh wg ks) q)
set_option maxRecDepth 100000 in
set_option maxHeartbeats 4000000 in
theorem next15 (L sl rl rh wg : Int) (A : Option Addr) (n cap : Nat) (ks : List Kn) (w : World) (hA : Rd 3 w A (ks.map krow)) (hn : Hid (n = ks.length)) (hlen : n ≤ 9223372036854775807) :
    Calls Try.prog 15 #[.agg #[.int .i64 L, .int .i64 sl, .int .i64 rl, .int .i64 rh, .slice A n cap, .int .i64 wg]] w fun e w' => ∃ m er : Int, e = .returned (.tuple #[.int .i64 m, .int .i64 er]) ∧ Hid (NextR L sl rl rh wg ks m er) ∧ Below w.heap.size w w' := by
  have HA := Lib.hid hA
  clear hA
  go_enter Try.func15, Try.ntmps15
  go_wp2_with fail
  refine (open50 L sl rl rh wg A n cap ks true _ (HA.out.below (B := w.heap.size) (by (repeat' (first | (with_reducible exact Below.refl _ _) | (with_reducible assumption) | (with_reducible refine Below.drew ?_) | (with_reducible refine below_drewN ?_ _) | (with_reducible refine Below.setCell ?_ ?_ _) | (with_reducible refine Below.alloc ?_ ?_ _) | (refine Below.trans ?_ (Below.mono (by with_reducible assumption) ?_)) | omega | (exact Below.size (by with_reducible assumption)) | (simp; done) | (simp; omega)))) (Nat.le_refl _)) hn hlen).mono ?_
  rintro e w1 ⟨er, rfl, hO, hb1⟩
  have hz1 := hb1.size
  simp only [World.size_alloc] at hz1
  have hB1 : Below w.heap.size w w1 := by (repeat' (first | (with_reducible exact Below.refl _ _) | (with_reducible assumption) | (with_reducible refine Below.drew ?_) | (with_reducible refine below_drewN ?_ _) | (with_reducible refine Below.setCell ?_ ?_ _) | (with_reducible refine Below.alloc ?_ ?_ _) | (refine Below.trans ?_ (Below.mono (by with_reducible assumption) ?_)) | omega | (exact Below.size (by with_reducible assumption)) | (simp; done) | (simp; omega)))
  have o1 : Own w1 w.heap.size [.int .i64 L, .int .i64 sl, .int .i64 rl, .int .i64 rh, .slice A n cap, .int .i64 wg] := (Own.new' _ _ rfl rfl).below hb1 (by simp)
  clear hb1
  by_cases he : er = 0
  · have hz := openR_zero hO.out he
    have hV := Lib.hid hz.1
    have HT := Lib.hid hz.2.2
    clear hz
    have hl1 := hV.out.l1
    have hl2 := hV.out.l2
    have hr1 := hV.out.r1
    have hr2 := hV.out.r2
    have hcov : Hid ((cvOf L sl rl rh wg ks).rhi < (cvOf L sl rl rh wg ks).rlo + ((rh - rl + 1).toNat : Int)) := by show rh < rl + ((rh - rl + 1).toNat : Int); have := hV.out.r0; omega
    subst he
    have hO1 := Lib.hid o1
    obtain ⟨l1, k1, f1⟩ := o1
    go_wp2
    go_loopg [6, 7, 21] (L.toNat + 1) (fun K x y z w5 => ∃ (k : Nat) (best least : Int), K + k = L.toNat + 1 ∧ z = .int .i64 k ∧ x = .int .i64 best ∧ y = .int .i64 least ∧ Hid (NxI (cvOf L sl rl rh wg ks) k best least) ∧ Own w5 w.heap.size [.int .i64 L, .int .i64 sl, .int .i64 rl, .int .i64 rh, .slice A n cap, .int .i64 wg] ∧ Own w5 w1.heap.size [.int .i64 L, .int .i64 sl, .int .i64 rl, .int .i64 rh, .slice A n cap, .int .i64 wg, .map none] ∧ Below w.heap.size w w5)
    case atStart => exact ⟨0, -1, 0, rfl, rfl, rfl, rfl, Or.inl ⟨rfl, fun q hq => by omega⟩, hO1.out.alloc _, Own.new' _ _ rfl rfl, by (repeat' (first | (with_reducible exact Below.refl _ _) | (with_reducible assumption) | (with_reducible refine Below.drew ?_) | (with_reducible refine below_drewN ?_ _) | (with_reducible refine Below.setCell ?_ ?_ _) | (with_reducible refine Below.alloc ?_ ?_ _) | (refine Below.trans ?_ (Below.mono (by with_reducible assumption) ?_)) | omega | (exact Below.size (by with_reducible assumption)) | (simp; done) | (simp; omega)))⟩
    case round =>
      clear l1 k1 f1 hO1 hB1
      obtain ⟨k, best, least, hK, rfl, rfl, rfl, hN, ho1, ho2, hbw⟩ := hrel
      obtain ⟨l1, k1, f1⟩ := ho1
      obtain ⟨l2, k2, f2⟩ := ho2
      have ho1 := Lib.hid (Own.mk l1 k1 f1)
      have ho2 := Lib.hid (Own.mk l2 k2 f2)
      have HB := Lib.hid hbw
      have hszw := hbw.size
      clear hbw
      by_cases hlt : k < L.toNat + 1
      · go_wp2_with fail
        refine (heights52 _ _ _ _ _ _ _ _ _).mono ?_
        rintro e _ ⟨rfl, rfl⟩
        go_wp2_with fail
        refine calls_gen fun W hW => ?_
        have hB2 : Below w.heap.size w W := by rw [hW]; exact (HB.out.alloc (by omega) _).alloc (by simp; omega) _
        have hB2' : Below wr.heap.size wr W := by rw [hW]; (repeat' (first | (with_reducible exact Below.refl _ _) | (with_reducible assumption) | (with_reducible refine Below.drew ?_) | (with_reducible refine below_drewN ?_ _) | (with_reducible refine Below.setCell ?_ ?_ _) | (with_reducible refine Below.alloc ?_ ?_ _) | (refine Below.trans ?_ (Below.mono (by with_reducible assumption) ?_)) | omega | (exact Below.size (by with_reducible assumption)) | (simp; done) | (simp; omega)))
        have q0 : Own W wr.heap.size [.int .i64 L, .int .i64 sl, .int .i64 rl, .int .i64 rh, .slice A n cap, .int .i64 wg, .map none] := by rw [hW]; exact (Own.new' _ _ rfl rfl).alloc _
        have q1 : Own W (wr.heap.size + 1) [.int .i64 k] := by rw [hW]; exact Own.new' _ _ (by simp) rfl
        clear hW
        have hz2 := hB2'.size
        refine (collect51 L sl rl rh wg A n cap ks k wr.heap.size (wr.heap.size + 1) W (HA.out.below hB2 (Nat.le_refl _)) hn hV (by omega) q0 q1).mono ?_
        rintro e w2 ⟨A', cap', rfl, hr, hf, hb2⟩
        have hwd := Lib.hid (htL_wide (cvOf L sl rl rh wg ks) k (by show k ≤ L.toNat; omega) (rh - rl + 1).toNat hcov.out)
        have hlenL := htL_len (cvOf L sl rl rh wg ks) k (rh - rl + 1).toNat
        have hb2' := hB2'.trans (hb2.mono hz2)
        have hB3 := Lib.hid (HB.out.trans (hb2'.mono hszw))
        have r1 := Lib.hid (ho1.out.below hb2' l1)
        have r2 := Lib.hid (ho2.out.below hb2' l2)
        have hz3 := hb2'.size
        clear hr hf hb2 q0 q1 hB2 hB2' l1 k1 f1 l2 k2 f2 hb2'
        obtain ⟨l1, k1, f1⟩ := r1.out
        obtain ⟨l2, k2, f2⟩ := r2.out
        generalize htL (cvOf L sl rl rh wg ks) k (rh - rl + 1).toNat = hs at *
        by_cases hq : hs.length < 2
        · have hno : ¬ Wide (cvOf L sl rl rh wg ks) k := fun h => by have := hwd.out.2 h; omega
          go_wp2
          go_roundg (L.toNat + 1 - (k + 1))
          case measure => omega
          case rel => exact ⟨k + 1, best, least, by omega, by go_num, rfl, rfl, hN.out.skip hno, r1.out, r2.out, hB3.out⟩
        · have hyes : Wide (cvOf L sl rl rh wg ks) k := hwd.out.1 (by omega)
          have HY := Lib.hid hyes
          clear hyes
          go_wp2_with fail
          refine (worst53 L sl rl rh wg A n cap ks k _ (HA.out.below hB3.out (Nat.le_refl _)) hn hV (by omega) HT).mono ?_
          rintro e w4 ⟨m, rfl, hW, hmb, hb4⟩
          have s1 := Lib.hid (r1.out.below hb4 l1)
          have s2 := Lib.hid (r2.out.below hb4 l2)
          have hz4 := hb4.size
          have hB4 := hB3.out.trans (hb4.mono (by omega))
          clear hb4 l1 k1 f1 l2 k2 f2
          obtain ⟨l1, k1, f1⟩ := s1.out
          obtain ⟨l2, k2, f2⟩ := s2.out
          by_cases hq1 : best < 0
          · go_wp2
            go_roundg (L.toNat + 1 - (k + 1))
            case measure => omega
            case rel => exact ⟨k + 1, k, m, by omega, by go_num, rfl, rfl, hN.out.take HY.out hW.out (Or.inl hq1), s1.out, s2.out, hB4⟩
          · by_cases hq2 : m < least
            · go_wp2
              go_roundg (L.toNat + 1 - (k + 1))
              case measure => omega
              case rel => exact ⟨k + 1, k, m, by omega, by go_num, rfl, rfl, hN.out.take HY.out hW.out (Or.inr hq2), s1.out, s2.out, hB4⟩
            · go_wp2
              go_roundg (L.toNat + 1 - (k + 1))
              case measure => omega
              case rel => exact ⟨k + 1, best, least, by omega, by go_num, rfl, rfl, hN.out.keep hW.out (by omega) (by omega), s1.out, s2.out, hB4⟩
      · obtain rfl : k = L.toNat + 1 := by omega
        rcases hN.out with ⟨rfl, h2⟩ | ⟨q, rfl, h2, h3, h4, h5⟩
        · have hres : Hid (NextR L sl rl rh wg ks 0 3) := Or.inr (Or.inl ⟨hO.out, rfl, rfl, fun q hq => h2 q (by omega)⟩)
          clear h2 hN
          go_wp2
          go_ret2
          exact ⟨0, 3, rfl, hres, HB.out⟩
        · have hres : Hid (NextR L sl rl rh wg ks q 0) := Or.inr (Or.inr ⟨hO.out, rfl, q, rfl, by show q ≤ L.toNat; omega, h3, least, h4, fun r hr hwr j hj => h5 r (by have : r ≤ L.toNat := hr; omega) hwr j hj⟩)
          clear h2 h3 h4 h5 hN
          go_wp2
          go_ret2
          exact ⟨q, 0, rfl, hres, HB.out⟩
  · have hres : Hid (NextR L sl rl rh wg ks 0 er) := Or.inl ⟨he, hO.out, rfl⟩
    go_wp2
    go_ret2
    exact ⟨0, er, rfl, hres, by (repeat' (first | (with_reducible exact Below.refl _ _) | (with_reducible assumption) | (with_reducible refine Below.drew ?_) | (with_reducible refine below_drewN ?_ _) | (with_reducible refine Below.setCell ?_ ?_ _) | (with_reducible refine Below.alloc ?_ ?_ _) | (refine Below.trans ?_ (Below.mono (by with_reducible assumption) ?_)) | omega | (exact Below.size (by with_reducible assumption)) | (simp; done) | (simp; omega)))⟩
end Go.Proofs.Ytphcpphmoeiioaa
