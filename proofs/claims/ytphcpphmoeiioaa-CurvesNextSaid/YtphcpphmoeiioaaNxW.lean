/- Walks: Next of the reference; CurvesNext. -/
import Derived.Test.YtphcpphmoeiioaaWoW
import Derived.Test.YtphcpphmoeiioaaSmW
namespace Go.Proofs.Ytphcpphmoeiioaa
open Go.RowKit Go.Maps

theorem wide_iff' {c : Cv} {p : Nat} {lo hi : Int} (h : IsSp (HtP c p) lo hi) : Wide c p ↔ lo < hi := by
  constructor
  · rintro ⟨x, y, h1, h2, h3⟩
    have := h.2.2 _ h1
    have := h.2.2 _ h2
    omega
  · intro k; exact ⟨lo, hi, h.1, h.2.1, k⟩
theorem openR_uniq {L sl rl rh wg : Int} {ks : List Kn} {is : Bool} {er er' : Int} (h : OpenR L sl rl rh wg ks is er) (k : OpenR L sl rl rh wg ks is er') : er = er' := by
  rcases h with ⟨h1, rfl⟩ | ⟨h1, h2, rfl⟩ | ⟨h1, h2, rfl, h4⟩ | ⟨h1, h2, rfl, h4⟩ <;> rcases k with ⟨k1, rfl⟩ | ⟨k1, k2, rfl⟩ | ⟨k1, k2, rfl, k4⟩ | ⟨k1, k2, rfl, k4⟩ <;> simp_all
theorem nextP_uniq {c : Cv} {q r : Nat} (h : NextP c q) (k : NextP c r) : q = r := by
  obtain ⟨h1, h2, m, h3, h4⟩ := h
  obtain ⟨k1, k2, l, k3, k4⟩ := k
  have a1 := h4 r k1 k2 l k3
  have a2 := k4 q h1 h2 m h3
  omega
theorem nextR_uniq {L sl rl rh wg : Int} {ks : List Kn} {n er n' er' : Int} (h : NextR L sl rl rh wg ks n er) (k : NextR L sl rl rh wg ks n' er') : n' = n ∧ er' = er := by
  rcases h with ⟨h1, h2, rfl⟩ | ⟨h1, rfl, rfl, h4⟩ | ⟨h1, rfl, q, rfl, h4⟩ <;> rcases k with ⟨k1, k2, rfl⟩ | ⟨k1, rfl, rfl, k4⟩ | ⟨k1, rfl, r, rfl, k4⟩
  · exact ⟨rfl, openR_uniq k2 h2⟩
  · exact absurd (openR_uniq h2 k1) h1
  · exact absurd (openR_uniq h2 k1) h1
  · exact absurd (openR_uniq k2 h1) k1
  · exact ⟨rfl, rfl⟩
  · exact absurd k4.2.1 (h4 r k4.1)
  · exact absurd (openR_uniq k2 h1) k1
  · exact absurd h4.2.1 (k4 q h4.1)
  · exact ⟨by rw [nextP_uniq k4 h4], rfl⟩
set_option maxRecDepth 100000 in
set_option maxHeartbeats 8000000 in
theorem rnext16 (L sl rl rh wg : Int) (A : Option Addr) (n cap : Nat) (ks : List Kn) (w : World) (hA : Rd 3 w A (ks.map krow)) (hn : Hid (n = ks.length)) (hlen : n ≤ 9223372036854775807) (hfar : Hid (farB L sl rl rh wg ks = false)) :
    Calls Try.prog 16 #[.agg #[.int .i64 L, .int .i64 sl, .int .i64 rl, .int .i64 rh, .slice A n cap, .int .i64 wg]] w fun e w' => ∃ m er : Int, e = .returned (.tuple #[.int .i64 m, .int .i64 er]) ∧ Hid (NextR L sl rl rh wg ks m er) ∧ Below w.heap.size w w' := by
  have HA := Lib.hid hA
  clear hA
  go_enter Try.func16, Try.ntmps16
  go_wp2_with fail
  refine (known54 L sl rl rh wg A n cap ks true _ (HA.out.below (B := w.heap.size) (by (repeat' (first | (with_reducible exact Below.refl _ _) | (with_reducible assumption) | (with_reducible refine Below.drew ?_) | (with_reducible refine below_drewN ?_ _) | (with_reducible refine Below.setCell ?_ ?_ _) | (with_reducible refine Below.alloc ?_ ?_ _) | (refine Below.trans ?_ (Below.mono (by with_reducible assumption) ?_)) | omega | (exact Below.size (by with_reducible assumption)) | (simp; done) | (simp; omega)))) (Nat.le_refl _)) hn hlen hfar).mono ?_
  rintro e w1 ⟨A1, c1, ls, er, rfl, hll, hkn, hl15, hb1⟩
  have HLL := Lib.hid hll
  have hz1 := hb1.size
  simp only [World.size_alloc] at hz1
  have hB1 := Lib.hid (show Below w.heap.size w w1 by (repeat' (first | (with_reducible exact Below.refl _ _) | (with_reducible assumption) | (with_reducible refine Below.drew ?_) | (with_reducible refine below_drewN ?_ _) | (with_reducible refine Below.setCell ?_ ?_ _) | (with_reducible refine Below.alloc ?_ ?_ _) | (refine Below.trans ?_ (Below.mono (by with_reducible assumption) ?_)) | omega | (exact Below.size (by with_reducible assumption)) | (simp; done) | (simp; omega))))
  have o1 := Lib.hid (show Own w1 w.heap.size [.int .i64 L, .int .i64 sl, .int .i64 rl, .int .i64 rh, .slice A n cap, .int .i64 wg] from (Own.new' _ _ rfl rfl).below hb1 (by simp))
  clear hb1 hll
  obtain ⟨l1, k1, f1⟩ := o1.out
  by_cases he : er = 0
  · have hz := openR_zero hkn.out.1 he
    have hV := Lib.hid hz.1
    have HT := Lib.hid hz.2.2
    have hls : ls = truL L sl rl rh wg ks := hkn.out.2.1 he
    have hO : Hid (OpenR L sl rl rh wg ks true 0) := by have := hkn.out.1; rw [he] at this; exact Lib.hid this
    clear hz
    have hl1 := hV.out.l1
    have hl2 := hV.out.l2
    have hr1 := hV.out.r1
    have hr2 := hV.out.r2
    have hr0 := hV.out.r0
    have hmem : Hid (∀ l ∈ ls, (l.length : Int) = L + 1 ∧ ∀ x ∈ l, -100 ≤ x ∧ x ≤ 100) := Lib.hid fun l hl => by
      rw [hls] at hl
      obtain ⟨a1, a2⟩ := mem_truL.1 hl
      refine ⟨by omega, fun x hx => ?_⟩
      obtain ⟨i, hi, rfl⟩ := List.getElem_of_mem hx
      have h1 : rl ≤ fnL l i ∧ fnL l i ≤ rh := a2.1.1 i (by show i ≤ L.toNat; omega)
      have e : fnL l i = l[i] := by have := fnL_at hi; rw [List.getElem?_eq_getElem hi] at this; exact (Option.some.inj this).symm
      rw [e] at h1
      omega
    have HLS := Lib.hid hls
    subst he
    clear hls hkn
    go_wp2
    go_loopg [6, 7, 8] (L.toNat + 1) (fun K x y z w5 => ∃ (k : Nat) (best least : Int), K + k = L.toNat + 1 ∧ z = .int .i64 k ∧ x = .int .i64 best ∧ y = .int .i64 least ∧ Hid (NxI (cvOf L sl rl rh wg ks) k best least) ∧ Hid (Own w5 w.heap.size [.int .i64 L, .int .i64 sl, .int .i64 rl, .int .i64 rh, .slice A n cap, .int .i64 wg]) ∧ Hid (Below w.heap.size w w5) ∧ Hid (Below w1.heap.size w1 w5))
    case atStart => exact ⟨0, -1, 0, rfl, rfl, rfl, rfl, Or.inl ⟨rfl, fun q hq => by omega⟩, o1, hB1, Lib.hid (Below.refl _ _)⟩
    case round =>
      clear l1 k1 f1 o1 hB1
      obtain ⟨k, best, least, hK, rfl, rfl, rfl, hN, ho1, hbw, hbv⟩ := hrel
      obtain ⟨l1, k1, f1⟩ := ho1.out
      have hszw := hbw.out.size
      have hszv := hbv.out.size
      by_cases hlt : k < L.toNat + 1
      · go_wp2_with fail
        refine (rheight40 L sl rl rh wg A n cap ks k _ (HA.out.below hbw.out (Nat.le_refl _)) hn hlen hfar).mono ?_
        rintro e w2 ⟨lo, hi, er2, rfl, hR, hb2⟩
        have he2 : er2 = 0 := openR_val hR.out.1 (openR_zero_chk hO.out) (btw_t' (by omega) (by omega)) HT.out
        have hsp := hR.out.2.1 he2
        simp only [Int.toNat_natCast] at hsp
        have hwd := Lib.hid (wide_iff' hsp)
        have hle := (hsp.2.2 _ hsp.1).2
        have r1 := Lib.hid (ho1.out.below hb2 l1)
        have hB2 := Lib.hid (hbw.out.trans (hb2.mono hszw))
        have hV2 := Lib.hid (hbv.out.trans (hb2.mono hszv))
        have hz2 := hb2.size
        clear hsp hR hb2 l1 k1 f1
        obtain ⟨l1, k1, f1⟩ := r1.out
        subst he2
        by_cases hq : lo = hi
        · have hno : ¬ Wide (cvOf L sl rl rh wg ks) k := fun h => by have := hwd.out.1 h; omega
          have hqe : (lo == hi) = true := by simpa using hq
          have HN := Lib.hid hno
          clear hno hq
          go_wp2
          go_roundg (L.toNat + 1 - (k + 1))
          case measure => omega
          case rel => exact ⟨k + 1, best, least, by omega, by go_num, rfl, rfl, hN.out.skip HN.out, Lib.hid (r1.out.alloc _), Lib.hid (hB2.out.alloc hB2.out.size _), Lib.hid (hV2.out.alloc hV2.out.size _)⟩
        · have hyes : Wide (cvOf L sl rl rh wg ks) k := hwd.out.2 (by omega)
          have hqe : (lo == hi) = false := by simpa using hq
          have HY := Lib.hid hyes
          clear hyes hq
          go_wp2_with fail
          refine calls_gen fun W3 hW3 => ?_
          have q1 : Own W3 w.heap.size [.int .i64 L, .int .i64 sl, .int .i64 rl, .int .i64 rh, .slice A n cap, .int .i64 wg] := by rw [hW3]; exact r1.out.alloc _
          have qb : Below w.heap.size w W3 := by rw [hW3]; exact hB2.out.alloc hB2.out.size _
          have qv : Below w1.heap.size w1 W3 := by rw [hW3]; exact hV2.out.alloc hV2.out.size _
          clear hW3 l1 k1 f1
          refine (rworst55 L sl rl rh wg A n cap A1 c1 ls k W3 (HLL.out.below qv (Nat.le_refl _)) hl1 hl2 hr1 hr0 hr2 (by omega) hl15 hmem).mono ?_
          rintro e w4 ⟨m, rfl, hws, hb4⟩
          have hW : Hid (WstP (cvOf L sl rl rh wg ks) k m) := Lib.hid (wsl_wst hr0 (by omega) (by omega) HT.out (by rw [← HLS.out]; exact hws.out))
          have s1 := Lib.hid (q1.below hb4 q1.lt)
          have hB4 := Lib.hid (qb.trans (hb4.mono qb.size))
          have hV4 := Lib.hid (qv.trans (hb4.mono qv.size))
          clear hb4 q1 qb qv hws
          obtain ⟨l1, k1, f1⟩ := s1.out
          by_cases hq1 : best < 0
          · go_wp2
            go_roundg (L.toNat + 1 - (k + 1))
            case measure => omega
            case rel => exact ⟨k + 1, k, m, by omega, by go_num, rfl, rfl, hN.out.take HY.out hW.out (Or.inl hq1), s1, hB4, hV4⟩
          · by_cases hq2 : m < least
            · go_wp2
              go_roundg (L.toNat + 1 - (k + 1))
              case measure => omega
              case rel => exact ⟨k + 1, k, m, by omega, by go_num, rfl, rfl, hN.out.take HY.out hW.out (Or.inr hq2), s1, hB4, hV4⟩
            · go_wp2
              go_roundg (L.toNat + 1 - (k + 1))
              case measure => omega
              case rel => exact ⟨k + 1, best, least, by omega, by go_num, rfl, rfl, hN.out.keep hW.out (by omega) (by omega), s1, hB4, hV4⟩
      · obtain rfl : k = L.toNat + 1 := by omega
        rcases hN.out with ⟨rfl, h2⟩ | ⟨q, rfl, h2, h3, h4, h5⟩
        · have hres : Hid (NextR L sl rl rh wg ks 0 3) := Or.inr (Or.inl ⟨hO.out, rfl, rfl, fun q hq => h2 q (by omega)⟩)
          clear h2 hN
          go_wp2
          go_ret2
          exact ⟨0, 3, rfl, hres, hbw.out⟩
        · have hres : Hid (NextR L sl rl rh wg ks q 0) := Or.inr (Or.inr ⟨hO.out, rfl, q, rfl, by show q ≤ L.toNat; omega, h3, least, h4, fun r hr hwr j hj => h5 r (by have : r ≤ L.toNat := hr; omega) hwr j hj⟩)
          clear h2 h3 h4 h5 hN
          go_wp2
          go_ret2
          exact ⟨q, 0, rfl, hres, hbw.out⟩
  · have hres : Hid (NextR L sl rl rh wg ks 0 er) := Or.inl ⟨he, hkn.out.1, rfl⟩
    go_wp2
    go_ret2
    exact ⟨0, er, rfl, hres, hB1.out⟩
where
  openR_zero_chk {L sl rl rh wg : Int} {ks : List Kn} (h : OpenR L sl rl rh wg ks true 0) : chkV L sl rl rh wg ks = true := by
    rcases h with ⟨_, h⟩ | ⟨_, _, h⟩ | ⟨_, _, h, _⟩ | ⟨h, _⟩
    · omega
    · omega
    · omega
    · exact h
set_option maxRecDepth 100000 in
set_option maxHeartbeats 8000000 in
theorem lnext3 (L sl rl rh wg : Int) (A : Option Addr) (n cap : Nat) (ks : List Kn) (w : World) (hA : Rd 3 w A (ks.map krow)) (hn : Hid (n = ks.length)) (hlen : n ≤ 9223372036854775807) :
    Calls Try.prog 3 #[.agg #[.int .i64 L, .int .i64 sl, .int .i64 rl, .int .i64 rh, .slice A n cap, .int .i64 wg]] w fun e w' => e = .returned (.bool true) ∧ Below w.heap.size w w' := by
  have HA := Lib.hid hA
  clear hA
  cases hf : farB L sl rl rh wg ks
  rotate_left
  · go_enter Try.func3, Try.ntmps3
    go_wp2_with fail
    refine (far12 L sl rl rh wg A n cap ks _ (HA.out.below (B := w.heap.size) (by (repeat' (first | (with_reducible exact Below.refl _ _) | (with_reducible assumption) | (with_reducible refine Below.drew ?_) | (with_reducible refine below_drewN ?_ _) | (with_reducible refine Below.setCell ?_ ?_ _) | (with_reducible refine Below.alloc ?_ ?_ _) | (refine Below.trans ?_ (Below.mono (by with_reducible assumption) ?_)) | omega | (exact Below.size (by with_reducible assumption)) | (simp; done) | (simp; omega)))) (Nat.le_refl _)) hn hlen).mono ?_
    rw [hf]
    rintro e w1 ⟨rfl, hb1⟩
    have hB1 : Below w.heap.size w w1 := by (repeat' (first | (with_reducible exact Below.refl _ _) | (with_reducible assumption) | (with_reducible refine Below.drew ?_) | (with_reducible refine below_drewN ?_ _) | (with_reducible refine Below.setCell ?_ ?_ _) | (with_reducible refine Below.alloc ?_ ?_ _) | (refine Below.trans ?_ (Below.mono (by with_reducible assumption) ?_)) | omega | (exact Below.size (by with_reducible assumption)) | (simp; done) | (simp; omega)))
    clear hb1 hf
    go_wp2_with fail
    refine (works13 _).mono ?_
    rintro e w2 ⟨rfl, hb2⟩
    have hB2 := hB1.trans (hb2.mono hB1.size)
    go_wp2
    go_ret
    exact ⟨rfl, hB2⟩
  have HF := Lib.hid hf
  have hn40 : n ≤ 40 := by have := far_n hf; have := hn.out; omega
  clear hf
  go_enter Try.func3, Try.ntmps3
  go_wp2_with fail
  refine (far12 L sl rl rh wg A n cap ks _ (HA.out.below (B := w.heap.size) (by (repeat' (first | (with_reducible exact Below.refl _ _) | (with_reducible assumption) | (with_reducible refine Below.drew ?_) | (with_reducible refine below_drewN ?_ _) | (with_reducible refine Below.setCell ?_ ?_ _) | (with_reducible refine Below.alloc ?_ ?_ _) | (refine Below.trans ?_ (Below.mono (by with_reducible assumption) ?_)) | omega | (exact Below.size (by with_reducible assumption)) | (simp; done) | (simp; omega)))) (Nat.le_refl _)) hn hlen).mono ?_
  rw [HF.out]
  rintro e w1 ⟨rfl, hb1⟩
  have q0 := Lib.hid (show Own w1 w.heap.size [.int .i64 L, .int .i64 sl, .int .i64 rl, .int .i64 rh, .slice A n cap, .int .i64 wg] from (Own.new' _ _ rfl rfl).below hb1 (by simp))
  have hB1 := Lib.hid (show Below w.heap.size w w1 by (repeat' (first | (with_reducible exact Below.refl _ _) | (with_reducible assumption) | (with_reducible refine Below.drew ?_) | (with_reducible refine below_drewN ?_ _) | (with_reducible refine Below.setCell ?_ ?_ _) | (with_reducible refine Below.alloc ?_ ?_ _) | (refine Below.trans ?_ (Below.mono (by with_reducible assumption) ?_)) | omega | (exact Below.size (by with_reducible assumption)) | (simp; done) | (simp; omega))))
  clear hb1
  obtain ⟨lc, kc, fc⟩ := q0.out
  go_wp2_with fail
  refine (copy14 L sl rl rh wg A n cap ks _ (HA.out.below hB1.out (Nat.le_refl _)) hn hn40).mono ?_
  rintro e w2 ⟨A', cap', rfl, hG, hb2⟩
  have hB2 := Lib.hid (hB1.out.trans (hb2.mono hB1.out.size))
  have q1 := Lib.hid (q0.out.below hb2 lc)
  have HG := Lib.hid (show Rd 3 w2 A' (ks.map krow) by obtain ⟨_, _, e, h⟩ := hG.out; cases e; exact h)
  clear hb2 lc kc fc hG q0
  obtain ⟨lc, kc, fc⟩ := q1.out
  go_wp2_with fail
  refine calls_gen fun W3 hW3 => ?_
  have p0 : Own W3 w.heap.size [.int .i64 L, .int .i64 sl, .int .i64 rl, .int .i64 rh, .slice A n cap, .int .i64 wg] := by rw [hW3]; exact q1.out.alloc _
  have p1 : Own W3 w2.heap.size [.int .i64 L, .int .i64 sl, .int .i64 rl, .int .i64 rh, .slice A' n cap', .int .i64 wg] := by rw [hW3]; exact Own.new' _ _ rfl rfl
  have hB3 : Below w.heap.size w W3 := by rw [hW3]; exact hB2.out.alloc hB2.out.size _
  have HG3 := Lib.hid (HG.out.below (show Below w2.heap.size w2 W3 by rw [hW3]; (repeat' (first | (with_reducible exact Below.refl _ _) | (with_reducible assumption) | (with_reducible refine Below.drew ?_) | (with_reducible refine below_drewN ?_ _) | (with_reducible refine Below.setCell ?_ ?_ _) | (with_reducible refine Below.alloc ?_ ?_ _) | (refine Below.trans ?_ (Below.mono (by with_reducible assumption) ?_)) | omega | (exact Below.size (by with_reducible assumption)) | (simp; done) | (simp; omega)))) (Nat.le_refl _))
  clear hW3 lc kc fc
  refine (next15 L sl rl rh wg A' n cap' ks W3 HG3.out hn hlen).mono ?_
  rintro e w4 ⟨m, er, rfl, hR, hb4⟩
  have q0 := Lib.hid (p0.below hb4 p0.lt)
  have q2 := Lib.hid (p1.below hb4 p1.lt)
  have hB4 := Lib.hid (hB3.trans (hb4.mono hB3.size))
  have HG4 := Lib.hid (HG3.out.below hb4 (Nat.le_refl _))
  clear hb4 p0 p1 hB3
  obtain ⟨lc, kc, fc⟩ := q0.out
  obtain ⟨ld, kd, fd⟩ := q2.out
  go_wp2_with fail
  refine (rnext16 L sl rl rh wg A n cap ks _ (HA.out.below hB4.out (Nat.le_refl _)) hn hlen HF).mono ?_
  rintro e w5 ⟨m', er', rfl, hR', hb5⟩
  obtain ⟨z1, z2⟩ := nextR_uniq hR.out hR'.out
  subst z1
  subst z2
  have r0 := Lib.hid (q0.out.below hb5 lc)
  have r2 := Lib.hid (q2.out.below hb5 ld)
  have hB5 := Lib.hid (hB4.out.trans (hb5.mono hB4.out.size))
  have HG5 := Lib.hid (HG4.out.below hb5 (Nat.le_refl _))
  clear hb5 lc kc fc ld kd fd hR hR'
  obtain ⟨lc, kc, fc⟩ := r0.out
  obtain ⟨ld, kd, fd⟩ := r2.out
  go_wp2_with fail
  refine (same17 L sl rl rh wg A' n cap' ks L sl rl rh wg A cap _ HG5.out (HA.out.below hB5.out (Nat.le_refl _)) hn hlen).mono ?_
  rintro e w6 ⟨rfl, hb6⟩
  have hB6 := Lib.hid (hB5.out.trans (hb6.mono hB5.out.size))
  clear hb6
  go_wp2_with fail
  refine (works13 _).mono ?_
  rintro e w7 ⟨rfl, hb7⟩
  have hB7 := Lib.hid (hB6.out.trans (hb7.mono hB6.out.size))
  go_wp2
  go_ret
  exact ⟨rfl, hB7.out⟩
end Go.Proofs.Ytphcpphmoeiioaa
