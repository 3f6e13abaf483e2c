/- Walks: walk: the states at the last place, with the integrals between two places. -/
import Derived.Test.YtphcpphmoeiioaaWC
namespace Go.Proofs.Ytphcpphmoeiioaa
open Go.RowKit Go.Maps

/-- A curve's numbers are valid. -/
structure CvV (L sl rl rh wg : Int) (ks : List Kn) : Prop where
  l1 : 1 ≤ L
  l2 : L ≤ 12
  s1 : 0 ≤ sl
  s2 : sl ≤ 20
  r1 : -100 ≤ rl
  r0 : rl ≤ rh
  r2 : rh ≤ 100
  kl : ks.length ≤ 8
  w1 : 0 ≤ wg
  w2 : wg ≤ 8
  kn : ∀ k, k ∈ ks → (0 ≤ k.pos ∧ k.pos ≤ L) ∧ -100 ≤ k.lo ∧ k.lo ≤ k.hi ∧ k.hi ≤ 100
def cvOf (L sl rl rh wg : Int) (ks : List Kn) : Cv := ⟨L.toNat, sl, rl, rh, ks, wg⟩
theorem begR_st (L sl rl rh wg : Int) (ks : List Kn) (f : Int → Option Int) (a b : Int) (x w s : Int) : BegR rl rh ks f 0 (rh + 1) x w s ↔ St (cvOf L sl rl rh wg ks) f a b 0 x w s := by
  unfold BegR St
  have h := alB_iff (c := cvOf L sl rl rh wg ks) (f := f) (p := 0) (x := x)
  constructor
  · rintro ⟨h1, h2, h3, h4, h5⟩
    exact ⟨h.1 h3, h4, h5⟩
  · rintro ⟨h3, h4, h5⟩
    exact ⟨h3.1, by have : x ≤ rh := h3.2.1; omega, h.2 h3, h4, h5⟩
theorem nxR_fro (L sl rl rh wg : Int) (ks : List Kn) (f : Int → Option Int) (a b : Int) (k : Nat) (cnt : Bool) {G : Int → Int → Option (Int × Int)} (hc : cnt = true ↔ a < (k : Int) + 1 ∧ (k : Int) + 1 ≤ b) (h : Fro G (NxR sl rl rh ks f ((k : Int) + 1) cnt (St (cvOf L sl rl rh wg ks) f a b k))) : Fro G (St (cvOf L sl rl rh wg ks) f a b (k + 1)) := by
  have e : cnt = (decide (a < (k : Int) + 1) && decide ((k : Int) + 1 ≤ b)) := by
    rw [Bool.eq_iff_iff, hc]; simp
  subst e
  exact h.congr (nxR_st (cvOf L sl rl rh wg ks) f a b k)
set_option maxRecDepth 100000 in
set_option maxHeartbeats 8000000 in
theorem walk64 (L sl rl rh wg : Int) (A : Option Addr) (n cap : Nat) (ks : List Kn) (fv : Value) (f : Int → Option Int) (a b : Int) (w : World) (hA : Rd 3 w A (ks.map krow)) (hn : Hid (n = ks.length)) (hf : FixM w fv f) (hV : Hid (CvV L sl rl rh wg ks)) :
    Calls Try.prog 64 #[.agg #[.int .i64 L, .int .i64 sl, .int .i64 rl, .int .i64 rh, .slice A n cap, .int .i64 wg, fv], .int .i64 a, .int .i64 b] w fun e w' => ∃ b' F, e = .returned (.map (some b')) ∧ MapF w' b' 1809 F ∧ Hid (Fro F (St (cvOf L sl rl rh wg ks) f a b L.toNat)) ∧ Below w.heap.size w w' := by
  have HA := Lib.hid hA
  have HF := Lib.hid hf
  have hk : Hid (ks.length ≤ 8) := hV.out.kl
  have hl1 := hV.out.l1
  have hl2 := hV.out.l2
  clear hA hf
  go_enter Try.func64, Try.ntmps64
  go_wp2_with fail
  refine (begin82 L sl rl rh wg A n cap ks fv f 0 _ (HA.out.below (Below.alloc (Below.refl w.heap.size _) (Nat.le_refl _) _) (Nat.le_refl _)) hn hk (HF.out.below (Below.alloc (Below.refl w.heap.size _) (Nat.le_refl _) _) (Nat.le_refl _)) rfl hV.out.r1 hV.out.r0 hV.out.r2).mono ?_
  rintro e w1 ⟨b1, F1, rfl, hm1, hfr1, hb1⟩
  have o1 : Own w1 w.heap.size [.int .i64 L, .int .i64 sl, .int .i64 rl, .int .i64 rh, .slice A n cap, .int .i64 wg, fv] := (Own.new' _ _ rfl rfl).below hb1 (by simp)
  have hB1 : Below w.heap.size w w1 := by (repeat' (first | (with_reducible exact Below.refl _ _) | (with_reducible assumption) | (with_reducible refine Below.drew ?_) | (with_reducible refine below_drewN ?_ _) | (with_reducible refine Below.setCell ?_ ?_ _) | (with_reducible refine Below.alloc ?_ ?_ _) | (refine Below.trans ?_ (Below.mono (by with_reducible assumption) ?_)) | omega | (exact Below.size (by with_reducible assumption)) | (simp; done) | (simp; omega)))
  have hS1 : Hid (Fro F1 (St (cvOf L sl rl rh wg ks) f a b 0)) := hfr1.out.congr (begR_st L sl rl rh wg ks f a b)
  clear hb1 hfr1
  go_wp2
  go_loopg [7, 8] L.toNat (fun K y z w5 => ∃ (k b' : Nat) (F : Int → Int → Option (Int × Int)), z = .int .i64 ((k : Int) + 1) ∧ y = .map (some b') ∧ K + k = L.toNat ∧ MapF w5 b' 1809 F ∧ Hid (Fro F (St (cvOf L sl rl rh wg ks) f a b k)) ∧ Own w5 w.heap.size [.int .i64 L, .int .i64 sl, .int .i64 rl, .int .i64 rh, .slice A n cap, .int .i64 wg, fv] ∧ Below w.heap.size w w5)
  case atStart => exact ⟨0, b1, F1, rfl, rfl, rfl, hm1, hS1, o1, hB1⟩
  case round =>
    clear hm1 hS1 o1 hB1
    obtain ⟨k, b', F, rfl, rfl, hK, hm, hS, hown, hbw⟩ := hrel
    obtain ⟨l0, k0, f0⟩ := hown
    have hown := Lib.hid (Own.mk l0 k0 f0)
    have HM := Lib.hid hm
    have hml := hm.lt
    have HB := Lib.hid hbw
    have hsz := hbw.size
    clear hm hbw
    by_cases hlt : k < L.toNat
    · by_cases hq1 : a < (k : Int) + 1
      · by_cases hq2 : (k : Int) + 1 ≤ b
        · go_wp2_with fail
          refine (step83 L sl rl rh wg A n cap ks fv f ((k : Int) + 1) true b' F _ _ (HA.out.below HB.out (Nat.le_refl _)) hn hk (HF.out.below HB.out (Nat.le_refl _)) (Go.WalkArith.wf_i64 (by omega)) HM.out hS (st_Bd (cvOf L sl rl rh wg ks) hV.out.r1 hV.out.r2 hV.out.kl f a b k (by omega)) hV.out.r1 hV.out.r0 hV.out.r2 hV.out.s1 hV.out.s2).mono ?_
          rintro e w3 ⟨b3, G, rfl, hm3, hG3, hb3⟩
          go_wp2
          go_roundg (L.toNat - (k + 1))
          case measure => omega
          case rel => exact ⟨k + 1, b3, G, by go_num, rfl, by omega, hm3, nxR_fro L sl rl rh wg ks f a b k true (by simp; try omega) hG3.out, hown.out.below hb3 l0, HB.out.trans (hb3.mono hsz)⟩
        · go_wp2_with fail
          refine (step83 L sl rl rh wg A n cap ks fv f ((k : Int) + 1) false b' F _ _ (HA.out.below HB.out (Nat.le_refl _)) hn hk (HF.out.below HB.out (Nat.le_refl _)) (Go.WalkArith.wf_i64 (by omega)) HM.out hS (st_Bd (cvOf L sl rl rh wg ks) hV.out.r1 hV.out.r2 hV.out.kl f a b k (by omega)) hV.out.r1 hV.out.r0 hV.out.r2 hV.out.s1 hV.out.s2).mono ?_
          rintro e w3 ⟨b3, G, rfl, hm3, hG3, hb3⟩
          go_wp2
          go_roundg (L.toNat - (k + 1))
          case measure => omega
          case rel => exact ⟨k + 1, b3, G, by go_num, rfl, by omega, hm3, nxR_fro L sl rl rh wg ks f a b k false (by simp; try omega) hG3.out, hown.out.below hb3 l0, HB.out.trans (hb3.mono hsz)⟩
      · go_wp2_with fail
        refine (step83 L sl rl rh wg A n cap ks fv f ((k : Int) + 1) false b' F _ _ (HA.out.below HB.out (Nat.le_refl _)) hn hk (HF.out.below HB.out (Nat.le_refl _)) (Go.WalkArith.wf_i64 (by omega)) HM.out hS (st_Bd (cvOf L sl rl rh wg ks) hV.out.r1 hV.out.r2 hV.out.kl f a b k (by omega)) hV.out.r1 hV.out.r0 hV.out.r2 hV.out.s1 hV.out.s2).mono ?_
        rintro e w3 ⟨b3, G, rfl, hm3, hG3, hb3⟩
        go_wp2
        go_roundg (L.toNat - (k + 1))
        case measure => omega
        case rel => exact ⟨k + 1, b3, G, by go_num, rfl, by omega, hm3, nxR_fro L sl rl rh wg ks f a b k false (by simp; try omega) hG3.out, hown.out.below hb3 l0, HB.out.trans (hb3.mono hsz)⟩
    · obtain rfl : k = L.toNat := by omega
      go_wp2
      go_ret
      exact ⟨_, F, rfl, HM.out, hS, HB.out⟩
end Go.Proofs.Ytphcpphmoeiioaa
