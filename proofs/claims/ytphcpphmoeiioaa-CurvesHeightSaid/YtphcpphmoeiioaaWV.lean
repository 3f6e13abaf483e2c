/- Walks: Far, ready, isAsk, isKnown. -/
import Derived.Test.YtphcpphmoeiioaaWU
namespace Go.Proofs.Ytphcpphmoeiioaa
open Go.RowKit Go.Maps

def farN (wide m : Int) : Nat → Int
  | 0 => wide
  | i + 1 => min 100000 (farN wide m i * m)
def farB (L sl rl rh wg : Int) (ks : List Kn) : Bool := decide (40 < ks.length) || (chkV L sl rl rh wg ks && decide (1500 < farN (rh - rl + 1) (min (rh - rl + 1) (2 * sl + 1)) L.toNat))
theorem farN_bd {wide m : Int} (h1 : 1 ≤ wide ∧ wide ≤ 201) (h2 : 1 ≤ m ∧ m ≤ 201) : ∀ i, 0 ≤ farN wide m i ∧ farN wide m i ≤ 100000
  | 0 => by show 0 ≤ wide ∧ wide ≤ 100000; omega
  | i + 1 => by
    have ih := farN_bd h1 h2 i
    have : 0 ≤ farN wide m i * m := Int.mul_nonneg ih.1 (by omega)
    show 0 ≤ min 100000 (farN wide m i * m) ∧ min 100000 (farN wide m i * m) ≤ 100000
    omega
theorem prod_bd {x m : Int} (h1 : 0 ≤ x ∧ x ≤ 100000) (h2 : 1 ≤ m ∧ m ≤ 201) : 0 ≤ x * m ∧ x * m ≤ 20100000 := by
  refine ⟨Int.mul_nonneg h1.1 (by omega), ?_⟩
  have : x * m ≤ 100000 * 201 := Int.mul_le_mul h1.2 h2.2 (by omega) (by omega)
  omega
set_option maxRecDepth 100000 in
set_option maxHeartbeats 4000000 in
theorem far12 (L sl rl rh wg : Int) (A : Option Addr) (n cap : Nat) (ks : List Kn) (w : World) (hA : Rd 3 w A (ks.map krow)) (hn : Hid (n = ks.length)) (hlen : n ≤ 9223372036854775807) :
    Calls Try.prog 12 #[.agg #[.int .i64 L, .int .i64 sl, .int .i64 rl, .int .i64 rh, .slice A n cap, .int .i64 wg]] w fun e w' => e = .returned (.bool (farB L sl rl rh wg ks)) ∧ Below w.heap.size w w' := by
  have HA := Lib.hid hA
  clear hA
  by_cases h40 : 40 < n
  · have hE : Hid (farB L sl rl rh wg ks = true) := by show _ = _; unfold farB; rw [decide_eq_true (by have := hn.out; omega)]; rfl
    have h40' : (40 : Int) < (n : Int) := by omega
    go_enter Try.func12, Try.ntmps12
    go_wp2
    go_ret
    exact ⟨ret_bool hE.out.symm, by (repeat' (first | (with_reducible exact Below.refl _ _) | (with_reducible assumption) | (with_reducible refine Below.drew ?_) | (with_reducible refine below_drewN ?_ _) | (with_reducible refine Below.setCell ?_ ?_ _) | (with_reducible refine Below.alloc ?_ ?_ _) | (refine Below.trans ?_ (Below.mono (by with_reducible assumption) ?_)) | omega | (exact Below.size (by with_reducible assumption)) | (simp; done) | (simp; omega)))⟩
  · have h40' : ¬ (40 : Int) < (n : Int) := by omega
    have hd : decide (40 < ks.length) = false := decide_eq_false (by have := hn.out; omega)
    cases hc : chkV L sl rl rh wg ks
    · have hE : Hid (farB L sl rl rh wg ks = false) := by show _ = _; unfold farB; rw [hd, hc]; rfl
      have hK : Hid (chkE L sl rl rh wg ks = 70) := by show _ = _; simp [chkE, hc]
      clear hc hd
      go_enter Try.func12, Try.ntmps12
      go_wp2_with fail
      refine (check38 L sl rl rh wg A n cap ks _ (HA.out.below (B := w.heap.size) (by (repeat' (first | (with_reducible exact Below.refl _ _) | (with_reducible assumption) | (with_reducible refine Below.drew ?_) | (with_reducible refine below_drewN ?_ _) | (with_reducible refine Below.setCell ?_ ?_ _) | (with_reducible refine Below.alloc ?_ ?_ _) | (refine Below.trans ?_ (Below.mono (by with_reducible assumption) ?_)) | omega | (exact Below.size (by with_reducible assumption)) | (simp; done) | (simp; omega)))) (Nat.le_refl _)) hn hlen).mono ?_
      rw [hK.out]
      rintro e w1 ⟨rfl, hb1⟩
      go_wp2
      go_ret
      exact ⟨ret_bool hE.out.symm, by (repeat' (first | (with_reducible exact Below.refl _ _) | (with_reducible assumption) | (with_reducible refine Below.drew ?_) | (with_reducible refine below_drewN ?_ _) | (with_reducible refine Below.setCell ?_ ?_ _) | (with_reducible refine Below.alloc ?_ ?_ _) | (refine Below.trans ?_ (Below.mono (by with_reducible assumption) ?_)) | omega | (exact Below.size (by with_reducible assumption)) | (simp; done) | (simp; omega)))⟩
    · have hV := cvV_of hc
      have hE : Hid (farB L sl rl rh wg ks = decide (1500 < farN (rh - rl + 1) (min (rh - rl + 1) (2 * sl + 1)) L.toNat)) := by show _ = _; unfold farB; rw [hd, hc]; rfl
      have hK : Hid (chkE L sl rl rh wg ks = 0) := by show _ = _; simp [chkE, hc]
      clear hc hd
      have a1 := hV.l1
      have a2 := hV.l2
      have a3 := hV.s1
      have a4 := hV.s2
      have a5 := hV.r1
      have a6 := hV.r0
      have a7 := hV.r2
      obtain ⟨m, hm⟩ : ∃ m, m = min (rh - rl + 1) (2 * sl + 1) := ⟨_, rfl⟩
      have hm1 : 1 ≤ m ∧ m ≤ 201 := by omega
      have HM := Lib.hid hm
      have hfb := farN_bd (wide := rh - rl + 1) (m := m) (by omega) hm1
      rw [← hm] at hE
      go_enter Try.func12, Try.ntmps12
      go_wp2_with fail
      refine (check38 L sl rl rh wg A n cap ks _ (HA.out.below (B := w.heap.size) (by (repeat' (first | (with_reducible exact Below.refl _ _) | (with_reducible assumption) | (with_reducible refine Below.drew ?_) | (with_reducible refine below_drewN ?_ _) | (with_reducible refine Below.setCell ?_ ?_ _) | (with_reducible refine Below.alloc ?_ ?_ _) | (refine Below.trans ?_ (Below.mono (by with_reducible assumption) ?_)) | omega | (exact Below.size (by with_reducible assumption)) | (simp; done) | (simp; omega)))) (Nat.le_refl _)) hn hlen).mono ?_
      rw [hK.out]
      rintro e w1 ⟨rfl, hb1⟩
      have o1 : Own w1 w.heap.size [.int .i64 L, .int .i64 sl, .int .i64 rl, .int .i64 rh, .slice A n cap, .int .i64 wg] := (Own.new' _ _ rfl rfl).below hb1 (by simp)
      have hB1 : Below w.heap.size w w1 := by (repeat' (first | (with_reducible exact Below.refl _ _) | (with_reducible assumption) | (with_reducible refine Below.drew ?_) | (with_reducible refine below_drewN ?_ _) | (with_reducible refine Below.setCell ?_ ?_ _) | (with_reducible refine Below.alloc ?_ ?_ _) | (refine Below.trans ?_ (Below.mono (by with_reducible assumption) ?_)) | omega | (exact Below.size (by with_reducible assumption)) | (simp; done) | (simp; omega)))
      clear hb1
      obtain ⟨l1, k1, f1⟩ := o1
      clear hm
      go_wp2
      go_loopg [4, 5] L.toNat (fun K x y w5 => ∃ i : Nat, K + i = L.toNat ∧ y = .int .i64 i ∧ x = .int .i64 (farN (rh - rl + 1) m i) ∧ w5 = w1)
      case atStart => exact ⟨0, rfl, rfl, rfl, rfl⟩
      case round =>
        obtain ⟨i, hK, rfl, rfl, rfl⟩ := hrel
        have hb := hfb i
        by_cases hlt : i < L.toNat
        · have hp := prod_bd hb hm1
          have hwr : IntKind.i64.wrap (farN (rh - rl + 1) m i * m) = farN (rh - rl + 1) m i * m := IntWalk.i64_in _ (by omega)
          have hnx : Hid (farN (rh - rl + 1) m (i + 1) = min 100000 (farN (rh - rl + 1) m i * m)) := rfl
          by_cases hq : rh - rl + 1 ≤ 2 * sl + 1
          · have EM : Hid (m = rh - rl + 1) := by show _ = _; have := HM.out; omega
            generalize hF : farN (rh - rl + 1) m i = F at *
            have hwr1 : IntKind.i64.wrap (F * (rh - rl + 1)) = F * (rh - rl + 1) := by have h := hwr; rw [EM.out] at h; exact h
            have hp1 : Hid (F * (rh - rl + 1) = F * m) := by show F * (rh - rl + 1) = F * m; rw [EM.out]
            clear hwr hp hF
            go_wp2
            all_goals
              go_roundg (L.toNat - (i + 1))
              case measure => omega
              case rel => exact ⟨i + 1, by omega, by go_num, (by have := hp1.out; have e := hnx.out; rw [e]; congr 1; omega), rfl⟩
          · have EM : Hid (m = 2 * sl + 1) := by show _ = _; have := HM.out; omega
            generalize hF : farN (rh - rl + 1) m i = F at *
            have hwr1 : IntKind.i64.wrap (F * (2 * sl + 1)) = F * (2 * sl + 1) := by have h := hwr; rw [EM.out] at h; exact h
            have hp1 : Hid (F * (2 * sl + 1) = F * m) := by show F * (2 * sl + 1) = F * m; rw [EM.out]
            clear hwr hp hF
            go_wp2
            all_goals
              go_roundg (L.toNat - (i + 1))
              case measure => omega
              case rel => exact ⟨i + 1, by omega, by go_num, (by have := hp1.out; have e := hnx.out; rw [e]; congr 1; omega), rfl⟩
        · obtain rfl : i = L.toNat := by omega
          go_wp2
          go_ret
          refine ⟨ret_bool ?_, hB1⟩
          rw [hE.out]
def readyB (L sl rl rh wg : Int) (ks : List Kn) : Bool := !farB L sl rl rh wg ks && chkV L sl rl rh wg ks
set_option maxHeartbeats 1000000 in
theorem ready18 (L sl rl rh wg : Int) (A : Option Addr) (n cap : Nat) (ks : List Kn) (w : World) (hA : Rd 3 w A (ks.map krow)) (hn : Hid (n = ks.length)) (hlen : n ≤ 9223372036854775807) :
    Calls Try.prog 18 #[.agg #[.int .i64 L, .int .i64 sl, .int .i64 rl, .int .i64 rh, .slice A n cap, .int .i64 wg]] w fun e w' => e = .returned (.bool (readyB L sl rl rh wg ks)) ∧ Below w.heap.size w w' := by
  have HA := Lib.hid hA
  clear hA
  cases hf : farB L sl rl rh wg ks
  · have HF := Lib.hid hf
    cases hc : chkV L sl rl rh wg ks
    · have hE : Hid (readyB L sl rl rh wg ks = false) := by show _ = _; simp [readyB, hf, hc]
      have hK : Hid (chkE L sl rl rh wg ks = 70) := by show _ = _; simp [chkE, hc]
      clear hf hc
      go_enter Try.func18, Try.ntmps18
      go_wp2_with fail
      refine (far12 L sl rl rh wg A n cap ks _ (HA.out.below (B := w.heap.size) (by (repeat' (first | (with_reducible exact Below.refl _ _) | (with_reducible assumption) | (with_reducible refine Below.drew ?_) | (with_reducible refine below_drewN ?_ _) | (with_reducible refine Below.setCell ?_ ?_ _) | (with_reducible refine Below.alloc ?_ ?_ _) | (refine Below.trans ?_ (Below.mono (by with_reducible assumption) ?_)) | omega | (exact Below.size (by with_reducible assumption)) | (simp; done) | (simp; omega)))) (Nat.le_refl _)) hn hlen).mono ?_
      rw [HF.out]
      rintro e w1 ⟨rfl, hb1⟩
      have o1 : Own w1 w.heap.size [.int .i64 L, .int .i64 sl, .int .i64 rl, .int .i64 rh, .slice A n cap, .int .i64 wg] := (Own.new' _ _ rfl rfl).below hb1 (by simp)
      have hB1 : Below w.heap.size w w1 := by (repeat' (first | (with_reducible exact Below.refl _ _) | (with_reducible assumption) | (with_reducible refine Below.drew ?_) | (with_reducible refine below_drewN ?_ _) | (with_reducible refine Below.setCell ?_ ?_ _) | (with_reducible refine Below.alloc ?_ ?_ _) | (refine Below.trans ?_ (Below.mono (by with_reducible assumption) ?_)) | omega | (exact Below.size (by with_reducible assumption)) | (simp; done) | (simp; omega)))
      obtain ⟨l1, k1, f1⟩ := o1
      go_wp2_with fail
      refine (check38 L sl rl rh wg A n cap ks _ (HA.out.below hB1 (Nat.le_refl _)) hn hlen).mono ?_
      rw [hK.out]
      rintro e w2 ⟨rfl, hb2⟩
      have hz1 := hB1.size
      have hB2 := hB1.trans (hb2.mono hz1)
      go_wp2
      go_ret
      exact ⟨ret_bool hE.out.symm, hB2⟩
    · have hE : Hid (readyB L sl rl rh wg ks = true) := by show _ = _; simp [readyB, hf, hc]
      have hK : Hid (chkE L sl rl rh wg ks = 0) := by show _ = _; simp [chkE, hc]
      clear hf hc
      go_enter Try.func18, Try.ntmps18
      go_wp2_with fail
      refine (far12 L sl rl rh wg A n cap ks _ (HA.out.below (B := w.heap.size) (by (repeat' (first | (with_reducible exact Below.refl _ _) | (with_reducible assumption) | (with_reducible refine Below.drew ?_) | (with_reducible refine below_drewN ?_ _) | (with_reducible refine Below.setCell ?_ ?_ _) | (with_reducible refine Below.alloc ?_ ?_ _) | (refine Below.trans ?_ (Below.mono (by with_reducible assumption) ?_)) | omega | (exact Below.size (by with_reducible assumption)) | (simp; done) | (simp; omega)))) (Nat.le_refl _)) hn hlen).mono ?_
      rw [HF.out]
      rintro e w1 ⟨rfl, hb1⟩
      have o1 : Own w1 w.heap.size [.int .i64 L, .int .i64 sl, .int .i64 rl, .int .i64 rh, .slice A n cap, .int .i64 wg] := (Own.new' _ _ rfl rfl).below hb1 (by simp)
      have hB1 : Below w.heap.size w w1 := by (repeat' (first | (with_reducible exact Below.refl _ _) | (with_reducible assumption) | (with_reducible refine Below.drew ?_) | (with_reducible refine below_drewN ?_ _) | (with_reducible refine Below.setCell ?_ ?_ _) | (with_reducible refine Below.alloc ?_ ?_ _) | (refine Below.trans ?_ (Below.mono (by with_reducible assumption) ?_)) | omega | (exact Below.size (by with_reducible assumption)) | (simp; done) | (simp; omega)))
      obtain ⟨l1, k1, f1⟩ := o1
      go_wp2_with fail
      refine (check38 L sl rl rh wg A n cap ks _ (HA.out.below hB1 (Nat.le_refl _)) hn hlen).mono ?_
      rw [hK.out]
      rintro e w2 ⟨rfl, hb2⟩
      have hz1 := hB1.size
      have hB2 := hB1.trans (hb2.mono hz1)
      go_wp2
      go_ret
      exact ⟨ret_bool hE.out.symm, hB2⟩
  · have hE : Hid (readyB L sl rl rh wg ks = false) := by show _ = _; simp [readyB, hf]
    have HF := Lib.hid hf
    clear hf
    go_enter Try.func18, Try.ntmps18
    go_wp2_with fail
    refine (far12 L sl rl rh wg A n cap ks _ (HA.out.below (B := w.heap.size) (by (repeat' (first | (with_reducible exact Below.refl _ _) | (with_reducible assumption) | (with_reducible refine Below.drew ?_) | (with_reducible refine below_drewN ?_ _) | (with_reducible refine Below.setCell ?_ ?_ _) | (with_reducible refine Below.alloc ?_ ?_ _) | (refine Below.trans ?_ (Below.mono (by with_reducible assumption) ?_)) | omega | (exact Below.size (by with_reducible assumption)) | (simp; done) | (simp; omega)))) (Nat.le_refl _)) hn hlen).mono ?_
    rw [HF.out]
    rintro e w1 ⟨rfl, hb1⟩
    have hB1 : Below w.heap.size w w1 := by (repeat' (first | (with_reducible exact Below.refl _ _) | (with_reducible assumption) | (with_reducible refine Below.drew ?_) | (with_reducible refine below_drewN ?_ _) | (with_reducible refine Below.setCell ?_ ?_ _) | (with_reducible refine Below.alloc ?_ ?_ _) | (refine Below.trans ?_ (Below.mono (by with_reducible assumption) ?_)) | omega | (exact Below.size (by with_reducible assumption)) | (simp; done) | (simp; omega)))
    go_wp2
    go_ret
    exact ⟨ret_bool hE.out.symm, hB1⟩
def askB (L a b lv : Int) : Bool := decide (0 ≤ a) && decide (a ≤ b) && decide (b ≤ L) && decide (-100 ≤ lv) && decide (lv ≤ 100)
set_option maxHeartbeats 1000000 in
theorem isAsk19 (L sl rl rh wg : Int) (s : Value) (a b lv : Int) (w : World) :
    Calls Try.prog 19 #[.agg #[.int .i64 L, .int .i64 sl, .int .i64 rl, .int .i64 rh, s, .int .i64 wg], .agg #[.int .i64 a, .int .i64 b, .int .i64 lv]] w fun e w' => e = .returned (.bool (askB L a b lv)) ∧ Below w.heap.size w w' := by
  unfold askB
  go_enter Try.func19, Try.ntmps19
  go_wp2
  all_goals go_ret
  all_goals exact ⟨ret_bool (by simp_all; try omega), by (repeat' (first | (with_reducible exact Below.refl _ _) | (with_reducible assumption) | (with_reducible refine Below.drew ?_) | (with_reducible refine below_drewN ?_ _) | (with_reducible refine Below.setCell ?_ ?_ _) | (with_reducible refine Below.alloc ?_ ?_ _) | (refine Below.trans ?_ (Below.mono (by with_reducible assumption) ?_)) | omega | (exact Below.size (by with_reducible assumption)) | (simp; done) | (simp; omega)))⟩
def knB (er : Int) : Bool := er == 0 || er == 3
set_option maxHeartbeats 1000000 in
theorem isKnown22 (er : Int) (w : World) :
    Calls Try.prog 22 #[.int .i64 er] w fun e w' => e = .returned (.bool (knB er)) ∧ w = w' := by
  unfold knB
  go_enter Try.func22, Try.ntmps22
  go_wp2
  all_goals go_ret
  all_goals exact ⟨ret_bool (by simp_all), rfl⟩
theorem askB_iff {L a b lv : Int} : askB L a b lv = true ↔ 0 ≤ a ∧ a ≤ b ∧ b ≤ L ∧ -100 ≤ lv ∧ lv ≤ 100 := by
  unfold askB; simp [and_assoc]
end Go.Proofs.Ytphcpphmoeiioaa
