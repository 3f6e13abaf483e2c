/- Walks: begin: all states at a place, if nothing before it matters. -/
import Derived.Test.YtphcpphmoeiioaaWB
namespace Go.Proofs.Ytphcpphmoeiioaa
open Go.RowKit Go.Maps

theorem begR_sup {rl rh : Int} {ks : List Kn} {f : Int → Option Int} {p y : Int} {F : Int → Int → Option (Int × Int)} (h1 : -100 ≤ rl) (h2 : rh ≤ 100) (hk : ks.length ≤ 8) (h : Fro F (BegR rl rh ks f p y)) : SupF F := h.sup fun x w s ⟨_, _, b2, b3, _⟩ => by
  have ha : btw x rl rh = true := by
    unfold alB at b2; rw [Bool.and_eq_true] at b2; exact b2.1
  have := btw_iff.1 ha
  have := wrs_le ks p x
  omega
set_option maxRecDepth 100000 in
set_option maxHeartbeats 4000000 in
theorem begin82s (L sl rl rh wr : Int) (A : Option Addr) (n cap : Nat) (ks : List Kn) (fv : Value) (f : Int → Option Int) (p : Int) (w : World) (hA : Rd 3 w A (ks.map krow)) (hn : Hid (n = ks.length)) (hk : Hid (ks.length ≤ 8)) (hf : FixM w fv f) (hp : (Lit.int .i64 p).wf = true)
    (h1 : -100 ≤ rl) (h0 : rl ≤ rh) (h2 : rh ≤ 100) :
    Calls Try.prog 82 #[.agg #[.int .i64 L, .int .i64 sl, .int .i64 rl, .int .i64 rh, .slice A n cap, .int .i64 wr, fv], .int .i64 p] w fun e w' => ∃ b F, e = .returned (.map (some b)) ∧ w.heap.size ≤ b ∧ MapF w' b 1809 F ∧ Hid (Fro F (BegR rl rh ks f p (rh + 1))) ∧ Below w.heap.size w w' := by
  have HA := Lib.hid hA
  have HF := Lib.hid hf
  have hlen : n ≤ 9223372036854775807 := by have := hn.out; have := hk.out; omega
  clear hA hf
  have hmm := @run_makeMap Try.prog
  go_enter Try.func82, Try.ntmps82
  go_wp2
  go_loopg [6] ((rh + 1 - rl).toNat) (fun K y w5 => ∃ (v : Int) (F : Int → Int → Option (Int × Int)), y = .int .i64 v ∧ K = (rh + 1 - v).toNat ∧ rl ≤ v ∧ v ≤ rh + 1 ∧ MapF w5 (w.heap.size + 1) 1809 F ∧ Hid (Fro F (BegR rl rh ks f p v)) ∧ Own w5 w.heap.size [.int .i64 L, .int .i64 sl, .int .i64 rl, .int .i64 rh, .slice A n cap, .int .i64 wr, fv] ∧ Below w.heap.size w w5)
  case atStart => exact ⟨rl, _, rfl, rfl, by omega, by omega, by simpa using (MapF.made (w.alloc _)).mono (by omega), fro_none (fun x w s ⟨a1, a2, _⟩ => by omega), by (repeat' (first | (with_reducible assumption) | (with_reducible exact Own.mk (by with_reducible assumption) (by with_reducible assumption) (by with_reducible assumption)) | (with_reducible refine Own.new' _ _ (by first | rfl | (simp; done)) rfl) | (with_reducible refine Own.drew ?_) | (with_reducible refine Own.drewN ?_ _) | (with_reducible refine Own.alloc ?_ _) | (with_reducible refine Own.setOther ?_ ?_ _) | (refine Own.below ?_ (by with_reducible assumption) ?_) | omega | (simp; done) | (simp; omega))), by (repeat' (first | (with_reducible exact Below.refl _ _) | (with_reducible assumption) | (with_reducible refine Below.drew ?_) | (with_reducible refine below_drewN ?_ _) | (with_reducible refine Below.setCell ?_ ?_ _) | (with_reducible refine Below.alloc ?_ ?_ _) | (refine Below.trans ?_ (Below.mono (by with_reducible assumption) ?_)) | omega | (exact Below.size (by with_reducible assumption)) | (simp; done) | (simp; omega)))⟩
  case round =>
    obtain ⟨v, F, rfl, rfl, hv1, hv2, hm, hfr, hown, hbw⟩ := hrel
    obtain ⟨l0, k0, f0⟩ := hown
    have hown := Own.mk l0 k0 f0
    by_cases hlt : v ≤ rh
    · have HM := Lib.hid hm
      have hml := hm.lt
      have hsz := hbw.size
      have HB := Lib.hid hbw
      have hwv : (Lit.int .i64 v).wf = true := Go.WalkArith.wf_i64 (by omega)
      clear hm
      cases ha : alB rl rh f p v
      · have HA1 := Lib.hid ha
        clear ha
        go_wp2_with fail
        refine (allows87 _ _ _ _ _ _ _ f _ _ _ (HF.out.below HB.out (Nat.le_refl _)) hp).mono ?_
        rw [HA1.out]
        rintro e w1 ⟨rfl, hb1⟩
        go_wp2
        go_roundg ((rh + 1 - (v + 1)).toNat)
        case measure => omega
        case rel => exact ⟨v + 1, F, by go_num, rfl, by omega, by omega, HM.out.below hb1 hml, begR_skip hfr.out HA1.out, hown.below hb1 l0, by (repeat' (first | (with_reducible exact Below.refl _ _) | (with_reducible assumption) | (with_reducible refine Below.drew ?_) | (with_reducible refine below_drewN ?_ _) | (with_reducible refine Below.setCell ?_ ?_ _) | (with_reducible refine Below.alloc ?_ ?_ _) | (refine Below.trans ?_ (Below.mono (by with_reducible assumption) ?_)) | omega | (exact Below.size (by with_reducible assumption)) | (simp; done) | (simp; omega)))⟩
      · have HA1 := Lib.hid ha
        clear ha
        go_wp2_with fail
        refine (allows87 _ _ _ _ _ _ _ f _ _ _ (HF.out.below HB.out (Nat.le_refl _)) hp).mono ?_
        rw [HA1.out]
        rintro e w1 ⟨rfl, hb1⟩
        have hown1 := hown.below hb1 l0
        have hown1' := Lib.hid hown1
        obtain ⟨l1, k1, f1⟩ := hown1
        have hown1 := hown1'.out
        have hb2 : Below w.heap.size w w1 := by (repeat' (first | (with_reducible exact Below.refl _ _) | (with_reducible assumption) | (with_reducible refine Below.drew ?_) | (with_reducible refine below_drewN ?_ _) | (with_reducible refine Below.setCell ?_ ?_ _) | (with_reducible refine Below.alloc ?_ ?_ _) | (refine Below.trans ?_ (Below.mono (by with_reducible assumption) ?_)) | omega | (exact Below.size (by with_reducible assumption)) | (simp; done) | (simp; omega)))
        go_wp2_with fail
        refine (wrongs89 (ks := ks) _ _ _ _ _ _ _ _ _ _ _ _ (HA.out.below hb2 (Nat.le_refl _)) hn hlen).mono ?_
        rintro e w3 ⟨rfl, hb3⟩
        have hz3 := hb3.size
        go_wp2_with fail
        refine (put88 _ _ F _ _ _ _ _ ((HM.out.below hb1 hml).below hb3 (by have := hb1.size; omega)) (by omega) hwv (Go.WalkArith.wf_i64 (by have := wrs_le ks p v; have := hk.out; omega))).mono ?_
        rintro e w4 ⟨rfl, hm4, hg4⟩
        have hp4 := begR_put hfr.out hv1 HA1.out
        have hb4 : Below w.heap.size w w4 := (hb2.trans (hb3.mono hb2.size)).grown hg4 (by have := hb2.size; omega) (fun k e => by cases e; omega)
        have hown4 := (hown1.below hb3 hown1.lt).grown hg4 (by simp)
        go_wp2
        go_roundg ((rh + 1 - (v + 1)).toNat)
        case measure => omega
        case rel => exact ⟨v + 1, _, by go_num, rfl, by omega, by omega, hm4.tight (begR_sup h1 h2 hk.out hp4), hp4, hown4, hb4⟩
    · obtain rfl : v = rh + 1 := by omega
      go_wp2
      go_ret
      exact ⟨_, rfl, by omega, F, hm, hfr, by (repeat' (first | (with_reducible exact Below.refl _ _) | (with_reducible assumption) | (with_reducible refine Below.drew ?_) | (with_reducible refine below_drewN ?_ _) | (with_reducible refine Below.setCell ?_ ?_ _) | (with_reducible refine Below.alloc ?_ ?_ _) | (refine Below.trans ?_ (Below.mono (by with_reducible assumption) ?_)) | omega | (exact Below.size (by with_reducible assumption)) | (simp; done) | (simp; omega)))⟩
theorem begin82 (L sl rl rh wr : Int) (A : Option Addr) (n cap : Nat) (ks : List Kn) (fv : Value) (f : Int → Option Int) (p : Int) (w : World) (hA : Rd 3 w A (ks.map krow)) (hn : Hid (n = ks.length)) (hk : Hid (ks.length ≤ 8)) (hf : FixM w fv f) (hp : (Lit.int .i64 p).wf = true)
    (h1 : -100 ≤ rl) (h0 : rl ≤ rh) (h2 : rh ≤ 100) :
    Calls Try.prog 82 #[.agg #[.int .i64 L, .int .i64 sl, .int .i64 rl, .int .i64 rh, .slice A n cap, .int .i64 wr, fv], .int .i64 p] w fun e w' => ∃ b F, e = .returned (.map (some b)) ∧ MapF w' b 1809 F ∧ Hid (Fro F (BegR rl rh ks f p (rh + 1))) ∧ Below w.heap.size w w' :=
  (begin82s (L := L) (sl := sl) (rl := rl) (rh := rh) (A := A) (n := n) (cap := cap) (ks := ks) (wr := wr) fv f p w hA hn hk hf hp h1 h0 h2).mono fun _ _ ⟨b, F, k1, _, k2⟩ => ⟨b, F, k1, k2⟩
end Go.Proofs.Ytphcpphmoeiioaa
