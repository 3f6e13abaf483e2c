/- Walks: same, Far, Copy, Walk, CoastsCounts. -/
import Derived.Test.YtibkgnnpmidgfaaDoorDj
import Derived.Test.YtibkgnnpmidgfaaDoorAx
import Derived.Test.YtibkgnnpmidgfaaDoorDb
import Derived.Test.YtibkgnnpmidgfaaDoorDa
import Derived.Test.YtibkgnnpmidgfaaDoorAx
import Derived.Test.YtibkgnnpmidgfaaDoorDi
import Derived.Test.YtibkgnnpmidgfaaDoorEb
namespace Go.Proofs.YtibkgnnpmidgfaaDoor
open Go.RowKit
theorem cntL_len (cw : Int) (B D : List Pt) (R : List Rep) (o f t : Int) : (cntL cw B D R o f t).length ≤ 13 := by
  unfold cntL
  split
  · exact bitsL_len _
  · simp
theorem copy27x (A0 A1 A2 : Option Addr) (n0 n1 n2 c0 c1 c2 : Nat) (cw : Int) (B D : List Pt) (R : List Rep) (w : World) (hC : RdC w A0 A1 A2 n0 n1 n2 B D R) (m0 : n0 ≤ 1000000) (m1 : n1 ≤ 1000000) (m2 : n2 ≤ 1000000) :
    Calls Tryd.prog 27 #[.agg #[.slice A0 n0 c0, .slice A1 n1 c1, .slice A2 n2 c2, .int .i64 cw]] w fun e w' => ∃ X0 X1 X2 x0 x1 x2, e = .returned (.agg #[.slice X0 n0 x0, .slice X1 n1 x1, .slice X2 n2 x2, .int .i64 cw]) ∧ Gro w' w.heap.size 40 2 (.slice X0 n0 x0) (B.map prow) ∧ Gro w' w.heap.size 33 2 (.slice X1 n1 x1) (D.map prow) ∧ Gro w' w.heap.size 58 4 (.slice X2 n2 x2) (R.map rrow) ∧ Below w.heap.size w w' := by
  have h0 := hC.h0
  have h1 := hC.h1
  have h2 := hC.h2
  refine (copy27 A0 A1 A2 n0 n1 n2 c0 c1 c2 cw B D R w hC m0 m1 m2).mono ?_
  rintro e w' ⟨v0, v1, v2, rfl, G0, G1, G2, hb⟩
  obtain ⟨X0, x0, rfl, _⟩ := G0.out
  obtain ⟨X1, x1, rfl, _⟩ := G1.out
  obtain ⟨X2, x2, rfl, _⟩ := G2.out
  rw [List.length_map] at G0 G1 G2
  rw [← h0] at G0
  rw [← h1] at G1
  rw [← h2] at G2
  exact ⟨X0, X1, X2, x0, x1, x2, by simp only [List.length_map, h0, h1, h2], G0, G1, G2, hb⟩

end Go.Proofs.YtibkgnnpmidgfaaDoor
namespace Go.Proofs.YtibkgnnpmidgfaaDoor
open Go.RowKit

set_option maxRecDepth 100000 in
set_option maxHeartbeats 4000000 in
theorem same79 (X A : Option Addr) (n x c : Nat) (B : List Pt) (w : World) (hX : Rd 2 w X (B.map prow)) (hA : Rd 2 w A (B.map prow)) (hn : n = B.length) (hl : n ≤ 140737488355328) :
    Calls Tryd.prog 79 #[.slice X n x, .slice A n c] w fun e w' => e = .returned (.bool true) ∧ Below w.heap.size w w' := by
  have HX := Lib.hid hX
  have HA := Lib.hid hA
  have HN := Lib.hid hn
  clear hX hA hn
  go_enter Tryd.func79, Tryd.ntmps79
  go_wp2
  go_loopg [5] n (fun K i wr => ∃ k : Nat, K + k = n ∧ i = .int .i64 k ∧ Below w.heap.size w wr)
  case atStart => exact ⟨0, rfl, rfl, Below.refl _ _⟩
  case round =>
    obtain ⟨k, hk, rfl, hbw⟩ := hrel
    by_cases hlt : k < n
    · obtain ⟨⟨px, py⟩, hp⟩ : ∃ g, Hid (B[k]? = some g) := ⟨B[k]'(by have := HN.out; omega), by simp [Hid]⟩
      obtain ⟨b0, off, rfl, hb0, e0, e1⟩ := rd_pt (Rd.below HX.out hbw (Nat.le_refl _)) hp.out
      obtain ⟨b1, off1, rfl, hb1, e2, e3⟩ := rd_pt (Rd.below HA.out hbw (Nat.le_refl _)) hp.out
      dsimp only at e0 e1 e2 e3
      go_wp2
      go_region
      go_wp2
      go_roundg (n - (k + 1))
      case measure => omega
      case rel => exact ⟨k + 1, by omega, by go_num, hbw.drew⟩
    · go_wp2
      go_ret
      exact ⟨rfl, hbw⟩

set_option maxRecDepth 100000 in
set_option maxHeartbeats 8000000 in
theorem same39 (X0 X1 X2 : Option Addr) (y0 y1 y2 : Nat) (A0 A1 A2 : Option Addr) (n0 n1 n2 c0 c1 c2 : Nat) (cw : Int) (B D : List Pt) (R : List Rep) (w : World) (hX : RdC w X0 X1 X2 n0 n1 n2 B D R) (hC : RdC w A0 A1 A2 n0 n1 n2 B D R) :
    Calls Tryd.prog 39 #[.agg #[.slice X0 n0 y0, .slice X1 n1 y1, .slice X2 n2 y2, .int .i64 cw], .agg #[.slice A0 n0 c0, .slice A1 n1 c1, .slice A2 n2 c2, .int .i64 cw]] w fun e w' => e = .returned (.bool true) ∧ Below w.heap.size w w' := by
  have HX := Lib.hid hX
  have HC := Lib.hid hC
  have HL1 := Lib.hid hC.h1
  have HL2 := Lib.hid hC.h2
  have hl0 := hC.l0
  have hl1 := hC.l1
  have hl2 := hC.l2
  have HH0 := Lib.hid hC.h0
  clear hX hC
  have o0 : Own ((w.alloc (.cells #[.slice X0 n0 y0, .slice X1 n1 y1, .slice X2 n2 y2, .int .i64 cw] 26)).alloc (.cells #[.slice A0 n0 c0, .slice A1 n1 c1, .slice A2 n2 c2, .int .i64 cw] 26)) w.heap.size [.slice X0 n0 y0, .slice X1 n1 y1, .slice X2 n2 y2, .int .i64 cw] := (Own.new' _ _ rfl rfl).alloc _
  have o1 : Own ((w.alloc (.cells #[.slice X0 n0 y0, .slice X1 n1 y1, .slice X2 n2 y2, .int .i64 cw] 26)).alloc (.cells #[.slice A0 n0 c0, .slice A1 n1 c1, .slice A2 n2 c2, .int .i64 cw] 26)) (w.heap.size + 1) [.slice A0 n0 c0, .slice A1 n1 c1, .slice A2 n2 c2, .int .i64 cw] := Own.new' _ _ (by simp) rfl
  have oB : Below w.heap.size w ((w.alloc (.cells #[.slice X0 n0 y0, .slice X1 n1 y1, .slice X2 n2 y2, .int .i64 cw] 26)).alloc (.cells #[.slice A0 n0 c0, .slice A1 n1 c1, .slice A2 n2 c2, .int .i64 cw] 26)) := by (repeat' (first | (with_reducible exact Below.refl _ _) | (with_reducible assumption) | (with_reducible refine Below.drew ?_) | (with_reducible refine below_drewN ?_ _) | (with_reducible refine Below.setCell ?_ ?_ _) | (with_reducible refine Below.alloc ?_ ?_ _) | (refine Below.trans ?_ (Below.mono (by with_reducible assumption) ?_)) | omega | (exact Below.size (by with_reducible assumption)) | (simp; done) | (simp; omega)))
  go_enter Tryd.func39, Tryd.ntmps39
  go_wp2_with fail
  refine (same79 X0 A0 n0 y0 c0 B _ (HX.out.below oB (Nat.le_refl _)).r0 (HC.out.below oB (Nat.le_refl _)).r0 HH0.out hl0).mono ?_
  rintro e w1 ⟨rfl, hb1⟩
  have q0 := o0.below hb1 o0.lt
  have q1 := o1.below hb1 o1.lt
  have hB1 : Below w.heap.size w w1 := by (repeat' (first | (with_reducible exact Below.refl _ _) | (with_reducible assumption) | (with_reducible refine Below.drew ?_) | (with_reducible refine below_drewN ?_ _) | (with_reducible refine Below.setCell ?_ ?_ _) | (with_reducible refine Below.alloc ?_ ?_ _) | (refine Below.trans ?_ (Below.mono (by with_reducible assumption) ?_)) | omega | (exact Below.size (by with_reducible assumption)) | (simp; done) | (simp; omega)))
  clear o0 o1 oB hb1
  obtain ⟨l0, k0, f0⟩ := q0
  have q0 := Own.mk l0 k0 f0
  obtain ⟨l1, k1, f1⟩ := q1
  have q1 := Own.mk l1 k1 f1
  go_wp2
  go_loopg [5] n1 (fun K i wr => ∃ k : Nat, K + k = n1 ∧ i = .int .i64 k ∧ Own wr w.heap.size [.slice X0 n0 y0, .slice X1 n1 y1, .slice X2 n2 y2, .int .i64 cw] ∧ Own wr (w.heap.size + 1) [.slice A0 n0 c0, .slice A1 n1 c1, .slice A2 n2 c2, .int .i64 cw] ∧ Below w.heap.size w wr)
  case atStart => exact ⟨0, by omega, rfl, q0, q1, hB1⟩
  case round =>
    clear q0 q1 l0 k0 f0 l1 k1 f1 hB1
    obtain ⟨wo, rfl⟩ : ∃ wo : World, wo = wr := ⟨_, rfl⟩
    obtain ⟨k, hk, rfl, q0, q1, hbw⟩ := hrel
    obtain ⟨l0, k0, f0⟩ := q0
    have q0 := Own.mk l0 k0 f0
    obtain ⟨l1, k1, f1⟩ := q1
    have q1 := Own.mk l1 k1 f1
    by_cases hlt : k < n1
    · obtain ⟨⟨px, py⟩, hp⟩ : ∃ g, Hid (D[k]? = some g) := ⟨D[k]'(by have := HL1.out; omega), by simp [Hid]⟩
      obtain ⟨b0, off, rfl, hb0, e0, e1⟩ := rd_pt (HX.out.below hbw (Nat.le_refl _)).r1 hp.out
      obtain ⟨b1, off1, rfl, hb1, e2, e3⟩ := rd_pt (HC.out.below hbw (Nat.le_refl _)).r1 hp.out
      dsimp only at e0 e1 e2 e3
      go_wp2
      go_region
      go_wp2
      go_roundg (n1 - (k + 1))
      case measure => omega
      case rel => exact ⟨k + 1, by omega, by go_num, q0.drew, q1.drew, hbw.drew⟩
    · go_wp2
      go_loopg [6] n2 (fun K i wr => ∃ k : Nat, K + k = n2 ∧ i = .int .i64 k ∧ Own wr w.heap.size [.slice X0 n0 y0, .slice X1 n1 y1, .slice X2 n2 y2, .int .i64 cw] ∧ Own wr (w.heap.size + 1) [.slice A0 n0 c0, .slice A1 n1 c1, .slice A2 n2 c2, .int .i64 cw] ∧ Below w.heap.size w wr)
      case atStart => exact ⟨0, by omega, rfl, q0, q1, hbw⟩
      case round =>
        clear q0 q1 l0 k0 f0 l1 k1 f1 hbw
        obtain ⟨wi, rfl⟩ : ∃ wo : World, wo = wr := ⟨_, rfl⟩
        obtain ⟨k, hk, rfl, q0, q1, hbw⟩ := hrel
        obtain ⟨l0, k0, f0⟩ := q0
        have q0 := Own.mk l0 k0 f0
        obtain ⟨l1, k1, f1⟩ := q1
        have q1 := Own.mk l1 k1 f1
        by_cases hlt2 : k < n2
        · obtain ⟨⟨pd, pf, pt, ps⟩, hp⟩ : ∃ g, Hid (R[k]? = some g) := ⟨R[k]'(by have := HL2.out; omega), by simp [Hid]⟩
          obtain ⟨b0, off, rfl, hb0, e0, e1, e2, e3⟩ := rd_rep (HX.out.below hbw (Nat.le_refl _)).r2 hp.out
          obtain ⟨b1, off1, rfl, hb1, u0, u1, u2, u3⟩ := rd_rep (HC.out.below hbw (Nat.le_refl _)).r2 hp.out
          dsimp only at e0 e1 e2 e3 u0 u1 u2 u3
          go_wp2
          go_region
          go_wp2
          go_roundg (n2 - (k + 1))
          case measure => omega
          case rel => exact ⟨k + 1, by omega, by go_num, q0.drew, q1.drew, hbw.drew⟩
        · go_wp2
          go_ret
          exact ⟨rfl, hbw⟩

/-- A truth value is returned, which bounds the lengths. -/
def RetF (n0 n1 n2 : Nat) (e : Ending) : Prop := ∃ b : Bool, e = .returned (.bool b) ∧ (b = false → n0 ≤ 40 ∧ n1 ≤ 40 ∧ n2 ≤ 40)
set_option maxHeartbeats 1000000 in
theorem far13L (A0 A1 A2 : Option Addr) (n0 n1 n2 c0 c1 c2 : Nat) (cw : Int) (B D : List Pt) (R : List Rep) (w : World) (hC : RdC w A0 A1 A2 n0 n1 n2 B D R) :
    Calls Tryd.prog 13 #[.agg #[.slice A0 n0 c0, .slice A1 n1 c1, .slice A2 n2 c2, .int .i64 cw]] w fun e w' => RetF n0 n1 n2 e ∧ Below w.heap.size w w' := by
  by_cases hn : n0 ≤ 40 ∧ n1 ≤ 40 ∧ n2 ≤ 40
  · refine (far13 A0 A1 A2 n0 n1 n2 c0 c1 c2 cw B D R w hC).mono ?_
    rintro e w1 ⟨⟨b, rfl⟩, hb⟩
    exact ⟨⟨b, rfl, fun _ => hn⟩, hb⟩
  · have hl0 := hC.l0
    have hl1 := hC.l1
    have hl2 := hC.l2
    clear hC
    have o0 : Own (w.alloc (.cells #[.slice A0 n0 c0, .slice A1 n1 c1, .slice A2 n2 c2, .int .i64 cw] 26)) w.heap.size [.slice A0 n0 c0, .slice A1 n1 c1, .slice A2 n2 c2, .int .i64 cw] := Own.new' _ _ rfl rfl
    have oB : Below w.heap.size w (w.alloc (.cells #[.slice A0 n0 c0, .slice A1 n1 c1, .slice A2 n2 c2, .int .i64 cw] 26)) := by (repeat' (first | (with_reducible exact Below.refl _ _) | (with_reducible assumption) | (with_reducible refine Below.drew ?_) | (with_reducible refine below_drewN ?_ _) | (with_reducible refine Below.setCell ?_ ?_ _) | (with_reducible refine Below.alloc ?_ ?_ _) | (refine Below.trans ?_ (Below.mono (by with_reducible assumption) ?_)) | omega | (exact Below.size (by with_reducible assumption)) | (simp; done) | (simp; omega)))
    go_enter Tryd.func13, Tryd.ntmps13
    by_cases a0 : n0 ≤ 40
    · by_cases a1 : n1 ≤ 40
      · have a2 : ¬ n2 ≤ 40 := fun h => hn ⟨a0, a1, h⟩
        clear hn
        go_wp2
        go_ret
        exact ⟨⟨true, rfl, (fun h => by cases h)⟩, oB⟩
      · clear hn
        go_wp2
        go_ret
        exact ⟨⟨true, rfl, (fun h => by cases h)⟩, oB⟩
    · clear hn
      go_wp2
      go_ret
      exact ⟨⟨true, rfl, (fun h => by cases h)⟩, oB⟩

end Go.Proofs.YtibkgnnpmidgfaaDoor
namespace Go.Proofs.YtibkgnnpmidgfaaDoor
open Go.RowKit

set_option maxRecDepth 100000 in
set_option maxHeartbeats 8000000 in
theorem walk43g (A0 A1 A2 : Option Addr) (n0 n1 n2 c0 c1 c2 : Nat) (cw : Int) (o f t : Int) (B D : List Pt) (R : List Rep) (w : World) (hC : RdC w A0 A1 A2 n0 n1 n2 B D R) (hT : Tab w) (ht1 : -9223372036854775808 ≤ t) (ht2 : t ≤ 9223372036854775807) :
    Calls Tryd.prog 43 #[.agg #[.slice A0 n0 c0, .slice A1 n1 c1, .slice A2 n2 c2, .int .i64 cw], .int .i64 o, .int .i64 f, .int .i64 t] w fun e w' => ∃ (A : Option Addr) (cap : Nat) (ws : List Nat), e = .returned (.tuple #[.slice A ws.length cap, .int .i64 (cntE cw B D R o f t)]) ∧ RdI w' A (natI ws) ∧ (cntE cw B D R o f t = 0 → IsW B o f.toNat t.toNat ws ∧ ws.length = lowN (mk B o f.toNat t.toNat) + 1) ∧ (cntE cw B D R o f t ≠ 0 → ws = []) ∧ Below w.heap.size w w' := by
  have HC := Lib.hid hC
  have hn0 := hC.l0
  have HL := Lib.hid hC.h0
  clear hC
  have o0 : Own (w.alloc (.cells #[.slice A0 n0 c0, .slice A1 n1 c1, .slice A2 n2 c2, .int .i64 cw] 26)) w.heap.size [.slice A0 n0 c0, .slice A1 n1 c1, .slice A2 n2 c2, .int .i64 cw] := Own.new' _ _ rfl rfl
  have oB : Below w.heap.size w (w.alloc (.cells #[.slice A0 n0 c0, .slice A1 n1 c1, .slice A2 n2 c2, .int .i64 cw] 26)) := by (repeat' (first | (with_reducible exact Below.refl _ _) | (with_reducible assumption) | (with_reducible refine Below.drew ?_) | (with_reducible refine below_drewN ?_ _) | (with_reducible refine Below.setCell ?_ ?_ _) | (with_reducible refine Below.alloc ?_ ?_ _) | (refine Below.trans ?_ (Below.mono (by with_reducible assumption) ?_)) | omega | (exact Below.size (by with_reducible assumption)) | (simp; done) | (simp; omega)))
  have hx0 := Aft.cell o0
  have hask : ∀ (v : Bool) (x : Aft (w.alloc (.cells #[.slice A0 n0 c0, .slice A1 n1 c1, .slice A2 n2 c2, .int .i64 cw] 26))), Calls Tryd.prog 61 #[.agg #[.slice A0 n0 c0, .slice A1 n1 c1, .slice A2 n2 c2, .int .i64 cw], .bool v] x.w (fun e w' => e = .returned (.int .i64 (askE cw B D R v)) ∧ Below x.w.heap.size x.w w') :=
    fun v x => ask61 A0 A1 A2 n0 n1 n2 c0 c1 c2 cw v B D R x.w (HC.out.below (oB.trans (x.h.mono oB.size)) (Nat.le_refl _))
  have HA := Lib.hid hask
  clear hask
  by_cases hE : askE cw B D R (askC B o f t) = 0
  · obtain ⟨hv, hchk⟩ := ask_zero hE
    have hV := Lib.hid (val_of hchk)
    have hvv := hv
    unfold askC at hvv
    simp only [Bool.and_eq_true] at hvv
    obtain ⟨hb, hp⟩ := hvv
    rw [hv] at hE
    rw [← HL.out] at hp
    have hbo := btw_iff.1 hb
    obtain ⟨p1, p2, p3⟩ := plB_iff.1 hp
    obtain ⟨f, rfl⟩ := Int.eq_ofNat_of_zero_le p1
    obtain ⟨t, rfl⟩ := Int.eq_ofNat_of_zero_le (show 0 ≤ t by omega)
    have hEe : Hid (cntE cw B D R o f t = if mk B o f t = 0 then 3 else 0) := by show _ = _; unfold cntE; rw [hv, if_pos hE]; rfl
    have HE := Lib.hid hE
    have HB := Lib.hid hb
    have HP := Lib.hid hp
    have hn : n0 ≤ 12 := by have := hV.out.b2; have := HL.out; omega
    have hft : f < t := by omega
    have htn : t < n0 := by omega
    have hm := mk_lt13 B o f t (by omega)
    by_cases hz : mk B o f t = 0
    · clear hE hb hp hv hchk p1 p2 p3
      go_enter Tryd.func43, Tryd.ntmps43
      go_wp2
      refine wp_region_aft (by kernel_rfl) (by kernel_rfl) ?_; (repeat (go_big_quiet_step ((first | (go_at_call 64; exact aft_same (cbP HB.out (isOpening64 _ _))) | (go_at_call 62; exact aft_of (cbB HP.out (arePlaces62 _ _ _ _ _ _ _ _ _ _ _ _ _ hn0 ht1 ht2))) | (go_at_call 61; exact aft_of (ciB HE.out (HA.out _ _))))))); refine wpQuiet_nil ?_; rintro w1 ⟨⟨_, hb1⟩, rfl⟩
      have hB1 : Below w.heap.size w w1 := by (repeat' (first | (with_reducible exact Below.refl _ _) | (with_reducible assumption) | (with_reducible refine Below.drew ?_) | (with_reducible refine below_drewN ?_ _) | (with_reducible refine Below.setCell ?_ ?_ _) | (with_reducible refine Below.alloc ?_ ?_ _) | (refine Below.trans ?_ (Below.mono (by with_reducible assumption) ?_)) | omega | (exact Below.size (by with_reducible assumption)) | (simp; done) | (simp; omega)))
      have r0 := o0.below hb1 o0.lt
      obtain ⟨l1, k1, f1⟩ := r0
      clear hx0 o0 oB hb1
      go_wp2_with fail
      refine (counts65 A0 A1 A2 n0 n1 n2 c0 c1 c2 cw B D R o f _ (HC.out.below hB1 (Nat.le_refl _)) hV.out.pts (by omega) hn (by omega)).mono ?_
      rintro e w2 ⟨b, cap, hge, rfl, ho2, hb2⟩
      have k2 := (ho2.c t).trans (masks_uv B o f n0 t htn)
      have hB2 : Below w.heap.size w w2 := by (repeat' (first | (with_reducible exact Below.refl _ _) | (with_reducible assumption) | (with_reducible refine Below.drew ?_) | (with_reducible refine below_drewN ?_ _) | (with_reducible refine Below.setCell ?_ ?_ _) | (with_reducible refine Below.alloc ?_ ?_ _) | (refine Below.trans ?_ (Below.mono (by with_reducible assumption) ?_)) | omega | (exact Below.size (by with_reducible assumption)) | (simp; done) | (simp; omega)))
      clear hB1 hb2 ho2
      rw [if_pos hz] at hEe
      rw [hz] at k2
      clear hz
      go_wp2
      go_ret2
      exact ⟨none, 0, [], by rw [hEe.out]; rfl, RdI.nil _ _, (fun h => by rw [hEe.out] at h; cases h), fun _ => rfl, hB2⟩
    · have hw := walk43 A0 A1 A2 n0 n1 n2 c0 c1 c2 cw o f t B D R w HC.out hT (by unfold chkE; rw [if_pos hchk]) hb hft htn hz
      rw [if_neg hz] at hEe
      refine hw.mono ?_
      rintro e w9 ⟨A9, cap9, ws, rfl, hr9, hI, hl, hb9⟩
      exact ⟨A9, cap9, ws, by rw [hEe.out], hr9, fun _ => ⟨hI, hl⟩, fun h => absurd hEe.out h, hb9⟩
  · have hEe : Hid (cntE cw B D R o f t = askE cw B D R (askC B o f t)) := by show _ = _; unfold cntE; rw [if_neg hE]
    have hv : Hid (askC B o f t = (btw o 1 60 && plB n0 f t)) := by show _ = _; rw [HL.out]; rfl
    rw [hv.out] at hE hEe
    cases hb : btw o 1 60
    · rw [hb, Bool.false_and] at hE hEe
      have HB := Lib.hid hb
      obtain ⟨E, hEE⟩ : ∃ E, E = askE cw B D R false := ⟨_, rfl⟩
      rw [← hEE] at hE hEe
      have hne : (E != 0) = true := by simpa using hE
      have HE : Hid (askE cw B D R false = E) := hEE.symm
      clear hE hb hEE
      go_enter Tryd.func43, Tryd.ntmps43
      go_wp2
      refine wp_region_aft (by kernel_rfl) (by kernel_rfl) ?_; (repeat (go_big_quiet_step ((first | (go_at_call 64; exact aft_same (cbP HB.out (isOpening64 _ _))) | (go_at_call 61; exact aft_of (ciB HE.out (HA.out _ _))))))); refine wpQuiet_nil ?_; rintro w1 ⟨⟨_, hb1⟩, rfl⟩
      go_wp2
      go_ret2
      exact ⟨none, 0, [], by rw [hEe.out]; rfl, RdI.nil _ _, (fun h => by rw [hEe.out] at h; simp [h] at hne), fun _ => rfl, by (repeat' (first | (with_reducible exact Below.refl _ _) | (with_reducible assumption) | (with_reducible refine Below.drew ?_) | (with_reducible refine below_drewN ?_ _) | (with_reducible refine Below.setCell ?_ ?_ _) | (with_reducible refine Below.alloc ?_ ?_ _) | (refine Below.trans ?_ (Below.mono (by with_reducible assumption) ?_)) | omega | (exact Below.size (by with_reducible assumption)) | (simp; done) | (simp; omega)))⟩
    · rw [hb, Bool.true_and] at hE hEe
      have HB := Lib.hid hb
      obtain ⟨v, hp⟩ : ∃ v, plB n0 f t = v := ⟨_, rfl⟩
      rw [hp] at hE hEe
      have HP := Lib.hid hp
      obtain ⟨E, hEE⟩ : ∃ E, E = askE cw B D R v := ⟨_, rfl⟩
      rw [← hEE] at hE hEe
      have hne : (E != 0) = true := by simpa using hE
      have HE : Hid (askE cw B D R v = E) := hEE.symm
      clear hE hb hEE hp
      go_enter Tryd.func43, Tryd.ntmps43
      go_wp2
      refine wp_region_aft (by kernel_rfl) (by kernel_rfl) ?_; (repeat (go_big_quiet_step ((first | (go_at_call 64; exact aft_same (cbP HB.out (isOpening64 _ _))) | (go_at_call 62; exact aft_of (cbB HP.out (arePlaces62 _ _ _ _ _ _ _ _ _ _ _ _ _ hn0 ht1 ht2))) | (go_at_call 61; exact aft_of (ciB HE.out (HA.out _ _))))))); refine wpQuiet_nil ?_; rintro w1 ⟨⟨_, hb1⟩, rfl⟩
      go_wp2
      go_ret2
      exact ⟨none, 0, [], by rw [hEe.out]; rfl, RdI.nil _ _, (fun h => by rw [hEe.out] at h; simp [h] at hne), fun _ => rfl, by (repeat' (first | (with_reducible exact Below.refl _ _) | (with_reducible assumption) | (with_reducible refine Below.drew ?_) | (with_reducible refine below_drewN ?_ _) | (with_reducible refine Below.setCell ?_ ?_ _) | (with_reducible refine Below.alloc ?_ ?_ _) | (refine Below.trans ?_ (Below.mono (by with_reducible assumption) ?_)) | omega | (exact Below.size (by with_reducible assumption)) | (simp; done) | (simp; omega)))⟩


end Go.Proofs.YtibkgnnpmidgfaaDoor
namespace Go.Proofs.YtibkgnnpmidgfaaDoor
open Go.RowKit

theorem cntE_zero {cw : Int} {B D : List Pt} {R : List Rep} {o f t : Int} (h : cntE cw B D R o f t = 0) : chkE cw B D R = 0 ∧ btw o 1 60 = true ∧ plB B.length f t = true ∧ mk B o f.toNat t.toNat ≠ 0 ∧ cntL cw B D R o f t = bitsL (mk B o f.toNat t.toNat) := by
  unfold cntE at h
  split at h
  · rename_i ha
    rcases askE_cases cw B D R (askC B o f t) with ⟨h1, h2⟩ | ⟨h1, h2, h3⟩ | ⟨h1, h2, h3⟩
    · omega
    · omega
    · unfold askC at h2
      simp only [Bool.and_eq_true] at h2
      refine ⟨h1, h2.1, h2.2, ?_, by unfold cntL; rw [if_pos ha]⟩
      intro e
      rw [if_pos e] at h
      cases h
  · rename_i ha
    exact absurd h ha

set_option maxRecDepth 100000 in
set_option maxHeartbeats 8000000 in
theorem counts11 (A0 A1 A2 : Option Addr) (n0 n1 n2 c0 c1 c2 : Nat) (cw : Int) (o f t m : Int) (B D : List Pt) (R : List Rep) (w : World) (hC : RdC w A0 A1 A2 n0 n1 n2 B D R) (hT : Tab w) (ht : -9223372036854775808 ≤ t ∧ t ≤ 9223372036854775807) :
    Calls Tryd.prog 11 #[.agg #[.slice A0 n0 c0, .slice A1 n1 c1, .slice A2 n2 c2, .int .i64 cw], .agg #[.int .i64 o, .int .i64 f, .int .i64 t, .int .i64 m]] w fun e w' => e = .returned (.bool true) ∧ Below w.heap.size w w' := by
  have HC := Lib.hid hC
  have HT := Lib.hid hT
  have HL := Lib.hid hC.h0
  clear hC hT
  have o0 : Own ((w.alloc (.cells #[.slice A0 n0 c0, .slice A1 n1 c1, .slice A2 n2 c2, .int .i64 cw] 26)).alloc (.cells #[.int .i64 o, .int .i64 f, .int .i64 t, .int .i64 m] 44)) w.heap.size [.slice A0 n0 c0, .slice A1 n1 c1, .slice A2 n2 c2, .int .i64 cw] := (Own.new' _ _ rfl rfl).alloc _
  have o1 : Own ((w.alloc (.cells #[.slice A0 n0 c0, .slice A1 n1 c1, .slice A2 n2 c2, .int .i64 cw] 26)).alloc (.cells #[.int .i64 o, .int .i64 f, .int .i64 t, .int .i64 m] 44)) (w.heap.size + 1) [.int .i64 o, .int .i64 f, .int .i64 t, .int .i64 m] := Own.new' _ _ (by simp) rfl
  have oB : Below w.heap.size w ((w.alloc (.cells #[.slice A0 n0 c0, .slice A1 n1 c1, .slice A2 n2 c2, .int .i64 cw] 26)).alloc (.cells #[.int .i64 o, .int .i64 f, .int .i64 t, .int .i64 m] 44)) := by (repeat' (first | (with_reducible exact Below.refl _ _) | (with_reducible assumption) | (with_reducible refine Below.drew ?_) | (with_reducible refine below_drewN ?_ _) | (with_reducible refine Below.setCell ?_ ?_ _) | (with_reducible refine Below.alloc ?_ ?_ _) | (refine Below.trans ?_ (Below.mono (by with_reducible assumption) ?_)) | omega | (exact Below.size (by with_reducible assumption)) | (simp; done) | (simp; omega)))
  go_enter Tryd.func11, Tryd.ntmps11
  go_wp2_with fail
  refine (far13L A0 A1 A2 n0 n1 n2 c0 c1 c2 cw B D R _ (HC.out.below oB (Nat.le_refl _))).mono ?_
  rintro e w1 ⟨⟨b, rfl, hfar⟩, hb1⟩
  have s0 := o0.below hb1 o0.lt
  have s1 := o1.below hb1 o1.lt
  have hB1 : Below w.heap.size w w1 := by (repeat' (first | (with_reducible exact Below.refl _ _) | (with_reducible assumption) | (with_reducible refine Below.drew ?_) | (with_reducible refine below_drewN ?_ _) | (with_reducible refine Below.setCell ?_ ?_ _) | (with_reducible refine Below.alloc ?_ ?_ _) | (refine Below.trans ?_ (Below.mono (by with_reducible assumption) ?_)) | omega | (exact Below.size (by with_reducible assumption)) | (simp; done) | (simp; omega)))
  obtain ⟨l0, k0, f0⟩ := s0
  have s0 := Own.mk l0 k0 f0
  clear o0 o1 oB hb1
  cases b
  · obtain ⟨m0, m1, m2⟩ := hfar rfl
    clear hfar
    go_wp2_with fail
    refine (copy27x A0 A1 A2 n0 n1 n2 c0 c1 c2 cw B D R _ (HC.out.below hB1 (Nat.le_refl _)) (by omega) (by omega) (by omega)).mono ?_
    rintro e w2 ⟨X0, X1, X2, x0, x1, x2, rfl, G0, G1, G2, hb2⟩
    have p0 := s0.below hb2 s0.lt
    have p1 := s1.below hb2 s1.lt
    have hB2 : Below w.heap.size w w2 := by (repeat' (first | (with_reducible exact Below.refl _ _) | (with_reducible assumption) | (with_reducible refine Below.drew ?_) | (with_reducible refine below_drewN ?_ _) | (with_reducible refine Below.setCell ?_ ?_ _) | (with_reducible refine Below.alloc ?_ ?_ _) | (refine Below.trans ?_ (Below.mono (by with_reducible assumption) ?_)) | omega | (exact Below.size (by with_reducible assumption)) | (simp; done) | (simp; omega)))
    have HC2 := Lib.hid (rdC_gro G0 G1 G2 (by have := HC.out.h0; omega) (by have := HC.out.h1; omega) (by have := HC.out.h2; omega) HC.out.wt)
    clear s0 s1 hb2 hB1 l0 k0 f0 G0 G1 G2
    have lb := p1.lt
    have o7 := Own.new' (w := w2) (b := w2.heap.size) #[.slice X0 n0 x0, .slice X1 n1 x1, .slice X2 n2 x2, .int .i64 cw] 26 rfl rfl
    have s0 := p0.alloc (.cells #[.slice X0 n0 x0, .slice X1 n1 x1, .slice X2 n2 x2, .int .i64 cw] 26)
    have s1 := p1.alloc (.cells #[.slice X0 n0 x0, .slice X1 n1 x1, .slice X2 n2 x2, .int .i64 cw] 26)
    have hB3 : Below w.heap.size w (w2.alloc (.cells #[.slice X0 n0 x0, .slice X1 n1 x1, .slice X2 n2 x2, .int .i64 cw] 26)) := by (repeat' (first | (with_reducible exact Below.refl _ _) | (with_reducible assumption) | (with_reducible refine Below.drew ?_) | (with_reducible refine below_drewN ?_ _) | (with_reducible refine Below.setCell ?_ ?_ _) | (with_reducible refine Below.alloc ?_ ?_ _) | (refine Below.trans ?_ (Below.mono (by with_reducible assumption) ?_)) | omega | (exact Below.size (by with_reducible assumption)) | (simp; done) | (simp; omega)))
    have HC' := Lib.hid (HC2.out.below ((Below.refl w2.heap.size w2).alloc (Nat.le_refl _) (.cells #[.slice X0 n0 x0, .slice X1 n1 x1, .slice X2 n2 x2, .int .i64 cw] 26)) (Nat.le_refl _))
    obtain ⟨l0, k0, f0⟩ := p0
    go_wp2
    clear HC2 p1 hB2 l0 k0 f0
    generalize hW3 : w2.alloc _ = w3 at o7 s0 s1 hB3 HC' ⊢
    obtain ⟨g7, hg7⟩ : ∃ g, g = w2.heap.size := ⟨_, rfl⟩
    rw [← hg7] at o7 lb ⊢
    clear hg7 hW3
    have hx0 := Aft.cell s0
    have hx7 := Aft.cell o7
    have H44 := Lib.hid (fun y : Aft w3 => check44 X0 X1 X2 n0 n1 n2 x0 x1 x2 cw B D R y.w (HC'.out.below y.h (Nat.le_refl _)))
    have H14 := Lib.hid (fun y : Aft w3 => check14 A0 A1 A2 n0 n1 n2 c0 c1 c2 cw B D R y.w (HC.out.below (hB3.trans (y.h.mono hB3.size)) (Nat.le_refl _)))
    obtain ⟨E0, hE0⟩ : ∃ x, chkE cw B D R = x := ⟨_, rfl⟩
    rw [hE0] at H44 H14
    have HE0 := Lib.hid hE0
    clear hE0
    refine wp_region_aft (by kernel_rfl) (by kernel_rfl) ?_; (repeat (go_big_quiet_step ((first | (go_at_call 44; exact aft_of (H44.out _)) | (go_at_call 14; exact aft_of (H14.out _)))))); refine wpQuiet_nil ?_; rintro w4 ⟨⟨_, hb4⟩, rfl⟩
    clear H44 H14 hx0 hx7
    replace s0 := s0.below hb4 s0.lt
    replace s1 := s1.below hb4 s1.lt
    replace o7 := o7.below hb4 o7.lt
    have hB4 := hB3.trans (hb4.mono hB3.size)
    replace HC' := Lib.hid (HC'.out.below hb4 (Nat.le_refl _))
    clear hb4 hB3
    obtain ⟨l0, k0, f0⟩ := s0
    have s0 := Own.mk l0 k0 f0
    obtain ⟨l1, k1, f1⟩ := s1
    have s1 := Own.mk l1 k1 f1
    obtain ⟨l7, k7, f7⟩ := o7
    have o7 := Own.mk l7 k7 f7
    have HKL := Lib.hid (cntL_len cw B D R o f t)
    obtain ⟨ks, hks⟩ : ∃ x, cntL cw B D R o f t = x := ⟨_, rfl⟩
    obtain ⟨E1, hE1⟩ : ∃ x, cntE cw B D R o f t = x := ⟨_, rfl⟩
    obtain ⟨N2, hN2⟩ : ∃ x, opnN cw B D R f t m = x := ⟨_, rfl⟩
    obtain ⟨E2, hE2⟩ : ∃ x, opnE cw B D R f t m = x := ⟨_, rfl⟩
    obtain ⟨N5, hN5⟩ : ∃ x, lngN cw B D R o = x := ⟨_, rfl⟩
    obtain ⟨E5, hE5⟩ : ∃ x, lngE cw B D R o = x := ⟨_, rfl⟩
    rw [hks] at HKL
    have HKS := Lib.hid hks
    have HE1 := Lib.hid hE1
    have HN2 := Lib.hid hN2
    have HE2 := Lib.hid hE2
    have HN5 := Lib.hid hN5
    have HE5 := Lib.hid hE5
    clear hks hE1 hN2 hE2 hN5 hE5
    go_wp2_with fail
    refine (counts22 X0 X1 X2 n0 n1 n2 x0 x1 x2 cw o f t B D R _ HC'.out (by omega) (by omega)).mono ?_
    rw [HKS.out, HE1.out]
    rintro e w5 ⟨A5, c5, rfl, hr5, hb5⟩
    have HR5 := Lib.hid hr5
    clear hr5
    (clear l0 k0 f0 l1 k1 f1 l7 k7 f7; replace s0 := s0.below hb5 s0.lt; replace s1 := s1.below hb5 s1.lt; replace o7 := o7.below hb5 o7.lt; have hB5 := hB4.trans (hb5.mono hB4.size); replace HC' := Lib.hid (HC'.out.below hb5 (Nat.le_refl _)); clear hb5 hB4; obtain ⟨l0, k0, f0⟩ := s0; have s0 := Own.mk l0 k0 f0; obtain ⟨l1, k1, f1⟩ := s1; have s1 := Own.mk l1 k1 f1; obtain ⟨l7, k7, f7⟩ := o7; have o7 := Own.mk l7 k7 f7)
    go_wp2_with fail
    refine (counts45 A0 A1 A2 n0 n1 n2 c0 c1 c2 cw o f t B D R _ (HC.out.below hB5 (Nat.le_refl _))).mono ?_
    rw [HKS.out, HE1.out]
    rintro e w6 ⟨A6, c6, rfl, hr6, hb6⟩
    replace HR5 := Lib.hid (HR5.out.below hb6 (Nat.le_refl _))
    have HR6 := Lib.hid hr6
    clear hr6
    (clear l0 k0 f0 l1 k1 f1 l7 k7 f7; replace s0 := s0.below hb6 s0.lt; replace s1 := s1.below hb6 s1.lt; replace o7 := o7.below hb6 o7.lt; have hB6 := hB5.trans (hb6.mono hB5.size); replace HC' := Lib.hid (HC'.out.below hb6 (Nat.le_refl _)); clear hb6 hB5; obtain ⟨l0, k0, f0⟩ := s0; have s0 := Own.mk l0 k0 f0; obtain ⟨l1, k1, f1⟩ := s1; have s1 := Own.mk l1 k1 f1; obtain ⟨l7, k7, f7⟩ := o7; have o7 := Own.mk l7 k7 f7)
    go_wp2_with fail
    refine (opening18 X0 X1 X2 n0 n1 n2 x0 x1 x2 cw f t m B D R _ HC'.out (HT.out.below hB6 (Nat.le_refl _)) (by omega) (by omega)).mono ?_
    rw [HN2.out, HE2.out]
    rintro e w7 ⟨rfl, hb7⟩
    replace HR5 := Lib.hid (HR5.out.below hb7 (Nat.le_refl _))
    replace HR6 := Lib.hid (HR6.out.below hb7 (Nat.le_refl _))
    (clear l0 k0 f0 l1 k1 f1 l7 k7 f7; replace s0 := s0.below hb7 s0.lt; replace s1 := s1.below hb7 s1.lt; replace o7 := o7.below hb7 o7.lt; have hB7 := hB6.trans (hb7.mono hB6.size); replace HC' := Lib.hid (HC'.out.below hb7 (Nat.le_refl _)); clear hb7 hB6; obtain ⟨l0, k0, f0⟩ := s0; have s0 := Own.mk l0 k0 f0; obtain ⟨l1, k1, f1⟩ := s1; have s1 := Own.mk l1 k1 f1; obtain ⟨l7, k7, f7⟩ := o7; have o7 := Own.mk l7 k7 f7)
    go_wp2_with fail
    refine (opening46 A0 A1 A2 n0 n1 n2 c0 c1 c2 cw f t m B D R _ (HC.out.below hB7 (Nat.le_refl _))).mono ?_
    rw [HN2.out, HE2.out]
    rintro e w8 ⟨rfl, hb8⟩
    replace HR5 := Lib.hid (HR5.out.below hb8 (Nat.le_refl _))
    replace HR6 := Lib.hid (HR6.out.below hb8 (Nat.le_refl _))
    (clear l0 k0 f0 l1 k1 f1 l7 k7 f7; replace s0 := s0.below hb8 s0.lt; replace s1 := s1.below hb8 s1.lt; replace o7 := o7.below hb8 o7.lt; have hB8 := hB7.trans (hb8.mono hB7.size); replace HC' := Lib.hid (HC'.out.below hb8 (Nat.le_refl _)); clear hb8 hB7; obtain ⟨l0, k0, f0⟩ := s0; have s0 := Own.mk l0 k0 f0; obtain ⟨l1, k1, f1⟩ := s1; have s1 := Own.mk l1 k1 f1; obtain ⟨l7, k7, f7⟩ := o7; have o7 := Own.mk l7 k7 f7)
    go_wp2_with fail
    refine (length30 X0 X1 X2 n0 n1 n2 x0 x1 x2 cw o B D R _ HC'.out (HT.out.below hB8 (Nat.le_refl _))).mono ?_
    rw [HN5.out, HE5.out]
    rintro e w9 ⟨rfl, hb9⟩
    replace HR5 := Lib.hid (HR5.out.below hb9 (Nat.le_refl _))
    replace HR6 := Lib.hid (HR6.out.below hb9 (Nat.le_refl _))
    (clear l0 k0 f0 l1 k1 f1 l7 k7 f7; replace s0 := s0.below hb9 s0.lt; replace s1 := s1.below hb9 s1.lt; replace o7 := o7.below hb9 o7.lt; have hB9 := hB8.trans (hb9.mono hB8.size); replace HC' := Lib.hid (HC'.out.below hb9 (Nat.le_refl _)); clear hb9 hB8; obtain ⟨l0, k0, f0⟩ := s0; have s0 := Own.mk l0 k0 f0; obtain ⟨l1, k1, f1⟩ := s1; have s1 := Own.mk l1 k1 f1; obtain ⟨l7, k7, f7⟩ := o7; have o7 := Own.mk l7 k7 f7)
    go_wp2_with fail
    refine (length47 A0 A1 A2 n0 n1 n2 c0 c1 c2 cw o B D R _ (HC.out.below hB9 (Nat.le_refl _))).mono ?_
    rw [HN5.out, HE5.out]
    rintro e w10 ⟨rfl, hb10⟩
    replace HR5 := Lib.hid (HR5.out.below hb10 (Nat.le_refl _))
    replace HR6 := Lib.hid (HR6.out.below hb10 (Nat.le_refl _))
    (clear l0 k0 f0 l1 k1 f1 l7 k7 f7; replace s0 := s0.below hb10 s0.lt; replace s1 := s1.below hb10 s1.lt; replace o7 := o7.below hb10 o7.lt; have hB10 := hB9.trans (hb10.mono hB9.size); replace HC' := Lib.hid (HC'.out.below hb10 (Nat.le_refl _)); clear hb10 hB9; obtain ⟨l0, k0, f0⟩ := s0; have s0 := Own.mk l0 k0 f0; obtain ⟨l1, k1, f1⟩ := s1; have s1 := Own.mk l1 k1 f1; obtain ⟨l7, k7, f7⟩ := o7; have o7 := Own.mk l7 k7 f7)
    go_wp2_with fail
    refine (walk43g X0 X1 X2 n0 n1 n2 x0 x1 x2 cw o f t B D R _ HC'.out (HT.out.below hB10 (Nat.le_refl _)) (by omega) (by omega)).mono ?_
    rw [HE1.out]
    rintro e w11 ⟨A11, c11, ws, rfl, hr11, hwalk, hnone, hb11⟩
    have HW := Lib.hid hwalk
    have HNO := Lib.hid hnone
    clear hwalk hnone
    replace HR5 := Lib.hid (HR5.out.below hb11 (Nat.le_refl _))
    replace HR6 := Lib.hid (HR6.out.below hb11 (Nat.le_refl _))
    have HR11 := Lib.hid hr11
    clear hr11
    (clear l0 k0 f0 l1 k1 f1 l7 k7 f7; replace s0 := s0.below hb11 s0.lt; replace s1 := s1.below hb11 s1.lt; replace o7 := o7.below hb11 o7.lt; have hB11 := hB10.trans (hb11.mono hB10.size); replace HC' := Lib.hid (HC'.out.below hb11 (Nat.le_refl _)); clear hb11 hB10; obtain ⟨l0, k0, f0⟩ := s0; have s0 := Own.mk l0 k0 f0; obtain ⟨l1, k1, f1⟩ := s1; have s1 := Own.mk l1 k1 f1; obtain ⟨l7, k7, f7⟩ := o7; have o7 := Own.mk l7 k7 f7)
    have hks : ks.length ≤ 140737488355328 := by have := HKL.out; omega
    have hwl : ws.length ≤ 13 := by
      by_cases h : E1 = 0
      · obtain ⟨h1, h2⟩ := HW.out h
        obtain ⟨g1, g2, g3, g4, _⟩ := cntE_zero (HE1.out.trans h)
        have hV := val_of (chk_ok g1)
        have hp := plB_iff.1 g3
        have := lowN_le (mk_lt13 B o f.toNat t.toNat (by have := hV.b2; omega))
        omega
      · rw [HNO.out h]; simp
    go_wp2_with fail
    refine (cbB (show decide (ks = ks) = true by simp) (sameInts31 A5 A6 ks.length ks.length c5 c6 ks ks _ HR5.out HR6.out rfl rfl hks hks)).mono ?_
    rintro e w12 ⟨rfl, hb12⟩
    replace HR6 := Lib.hid (HR6.out.below hb12 (Nat.le_refl _))
    replace HR11 := Lib.hid (HR11.out.below hb12 (Nat.le_refl _))
    clear HR5
    (clear l0 k0 f0 l1 k1 f1 l7 k7 f7; replace s0 := s0.below hb12 s0.lt; replace s1 := s1.below hb12 s1.lt; replace o7 := o7.below hb12 o7.lt; have hB12 := hB11.trans (hb12.mono hB11.size); replace HC' := Lib.hid (HC'.out.below hb12 (Nat.le_refl _)); clear hb12 hB11; obtain ⟨l0, k0, f0⟩ := s0; have s0 := Own.mk l0 k0 f0; obtain ⟨l1, k1, f1⟩ := s1; have s1 := Own.mk l1 k1 f1; obtain ⟨l7, k7, f7⟩ := o7; have o7 := Own.mk l7 k7 f7)
    go_wp2_with fail
    refine (same39 X0 X1 X2 x0 x1 x2 A0 A1 A2 n0 n1 n2 c0 c1 c2 cw B D R _ HC'.out (HC.out.below hB12 (Nat.le_refl _))).mono ?_
    rintro e w13 ⟨rfl, hb13⟩
    replace HR6 := Lib.hid (HR6.out.below hb13 (Nat.le_refl _))
    replace HR11 := Lib.hid (HR11.out.below hb13 (Nat.le_refl _))
    (clear l0 k0 f0 l1 k1 f1 l7 k7 f7; replace s0 := s0.below hb13 s0.lt; replace s1 := s1.below hb13 s1.lt; replace o7 := o7.below hb13 o7.lt; have hB13 := hB12.trans (hb13.mono hB12.size); replace HC' := Lib.hid (HC'.out.below hb13 (Nat.le_refl _)); clear hb13 hB12; obtain ⟨l0, k0, f0⟩ := s0; have s0 := Own.mk l0 k0 f0; obtain ⟨l1, k1, f1⟩ := s1; have s1 := Own.mk l1 k1 f1; obtain ⟨l7, k7, f7⟩ := o7; have o7 := Own.mk l7 k7 f7)
    by_cases hz : E1 = 0
    · obtain ⟨g1, g2, g3, g4, g5⟩ := cntE_zero (HE1.out.trans hz)
      obtain ⟨hI, hwn⟩ := HW.out hz
      have hV := Lib.hid (val_of (chk_ok g1))
      have hbo := btw_iff.1 g2
      have hp := plB_iff.1 g3
      obtain ⟨f, rfl⟩ := Int.eq_ofNat_of_zero_le hp.1
      obtain ⟨t, rfl⟩ := Int.eq_ofNat_of_zero_le (show 0 ≤ t by omega)
      simp only [Int.toNat_natCast] at g4 g5 hI hwn
      have hft : f < t := by omega
      have htn : t < n0 := by have := HL.out; omega
      have hm := mk_lt13 B o f t (by have := hV.out.b2; have := HL.out; omega)
      have hlp := low_pos g4 hm hft
      rw [HKS.out] at g5
      have hhd := low_head g4 hm
      rw [← g5] at hhd
      obtain ⟨b6, o6, rfl, hl6, g6⟩ := HR6.out.elem hhd
      rw [Nat.add_zero] at g6
      have hkl : 0 < ks.length := (List.getElem?_eq_some_iff.1 hhd).1
      obtain ⟨lw, hlw⟩ : ∃ x, lowN (mk B o f t) = x := ⟨_, rfl⟩
      rw [hlw] at g6 hwn hlp
      have HI := Lib.hid hI
      have hwn' : ((ws.length : Int) - 1 == (lw : Int)) = true := by simp; omega
      have hw2 : 2 ≤ ws.length := by omega
      clear hwn
      subst hz
      clear g1 g2 g3 g4 g5 hI hp hm hhd hlw
      go_wp2_with fail
      refine (isWalk25 A0 A1 A2 n0 n1 n2 c0 c1 c2 cw A11 ws.length c11 o f t ws B D R _ (HC.out.below hB13 (Nat.le_refl _)) hV hbo HR11.out rfl (by omega) (by omega) HI.out.a HI.out.z (fun i a b ha hb => by have := HI.out.s i a b ha hb; omega)).mono ?_
      rw [HI.out.w]
      rintro e w14 ⟨rfl, hb14⟩
      have hB14 := hB13.trans (hb14.mono hB13.size)
      have g6' := ((bcell hb14).1 b6 o6 hl6).trans g6
      clear g6 hb14
      (go_wp2_with fail; refine (works21 _ (HT.out.below hB14 (Nat.le_refl _))).mono ?_; rintro e w9 ⟨rfl, hb9⟩; go_wp2; go_ret; exact ⟨rfl, by (repeat' (first | (with_reducible exact Below.refl _ _) | (with_reducible assumption) | (with_reducible refine Below.drew ?_) | (with_reducible refine below_drewN ?_ _) | (with_reducible refine Below.setCell ?_ ?_ _) | (with_reducible refine Below.alloc ?_ ?_ _) | (refine Below.trans ?_ (Below.mono (by with_reducible assumption) ?_)) | omega | (exact Below.size (by with_reducible assumption)) | (simp; done) | (simp; omega)))⟩)
    · have hws := HNO.out hz
      subst hws
      have hne : (E1 == 0) = false := by simp [hz]
      (go_wp2_with fail; refine (works21 _ (HT.out.below hB13 (Nat.le_refl _))).mono ?_; rintro e w9 ⟨rfl, hb9⟩; go_wp2; go_ret; exact ⟨rfl, by (repeat' (first | (with_reducible exact Below.refl _ _) | (with_reducible assumption) | (with_reducible refine Below.drew ?_) | (with_reducible refine below_drewN ?_ _) | (with_reducible refine Below.setCell ?_ ?_ _) | (with_reducible refine Below.alloc ?_ ?_ _) | (refine Below.trans ?_ (Below.mono (by with_reducible assumption) ?_)) | omega | (exact Below.size (by with_reducible assumption)) | (simp; done) | (simp; omega)))⟩)
  · clear hfar
    (go_wp2_with fail; refine (works21 _ (HT.out.below hB1 (Nat.le_refl _))).mono ?_; rintro e w9 ⟨rfl, hb9⟩; go_wp2; go_ret; exact ⟨rfl, by (repeat' (first | (with_reducible exact Below.refl _ _) | (with_reducible assumption) | (with_reducible refine Below.drew ?_) | (with_reducible refine below_drewN ?_ _) | (with_reducible refine Below.setCell ?_ ?_ _) | (with_reducible refine Below.alloc ?_ ?_ _) | (refine Below.trans ?_ (Below.mono (by with_reducible assumption) ?_)) | omega | (exact Below.size (by with_reducible assumption)) | (simp; done) | (simp; omega)))⟩)

end Go.Proofs.YtibkgnnpmidgfaaDoor
