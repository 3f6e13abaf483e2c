/- Walks: can, open. -/
import Derived.Test.YtphcpphmoeiioaaWG
import Derived.Test.YtphcpphmoeiioaaVC
namespace Go.Proofs.Ytphcpphmoeiioaa
open Go.RowKit Go.Maps

theorem cvV_of {L sl rl rh wg : Int} {ks : List Kn} (h : chkV L sl rl rh wg ks = true) : CvV L sl rl rh wg ks := by
  unfold chkV okS at h
  simp only [Bool.and_eq_true, btw_iff, decide_eq_true_eq, Bool.not_eq_true', List.any_eq_false] at h
  obtain ⟨⟨⟨⟨⟨h1, h2⟩, h3⟩, h4⟩, h5⟩, h6⟩ := h
  refine ⟨h1.1, h1.2, h2.1, h2.2, h3.1.1, h3.1.2, h3.2, h4, h6.1, h6.2, fun k hk => ?_⟩
  have := h5 k hk
  unfold badN okS at this
  cases e1 : btw k.pos 0 L <;> cases e2 : btw k.lo (-100) k.hi <;> cases e3 : decide (k.hi ≤ 100) <;> rw [e1, e2, e3] at this <;> simp at this
  have a1 := btw_iff.1 e1
  have a2 := btw_iff.1 e2
  have a3 := of_decide_eq_true e3
  omega
def HasT (c : Cv) (f : Int → Option Int) : Prop := ∃ h, Truth c h ∧ Fits f c.long h
theorem intR_has {c : Cv} {f : Int → Option Int} {a b : Int} {m : Nat} {lo hi : Int} (h : IntR (InF c f a b) m lo hi) : 0 < m ↔ HasT c f := by
  rcases h with ⟨h1, _, _, h4⟩ | ⟨h1, h2⟩
  · constructor
    · intro h; omega
    · rintro ⟨g, k1, k2⟩
      exact absurd ⟨g, k1, k2, rfl⟩ (h4 _)
  · exact ⟨fun _ => by obtain ⟨g, k1, k2, _⟩ := h2.1; exact ⟨g, k1, k2⟩, fun _ => h1⟩
set_option maxRecDepth 100000 in
set_option maxHeartbeats 4000000 in
theorem can67 (L sl rl rh wg : Int) (A : Option Addr) (n cap : Nat) (ks : List Kn) (fv fv0 : Value) (f : Int → Option Int) (w : World) (hA : Rd 3 w A (ks.map krow)) (hn : Hid (n = ks.length)) (hf : FixM w fv f) (hV : Hid (CvV L sl rl rh wg ks)) :
    Calls Try.prog 67 #[.agg #[.int .i64 L, .int .i64 sl, .int .i64 rl, .int .i64 rh, .slice A n cap, .int .i64 wg, fv0], fv] w fun e w' => ∃ r : Bool, e = .returned (.bool r) ∧ Hid (r = true ↔ HasT (cvOf L sl rl rh wg ks) f) ∧ Below w.heap.size w w' := by
  have HA := Lib.hid hA
  obtain ⟨mo, rfl⟩ : ∃ mo, fv = .map mo := by
    rcases hf with ⟨rfl, _⟩ | ⟨b, _, rfl, _⟩
    · exact ⟨_, rfl⟩
    · exact ⟨_, rfl⟩
  have HF := Lib.hid hf
  clear hA hf
  go_enter Try.func67, Try.ntmps67
  go_wp2_with fail
  refine (integral57 L sl rl rh wg A n cap ks (.map mo) f 0 0 _ (HA.out.below (B := w.heap.size) (by (repeat' (first | (with_reducible exact Below.refl _ _) | (with_reducible assumption) | (with_reducible refine Below.drew ?_) | (with_reducible refine below_drewN ?_ _) | (with_reducible refine Below.setCell ?_ ?_ _) | (with_reducible refine Below.alloc ?_ ?_ _) | (refine Below.trans ?_ (Below.mono (by with_reducible assumption) ?_)) | omega | (exact Below.size (by with_reducible assumption)) | (simp; done) | (simp; omega)))) (Nat.le_refl _)) hn (HF.out.below (B := w.heap.size) (by (repeat' (first | (with_reducible exact Below.refl _ _) | (with_reducible assumption) | (with_reducible refine Below.drew ?_) | (with_reducible refine below_drewN ?_ _) | (with_reducible refine Below.setCell ?_ ?_ _) | (with_reducible refine Below.alloc ?_ ?_ _) | (refine Below.trans ?_ (Below.mono (by with_reducible assumption) ?_)) | omega | (exact Below.size (by with_reducible assumption)) | (simp; done) | (simp; omega)))) (Nat.le_refl _)) hV).mono ?_
  rintro e w1 ⟨m, lo, hi, rfl, hI, hb1⟩
  have hI' := intR_has hI.out
  go_wp2
  go_ret
  have hz1 := hb1.size
  simp only [World.size_alloc] at hz1
  exact ⟨_, rfl, by show _ ↔ _; rw [← hI']; simp, by (repeat' (first | (with_reducible exact Below.refl _ _) | (with_reducible assumption) | (with_reducible refine Below.drew ?_) | (with_reducible refine below_drewN ?_ _) | (with_reducible refine Below.setCell ?_ ?_ _) | (with_reducible refine Below.alloc ?_ ?_ _) | (refine Below.trans ?_ (Below.mono (by with_reducible assumption) ?_)) | omega | (exact Below.size (by with_reducible assumption)) | (simp; done) | (simp; omega)))⟩
def OpenR (L sl rl rh wg : Int) (ks : List Kn) (is : Bool) (er : Int) : Prop :=
  (chkV L sl rl rh wg ks = false ∧ er = 70) ∨ (chkV L sl rl rh wg ks = true ∧ is = false ∧ er = 1) ∨
  (chkV L sl rl rh wg ks = true ∧ is = true ∧ er = 3 ∧ ¬ HasT (cvOf L sl rl rh wg ks) (fun _ => none)) ∨
  (chkV L sl rl rh wg ks = true ∧ is = true ∧ er = 0 ∧ HasT (cvOf L sl rl rh wg ks) (fun _ => none))
set_option maxRecDepth 100000 in
set_option maxHeartbeats 4000000 in
theorem open50 (L sl rl rh wg : Int) (A : Option Addr) (n cap : Nat) (ks : List Kn) (is : Bool) (w : World) (hA : Rd 3 w A (ks.map krow)) (hn : Hid (n = ks.length)) (hlen : n ≤ 9223372036854775807) :
    Calls Try.prog 50 #[.agg #[.int .i64 L, .int .i64 sl, .int .i64 rl, .int .i64 rh, .slice A n cap, .int .i64 wg], .bool is] w fun e w' => ∃ er : Int, e = .returned (.tuple #[.agg #[.int .i64 L, .int .i64 sl, .int .i64 rl, .int .i64 rh, .slice A n cap, .int .i64 wg, .map none], .int .i64 er]) ∧ Hid (OpenR L sl rl rh wg ks is er) ∧ Below w.heap.size w w' := by
  have HA := Lib.hid hA
  clear hA
  cases hc : chkV L sl rl rh wg ks
  · have hE : Hid (chkE L sl rl rh wg ks = 70) := by show _ = _; simp [chkE, hc]
    have hR : Hid (OpenR L sl rl rh wg ks is 70) := Or.inl ⟨hc, rfl⟩
    clear hc
    go_enter Try.func50, Try.ntmps50
    go_wp2_with fail
    refine calls_gen fun W hW => ?_
    have hB1 : Below w.heap.size w W := by rw [hW]; (repeat' (first | (with_reducible exact Below.refl _ _) | (with_reducible assumption) | (with_reducible refine Below.drew ?_) | (with_reducible refine below_drewN ?_ _) | (with_reducible refine Below.setCell ?_ ?_ _) | (with_reducible refine Below.alloc ?_ ?_ _) | (refine Below.trans ?_ (Below.mono (by with_reducible assumption) ?_)) | omega | (exact Below.size (by with_reducible assumption)) | (simp; done) | (simp; omega)))
    have p0 : Own W (w.heap.size + 1) [.int .i64 0, .int .i64 0, .int .i64 0, .int .i64 0, .slice none 0 0, .int .i64 0, .map none] := by rw [hW]; (repeat' (first | (with_reducible assumption) | (with_reducible exact Own.mk (by with_reducible assumption) (by with_reducible assumption) (by with_reducible assumption)) | (with_reducible refine Own.new' _ _ (by first | rfl | (simp; done)) rfl) | (with_reducible refine Own.drew ?_) | (with_reducible refine Own.drewN ?_ _) | (with_reducible refine Own.alloc ?_ _) | (with_reducible refine Own.setOther ?_ ?_ _) | (refine Own.below ?_ (by with_reducible assumption) ?_) | omega | (simp; done) | (simp; omega)))
    have p1 : Own W (w.heap.size + 1 + 1) [.int .i64 L, .int .i64 sl, .int .i64 rl, .int .i64 rh, .slice A n cap, .int .i64 wg, .map none] := by rw [hW]; (repeat' (first | (with_reducible assumption) | (with_reducible exact Own.mk (by with_reducible assumption) (by with_reducible assumption) (by with_reducible assumption)) | (with_reducible refine Own.new' _ _ (by first | rfl | (simp; done)) rfl) | (with_reducible refine Own.drew ?_) | (with_reducible refine Own.drewN ?_ _) | (with_reducible refine Own.alloc ?_ _) | (with_reducible refine Own.setOther ?_ ?_ _) | (refine Own.below ?_ (by with_reducible assumption) ?_) | omega | (simp; done) | (simp; omega)))
    have hz0 := hB1.size
    clear hW
    refine (check37 L sl rl rh wg A n cap ks _ (HA.out.below hB1 (Nat.le_refl _)) hn hlen).mono ?_
    rw [hE.out]
    rintro e w1 ⟨rfl, hb1⟩
    have hB2 := hB1.trans (hb1.mono hz0)
    have q0 := Lib.hid (p0.below hb1 p0.lt)
    have q1 := p1.below hb1 p1.lt
    clear p0 p1 hb1 hB1
    have qq1 := Lib.hid q1
    obtain ⟨l0, k0, f0⟩ := q0.out
    obtain ⟨l1, k1, f1⟩ := q1
    go_wp2
    (try simp only [Exit.inBlock, Exit.then])
    refine bodyPost_ret (results_cell (B := w.heap.size + 1) (vs := [.int .i64 L, .int .i64 sl, .int .i64 rl, .int .i64 rh, .slice A n cap, .int .i64 wg, .map none]) rfl rfl ((((((((q0.out).set 0 (by simp) _).set 1 (by simp) _).set 2 (by simp) _).set 3 (by simp) _).set 4 (by simp) _).set 5 (by simp) _).set 6 (by simp) _) (by kernel_rfl) (by kernel_rfl)) rfl ?_
    exact ⟨70, rfl, hR, by (repeat' (first | (with_reducible exact Below.refl _ _) | (with_reducible assumption) | (with_reducible refine Below.drew ?_) | (with_reducible refine below_drewN ?_ _) | (with_reducible refine Below.setCell ?_ ?_ _) | (with_reducible refine Below.alloc ?_ ?_ _) | (refine Below.trans ?_ (Below.mono (by with_reducible assumption) ?_)) | omega | (exact Below.size (by with_reducible assumption)) | (simp; done) | (simp; omega)))⟩
  · have hE : Hid (chkE L sl rl rh wg ks = 0) := by show _ = _; simp [chkE, hc]
    have hV := cvV_of hc
    have HC := Lib.hid hc
    clear hc
    cases is
    · have hR : Hid (OpenR L sl rl rh wg ks false 1) := Or.inr (Or.inl ⟨HC.out, rfl, rfl⟩)
      go_enter Try.func50, Try.ntmps50
      go_wp2_with fail
      refine calls_gen fun W hW => ?_
      have hB1 : Below w.heap.size w W := by rw [hW]; (repeat' (first | (with_reducible exact Below.refl _ _) | (with_reducible assumption) | (with_reducible refine Below.drew ?_) | (with_reducible refine below_drewN ?_ _) | (with_reducible refine Below.setCell ?_ ?_ _) | (with_reducible refine Below.alloc ?_ ?_ _) | (refine Below.trans ?_ (Below.mono (by with_reducible assumption) ?_)) | omega | (exact Below.size (by with_reducible assumption)) | (simp; done) | (simp; omega)))
      have p0 : Own W (w.heap.size + 1) [.int .i64 0, .int .i64 0, .int .i64 0, .int .i64 0, .slice none 0 0, .int .i64 0, .map none] := by rw [hW]; (repeat' (first | (with_reducible assumption) | (with_reducible exact Own.mk (by with_reducible assumption) (by with_reducible assumption) (by with_reducible assumption)) | (with_reducible refine Own.new' _ _ (by first | rfl | (simp; done)) rfl) | (with_reducible refine Own.drew ?_) | (with_reducible refine Own.drewN ?_ _) | (with_reducible refine Own.alloc ?_ _) | (with_reducible refine Own.setOther ?_ ?_ _) | (refine Own.below ?_ (by with_reducible assumption) ?_) | omega | (simp; done) | (simp; omega)))
      have p1 : Own W (w.heap.size + 1 + 1) [.int .i64 L, .int .i64 sl, .int .i64 rl, .int .i64 rh, .slice A n cap, .int .i64 wg, .map none] := by rw [hW]; (repeat' (first | (with_reducible assumption) | (with_reducible exact Own.mk (by with_reducible assumption) (by with_reducible assumption) (by with_reducible assumption)) | (with_reducible refine Own.new' _ _ (by first | rfl | (simp; done)) rfl) | (with_reducible refine Own.drew ?_) | (with_reducible refine Own.drewN ?_ _) | (with_reducible refine Own.alloc ?_ _) | (with_reducible refine Own.setOther ?_ ?_ _) | (refine Own.below ?_ (by with_reducible assumption) ?_) | omega | (simp; done) | (simp; omega)))
      have hz0 := hB1.size
      clear hW
      refine (check37 L sl rl rh wg A n cap ks _ (HA.out.below hB1 (Nat.le_refl _)) hn hlen).mono ?_
      rw [hE.out]
      rintro e w1 ⟨rfl, hb1⟩
      have hB2 := hB1.trans (hb1.mono hz0)
      have q0 := Lib.hid (p0.below hb1 p0.lt)
      have q1 := p1.below hb1 p1.lt
      clear p0 p1 hb1 hB1
      have qq1 := Lib.hid q1
      obtain ⟨l0, k0, f0⟩ := q0.out
      obtain ⟨l1, k1, f1⟩ := q1
      go_wp2
      (try simp only [Exit.inBlock, Exit.then])
      refine bodyPost_ret (results_cell (B := w.heap.size + 1) (vs := [.int .i64 L, .int .i64 sl, .int .i64 rl, .int .i64 rh, .slice A n cap, .int .i64 wg, .map none]) rfl rfl ((((((((q0.out).set 0 (by simp) _).set 1 (by simp) _).set 2 (by simp) _).set 3 (by simp) _).set 4 (by simp) _).set 5 (by simp) _).set 6 (by simp) _) (by kernel_rfl) (by kernel_rfl)) rfl ?_
      exact ⟨1, rfl, hR, by (repeat' (first | (with_reducible exact Below.refl _ _) | (with_reducible assumption) | (with_reducible refine Below.drew ?_) | (with_reducible refine below_drewN ?_ _) | (with_reducible refine Below.setCell ?_ ?_ _) | (with_reducible refine Below.alloc ?_ ?_ _) | (refine Below.trans ?_ (Below.mono (by with_reducible assumption) ?_)) | omega | (exact Below.size (by with_reducible assumption)) | (simp; done) | (simp; omega)))⟩
    · go_enter Try.func50, Try.ntmps50
      go_wp2_with fail
      refine calls_gen fun W hW => ?_
      have hB1 : Below w.heap.size w W := by rw [hW]; (repeat' (first | (with_reducible exact Below.refl _ _) | (with_reducible assumption) | (with_reducible refine Below.drew ?_) | (with_reducible refine below_drewN ?_ _) | (with_reducible refine Below.setCell ?_ ?_ _) | (with_reducible refine Below.alloc ?_ ?_ _) | (refine Below.trans ?_ (Below.mono (by with_reducible assumption) ?_)) | omega | (exact Below.size (by with_reducible assumption)) | (simp; done) | (simp; omega)))
      have p0 : Own W (w.heap.size + 1) [.int .i64 0, .int .i64 0, .int .i64 0, .int .i64 0, .slice none 0 0, .int .i64 0, .map none] := by rw [hW]; (repeat' (first | (with_reducible assumption) | (with_reducible exact Own.mk (by with_reducible assumption) (by with_reducible assumption) (by with_reducible assumption)) | (with_reducible refine Own.new' _ _ (by first | rfl | (simp; done)) rfl) | (with_reducible refine Own.drew ?_) | (with_reducible refine Own.drewN ?_ _) | (with_reducible refine Own.alloc ?_ _) | (with_reducible refine Own.setOther ?_ ?_ _) | (refine Own.below ?_ (by with_reducible assumption) ?_) | omega | (simp; done) | (simp; omega)))
      have p1 : Own W (w.heap.size + 1 + 1) [.int .i64 L, .int .i64 sl, .int .i64 rl, .int .i64 rh, .slice A n cap, .int .i64 wg, .map none] := by rw [hW]; (repeat' (first | (with_reducible assumption) | (with_reducible exact Own.mk (by with_reducible assumption) (by with_reducible assumption) (by with_reducible assumption)) | (with_reducible refine Own.new' _ _ (by first | rfl | (simp; done)) rfl) | (with_reducible refine Own.drew ?_) | (with_reducible refine Own.drewN ?_ _) | (with_reducible refine Own.alloc ?_ _) | (with_reducible refine Own.setOther ?_ ?_ _) | (refine Own.below ?_ (by with_reducible assumption) ?_) | omega | (simp; done) | (simp; omega)))
      have hz0 := hB1.size
      clear hW
      refine (check37 L sl rl rh wg A n cap ks _ (HA.out.below hB1 (Nat.le_refl _)) hn hlen).mono ?_
      rw [hE.out]
      rintro e w1 ⟨rfl, hb1⟩
      have hB2 := hB1.trans (hb1.mono hz0)
      have q0 := Lib.hid (p0.below hb1 p0.lt)
      have q1 := p1.below hb1 p1.lt
      clear p0 p1 hb1 hB1
      have qq1 := Lib.hid q1
      obtain ⟨l0, k0, f0⟩ := q0.out
      obtain ⟨l1, k1, f1⟩ := q1
      go_wp2_with fail
      refine (can67 L sl rl rh wg A n cap ks (.map none) _ (fun _ => none) _ (HA.out.below hB2 (Nat.le_refl _)) hn (Or.inl ⟨rfl, rfl⟩) hV).mono ?_
      rintro e w3 ⟨r, rfl, hr, hb3⟩
      have hz2 := hB2.size
      have hB3 := hB2.trans (hb3.mono hz2)
      replace q0 := Lib.hid (q0.out.below hb3 l0)
      have q1 := qq1.out.below hb3 l1
      clear hb3 l0 k0 f0 l1 k1 f1 qq1
      obtain ⟨l0, k0, f0⟩ := q0.out
      obtain ⟨l1, k1, f1⟩ := q1
      cases r
      · have hR : Hid (OpenR L sl rl rh wg ks true 3) := Or.inr (Or.inr (Or.inl ⟨HC.out, rfl, rfl, fun h => by have := hr.out.2 h; cases this⟩))
        go_wp2
        (try simp only [Exit.inBlock, Exit.then])
        refine bodyPost_ret (results_cell (B := w.heap.size + 1) (vs := [.int .i64 L, .int .i64 sl, .int .i64 rl, .int .i64 rh, .slice A n cap, .int .i64 wg, .map none]) rfl rfl ((((((((q0.out).set 0 (by simp) _).set 1 (by simp) _).set 2 (by simp) _).set 3 (by simp) _).set 4 (by simp) _).set 5 (by simp) _).set 6 (by simp) _) (by kernel_rfl) (by kernel_rfl)) rfl ?_
        exact ⟨3, rfl, hR, by (repeat' (first | (with_reducible exact Below.refl _ _) | (with_reducible assumption) | (with_reducible refine Below.drew ?_) | (with_reducible refine below_drewN ?_ _) | (with_reducible refine Below.setCell ?_ ?_ _) | (with_reducible refine Below.alloc ?_ ?_ _) | (refine Below.trans ?_ (Below.mono (by with_reducible assumption) ?_)) | omega | (exact Below.size (by with_reducible assumption)) | (simp; done) | (simp; omega)))⟩
      · have hR : Hid (OpenR L sl rl rh wg ks true 0) := Or.inr (Or.inr (Or.inr ⟨HC.out, rfl, rfl, hr.out.1 rfl⟩))
        go_wp2
        (try simp only [Exit.inBlock, Exit.then])
        refine bodyPost_ret (results_cell (B := w.heap.size + 1) (vs := [.int .i64 L, .int .i64 sl, .int .i64 rl, .int .i64 rh, .slice A n cap, .int .i64 wg, .map none]) rfl rfl ((((((((q0.out).set 0 (by simp) _).set 1 (by simp) _).set 2 (by simp) _).set 3 (by simp) _).set 4 (by simp) _).set 5 (by simp) _).set 6 (by simp) _) (by kernel_rfl) (by kernel_rfl)) rfl ?_
        exact ⟨0, rfl, hR, by (repeat' (first | (with_reducible exact Below.refl _ _) | (with_reducible assumption) | (with_reducible refine Below.drew ?_) | (with_reducible refine below_drewN ?_ _) | (with_reducible refine Below.setCell ?_ ?_ _) | (with_reducible refine Below.alloc ?_ ?_ _) | (refine Below.trans ?_ (Below.mono (by with_reducible assumption) ?_)) | omega | (exact Below.size (by with_reducible assumption)) | (simp; done) | (simp; omega)))⟩
end Go.Proofs.Ytphcpphmoeiioaa
