/- Walks: Counts and Length of the program. -/
import Derived.Test.YtibkgnnpmidgfaaDoorCg
namespace Go.Proofs.YtibkgnnpmidgfaaDoor
open Go.RowKit

theorem cbP {P : Program} {f : FuncId} {args : Array Value} {w : World} {b v : Bool} (h : b = v) (hc : Calls P f args w fun e w' => e = .returned (.bool b) ∧ w = w') : Calls P f args w fun e w' => e = .returned (.bool v) ∧ w = w' := h ▸ hc
theorem cbB {P : Program} {f : FuncId} {args : Array Value} {w : World} {b v : Bool} (h : b = v) (hc : Calls P f args w fun e w' => e = .returned (.bool b) ∧ Below w.heap.size w w') : Calls P f args w fun e w' => e = .returned (.bool v) ∧ Below w.heap.size w w' := h ▸ hc
theorem ciB {P : Program} {f : FuncId} {args : Array Value} {w : World} {k : IntKind} {b v : Int} (h : b = v) (hc : Calls P f args w fun e w' => e = .returned (.int k b) ∧ Below w.heap.size w w') : Calls P f args w fun e w' => e = .returned (.int k v) ∧ Below w.heap.size w w' := h ▸ hc

/-- An opening, and two bends. -/
def askC (B : List Pt) (o f t : Int) : Bool := btw o 1 60 && plB B.length f t
def cntL (cw : Int) (B D : List Pt) (R : List Rep) (o f t : Int) : List Int := if askE cw B D R (askC B o f t) = 0 then bitsL (mk B o f.toNat t.toNat) else []
def cntE (cw : Int) (B D : List Pt) (R : List Rep) (o f t : Int) : Int := if askE cw B D R (askC B o f t) = 0 then (if mk B o f.toNat t.toNat = 0 then 3 else 0) else askE cw B D R (askC B o f t)
theorem ask_zero {cw : Int} {B D : List Pt} {R : List Rep} {v : Bool} (h : askE cw B D R v = 0) : v = true ∧ chkB cw B D R = true := by
  unfold askE at h
  by_cases h1 : chkE cw B D R ≠ 0
  · rw [if_pos h1] at h; cases h
  · rw [if_neg h1] at h
    refine ⟨?_, chk_ok (by simpa using h1)⟩
    cases v
    · simp at h
    · rfl
theorem bitsL_zero : bitsL 0 = [] := by decide

set_option maxRecDepth 100000 in
set_option maxHeartbeats 4000000 in
theorem counts22 (A0 A1 A2 : Option Addr) (n0 n1 n2 c0 c1 c2 : Nat) (cw : Int) (o f t : Int) (B D : List Pt) (R : List Rep) (w : World) (hC : RdC w A0 A1 A2 n0 n1 n2 B D R) (ht1 : -9223372036854775808 ≤ t) (ht2 : t ≤ 9223372036854775807) :
    Calls Tryd.prog 22 #[.agg #[.slice A0 n0 c0, .slice A1 n1 c1, .slice A2 n2 c2, .int .i64 cw], .int .i64 o, .int .i64 f, .int .i64 t] w fun e w' => ∃ (A : Option Addr) (cap : Nat), e = .returned (.tuple #[.slice A (cntL cw B D R o f t).length cap, .int .i64 (cntE cw B D R o f t)]) ∧ RdI w' A (cntL cw B D R o f t) ∧ Below w.heap.size w w' := by
  have HC := Lib.hid hC
  have hn0 := hC.l0
  have HL := Lib.hid hC.h0
  clear hC
  have o0 : Own (w.alloc (.cells #[.slice A0 n0 c0, .slice A1 n1 c1, .slice A2 n2 c2, .int .i64 cw] 26)) w.heap.size [.slice A0 n0 c0, .slice A1 n1 c1, .slice A2 n2 c2, .int .i64 cw] := Own.new' _ _ rfl rfl
  have oB : Below w.heap.size w (w.alloc (.cells #[.slice A0 n0 c0, .slice A1 n1 c1, .slice A2 n2 c2, .int .i64 cw] 26)) := by (repeat' (first | (with_reducible exact Below.refl _ _) | (with_reducible assumption) | (with_reducible refine Below.drew ?_) | (with_reducible refine below_drewN ?_ _) | (with_reducible refine Below.setCell ?_ ?_ _) | (with_reducible refine Below.alloc ?_ ?_ _) | (refine Below.trans ?_ (Below.mono (by with_reducible assumption) ?_)) | omega | (exact Below.size (by with_reducible assumption)) | (simp; done) | (simp; omega)))
  have hx0 := Aft.cell o0
  have hask : ∀ (v : Bool) (x : Aft (w.alloc (.cells #[.slice A0 n0 c0, .slice A1 n1 c1, .slice A2 n2 c2, .int .i64 cw] 26))), Calls Tryd.prog 61 #[.agg #[.slice A0 n0 c0, .slice A1 n1 c1, .slice A2 n2 c2, .int .i64 cw], .bool v] x.w (fun e w' => e = .returned (.int .i64 (askE cw B D R v)) ∧ Below x.w.heap.size x.w w') :=
    fun v x => ask61 A0 A1 A2 n0 n1 n2 c0 c1 c2 cw v B D R x.w (HC.out.below (oB.trans (x.h.mono oB.size)) (Nat.le_refl _))
  have HA := Lib.hid hask
  clear hask
  by_cases hE : askE cw B D R (askC B o f t) = 0
  · obtain ⟨hv, hchk⟩ := ask_zero hE
    have hV := Lib.hid (val_of hchk)
    have hvv := hv
    unfold askC at hvv
    simp only [Bool.and_eq_true] at hvv
    obtain ⟨hb, hp⟩ := hvv
    rw [hv] at hE
    rw [← HL.out] at hp
    have hbo := btw_iff.1 hb
    obtain ⟨p1, p2, p3⟩ := plB_iff.1 hp
    obtain ⟨f, rfl⟩ := Int.eq_ofNat_of_zero_le p1
    obtain ⟨t, rfl⟩ := Int.eq_ofNat_of_zero_le (show 0 ≤ t by omega)
    have hLe : Hid (cntL cw B D R o f t = bitsL (mk B o f t)) := by show _ = _; unfold cntL; rw [hv, if_pos hE]; rfl
    have hEe : Hid (cntE cw B D R o f t = if mk B o f t = 0 then 3 else 0) := by show _ = _; unfold cntE; rw [hv, if_pos hE]; rfl
    have HE := Lib.hid hE
    have HB := Lib.hid hb
    have HP := Lib.hid hp
    have hn : n0 ≤ 12 := by have := hV.out.b2; have := HL.out; omega
    have hft : f < t := by omega
    have htn : t < n0 := by omega
    have hm := mk_lt13 B o f t (by omega)
    clear hE hb hp hv hchk p1 p2 p3
    go_enter Tryd.func22, Tryd.ntmps22
    go_wp2
    refine wp_region_aft (by kernel_rfl) (by kernel_rfl) ?_; (repeat (go_big_quiet_step ((first | (go_at_call 64; exact aft_same (cbP HB.out (isOpening64 _ _))) | (go_at_call 62; exact aft_of (cbB HP.out (arePlaces62 _ _ _ _ _ _ _ _ _ _ _ _ _ hn0 ht1 ht2))) | (go_at_call 61; exact aft_of (ciB HE.out (HA.out _ _))))))); refine wpQuiet_nil ?_; rintro w1 ⟨⟨_, hb1⟩, rfl⟩
    have hB1 : Below w.heap.size w w1 := by (repeat' (first | (with_reducible exact Below.refl _ _) | (with_reducible assumption) | (with_reducible refine Below.drew ?_) | (with_reducible refine below_drewN ?_ _) | (with_reducible refine Below.setCell ?_ ?_ _) | (with_reducible refine Below.alloc ?_ ?_ _) | (refine Below.trans ?_ (Below.mono (by with_reducible assumption) ?_)) | omega | (exact Below.size (by with_reducible assumption)) | (simp; done) | (simp; omega)))
    have r0 := o0.below hb1 o0.lt
    obtain ⟨l1, k1, f1⟩ := r0
    clear hx0 o0 oB hb1
    go_wp2_with fail
    refine (counts65 A0 A1 A2 n0 n1 n2 c0 c1 c2 cw B D R o f _ (HC.out.below hB1 (Nat.le_refl _)) hV.out.pts (by omega) hn (by omega)).mono ?_
    rintro e w2 ⟨b, cap, hge, rfl, ho2, hb2⟩
    have k2 := (ho2.c t).trans (masks_uv B o f n0 t htn)
    have hB2 : Below w.heap.size w w2 := by (repeat' (first | (with_reducible exact Below.refl _ _) | (with_reducible assumption) | (with_reducible refine Below.drew ?_) | (with_reducible refine below_drewN ?_ _) | (with_reducible refine Below.setCell ?_ ?_ _) | (with_reducible refine Below.alloc ?_ ?_ _) | (refine Below.trans ?_ (Below.mono (by with_reducible assumption) ?_)) | omega | (exact Below.size (by with_reducible assumption)) | (simp; done) | (simp; omega)))
    clear hB1 hb2 ho2
    by_cases hz : mk B o f t = 0
    · rw [if_pos hz] at hEe
      rw [hz] at k2 hLe
      go_wp2
      go_ret2
      exact ⟨none, 0, by rw [hEe.out, hLe.out, bitsL_zero]; rfl, by rw [hLe.out, bitsL_zero]; exact RdI.nil _ _, hB2⟩
    · rw [if_neg hz] at hEe
      have hzb : (((mk B o f t : Nat) : Int) == 0) = false := by simp; omega
      have hz' := Lib.hid hz
      clear hz
      go_wp2_with fail
      refine (list68 _ _ hm).mono ?_
      rintro e w3 ⟨A', cap', rfl, hr3, hb3⟩
      go_wp2
      go_ret2
      exact ⟨A', cap', by rw [hEe.out, hLe.out]; rfl, by rw [hLe.out]; exact hr3, by (repeat' (first | (with_reducible exact Below.refl _ _) | (with_reducible assumption) | (with_reducible refine Below.drew ?_) | (with_reducible refine below_drewN ?_ _) | (with_reducible refine Below.setCell ?_ ?_ _) | (with_reducible refine Below.alloc ?_ ?_ _) | (refine Below.trans ?_ (Below.mono (by with_reducible assumption) ?_)) | omega | (exact Below.size (by with_reducible assumption)) | (simp; done) | (simp; omega)))⟩
  · have hLe : Hid (cntL cw B D R o f t = []) := by show _ = _; unfold cntL; rw [if_neg hE]
    have hEe : Hid (cntE cw B D R o f t = askE cw B D R (askC B o f t)) := by show _ = _; unfold cntE; rw [if_neg hE]
    have hv : Hid (askC B o f t = (btw o 1 60 && plB n0 f t)) := by show _ = _; rw [HL.out]; rfl
    rw [hv.out] at hE hEe
    cases hb : btw o 1 60
    · rw [hb, Bool.false_and] at hE hEe
      have HB := Lib.hid hb
      obtain ⟨E, hEE⟩ : ∃ E, E = askE cw B D R false := ⟨_, rfl⟩
      rw [← hEE] at hE hEe
      have hne : (E != 0) = true := by simpa using hE
      have HE : Hid (askE cw B D R false = E) := hEE.symm
      clear hE hb hEE
      go_enter Tryd.func22, Tryd.ntmps22
      go_wp2
      refine wp_region_aft (by kernel_rfl) (by kernel_rfl) ?_; (repeat (go_big_quiet_step ((first | (go_at_call 64; exact aft_same (cbP HB.out (isOpening64 _ _))) | (go_at_call 61; exact aft_of (ciB HE.out (HA.out _ _))))))); refine wpQuiet_nil ?_; rintro w1 ⟨⟨_, hb1⟩, rfl⟩
      go_wp2
      go_ret2
      exact ⟨none, 0, by rw [hEe.out, hLe.out]; rfl, by rw [hLe.out]; exact RdI.nil _ _, by (repeat' (first | (with_reducible exact Below.refl _ _) | (with_reducible assumption) | (with_reducible refine Below.drew ?_) | (with_reducible refine below_drewN ?_ _) | (with_reducible refine Below.setCell ?_ ?_ _) | (with_reducible refine Below.alloc ?_ ?_ _) | (refine Below.trans ?_ (Below.mono (by with_reducible assumption) ?_)) | omega | (exact Below.size (by with_reducible assumption)) | (simp; done) | (simp; omega)))⟩
    · rw [hb, Bool.true_and] at hE hEe
      have HB := Lib.hid hb
      obtain ⟨v, hp⟩ : ∃ v, plB n0 f t = v := ⟨_, rfl⟩
      rw [hp] at hE hEe
      have HP := Lib.hid hp
      obtain ⟨E, hEE⟩ : ∃ E, E = askE cw B D R v := ⟨_, rfl⟩
      rw [← hEE] at hE hEe
      have hne : (E != 0) = true := by simpa using hE
      have HE : Hid (askE cw B D R v = E) := hEE.symm
      clear hE hb hEE hp
      go_enter Tryd.func22, Tryd.ntmps22
      go_wp2
      refine wp_region_aft (by kernel_rfl) (by kernel_rfl) ?_; (repeat (go_big_quiet_step ((first | (go_at_call 64; exact aft_same (cbP HB.out (isOpening64 _ _))) | (go_at_call 62; exact aft_of (cbB HP.out (arePlaces62 _ _ _ _ _ _ _ _ _ _ _ _ _ hn0 ht1 ht2))) | (go_at_call 61; exact aft_of (ciB HE.out (HA.out _ _))))))); refine wpQuiet_nil ?_; rintro w1 ⟨⟨_, hb1⟩, rfl⟩
      go_wp2
      go_ret2
      exact ⟨none, 0, by rw [hEe.out, hLe.out]; rfl, by rw [hLe.out]; exact RdI.nil _ _, by (repeat' (first | (with_reducible exact Below.refl _ _) | (with_reducible assumption) | (with_reducible refine Below.drew ?_) | (with_reducible refine below_drewN ?_ _) | (with_reducible refine Below.setCell ?_ ?_ _) | (with_reducible refine Below.alloc ?_ ?_ _) | (refine Below.trans ?_ (Below.mono (by with_reducible assumption) ?_)) | omega | (exact Below.size (by with_reducible assumption)) | (simp; done) | (simp; omega)))⟩

end Go.Proofs.YtibkgnnpmidgfaaDoor
