/- Walks: Longer of the program, every input. -/
import Derived.Test.YtibkgnnpmidgfaaDoorCr
namespace Go.Proofs.YtibkgnnpmidgfaaDoor
open Go.RowKit Go.Maps

set_option maxRecDepth 100000 in
set_option maxHeartbeats 4000000 in
theorem longer29 (A0 A1 A2 : Option Addr) (n0 n1 n2 c0 c1 c2 : Nat) (cw : Int) (a b : Int) (B D : List Pt) (R : List Rep) (w : World) (hC : RdC w A0 A1 A2 n0 n1 n2 B D R) (hT : Tab w) :
    Calls Tryd.prog 29 #[.agg #[.slice A0 n0 c0, .slice A1 n1 c1, .slice A2 n2 c2, .int .i64 cw], .int .i64 a, .int .i64 b] w fun e w' => e = .returned (.tuple #[.int .i64 (lonN cw B D R a b), .int .i64 (opE cw B D R (isDv2 D a b))]) ∧ Below w.heap.size w w' := by
  by_cases hE : opE cw B D R (isDv2 D a b) = 0
  · obtain ⟨hv, hchk⟩ := opE_true hE
    have hV := Lib.hid (val_of hchk)
    have hv2 := hv
    unfold isDv2 isDv at hv2
    simp only [Bool.and_eq_true, btw_iff] at hv2
    obtain ⟨⟨h1, h2⟩, h3, h4⟩ := hv2
    obtain ⟨a, rfl⟩ := Int.eq_ofNat_of_zero_le h1
    obtain ⟨b, rfl⟩ := Int.eq_ofNat_of_zero_le h3
    have hL := hC.h1
    have e1 : lonN cw B D R a b = lonV cw B D R a b := by unfold lonN; rw [if_pos hE]; rfl
    rw [e1, hE]
    rw [hv] at hE
    exact longer29_core A0 A1 A2 n0 n1 n2 c0 c1 c2 cw a b B D R w hC hT hV (by omega) (by omega) hE
  · have HC := Lib.hid hC
    have HL1 := Lib.hid hC.h1
    have hl1 := hC.l1
    have hNe : Hid (lonN cw B D R a b = 0) := by show _ = _; unfold lonN; rw [if_neg hE]
    have o0 : Own (w.alloc (.cells #[.slice A0 n0 c0, .slice A1 n1 c1, .slice A2 n2 c2, .int .i64 cw] 26)) w.heap.size [.slice A0 n0 c0, .slice A1 n1 c1, .slice A2 n2 c2, .int .i64 cw] := Own.new' _ _ rfl rfl
    have oB : Below w.heap.size w (w.alloc (.cells #[.slice A0 n0 c0, .slice A1 n1 c1, .slice A2 n2 c2, .int .i64 cw] 26)) := by (repeat' (first | (with_reducible exact Below.refl _ _) | (with_reducible assumption) | (with_reducible refine Below.drew ?_) | (with_reducible refine below_drewN ?_ _) | (with_reducible refine Below.setCell ?_ ?_ _) | (with_reducible refine Below.alloc ?_ ?_ _) | (refine Below.trans ?_ (Below.mono (by with_reducible assumption) ?_)) | omega | (exact Below.size (by with_reducible assumption)) | (simp; done) | (simp; omega)))
    have hx0 := Aft.cell o0
    have hv : isDv2 D a b = (btw a 0 ((n1 : Int) - 1) && btw b 0 ((n1 : Int) - 1)) := by unfold isDv2 isDv; rw [HL1.out]
    rw [hv] at hE ⊢
    clear hC hT hv
    cases hb : btw a 0 ((n1 : Int) - 1)
    · rw [hb, Bool.false_and] at hE
      rw [Bool.false_and]
      have HB := Lib.hid hb
      obtain ⟨E, hEE⟩ : ∃ E, E = opE cw B D R false := ⟨_, rfl⟩
      have HE := Lib.hid hE
      rw [← hEE] at hE ⊢
      have hne : (E != 0) = true := by simpa using hE
      have hop : ∀ x : Aft (w.alloc (.cells #[.slice A0 n0 c0, .slice A1 n1 c1, .slice A2 n2 c2, .int .i64 cw] 26)), Calls Tryd.prog 70 #[.agg #[.slice A0 n0 c0, .slice A1 n1 c1, .slice A2 n2 c2, .int .i64 cw], .bool false] x.w (fun e w' => e = .returned (.tuple #[.pointer none, .int .i64 E]) ∧ Below x.w.heap.size x.w w') := fun x => by
        rw [hEE]
        exact open70_bad A0 A1 A2 n0 n1 n2 c0 c1 c2 cw false B D R x.w (HC.out.below (oB.trans (x.h.mono oB.size)) (Nat.le_refl _)) HE.out
      have HOP := Lib.hid hop
      clear hE hEE hop hb
      go_enter Tryd.func29, Tryd.ntmps29
      go_wp2
      refine wp_region_aft (by kernel_rfl) (by kernel_rfl) ?_; (repeat (go_big_quiet_step ((first | (go_at_call 71; exact aft_of (cbB HB.out (isDivider71 _ _ _ _ _ _ _ _ _ _ _ _ hl1))) | (go_at_call 70; exact aft_of (HOP.out _)))))); refine wpQuiet_nil ?_; rintro w1 ⟨⟨_, hb1⟩, rfl⟩
      go_wp2
      go_ret2
      exact ⟨by rw [hNe.out]; rfl, by (repeat' (first | (with_reducible exact Below.refl _ _) | (with_reducible assumption) | (with_reducible refine Below.drew ?_) | (with_reducible refine below_drewN ?_ _) | (with_reducible refine Below.setCell ?_ ?_ _) | (with_reducible refine Below.alloc ?_ ?_ _) | (refine Below.trans ?_ (Below.mono (by with_reducible assumption) ?_)) | omega | (exact Below.size (by with_reducible assumption)) | (simp; done) | (simp; omega)))⟩
    · rw [hb, Bool.true_and] at hE
      rw [Bool.true_and]
      have HB := Lib.hid hb
      obtain ⟨v, hp⟩ : ∃ v, btw b 0 ((n1 : Int) - 1) = v := ⟨_, rfl⟩
      rw [hp] at hE ⊢
      have HP := Lib.hid hp
      obtain ⟨E, hEE⟩ : ∃ E, E = opE cw B D R v := ⟨_, rfl⟩
      have HE := Lib.hid hE
      rw [← hEE] at hE ⊢
      have hne : (E != 0) = true := by simpa using hE
      have hop : ∀ x : Aft (w.alloc (.cells #[.slice A0 n0 c0, .slice A1 n1 c1, .slice A2 n2 c2, .int .i64 cw] 26)), Calls Tryd.prog 70 #[.agg #[.slice A0 n0 c0, .slice A1 n1 c1, .slice A2 n2 c2, .int .i64 cw], .bool v] x.w (fun e w' => e = .returned (.tuple #[.pointer none, .int .i64 E]) ∧ Below x.w.heap.size x.w w') := fun x => by
        rw [hEE]
        exact open70_bad A0 A1 A2 n0 n1 n2 c0 c1 c2 cw v B D R x.w (HC.out.below (oB.trans (x.h.mono oB.size)) (Nat.le_refl _)) HE.out
      have HOP := Lib.hid hop
      have hda : ∀ x : Aft (w.alloc (.cells #[.slice A0 n0 c0, .slice A1 n1 c1, .slice A2 n2 c2, .int .i64 cw] 26)), Calls Tryd.prog 71 #[.agg #[.slice A0 n0 c0, .slice A1 n1 c1, .slice A2 n2 c2, .int .i64 cw], .int .i64 a] x.w (fun e w' => e = .returned (.bool true) ∧ Below x.w.heap.size x.w w') := fun x => cbB HB.out (isDivider71 _ _ _ _ _ _ _ _ _ _ _ _ hl1)
      have hdb : ∀ x : Aft (w.alloc (.cells #[.slice A0 n0 c0, .slice A1 n1 c1, .slice A2 n2 c2, .int .i64 cw] 26)), Calls Tryd.prog 71 #[.agg #[.slice A0 n0 c0, .slice A1 n1 c1, .slice A2 n2 c2, .int .i64 cw], .int .i64 b] x.w (fun e w' => e = .returned (.bool v) ∧ Below x.w.heap.size x.w w') := fun x => cbB HP.out (isDivider71 _ _ _ _ _ _ _ _ _ _ _ _ hl1)
      have HDA := Lib.hid hda
      have HDB := Lib.hid hdb
      clear hE hEE hop hb hp hda hdb
      go_enter Tryd.func29, Tryd.ntmps29
      go_wp2
      refine wp_region_aft (by kernel_rfl) (by kernel_rfl) ?_; (repeat (go_big_quiet_step ((first | (go_at_call 71; with_reducible exact aft_of (HDA.out _)) | (go_at_call 71; with_reducible exact aft_of (HDB.out _)) | (go_at_call 70; exact aft_of (HOP.out _)))))); refine wpQuiet_nil ?_; rintro w1 ⟨⟨_, hb1⟩, rfl⟩
      go_wp2
      go_ret2
      exact ⟨by rw [hNe.out]; rfl, by (repeat' (first | (with_reducible exact Below.refl _ _) | (with_reducible assumption) | (with_reducible refine Below.drew ?_) | (with_reducible refine below_drewN ?_ _) | (with_reducible refine Below.setCell ?_ ?_ _) | (with_reducible refine Below.alloc ?_ ?_ _) | (refine Below.trans ?_ (Below.mono (by with_reducible assumption) ?_)) | omega | (exact Below.size (by with_reducible assumption)) | (simp; done) | (simp; omega)))⟩

end Go.Proofs.YtibkgnnpmidgfaaDoor
