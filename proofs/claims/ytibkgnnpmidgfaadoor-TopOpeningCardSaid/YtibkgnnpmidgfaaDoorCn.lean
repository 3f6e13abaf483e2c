/- Walks: Length and Opening of the program. -/
import Derived.Test.YtibkgnnpmidgfaaDoorCm
namespace Go.Proofs.YtibkgnnpmidgfaaDoor
open Go.RowKit

/-- The length of the whole coast with an opening; 0: there is none. -/
def lenV (B : List Pt) (o : Int) : Int := o * lowN (mk B o 0 (B.length - 1))
def lngE (cw : Int) (B D : List Pt) (R : List Rep) (o : Int) : Int := if askE cw B D R (btw o 1 60) = 0 then (if lenV B o = 0 then 3 else 0) else askE cw B D R (btw o 1 60)
def lngN (cw : Int) (B D : List Pt) (R : List Rep) (o : Int) : Int := if askE cw B D R (btw o 1 60) = 0 then lenV B o else 0

set_option maxRecDepth 100000 in
set_option maxHeartbeats 4000000 in
theorem length30 (A0 A1 A2 : Option Addr) (n0 n1 n2 c0 c1 c2 : Nat) (cw : Int) (o : Int) (B D : List Pt) (R : List Rep) (w : World) (hC : RdC w A0 A1 A2 n0 n1 n2 B D R) (hT : Tab w) :
    Calls Tryd.prog 30 #[.agg #[.slice A0 n0 c0, .slice A1 n1 c1, .slice A2 n2 c2, .int .i64 cw], .int .i64 o] w fun e w' => e = .returned (.tuple #[.int .i64 (lngN cw B D R o), .int .i64 (lngE cw B D R o)]) ∧ Below w.heap.size w w' := by
  have HC := Lib.hid hC
  have HT := Lib.hid hT
  have HL := Lib.hid hC.h0
  clear hC hT
  have o0 : Own (w.alloc (.cells #[.slice A0 n0 c0, .slice A1 n1 c1, .slice A2 n2 c2, .int .i64 cw] 26)) w.heap.size [.slice A0 n0 c0, .slice A1 n1 c1, .slice A2 n2 c2, .int .i64 cw] := Own.new' _ _ rfl rfl
  have oB : Below w.heap.size w (w.alloc (.cells #[.slice A0 n0 c0, .slice A1 n1 c1, .slice A2 n2 c2, .int .i64 cw] 26)) := by (repeat' (first | (with_reducible exact Below.refl _ _) | (with_reducible assumption) | (with_reducible refine Below.drew ?_) | (with_reducible refine below_drewN ?_ _) | (with_reducible refine Below.setCell ?_ ?_ _) | (with_reducible refine Below.alloc ?_ ?_ _) | (refine Below.trans ?_ (Below.mono (by with_reducible assumption) ?_)) | omega | (exact Below.size (by with_reducible assumption)) | (simp; done) | (simp; omega)))
  have hx0 := Aft.cell o0
  have hask : ∀ (v : Bool) (x : Aft (w.alloc (.cells #[.slice A0 n0 c0, .slice A1 n1 c1, .slice A2 n2 c2, .int .i64 cw] 26))), Calls Tryd.prog 61 #[.agg #[.slice A0 n0 c0, .slice A1 n1 c1, .slice A2 n2 c2, .int .i64 cw], .bool v] x.w (fun e w' => e = .returned (.int .i64 (askE cw B D R v)) ∧ Below x.w.heap.size x.w w') :=
    fun v x => ask61 A0 A1 A2 n0 n1 n2 c0 c1 c2 cw v B D R x.w (HC.out.below (oB.trans (x.h.mono oB.size)) (Nat.le_refl _))
  have HA := Lib.hid hask
  clear hask
  by_cases hE : askE cw B D R (btw o 1 60) = 0
  · obtain ⟨hb, hchk⟩ := ask_zero hE
    have hV := Lib.hid (val_of hchk)
    have hNe : Hid (lngN cw B D R o = lenV B o) := by show _ = _; unfold lngN; rw [if_pos hE]
    have hEe : Hid (lngE cw B D R o = if lenV B o = 0 then 3 else 0) := by show _ = _; unfold lngE; rw [if_pos hE]
    rw [hb] at hE
    have hbo := btw_iff.1 hb
    have hLV : Hid (lenV B o = o * lowN (mk B o 0 (n0 - 1))) := by show _ = _; unfold lenV; rw [HL.out]
    have HE := Lib.hid hE
    have HB := Lib.hid hb
    clear hE hb hchk
    go_enter Tryd.func30, Tryd.ntmps30
    go_wp2
    refine wp_region_aft (by kernel_rfl) (by kernel_rfl) ?_; (repeat (go_big_quiet_step ((first | (go_at_call 64; exact aft_same (cbP HB.out (isOpening64 _ _))) | (go_at_call 61; exact aft_of (ciB HE.out (HA.out _ _))))))); refine wpQuiet_nil ?_; rintro w1 ⟨⟨_, hb1⟩, rfl⟩
    have hB1 : Below w.heap.size w w1 := by (repeat' (first | (with_reducible exact Below.refl _ _) | (with_reducible assumption) | (with_reducible refine Below.drew ?_) | (with_reducible refine below_drewN ?_ _) | (with_reducible refine Below.setCell ?_ ?_ _) | (with_reducible refine Below.alloc ?_ ?_ _) | (refine Below.trans ?_ (Below.mono (by with_reducible assumption) ?_)) | omega | (exact Below.size (by with_reducible assumption)) | (simp; done) | (simp; omega)))
    have r0 := o0.below hb1 o0.lt
    obtain ⟨l1, k1, f1⟩ := r0
    clear hx0 o0 oB hb1
    go_wp2_with fail
    refine (length74 A0 A1 A2 n0 n1 n2 c0 c1 c2 cw B D R o _ (HC.out.below hB1 (Nat.le_refl _)) (HT.out.below hB1 (Nat.le_refl _)) hV hbo).mono ?_
    rw [← hLV.out]
    rintro e w2 ⟨rfl, hb2⟩
    by_cases hz : lenV B o = 0
    · rw [if_pos hz] at hEe
      have hzb : (lenV B o == 0) = true := by simpa using hz
      have hz' := Lib.hid hz
      clear hz
      go_wp2
      go_ret2
      exact ⟨by rw [hEe.out, hNe.out, hz'.out]; rfl, by (repeat' (first | (with_reducible exact Below.refl _ _) | (with_reducible assumption) | (with_reducible refine Below.drew ?_) | (with_reducible refine below_drewN ?_ _) | (with_reducible refine Below.setCell ?_ ?_ _) | (with_reducible refine Below.alloc ?_ ?_ _) | (refine Below.trans ?_ (Below.mono (by with_reducible assumption) ?_)) | omega | (exact Below.size (by with_reducible assumption)) | (simp; done) | (simp; omega)))⟩
    · rw [if_neg hz] at hEe
      have hzb : (lenV B o == 0) = false := by simpa using hz
      have hz' := Lib.hid hz
      clear hz
      go_wp2
      go_ret2
      exact ⟨by rw [hEe.out, hNe.out]; rfl, by (repeat' (first | (with_reducible exact Below.refl _ _) | (with_reducible assumption) | (with_reducible refine Below.drew ?_) | (with_reducible refine below_drewN ?_ _) | (with_reducible refine Below.setCell ?_ ?_ _) | (with_reducible refine Below.alloc ?_ ?_ _) | (refine Below.trans ?_ (Below.mono (by with_reducible assumption) ?_)) | omega | (exact Below.size (by with_reducible assumption)) | (simp; done) | (simp; omega)))⟩
  · have hNe : Hid (lngN cw B D R o = 0) := by show _ = _; unfold lngN; rw [if_neg hE]
    have hEe : Hid (lngE cw B D R o = askE cw B D R (btw o 1 60)) := by show _ = _; unfold lngE; rw [if_neg hE]
    obtain ⟨v, hp⟩ : ∃ v, btw o 1 60 = v := ⟨_, rfl⟩
    rw [hp] at hE hEe
    have HP := Lib.hid hp
    obtain ⟨E, hEE⟩ : ∃ E, E = askE cw B D R v := ⟨_, rfl⟩
    rw [← hEE] at hE hEe
    have hne : (E != 0) = true := by simpa using hE
    have HE : Hid (askE cw B D R v = E) := hEE.symm
    clear hE hEE hp
    go_enter Tryd.func30, Tryd.ntmps30
    go_wp2
    refine wp_region_aft (by kernel_rfl) (by kernel_rfl) ?_; (repeat (go_big_quiet_step ((first | (go_at_call 64; exact aft_same (cbP HP.out (isOpening64 _ _))) | (go_at_call 61; exact aft_of (ciB HE.out (HA.out _ _))))))); refine wpQuiet_nil ?_; rintro w1 ⟨⟨_, hb1⟩, rfl⟩
    go_wp2
    go_ret2
    exact ⟨by rw [hEe.out, hNe.out]; rfl, by (repeat' (first | (with_reducible exact Below.refl _ _) | (with_reducible assumption) | (with_reducible refine Below.drew ?_) | (with_reducible refine below_drewN ?_ _) | (with_reducible refine Below.setCell ?_ ?_ _) | (with_reducible refine Below.alloc ?_ ?_ _) | (refine Below.trans ?_ (Below.mono (by with_reducible assumption) ?_)) | omega | (exact Below.size (by with_reducible assumption)) | (simp; done) | (simp; omega)))⟩

/-- The least opening with which there is a walk with at most so many steps. -/
def opnS (B : List Pt) (f t : Nat) (many : Int) : Option Nat := (List.range 60).find? fun i => btw (lowN (mk B (i + 1 : Nat) f t)) 1 many
def askO (B : List Pt) (f t many : Int) : Bool := plB B.length f t && btw many 1 12
def opnN (cw : Int) (B D : List Pt) (R : List Rep) (f t many : Int) : Int := if askE cw B D R (askO B f t many) = 0 then (match opnS B f.toNat t.toNat many with | some i => (i + 1 : Nat) | none => 0) else 0
def opnE (cw : Int) (B D : List Pt) (R : List Rep) (f t many : Int) : Int := if askE cw B D R (askO B f t many) = 0 then (match opnS B f.toNat t.toNat many with | some _ => 0 | none => 3) else askE cw B D R (askO B f t many)
theorem find_at {p : Nat → Bool} {n k : Nat} (hk : k < n) (h1 : ∀ i, i < k → p i = false) (h2 : p k = true) : (List.range n).find? p = some k := by
  rw [List.find?_eq_some_iff_getElem]
  refine ⟨h2, k, by simpa using hk, by simp, fun j hj => ?_⟩
  simp [h1 j hj]
theorem find_none {p : Nat → Bool} {n : Nat} (h1 : ∀ i, i < n → p i = false) : (List.range n).find? p = none := by
  rw [List.find?_eq_none]
  intro x hx
  rw [h1 x (List.mem_range.1 hx)]; simp

set_option maxRecDepth 100000 in
set_option maxHeartbeats 4000000 in
theorem opening18 (A0 A1 A2 : Option Addr) (n0 n1 n2 c0 c1 c2 : Nat) (cw : Int) (f t many : Int) (B D : List Pt) (R : List Rep) (w : World) (hC : RdC w A0 A1 A2 n0 n1 n2 B D R) (hT : Tab w) (ht1 : -9223372036854775808 ≤ t) (ht2 : t ≤ 9223372036854775807) :
    Calls Tryd.prog 18 #[.agg #[.slice A0 n0 c0, .slice A1 n1 c1, .slice A2 n2 c2, .int .i64 cw], .int .i64 f, .int .i64 t, .int .i64 many] w fun e w' => e = .returned (.tuple #[.int .i64 (opnN cw B D R f t many), .int .i64 (opnE cw B D R f t many)]) ∧ Below w.heap.size w w' := by
  have HC := Lib.hid hC
  have HT := Lib.hid hT
  have HL := Lib.hid hC.h0
  have hn0 := hC.l0
  clear hC hT
  have o0 : Own (w.alloc (.cells #[.slice A0 n0 c0, .slice A1 n1 c1, .slice A2 n2 c2, .int .i64 cw] 26)) w.heap.size [.slice A0 n0 c0, .slice A1 n1 c1, .slice A2 n2 c2, .int .i64 cw] := Own.new' _ _ rfl rfl
  have oB : Below w.heap.size w (w.alloc (.cells #[.slice A0 n0 c0, .slice A1 n1 c1, .slice A2 n2 c2, .int .i64 cw] 26)) := by (repeat' (first | (with_reducible exact Below.refl _ _) | (with_reducible assumption) | (with_reducible refine Below.drew ?_) | (with_reducible refine below_drewN ?_ _) | (with_reducible refine Below.setCell ?_ ?_ _) | (with_reducible refine Below.alloc ?_ ?_ _) | (refine Below.trans ?_ (Below.mono (by with_reducible assumption) ?_)) | omega | (exact Below.size (by with_reducible assumption)) | (simp; done) | (simp; omega)))
  have hx0 := Aft.cell o0
  have hask : ∀ (v : Bool) (x : Aft (w.alloc (.cells #[.slice A0 n0 c0, .slice A1 n1 c1, .slice A2 n2 c2, .int .i64 cw] 26))), Calls Tryd.prog 61 #[.agg #[.slice A0 n0 c0, .slice A1 n1 c1, .slice A2 n2 c2, .int .i64 cw], .bool v] x.w (fun e w' => e = .returned (.int .i64 (askE cw B D R v)) ∧ Below x.w.heap.size x.w w') :=
    fun v x => ask61 A0 A1 A2 n0 n1 n2 c0 c1 c2 cw v B D R x.w (HC.out.below (oB.trans (x.h.mono oB.size)) (Nat.le_refl _))
  have HA := Lib.hid hask
  clear hask
  by_cases hE : askE cw B D R (askO B f t many) = 0
  · obtain ⟨hv, hchk⟩ := ask_zero hE
    have hV := Lib.hid (val_of hchk)
    have hvv := hv
    unfold askO at hvv
    simp only [Bool.and_eq_true] at hvv
    obtain ⟨hp, hb⟩ := hvv
    rw [← HL.out] at hp
    have hbo := btw_iff.1 hb
    obtain ⟨p1, p2, p3⟩ := plB_iff.1 hp
    obtain ⟨f, rfl⟩ := Int.eq_ofNat_of_zero_le p1
    obtain ⟨t, rfl⟩ := Int.eq_ofNat_of_zero_le (show 0 ≤ t by omega)
    have hNe : Hid (opnN cw B D R f t many = match opnS B f t many with | some i => (i + 1 : Nat) | none => 0) := by show _ = _; unfold opnN; rw [if_pos hE]; rfl
    have hEe : Hid (opnE cw B D R f t many = match opnS B f t many with | some _ => 0 | none => 3) := by show _ = _; unfold opnE; rw [if_pos hE]; rfl
    rw [hv] at hE
    have HE := Lib.hid hE
    have HB := Lib.hid hb
    have HP := Lib.hid hp
    have hn : n0 ≤ 12 := by have := hV.out.b2; have := HL.out; omega
    have hft : f < t := by omega
    have htn : t < n0 := by omega
    clear hE hb hp hv hchk p1 p2 p3
    go_enter Tryd.func18, Tryd.ntmps18
    go_wp2
    refine wp_region_aft (by kernel_rfl) (by kernel_rfl) ?_; (repeat (go_big_quiet_step ((first | (go_at_call 63; exact aft_same (cbP HB.out (isSteps63 _ _))) | (go_at_call 62; exact aft_of (cbB HP.out (arePlaces62 _ _ _ _ _ _ _ _ _ _ _ _ _ hn0 ht1 ht2))) | (go_at_call 61; exact aft_of (ciB HE.out (HA.out _ _))))))); refine wpQuiet_nil ?_; rintro w1 ⟨⟨_, hb1⟩, rfl⟩
    have hB1 : Below w.heap.size w w1 := by (repeat' (first | (with_reducible exact Below.refl _ _) | (with_reducible assumption) | (with_reducible refine Below.drew ?_) | (with_reducible refine below_drewN ?_ _) | (with_reducible refine Below.setCell ?_ ?_ _) | (with_reducible refine Below.alloc ?_ ?_ _) | (refine Below.trans ?_ (Below.mono (by with_reducible assumption) ?_)) | omega | (exact Below.size (by with_reducible assumption)) | (simp; done) | (simp; omega)))
    have r0 := o0.below hb1 o0.lt
    clear hx0 o0 oB hb1
    go_wp2_with fail
    go_loopg [11] 60 (fun K y wr => ∃ k : Nat, K + k = 60 ∧ y = .int .i64 (k + 1 : Nat) ∧ Hid (∀ i, i < k → btw (lowN (mk B (i + 1 : Nat) f t)) 1 many = false) ∧ Own wr w.heap.size [.slice A0 n0 c0, .slice A1 n1 c1, .slice A2 n2 c2, .int .i64 cw] ∧ Below w.heap.size w wr)
    case atStart => exact ⟨0, rfl, rfl, fun i h => by omega, r0, hB1⟩
    case round =>
      clear r0 hB1
      obtain ⟨k, hk, rfl, hno, q0, hbw⟩ := hrel
      obtain ⟨q, hq⟩ : ∃ q : Nat, q = k + 1 := ⟨_, rfl⟩
      have HQ := Lib.hid hq
      rw [← hq]
      by_cases hlt : k < 60
      · have hq1 : q ≤ 60 := by omega
        have hq2 : 1 ≤ q := by omega
        have hbt : btw (q : Int) 1 60 = true := by rw [btw_iff]; omega
        have HBT := Lib.hid hbt
        clear hbt hq
        obtain ⟨l1, k1, f1⟩ := q0
        have hm := mk_lt13 B q f t (by omega)
        go_wp2_with fail
        refine (isOpening64 _ _).mono ?_
        rw [HBT.out]
        rintro e _ ⟨rfl, rfl⟩
        go_wp2_with fail
        refine (counts65 A0 A1 A2 n0 n1 n2 c0 c1 c2 cw B D R q f _ (HC.out.below hbw (Nat.le_refl _)) hV.out.pts (by omega) hn (by omega)).mono ?_
        rintro e w2 ⟨b, cap, hge, rfl, ho2, hb2⟩
        have k2 := (ho2.c t).trans (masks_uv B q f n0 t htn)
        have hB2 : Below w.heap.size w w2 := by (repeat' (first | (with_reducible exact Below.refl _ _) | (with_reducible assumption) | (with_reducible refine Below.drew ?_) | (with_reducible refine below_drewN ?_ _) | (with_reducible refine Below.setCell ?_ ?_ _) | (with_reducible refine Below.alloc ?_ ?_ _) | (refine Below.trans ?_ (Below.mono (by with_reducible assumption) ?_)) | omega | (exact Below.size (by with_reducible assumption)) | (simp; done) | (simp; omega)))
        have q2 := (Own.mk l1 k1 f1).below hb2 l1
        clear hb2 ho2 hbw
        go_wp2_with fail
        refine (least66 _ _ hm (HT.out.below hB2 (Nat.le_refl _))).mono ?_
        rintro e _ ⟨rfl, rfl⟩
        go_wp2_with fail
        refine (within67 _ _ _ _).mono ?_
        cases hbb : btw (lowN (mk B q f t)) 1 many
        · have HBB := Lib.hid hbb
          clear hbb
          rintro e _ ⟨rfl, rfl⟩
          go_wp2
          go_roundg (60 - (k + 1))
          case measure => omega
          case rel =>
            refine ⟨k + 1, by omega, by rw [HQ.out]; rfl, fun i hi => ?_, q2, hB2⟩
            by_cases e : i = k
            · subst e; rw [← HQ.out]; exact HBB.out
            · exact hno.out i (by omega)
        · have HF : Hid (opnS B f t many = some k) := find_at hlt hno.out (by rw [← HQ.out]; exact hbb)
          clear hbb
          rintro e _ ⟨rfl, rfl⟩
          go_wp2
          go_ret2
          exact ⟨by rw [hEe.out, hNe.out, HF.out, HQ.out]; rfl, hB2⟩
      · have hq1 : 60 < q := by omega
        have hbt : btw (q : Int) 1 60 = false := by rw [btw_no]; omega
        have HBT := Lib.hid hbt
        have HF : Hid (opnS B f t many = none) := find_none (fun i hi => hno.out i (by omega))
        clear hbt hq
        go_wp2_with fail
        refine (isOpening64 _ _).mono ?_
        rw [HBT.out]
        rintro e _ ⟨rfl, rfl⟩
        go_wp2
        go_ret2
        exact ⟨by rw [hEe.out, hNe.out, HF.out]; rfl, hbw⟩
  · have hNe : Hid (opnN cw B D R f t many = 0) := by show _ = _; unfold opnN; rw [if_neg hE]
    have hEe : Hid (opnE cw B D R f t many = askE cw B D R (askO B f t many)) := by show _ = _; unfold opnE; rw [if_neg hE]
    have hv : Hid (askO B f t many = (plB n0 f t && btw many 1 12)) := by show _ = _; rw [HL.out]; rfl
    rw [hv.out] at hE hEe
    cases hb : plB n0 f t
    · rw [hb, Bool.false_and] at hE hEe
      have HB := Lib.hid hb
      obtain ⟨E, hEE⟩ : ∃ E, E = askE cw B D R false := ⟨_, rfl⟩
      rw [← hEE] at hE hEe
      have hne : (E != 0) = true := by simpa using hE
      have HE : Hid (askE cw B D R false = E) := hEE.symm
      clear hE hb hEE
      go_enter Tryd.func18, Tryd.ntmps18
      go_wp2
      refine wp_region_aft (by kernel_rfl) (by kernel_rfl) ?_; (repeat (go_big_quiet_step ((first | (go_at_call 62; exact aft_of (cbB HB.out (arePlaces62 _ _ _ _ _ _ _ _ _ _ _ _ _ hn0 ht1 ht2))) | (go_at_call 61; exact aft_of (ciB HE.out (HA.out _ _))))))); refine wpQuiet_nil ?_; rintro w1 ⟨⟨_, hb1⟩, rfl⟩
      go_wp2
      go_ret2
      exact ⟨by rw [hEe.out, hNe.out]; rfl, by (repeat' (first | (with_reducible exact Below.refl _ _) | (with_reducible assumption) | (with_reducible refine Below.drew ?_) | (with_reducible refine below_drewN ?_ _) | (with_reducible refine Below.setCell ?_ ?_ _) | (with_reducible refine Below.alloc ?_ ?_ _) | (refine Below.trans ?_ (Below.mono (by with_reducible assumption) ?_)) | omega | (exact Below.size (by with_reducible assumption)) | (simp; done) | (simp; omega)))⟩
    · rw [hb, Bool.true_and] at hE hEe
      have HB := Lib.hid hb
      obtain ⟨v, hp⟩ : ∃ v, btw many 1 12 = v := ⟨_, rfl⟩
      rw [hp] at hE hEe
      have HP := Lib.hid hp
      obtain ⟨E, hEE⟩ : ∃ E, E = askE cw B D R v := ⟨_, rfl⟩
      rw [← hEE] at hE hEe
      have hne : (E != 0) = true := by simpa using hE
      have HE : Hid (askE cw B D R v = E) := hEE.symm
      clear hE hb hEE hp
      go_enter Tryd.func18, Tryd.ntmps18
      go_wp2
      refine wp_region_aft (by kernel_rfl) (by kernel_rfl) ?_; (repeat (go_big_quiet_step ((first | (go_at_call 63; exact aft_same (cbP HP.out (isSteps63 _ _))) | (go_at_call 62; exact aft_of (cbB HB.out (arePlaces62 _ _ _ _ _ _ _ _ _ _ _ _ _ hn0 ht1 ht2))) | (go_at_call 61; exact aft_of (ciB HE.out (HA.out _ _))))))); refine wpQuiet_nil ?_; rintro w1 ⟨⟨_, hb1⟩, rfl⟩
      go_wp2
      go_ret2
      exact ⟨by rw [hEe.out, hNe.out]; rfl, by (repeat' (first | (with_reducible exact Below.refl _ _) | (with_reducible assumption) | (with_reducible refine Below.drew ?_) | (with_reducible refine below_drewN ?_ _) | (with_reducible refine Below.setCell ?_ ?_ _) | (with_reducible refine Below.alloc ?_ ?_ _) | (refine Below.trans ?_ (Below.mono (by with_reducible assumption) ?_)) | omega | (exact Below.size (by with_reducible assumption)) | (simp; done) | (simp; omega)))⟩

end Go.Proofs.YtibkgnnpmidgfaaDoor
