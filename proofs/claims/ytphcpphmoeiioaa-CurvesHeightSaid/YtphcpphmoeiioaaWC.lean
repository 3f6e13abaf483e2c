/- Walks: step: the states at the next place. -/
import Derived.Test.YtphcpphmoeiioaaVU
namespace Go.Proofs.Ytphcpphmoeiioaa
open Go.RowKit Go.Maps

section
variable {sl rl rh : Int} {ks : List Kn} {f : Int → Option Int} {p : Int} {cnt : Bool} {R : Int → Int → Int → Prop} {G : Int → Int → Option (Int × Int)} {l l2 : Int → Int → Bool} {y v : Int}
theorem SR.stepD {h : Int} (H : Fro G (SR sl rl rh ks f p cnt R (fun z u g => (l z u = false ∨ (z = y ∧ u = v ∧ g < h)) ∨ (z = y ∧ u = v ∧ g = h)))) :
    Fro G (SR sl rl rh ks f p cnt R (fun z u g => l z u = false ∨ (z = y ∧ u = v ∧ g < h + 1))) := SR.to H fun z u t x _ _ _ => by generalize l z u = q; cases q <;> simp; omega
theorem SR.begD (H : Fro G (SR sl rl rh ks f p cnt R (fun z u _ => l z u = false))) :
    Fro G (SR sl rl rh ks f p cnt R (fun z u g => l z u = false ∨ (z = y ∧ u = v ∧ g < y - sl))) := SR.to H fun z u t x _ _ _ => by generalize l z u = q; cases q <;> simp; omega
theorem SR.endD (hl : ∀ z u, l2 z u = false ↔ l z u = false ∨ (z = y ∧ u = v)) (H : Fro G (SR sl rl rh ks f p cnt R (fun z u g => l z u = false ∨ (z = y ∧ u = v ∧ g < y + sl + 1)))) :
    Fro G (SR sl rl rh ks f p cnt R (fun z u _ => l2 z u = false)) := SR.to H fun z u t x _ _ _ => by rw [hl]; generalize l z u = q; cases q <;> simp; omega
theorem SR.allD (hR : Bd R) (hl : ∀ x v, (Lit.int .i64 x).wf = true → (Lit.int .i64 v).wf = true → l x v = false) (H : Fro G (SR sl rl rh ks f p cnt R (fun z u _ => l z u = false))) :
    Fro G (NxR sl rl rh ks f p cnt R) := SR.to H fun z u t x k _ _ => ⟨fun _ => trivial, fun _ => hl z u (hR.wf1 k) (hR.wf2 k)⟩
end
theorem Fro.at {F : Int → Int → Option (Int × Int)} {R : Int → Int → Int → Prop} (h : Fro F R) {x v lo hi : Int} (e : F x v = some (lo, hi)) : IsSp (R x v) lo hi := by
  have := h x v; rw [e] at this; exact this
theorem Fro.some {F : Int → Int → Option (Int × Int)} {R : Int → Int → Int → Prop} (h : Fro F R) {x v s : Int} (k : R x v s) : ∃ lo hi, F x v = some (lo, hi) := by
  have := h x v
  cases e : F x v with
  | none => rw [e] at this; exact absurd k (this s)
  | some p => exact ⟨p.1, p.2, rfl⟩
theorem SR.start' {sl rl rh : Int} {ks : List Kn} {f : Int → Option Int} {p : Int} {cnt : Bool} {R : Int → Int → Int → Prop} {F : Int → Int → Option (Int × Int)} (h : Fro F R) : Fro (fun _ _ => none) (SR sl rl rh ks f p cnt R (fun z u _ => (F z u).isSome = false)) :=
  fro_none fun x w s ⟨y, v, t, h1, h2, _⟩ => by
    obtain ⟨lo, hi, e⟩ := h.some h2
    dsimp only at h1; rw [e] at h1; cases h1
theorem left_next {left : Int → Int → Bool} {x v : Int} (z u : Int) : (left z u && (!decide (z = x) || !decide (u = v))) = false ↔ left z u = false ∨ (z = x ∧ u = v) := by
  cases h : left z u <;> by_cases e1 : z = x <;> by_cases e2 : u = v <;> simp [e1, e2]
theorem wp_gen {P : Program} {c : Code} {Q : Exit → Act → World → Prop} {a : Act} {w : World} (h : ∀ W, W = w → c.wp P Q a W) : c.wp P Q a w := h w rfl
set_option maxRecDepth 100000 in
set_option maxHeartbeats 8000000 in
theorem step83s (L sl rl rh wg : Int) (A : Option Addr) (n cap : Nat) (ks : List Kn) (fv : Value) (f : Int → Option Int) (p : Int) (cnt : Bool) (b : Nat) (F : Int → Int → Option (Int × Int)) (R : Int → Int → Int → Prop) (w : World) (hA : Rd 3 w A (ks.map krow)) (hn : Hid (n = ks.length)) (hk : Hid (ks.length ≤ 8)) (hf : FixM w fv f) (hp : (Lit.int .i64 p).wf = true)
    (hm : MapF w b 1809 F) (hfr : Hid (Fro F R)) (hR : Hid (Bd R)) (h1 : -100 ≤ rl) (h0 : rl ≤ rh) (h2 : rh ≤ 100) (h3 : 0 ≤ sl) (h4 : sl ≤ 20) :
    Calls Try.prog 83 #[.agg #[.int .i64 L, .int .i64 sl, .int .i64 rl, .int .i64 rh, .slice A n cap, .int .i64 wg, fv], .map (some b), .int .i64 p, .bool cnt] w fun e w' => ∃ b' G, e = .returned (.map (some b')) ∧ w.heap.size ≤ b' ∧ MapF w' b' 1809 G ∧ Hid (Fro G (NxR sl rl rh ks f p cnt R)) ∧ Below w.heap.size w w' := by
  have HA := Lib.hid hA
  have HF := Lib.hid hf
  have hlen : n ≤ 9223372036854775807 := by have := hn.out; have := hk.out; omega
  have hbl := hm.lt
  have HM := Lib.hid hm
  clear hA hf hm
  have hmm := @run_makeMap Try.prog
  go_enter Try.func83, Try.ntmps83
  go_wp2_with (first | (at_range; go_must (refine wp_rangeF _ rfl _ _ rfl Try.underlying92 b 1809 F rfl (HM.out.below (B := w.heap.size) (by (repeat' (first | (with_reducible exact Below.refl _ _) | (with_reducible assumption) | (with_reducible refine Below.drew ?_) | (with_reducible refine below_drewN ?_ _) | (with_reducible refine Below.setCell ?_ ?_ _) | (with_reducible refine Below.alloc ?_ ?_ _) | (refine Below.trans ?_ (Below.mono (by with_reducible assumption) ?_)) | omega | (exact Below.size (by with_reducible assumption)) | (simp; done) | (simp; omega)))) hbl) ?_); intro w1 cn hr1 hb1 hz1 hcn; simp only [World.size_alloc] at hr1 hz1 ⊢))
  go_frame
  go_loopg [] cn (fun K w5 => ∃ (left : Int → Int → Bool) (G : Int → Int → Option (Int × Int)), RngF w5 b (w.heap.size + 1 + 1) 1809 F left K ∧ MapF w5 (w.heap.size + 1) 1809 G ∧ Hid (Fro G (SR sl rl rh ks f p cnt R (fun z u _ => left z u = false))) ∧ Own w5 w.heap.size [.int .i64 L, .int .i64 sl, .int .i64 rl, .int .i64 rh, .slice A n cap, .int .i64 wg, fv] ∧ Below w.heap.size w w5)
  case atStart =>
    have hb0 : Below w.heap.size w w1 := by (repeat' (first | (with_reducible exact Below.refl _ _) | (with_reducible assumption) | (with_reducible refine Below.drew ?_) | (with_reducible refine below_drewN ?_ _) | (with_reducible refine Below.setCell ?_ ?_ _) | (with_reducible refine Below.alloc ?_ ?_ _) | (refine Below.trans ?_ (Below.mono (by with_reducible assumption) ?_)) | omega | (exact Below.size (by with_reducible assumption)) | (simp; done) | (simp; omega)))
    exact ⟨_, _, by simpa using hr1, by simpa using ((MapF.made _).mono (by omega)).below hb1 (by simp), SR.start' hfr.out, (Own.new' _ _ rfl rfl).alloc _ |>.below hb1 (by simp; omega), hb0⟩
  case round =>
    clear hr1 hb1 hz1
    obtain ⟨left, G, hrg, hm, hG, hown, hbw⟩ := hrel
    obtain ⟨l0, k0, f0⟩ := hown
    have hown := Own.mk l0 k0 f0
    go_wp2_with (at_next; refine wp_nextF _ rfl _ rfl b _ 1809 F left _ rfl hrg ?_ ?_)
    · intro hc0 hl0
      go_wp2
      go_ret
      exact ⟨_, G, rfl, by omega, hm, SR.allD hR.out hl0 hG.out, hbw⟩
    · intro x u lo hi w1 cnt1 hwx hwu hlx hfx hrg1 hlt hg1 hs1 hen
      obtain ⟨l2, hl2⟩ : ∃ l2 : Int → Int → Bool, l2 = (fun z y => left z y && (!decide (z = x) || !decide (y = u))) := ⟨_, rfl⟩
      rw [← hl2] at hrg1
      have hL2 : Hid (∀ z y, l2 z y = false ↔ left z y = false ∨ (z = x ∧ y = u)) := fun z y => by rw [hl2]; exact left_next z y
      clear hl2
      have hsp := Lib.hid (hfr.out.at hfx)
      have hbx := hR.out _ _ _ hsp.out.1
      have hbx' := hR.out _ _ _ hsp.out.2.1
      have hb1 : Below w.heap.size w w1 := hbw.grown hg1 hbw.size (fun k e => by cases e; omega)
      have hown1 := Own.grown hown hg1 (fun e => by injection e; omega)
      have hm1 := hm.kept hg1 (fun e => by injection e; omega)
      clear hfx hlx hrg hown l0 k0 f0 hm hbw hg1 hs1
      obtain ⟨l0, k0, f0⟩ := hown1
      have hown1 := Own.mk l0 k0 f0
      go_wp2
      go_loopg [12] ((x + sl + 1 - (x - sl)).toNat) (fun K y w5 => ∃ (h : Int) (G : Int → Int → Option (Int × Int)), y = .int .i64 h ∧ K = (x + sl + 1 - h).toNat ∧ x - sl ≤ h ∧ h ≤ x + sl + 1 ∧ RngF w5 b (w.heap.size + 1 + 1) 1809 F l2 cnt1 ∧ MapF w5 (w.heap.size + 1) 1809 G ∧ Hid (Fro G (SR sl rl rh ks f p cnt R (fun z q g => left z q = false ∨ (z = x ∧ q = u ∧ g < h)))) ∧ Own w5 w.heap.size [.int .i64 L, .int .i64 sl, .int .i64 rl, .int .i64 rh, .slice A n cap, .int .i64 wg, fv] ∧ Own w5 w1.heap.size [.int .i64 x, .int .i64 u] ∧ Own w5 (w1.heap.size + 1) [.int .i64 lo, .int .i64 hi] ∧ Below w.heap.size w w5)
      case atStart =>
        refine ⟨x - sl, G, rfl, rfl, by omega, by omega, (hrg1.kept (World.grownBy_alloc _ _ none) (by simp) (by simp)).kept (World.grownBy_alloc _ _ none) (by simp) (by simp), (hm1.kept (World.grownBy_alloc _ _ none) (by simp)).kept (World.grownBy_alloc _ _ none) (by simp), SR.begD hG.out, (hown1.alloc _).alloc _, (Own.new' _ _ rfl rfl).alloc _, Own.new' _ _ (by simp) rfl, by (repeat' (first | (with_reducible exact Below.refl _ _) | (with_reducible assumption) | (with_reducible refine Below.drew ?_) | (with_reducible refine below_drewN ?_ _) | (with_reducible refine Below.setCell ?_ ?_ _) | (with_reducible refine Below.alloc ?_ ?_ _) | (refine Below.trans ?_ (Below.mono (by with_reducible assumption) ?_)) | omega | (exact Below.size (by with_reducible assumption)) | (simp; done) | (simp; omega)))⟩
      case round =>
        have hz1 := hrg1.lt
        clear hrg1 hm1 hown1 l0 k0 f0 hb1
        clear hG
        obtain ⟨h, G, rfl, rfl, hh1, hh2, hrg, hm, hG, hown, hox, hos, hbw⟩ := hrel
        obtain ⟨l0, k0, f0⟩ := hown
        obtain ⟨l1, k1, f1⟩ := hox
        obtain ⟨l2', k2, f2⟩ := hos
        have hown := Lib.hid (Own.mk l0 k0 f0)
        have hox := Lib.hid (Own.mk l1 k1 f1)
        have hos := Lib.hid (Own.mk l2' k2 f2)
        have HR := Lib.hid hrg
        have HM := Lib.hid hm
        have HB := Lib.hid hbw
        have hml := hm.lt
        have hrl := hrg.lt
        have hsz := hbw.size
        clear hrg hm hbw
        by_cases hlt : h ≤ x + sl
        · cases ha : alB rl rh f p h
          · have HA1 := Lib.hid ha
            clear ha
            go_wp2_with fail
            refine (allows87 _ _ _ _ _ _ _ f _ _ _ (HF.out.below HB.out (Nat.le_refl _)) hp).mono ?_
            rw [HA1.out]
            rintro e w3 ⟨rfl, hb3⟩
            go_wp2
            go_roundg ((x + sl + 1 - (h + 1)).toNat)
            case measure => omega
            case rel => exact ⟨h + 1, G, by go_num, rfl, by omega, by omega, HR.out.below hb3 (by omega) hrl, HM.out.below hb3 hml, SR.stepD (SR.skip hG.out (Or.inl HA1.out)), hown.out.below hb3 l0, hox.out.below hb3 l1, hos.out.below hb3 l2', HB.out.trans (hb3.mono hsz)⟩
          · have HA1 := Lib.hid ha
            have hbt : btw h rl rh = true := by
              unfold alB at ha; rw [Bool.and_eq_true] at ha; exact ha.1
            have hbt' := btw_iff.1 hbt
            have hwh : (Lit.int .i64 h).wf = true := Go.WalkArith.wf_i64 (by omega)
            clear ha hbt
            have hwu' := hsp
            have hcB := wrs_le ks p h
            have hk8 := hk.out
            cases hc : cnt
            · subst hc
              go_wp2_with fail
              refine (allows87 _ _ _ _ _ _ _ f _ _ _ (HF.out.below HB.out (Nat.le_refl _)) hp).mono ?_
              rw [HA1.out]
              rintro e w3 ⟨rfl, hb3⟩
              have hz3 := hb3.size
              have o0 := Lib.hid (hown.out.below hb3 l0)
              have o1 := Lib.hid (hox.out.below hb3 l1)
              have o2 := Lib.hid (hos.out.below hb3 l2')
              obtain ⟨m0, c0, g0⟩ := o0.out
              obtain ⟨m1, c1, g1⟩ := o1.out
              obtain ⟨m2, c2, g2⟩ := o2.out
              go_wp2
              refine wp_gen fun W hW => ?_
              have hB5 : Below wr.heap.size wr W := by rw [hW]; (repeat' (first | (with_reducible exact Below.refl _ _) | (with_reducible assumption) | (with_reducible refine Below.drew ?_) | (with_reducible refine below_drewN ?_ _) | (with_reducible refine Below.setCell ?_ ?_ _) | (with_reducible refine Below.alloc ?_ ?_ _) | (refine Below.trans ?_ (Below.mono (by with_reducible assumption) ?_)) | omega | (exact Below.size (by with_reducible assumption)) | (simp; done) | (simp; omega)))
              have hx0 := Aft.cell (W := W) (hown.out.below hB5 l0)
              have hx1 := Aft.cell (W := W) (hox.out.below hB5 l1)
              have hcall : ∀ x5 : Aft W, Calls Try.prog 89 #[.agg #[.int .i64 L, .int .i64 sl, .int .i64 rl, .int .i64 rh, .slice A n cap, .int .i64 wg, fv], .int .i64 p, .int .i64 h] x5.w fun e w' => e = .returned (.int .i64 (wrs ks p h : Nat)) ∧ Below x5.w.heap.size x5.w w' := fun x5 =>
                wrongs89 (ks := ks) _ _ _ _ _ _ _ _ _ _ _ _ (HA.out.below ((HB.out.trans (hB5.mono hsz)).trans (x5.h.mono (by have := hB5.size; omega))) (Nat.le_refl _)) hn hlen
              have hsum : IntKind.i64.wrap (u + (wrs ks p h : Nat)) = u + (wrs ks p h : Nat) := IntWalk.i64_in _ (by omega)
              have o4 : Own W w3.heap.size [.int .i64 lo, .int .i64 hi] := by rw [hW]; exact Own.new' _ _ rfl rfl
              have hB6 : Below wr.heap.size wr W := hB5
              clear hW m0 c0 g0 m1 c1 g1 m2 c2 g2
              refine wp_region_aft (by kernel_rfl) (by kernel_rfl) ?_; (repeat (go_big_quiet_step ((go_at_call 89; exact aft_of (hcall _))))); refine wpQuiet_nil ?_; rintro w5 ⟨⟨_, hb5⟩, rfl⟩
              have hB7 : Below wr.heap.size wr w5 := hB5.trans (hb5.mono hB5.size)
              have hz5 := hb5.size
              have hzW := hB5.size
              have o5 := o4.below hb5 o4.lt
              obtain ⟨m2, c2, g2⟩ := o5
              clear hx0 hx1 hcall
              by_cases hq : u + wrs ks p h ≤ 8
              · go_wp2_with fail
                refine (put88 _ _ G _ _ _ _ _ (HM.out.below hB7 hml) (by omega) hwh (Go.WalkArith.wf_i64 (by omega))).mono ?_
                rintro e w6 ⟨rfl, hm6, hg6⟩
                have hp6 := SR.stepD (SR.put hG.out (x := h) hsp.out ⟨hh1, hlt⟩ HA1.out hq)
                simp only [Bool.false_eq_true, if_false, Int.add_zero] at hp6
                go_wp2
                go_roundg ((x + sl + 1 - (h + 1)).toNat)
                case measure => omega
                case rel => exact ⟨h + 1, _, by go_num, rfl, by omega, by omega, (HR.out.below hB7 (by omega) hrl).kept hg6 (fun e => by injection e; omega) (fun e => by injection e; omega), hm6.tight (SR.sup h1 h2 hR.out hp6), hp6, (hown.out.below hB7 l0).grown hg6 (fun e => by injection e; omega), (hox.out.below hB7 l1).grown hg6 (fun e => by injection e; omega), (hos.out.below hB7 l2').grown hg6 (fun e => by injection e; omega), (HB.out.trans (hB7.mono hsz)).grown hg6 (by omega) (fun k e => by cases e; omega)⟩
              · go_wp2
                go_roundg ((x + sl + 1 - (h + 1)).toNat)
                case measure => omega
                case rel => exact ⟨h + 1, G, by go_num, rfl, by omega, by omega, HR.out.below hB7 (by omega) hrl, HM.out.below hB7 hml, SR.stepD (SR.skip hG.out (Or.inr (by omega))), hown.out.below hB7 l0, hox.out.below hB7 l1, hos.out.below hB7 l2', HB.out.trans (hB7.mono hsz)⟩
            · subst hc
              go_wp2_with fail
              refine (allows87 _ _ _ _ _ _ _ f _ _ _ (HF.out.below HB.out (Nat.le_refl _)) hp).mono ?_
              rw [HA1.out]
              rintro e w3 ⟨rfl, hb3⟩
              have hz3 := hb3.size
              have o0 := Lib.hid (hown.out.below hb3 l0)
              have o1 := Lib.hid (hox.out.below hb3 l1)
              have o2 := Lib.hid (hos.out.below hb3 l2')
              obtain ⟨m0, c0, g0⟩ := o0.out
              obtain ⟨m1, c1, g1⟩ := o1.out
              obtain ⟨m2, c2, g2⟩ := o2.out
              go_wp2_with fail
              refine (more90 lo hi (x + h) _ (by omega) (by omega) (by omega)).mono ?_
              rintro e w4 ⟨rfl, hb4⟩
              have hz4 := hb4.size
              simp only [World.size_alloc] at hz4
              have p0 := Lib.hid ((o0.out.alloc _).below hb4 (by simp; omega))
              have p1 := Lib.hid ((o1.out.alloc _).below hb4 (by simp; omega))
              have p2 : Own w4 w3.heap.size [.int .i64 lo, .int .i64 hi] := (Own.new' _ _ rfl rfl).below hb4 (by simp)
              have hB4 : Below wr.heap.size wr w4 := by (repeat' (first | (with_reducible exact Below.refl _ _) | (with_reducible assumption) | (with_reducible refine Below.drew ?_) | (with_reducible refine below_drewN ?_ _) | (with_reducible refine Below.setCell ?_ ?_ _) | (with_reducible refine Below.alloc ?_ ?_ _) | (refine Below.trans ?_ (Below.mono (by with_reducible assumption) ?_)) | omega | (exact Below.size (by with_reducible assumption)) | (simp; done) | (simp; omega)))
              clear m0 c0 g0 m1 c1 g1 m2 c2 g2
              obtain ⟨m0, c0, g0⟩ := p0.out
              obtain ⟨m1, c1, g1⟩ := p1.out
              have p2h := Lib.hid p2
              obtain ⟨m2, c2, g2⟩ := p2h.out
              go_wp2
              refine wp_gen fun W hW => ?_
              have hB5 : Below wr.heap.size wr W := by rw [hW]; (repeat' (first | (with_reducible exact Below.refl _ _) | (with_reducible assumption) | (with_reducible refine Below.drew ?_) | (with_reducible refine below_drewN ?_ _) | (with_reducible refine Below.setCell ?_ ?_ _) | (with_reducible refine Below.alloc ?_ ?_ _) | (refine Below.trans ?_ (Below.mono (by with_reducible assumption) ?_)) | omega | (exact Below.size (by with_reducible assumption)) | (simp; done) | (simp; omega)))
              have hx0 := Aft.cell (W := W) (hown.out.below hB5 l0)
              have hx1 := Aft.cell (W := W) (hox.out.below hB5 l1)
              have hcall : ∀ x5 : Aft W, Calls Try.prog 89 #[.agg #[.int .i64 L, .int .i64 sl, .int .i64 rl, .int .i64 rh, .slice A n cap, .int .i64 wg, fv], .int .i64 p, .int .i64 h] x5.w fun e w' => e = .returned (.int .i64 (wrs ks p h : Nat)) ∧ Below x5.w.heap.size x5.w w' := fun x5 =>
                wrongs89 (ks := ks) _ _ _ _ _ _ _ _ _ _ _ _ (HA.out.below ((HB.out.trans (hB5.mono hsz)).trans (x5.h.mono (by have := hB5.size; omega))) (Nat.le_refl _)) hn hlen
              have hsum : IntKind.i64.wrap (u + (wrs ks p h : Nat)) = u + (wrs ks p h : Nat) := IntWalk.i64_in _ (by omega)
              have o4 : Own W w3.heap.size [.int .i64 (lo + (x + h)), .int .i64 (hi + (x + h))] := by rw [hW]; exact (p2h.out.set 0 (by simp) _).set 1 (by simp) _
              have hB6 : Below wr.heap.size wr W := hB5
              clear hW m0 c0 g0 m1 c1 g1 m2 c2 g2
              refine wp_region_aft (by kernel_rfl) (by kernel_rfl) ?_; (repeat (go_big_quiet_step ((go_at_call 89; exact aft_of (hcall _))))); refine wpQuiet_nil ?_; rintro w5 ⟨⟨_, hb5⟩, rfl⟩
              have hB7 : Below wr.heap.size wr w5 := hB5.trans (hb5.mono hB5.size)
              have hz5 := hb5.size
              have hzW := hB5.size
              have o5 := o4.below hb5 o4.lt
              obtain ⟨m2, c2, g2⟩ := o5
              clear hx0 hx1 hcall
              by_cases hq : u + wrs ks p h ≤ 8
              · go_wp2_with fail
                refine (put88 _ _ G _ _ _ _ _ (HM.out.below hB7 hml) (by omega) hwh (Go.WalkArith.wf_i64 (by omega))).mono ?_
                rintro e w6 ⟨rfl, hm6, hg6⟩
                have hp6 := SR.stepD (SR.put hG.out (x := h) hsp.out ⟨hh1, hlt⟩ HA1.out hq)
                simp only [if_true] at hp6
                go_wp2
                go_roundg ((x + sl + 1 - (h + 1)).toNat)
                case measure => omega
                case rel => exact ⟨h + 1, _, by go_num, rfl, by omega, by omega, (HR.out.below hB7 (by omega) hrl).kept hg6 (fun e => by injection e; omega) (fun e => by injection e; omega), hm6.tight (SR.sup h1 h2 hR.out hp6), hp6, (hown.out.below hB7 l0).grown hg6 (fun e => by injection e; omega), (hox.out.below hB7 l1).grown hg6 (fun e => by injection e; omega), (hos.out.below hB7 l2').grown hg6 (fun e => by injection e; omega), (HB.out.trans (hB7.mono hsz)).grown hg6 (by omega) (fun k e => by cases e; omega)⟩
              · go_wp2
                go_roundg ((x + sl + 1 - (h + 1)).toNat)
                case measure => omega
                case rel => exact ⟨h + 1, G, by go_num, rfl, by omega, by omega, HR.out.below hB7 (by omega) hrl, HM.out.below hB7 hml, SR.stepD (SR.skip hG.out (Or.inr (by omega))), hown.out.below hB7 l0, hox.out.below hB7 l1, hos.out.below hB7 l2', HB.out.trans (hB7.mono hsz)⟩
        · obtain rfl : h = x + sl + 1 := by omega
          go_wp2
          go_roundg cnt1
          case measure => omega
          case rel => exact ⟨l2, G, HR.out, HM.out, SR.endD hL2.out hG.out, hown.out, HB.out⟩
theorem step83 (L sl rl rh wg : Int) (A : Option Addr) (n cap : Nat) (ks : List Kn) (fv : Value) (f : Int → Option Int) (p : Int) (cnt : Bool) (b : Nat) (F : Int → Int → Option (Int × Int)) (R : Int → Int → Int → Prop) (w : World) (hA : Rd 3 w A (ks.map krow)) (hn : Hid (n = ks.length)) (hk : Hid (ks.length ≤ 8)) (hf : FixM w fv f) (hp : (Lit.int .i64 p).wf = true)
    (hm : MapF w b 1809 F) (hfr : Hid (Fro F R)) (hR : Hid (Bd R)) (h1 : -100 ≤ rl) (h0 : rl ≤ rh) (h2 : rh ≤ 100) (h3 : 0 ≤ sl) (h4 : sl ≤ 20) :
    Calls Try.prog 83 #[.agg #[.int .i64 L, .int .i64 sl, .int .i64 rl, .int .i64 rh, .slice A n cap, .int .i64 wg, fv], .map (some b), .int .i64 p, .bool cnt] w fun e w' => ∃ b' G, e = .returned (.map (some b')) ∧ MapF w' b' 1809 G ∧ Hid (Fro G (NxR sl rl rh ks f p cnt R)) ∧ Below w.heap.size w w' :=
  (step83s L sl rl rh wg A n cap ks fv f p cnt b F R w hA hn hk hf hp hm hfr hR h1 h0 h2 h3 h4).mono fun _ _ ⟨b, F, k1, _, k2⟩ => ⟨b, F, k1, k2⟩
end Go.Proofs.Ytphcpphmoeiioaa
