/- ArmsGlances: Settings has a number of steps just if its main mark is that of each glance and Seen of it has the line of each; the order does not matter; one more glance adds none, a greater Slack takes none away. No condition: every input. -/
import Derived.Test.YtfboiplpfkommaaRows
import Derived.Test.YtfboiplpfkommaaFrame
import Derived.Test.YtfboiplpfkommaaGl
import Derived.Test.YtfboiplpfkommaaSg
import Derived.Test.YtfboiplpfkommaaSh
namespace Go.Proofs.Ytfboiplpfkommaa
open Go.ChangeShapes Go.WideShapes Go.ChangeAt Go.RowKit

set_option maxRecDepth 100000 in
set_option maxHeartbeats 4000000 in
theorem glances12 (P S : Int) (A : Option Addr) (n cap : Nat) (gs : List Gl) (gm gl st : Int) (w : World) (hA : RdG w A gs) (hn : n = gs.length) (hm : n ≤ maxLen) :
    Calls Try.prog 12 #[.agg #[.int .i64 P, .int .i64 S], .slice A n cap, .agg #[.int .i64 gm, .int .i64 gl, .int .i64 st]] w fun e w' => e = .returned (.bool true) ∧ Below w.heap.size w w' := by
  cases h1 : verB P S
  · have H1 := Lib.hid h1
    clear h1 hA
    go_enter Try.func12, Try.ntmps12
    go_wp2_with fail
    refine (isVernier47 _ _ _).mono ?_
    rw [H1.out]
    rintro e w1 ⟨rfl, hb1⟩
    (have hz1 := hb1.size; (try simp at hz1); have hc1_0 := fun o => (bcell hb1).1 (w.heap.size) o (by first | omega | (simp; done) | (simp; omega)); have hf1_0 := fun o => (bcell hb1).2 (w.heap.size) o (by first | omega | (simp; done) | (simp; omega)); have : w.heap.size < w1.heap.size := (by first | omega | (simp; done) | (simp; omega)); have : w.heap.size < w1.heap.size + 1 := (by first | omega | (simp; done) | (simp; omega)); have : w.heap.size < w1.heap.size + 2 := (by first | omega | (simp; done) | (simp; omega)); have : w.heap.size < w1.heap.size + 3 := (by first | omega | (simp; done) | (simp; omega)); have hc1_1 := fun o => (bcell hb1).1 (w.heap.size + 1) o (by first | omega | (simp; done) | (simp; omega)); have hf1_1 := fun o => (bcell hb1).2 (w.heap.size + 1) o (by first | omega | (simp; done) | (simp; omega)); have : w.heap.size + 1 < w1.heap.size := (by first | omega | (simp; done) | (simp; omega)); have : w.heap.size + 1 < w1.heap.size + 1 := (by first | omega | (simp; done) | (simp; omega)); have : w.heap.size + 1 < w1.heap.size + 2 := (by first | omega | (simp; done) | (simp; omega)); have : w.heap.size + 1 < w1.heap.size + 3 := (by first | omega | (simp; done) | (simp; omega)))
    go_wp2_with fail
    refine (works13 _).mono ?_
    rintro e w2 ⟨rfl, hb2⟩
    (have hz2 := hb2.size; (try simp at hz2))
    go_wp2
    go_ret
    exact ⟨rfl, by (repeat' (first | (with_reducible exact Below.refl _ _) | (with_reducible assumption) | (with_reducible refine Below.drew ?_) | (with_reducible refine below_drewN ?_ _) | (with_reducible refine Below.setCell ?_ ?_ _) | (with_reducible refine Below.alloc ?_ ?_ _) | (refine Below.trans ?_ (Below.mono (by with_reducible assumption) ?_)) | omega | (exact Below.size (by with_reducible assumption)) | (simp; done) | (simp; omega)))⟩
  · have hP := verB_iff.1 h1
    unfold maxLen at hm
    have HA := Lib.hid hA
    have HN := Lib.hid hn
    cases h2 : glB P gs
    · have H1 := Lib.hid h1
      have H2 := Lib.hid h2
      clear h1 h2 hA hn
      go_enter Try.func12, Try.ntmps12
      go_wp2_with fail
      refine (isVernier47 _ _ _).mono ?_
      rw [H1.out]
      rintro e w1 ⟨rfl, hb1⟩
      (have hz1 := hb1.size; (try simp at hz1); have hc1_0 := fun o => (bcell hb1).1 (w.heap.size) o (by first | omega | (simp; done) | (simp; omega)); have hf1_0 := fun o => (bcell hb1).2 (w.heap.size) o (by first | omega | (simp; done) | (simp; omega)); have : w.heap.size < w1.heap.size := (by first | omega | (simp; done) | (simp; omega)); have : w.heap.size < w1.heap.size + 1 := (by first | omega | (simp; done) | (simp; omega)); have : w.heap.size < w1.heap.size + 2 := (by first | omega | (simp; done) | (simp; omega)); have : w.heap.size < w1.heap.size + 3 := (by first | omega | (simp; done) | (simp; omega)); have hc1_1 := fun o => (bcell hb1).1 (w.heap.size + 1) o (by first | omega | (simp; done) | (simp; omega)); have hf1_1 := fun o => (bcell hb1).2 (w.heap.size + 1) o (by first | omega | (simp; done) | (simp; omega)); have : w.heap.size + 1 < w1.heap.size := (by first | omega | (simp; done) | (simp; omega)); have : w.heap.size + 1 < w1.heap.size + 1 := (by first | omega | (simp; done) | (simp; omega)); have : w.heap.size + 1 < w1.heap.size + 2 := (by first | omega | (simp; done) | (simp; omega)); have : w.heap.size + 1 < w1.heap.size + 3 := (by first | omega | (simp; done) | (simp; omega)))
      have b1 : Below w.heap.size w w1 := by (repeat' (first | (with_reducible exact Below.refl _ _) | (with_reducible assumption) | (with_reducible refine Below.drew ?_) | (with_reducible refine below_drewN ?_ _) | (with_reducible refine Below.setCell ?_ ?_ _) | (with_reducible refine Below.alloc ?_ ?_ _) | (refine Below.trans ?_ (Below.mono (by with_reducible assumption) ?_)) | omega | (exact Below.size (by with_reducible assumption)) | (simp; done) | (simp; omega)))
      go_wp2_with fail
      refine (areGlances48 A gs n cap _ _ _ (HA.out.below b1 (Nat.le_refl _)) HN (by omega) hP.1.1 hP.1.2).mono ?_
      rw [H2.out]
      rintro e w2 ⟨rfl, hb2⟩
      (have hz2 := hb2.size; (try simp at hz2))
      go_wp2_with fail
      refine (works13 _).mono ?_
      rintro e w3 ⟨rfl, hb3⟩
      (have hz3 := hb3.size; (try simp at hz3))
      go_wp2
      go_ret
      exact ⟨rfl, by (repeat' (first | (with_reducible exact Below.refl _ _) | (with_reducible assumption) | (with_reducible refine Below.drew ?_) | (with_reducible refine below_drewN ?_ _) | (with_reducible refine Below.setCell ?_ ?_ _) | (with_reducible refine Below.alloc ?_ ?_ _) | (refine Below.trans ?_ (Below.mono (by with_reducible assumption) ?_)) | omega | (exact Below.size (by with_reducible assumption)) | (simp; done) | (simp; omega)))⟩
    · cases h3 : btw st 0 10000
      · have H1 := Lib.hid h1
        have H2 := Lib.hid h2
        have H3 := Lib.hid h3
        clear h1 h2 h3 hA hn
        go_enter Try.func12, Try.ntmps12
        go_wp2_with fail
        refine (isVernier47 _ _ _).mono ?_
        rw [H1.out]
        rintro e w1 ⟨rfl, hb1⟩
        (have hz1 := hb1.size; (try simp at hz1); have hc1_0 := fun o => (bcell hb1).1 (w.heap.size) o (by first | omega | (simp; done) | (simp; omega)); have hf1_0 := fun o => (bcell hb1).2 (w.heap.size) o (by first | omega | (simp; done) | (simp; omega)); have : w.heap.size < w1.heap.size := (by first | omega | (simp; done) | (simp; omega)); have : w.heap.size < w1.heap.size + 1 := (by first | omega | (simp; done) | (simp; omega)); have : w.heap.size < w1.heap.size + 2 := (by first | omega | (simp; done) | (simp; omega)); have : w.heap.size < w1.heap.size + 3 := (by first | omega | (simp; done) | (simp; omega)); have hc1_1 := fun o => (bcell hb1).1 (w.heap.size + 1) o (by first | omega | (simp; done) | (simp; omega)); have hf1_1 := fun o => (bcell hb1).2 (w.heap.size + 1) o (by first | omega | (simp; done) | (simp; omega)); have : w.heap.size + 1 < w1.heap.size := (by first | omega | (simp; done) | (simp; omega)); have : w.heap.size + 1 < w1.heap.size + 1 := (by first | omega | (simp; done) | (simp; omega)); have : w.heap.size + 1 < w1.heap.size + 2 := (by first | omega | (simp; done) | (simp; omega)); have : w.heap.size + 1 < w1.heap.size + 3 := (by first | omega | (simp; done) | (simp; omega)))
        have b1 : Below w.heap.size w w1 := by (repeat' (first | (with_reducible exact Below.refl _ _) | (with_reducible assumption) | (with_reducible refine Below.drew ?_) | (with_reducible refine below_drewN ?_ _) | (with_reducible refine Below.setCell ?_ ?_ _) | (with_reducible refine Below.alloc ?_ ?_ _) | (refine Below.trans ?_ (Below.mono (by with_reducible assumption) ?_)) | omega | (exact Below.size (by with_reducible assumption)) | (simp; done) | (simp; omega)))
        go_wp2_with fail
        refine (areGlances48 A gs n cap _ _ _ (HA.out.below b1 (Nat.le_refl _)) HN (by omega) hP.1.1 hP.1.2).mono ?_
        rw [H2.out]
        rintro e w2 ⟨rfl, hb2⟩
        (have hz2 := hb2.size; (try simp at hz2); have hc2_0 := fun o => (bcell hb2).1 (w.heap.size) o (by first | omega | (simp; done) | (simp; omega)); have hf2_0 := fun o => (bcell hb2).2 (w.heap.size) o (by first | omega | (simp; done) | (simp; omega)); have : w.heap.size < w2.heap.size := (by first | omega | (simp; done) | (simp; omega)); have : w.heap.size < w2.heap.size + 1 := (by first | omega | (simp; done) | (simp; omega)); have : w.heap.size < w2.heap.size + 2 := (by first | omega | (simp; done) | (simp; omega)); have : w.heap.size < w2.heap.size + 3 := (by first | omega | (simp; done) | (simp; omega)); have hc2_1 := fun o => (bcell hb2).1 (w.heap.size + 1) o (by first | omega | (simp; done) | (simp; omega)); have hf2_1 := fun o => (bcell hb2).2 (w.heap.size + 1) o (by first | omega | (simp; done) | (simp; omega)); have : w.heap.size + 1 < w2.heap.size := (by first | omega | (simp; done) | (simp; omega)); have : w.heap.size + 1 < w2.heap.size + 1 := (by first | omega | (simp; done) | (simp; omega)); have : w.heap.size + 1 < w2.heap.size + 2 := (by first | omega | (simp; done) | (simp; omega)); have : w.heap.size + 1 < w2.heap.size + 3 := (by first | omega | (simp; done) | (simp; omega)))
        go_wp2_with fail
        refine (within26 _ _ _ _).mono ?_
        rw [H3.out]
        rintro e _ ⟨rfl, rfl⟩
        go_wp2_with fail
        refine (works13 _).mono ?_
        rintro e w3 ⟨rfl, hb3⟩
        (have hz3 := hb3.size; (try simp at hz3))
        go_wp2
        go_ret
        exact ⟨rfl, by (repeat' (first | (with_reducible exact Below.refl _ _) | (with_reducible assumption) | (with_reducible refine Below.drew ?_) | (with_reducible refine below_drewN ?_ _) | (with_reducible refine Below.setCell ?_ ?_ _) | (with_reducible refine Below.alloc ?_ ?_ _) | (refine Below.trans ?_ (Below.mono (by with_reducible assumption) ?_)) | omega | (exact Below.size (by with_reducible assumption)) | (simp; done) | (simp; omega)))⟩
      · obtain ⟨hl, hg⟩ := gl_all h2
        obtain ⟨_, h50, hT⟩ := settings_ok (S := S) h1 h2
        rcases hT with ⟨e1, e2⟩ | ⟨e1, e2⟩
        · exact glances12_0 A gs n cap P S gm gl st w hA hn h1 h2 h3 hP (by omega) (btw_iff.1 h3) hg e1 e2 h50
        · exact glances12_3 A gs n cap P S gm gl st w hA hn h1 h2 h3 hP (by omega) (btw_iff.1 h3) hg e1 (by omega)

theorem ownArmsGlances : ownKnob Try.prog.godebug = none := by kernel_rfl
theorem laidOutArmsGlances : laidOutB Try.prog = true := by kernel_rfl
set_option maxRecDepth 100000 in
theorem liftedArmsGlances (os : Os) (started : os.Started) (H : Type) (enc : TypeId × Value → H) :
    ReturnsInHanded {} Try.checked os 12 .any (Rows.armsGlancesSpec.pre6 enc Try.prog Try.f12 Rows.armsGlancesRow.domain false) (Rows.armsGlancesSpec.post enc Try.prog Try.f12 false true false false) := by
  refine returnsInHanded_of_change (C := Try.checked) ownArmsGlances started (by kernel_rfl) Try.func12
    (ChangeSpec.witness6 (enc := enc) (C := Try.checked) false ⟨#[], #[.agg #[.int .i64 0, .int .i64 0], .slice none 0 0, .agg #[.int .i64 0, .int .i64 0, .int .i64 0]], []⟩ 8 (by kernel_rfl) (by kernel_rfl) (by kernel_rfl) (by kernel_rfl)) ?_
  intro W base args ds gs before hval0 hW hcnd _
  have hval : ∀ (j : Nat) t v, Try.f12.params[j]? = some t → args[j]? = some v → Value.okWide Try.prog W .any base t v := hval0
  have hW' := hW
  obtain ⟨p, q, hA0, hV, rfl, hfz, hnd⟩ := hW
  have hA : DataW.TrodAll enc Try.prog W 0 (fun _ => true) true Try.f12.params.toList args.toList ds p := hA0
  rw [Try.params12] at hA hval
  obtain ⟨v0, vs0, d0, ds0, p0, q0, hargs, rfl, rfl, h0, r0⟩ := trodAll_cons hA
  obtain ⟨v1, vs1, d1, ds1, p1, q1, rfl, rfl, rfl, h1, r1⟩ := trodAll_cons r0
  obtain ⟨v2, vs2, d2, ds2, p2, q2, rfl, rfl, rfl, h2, r2⟩ := trodAll_cons r1
  obtain ⟨rfl, rfl, rfl⟩ := trodAll_nil r2
  obtain rfl : args = #[v0, v1, v2] := by cases args; simp_all
  obtain ⟨rfl, rfl⟩ := trodVars_none hV
  have k0 := h0
  have lt0 : ∀ x ∈ p0, x.block < W.heap.size := by obtain ⟨m, hm⟩ := k0; exact DataW.trod_lt m _ _ _ hm
  obtain ⟨cs0, rfl, hl0, hc0⟩ := plain_agg (n := 5) Try.underlying63 (by kernel_rfl) (hval 0 63 v0 rfl rfl) h0
  obtain ⟨x00, x01, rfl⟩ := cells2 (hl0.trans (by kernel_rfl)) hc0
  have k1 := h1
  have lt1 : ∀ x ∈ p1, x.block < W.heap.size := by obtain ⟨m, hm⟩ := k1; exact DataW.trod_lt m _ _ _ hm
  obtain ⟨xA1, xn1, xc1, xg1, rfl, gn1, gm1, gr1⟩ := open_gl (hval 1 64 v1 rfl rfl) h1
  have k2 := h2
  have lt2 : ∀ x ∈ p2, x.block < W.heap.size := by obtain ⟨m, hm⟩ := k2; exact DataW.trod_lt m _ _ _ hm
  obtain ⟨cs2, rfl, hl2, hc2⟩ := plain_agg (n := 5) Try.underlying74 (by kernel_rfl) (hval 2 74 v2 rfl rfl) h2
  obtain ⟨x20, x21, x22, rfl⟩ := cells3 (hl2.trans (by kernel_rfl)) hc2
  clear hA0 hval0
  refine (glances12 x00 x01 xA1 xn1 xc1 xg1 x20 x21 x22 W gr1 gn1 gm1).mono fun e W' ⟨he, bel⟩ => ?_
  subst he
  exact ⟨_, rfl, _, _, _, [], _, [], hW', trodAll_mk1 (shut_bool Try.underlying4 _), (trodAll_cons_mk (Below.trod laidOutArmsGlances (by kernel_rfl) (of_decide_eq_true (by kernel_rfl)) k0 bel lt0) (trodAll_cons_mk (Below.trod laidOutArmsGlances (by kernel_rfl) (of_decide_eq_true (by kernel_rfl)) k1 bel lt1) (trodAll_cons_mk (Below.trod laidOutArmsGlances (by kernel_rfl) (of_decide_eq_true (by kernel_rfl)) k2 bel lt2) trodAll_mk0))), rfl, bel.frame _, fun h => by cases h⟩

theorem armsGlances_over : Rows.armsGlancesRow.holds Try.pinned (OpenSpec.ofChange Rows.armsGlancesSpec) :=
  OpenClaim.holds_of_wide 12 Try.f12 rfl rfl rfl rfl rfl rfl rfl ⟨rfl, rfl, rfl, rfl, rfl⟩ rfl rfl rfl rfl rfl (by kernel_rfl) Try.func12 (by kernel_rfl)
    (of_decide_eq_true (by kernel_rfl)) (by unfold Func.isWrapper; rw [if_neg (of_decide_eq_false (by kernel_rfl))]; exact ⟨rfl, rfl⟩)
    (fun os started H enc _ => liftedArmsGlances os started H enc)

/-- The statement. -/
theorem armsGlances_holds : Rows.ArmsGlancesSaid := armsGlances_over
#print axioms armsGlances_holds
