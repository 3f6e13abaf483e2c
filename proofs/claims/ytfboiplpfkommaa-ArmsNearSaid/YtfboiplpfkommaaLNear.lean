/- ArmsNear: no setting has a value nearer to a wanted ratio than that of Set. No condition: every input. -/
import Derived.Test.YtfboiplpfkommaaRows
import Derived.Test.YtfboiplpfkommaaFrame
import Derived.Test.YtfboiplpfkommaaWya
import Derived.Test.YtfboiplpfkommaaWyb
import Derived.Test.YtfboiplpfkommaaWyc
import Derived.Test.YtfboiplpfkommaaWyd
namespace Go.Proofs.Ytfboiplpfkommaa
open Go.ChangeShapes Go.WideShapes Go.ChangeAt Go.RowKit

theorem near7 (a b c d lo hi p q u v s : Int) (w : World) : Calls Try.prog 7 #[.agg #[.int .i64 a, .int .i64 b, .int .i64 c, .int .i64 d, .int .i64 lo, .int .i64 hi], .agg #[.int .i64 p, .int .i64 q, .int .i64 u, .int .i64 v], .int .i64 s] w fun e w' => e = .returned (.bool true) ∧ Below w.heap.size w w' := by
  cases hf : (armB a b c d lo hi && decide (400 < hi - lo))
  · cases ha : armB a b c d lo hi
    · exact near7_2 _ _ _ _ _ _ _ _ _ _ _ w hf ha
    · cases hr : ratB p q
      · exact near7_3 _ _ _ _ _ _ _ _ _ _ _ w hf ha hr
      · cases hu : ratB u v
        · exact near7_4 _ _ _ _ _ _ _ _ _ _ _ w hf ha hr hu
        · by_cases h1 : 0 < p
          · by_cases h2 : 0 < u
            · by_cases h3 : lo ≤ s
              · by_cases h4 : s ≤ hi
                · obtain ⟨n, m, f, g, rn, rd, re, sn, sd, se, H⟩ := s7_of ha hr hu h1 h2 h3 h4
                  obtain ⟨g1, g2, g3, g4, ⟨g5, _⟩, g6⟩ := armB_iff.1 ha
                  obtain ⟨g7, g8⟩ := ratB_iff.1 hr
                  obtain ⟨⟨r1, r2⟩, ⟨r3, r4⟩, _⟩ := rat_mul hr hu
                  have fg := H.fg
                  rcases Int.lt_trichotomy (p * v) (u * q) with hx | hx | hx <;> rcases Int.lt_or_eq_of_le fg with he | he
                  · exact near7_00 _ _ _ _ _ _ _ _ _ _ _ w hf ha hr hu h1 h2 h3 h4 g1 g2 g3 g4 g5 g6 g8.2 g7 _ _ _ _ _ _ _ _ _ _ H ⟨⟨r1, r2⟩, ⟨r3, r4⟩⟩ hx he
                  · exact near7_01 _ _ _ _ _ _ _ _ _ _ _ w hf ha hr hu h1 h2 h3 h4 g1 g2 g3 g4 g5 g6 g8.2 g7 _ _ _ _ _ _ _ _ _ _ H ⟨⟨r1, r2⟩, ⟨r3, r4⟩⟩ hx he
                  · exact near7_10 _ _ _ _ _ _ _ _ _ _ _ w hf ha hr hu h1 h2 h3 h4 g1 g2 g3 g4 g5 g6 g8.2 g7 _ _ _ _ _ _ _ _ _ _ H ⟨⟨r1, r2⟩, ⟨r3, r4⟩⟩ hx he
                  · exact near7_11 _ _ _ _ _ _ _ _ _ _ _ w hf ha hr hu h1 h2 h3 h4 g1 g2 g3 g4 g5 g6 g8.2 g7 _ _ _ _ _ _ _ _ _ _ H ⟨⟨r1, r2⟩, ⟨r3, r4⟩⟩ hx he
                  · exact near7_20 _ _ _ _ _ _ _ _ _ _ _ w hf ha hr hu h1 h2 h3 h4 g1 g2 g3 g4 g5 g6 g8.2 g7 _ _ _ _ _ _ _ _ _ _ H ⟨⟨r1, r2⟩, ⟨r3, r4⟩⟩ hx he
                  · exact near7_21 _ _ _ _ _ _ _ _ _ _ _ w hf ha hr hu h1 h2 h3 h4 g1 g2 g3 g4 g5 g6 g8.2 g7 _ _ _ _ _ _ _ _ _ _ H ⟨⟨r1, r2⟩, ⟨r3, r4⟩⟩ hx he
                · exact near7_8 _ _ _ _ _ _ _ _ _ _ _ w hf ha hr hu h1 h2 h3 (by omega)
              · exact near7_7 _ _ _ _ _ _ _ _ _ _ _ w hf ha hr hu h1 h2 (by omega)
            · exact near7_6 _ _ _ _ _ _ _ _ _ _ _ w hf ha hr hu h1 (by omega)
          · exact near7_5 _ _ _ _ _ _ _ _ _ _ _ w hf ha hr hu (by omega)
  · exact near7_1 _ _ _ _ _ _ _ _ _ _ _ w hf

theorem ownArmsNear : ownKnob Try.prog.godebug = none := by kernel_rfl
theorem laidOutArmsNear : laidOutB Try.prog = true := by kernel_rfl
set_option maxRecDepth 100000 in
theorem liftedArmsNear (os : Os) (started : os.Started) (H : Type) (enc : TypeId × Value → H) :
    ReturnsInHanded {} Try.checked os 7 .any (Rows.armsNearSpec.pre6 enc Try.prog Try.f7 Rows.armsNearRow.domain false) (Rows.armsNearSpec.post enc Try.prog Try.f7 false true false false) := by
  refine returnsInHanded_of_change (C := Try.checked) ownArmsNear started (by kernel_rfl) Try.func7
    (ChangeSpec.witness6 (enc := enc) (C := Try.checked) false ⟨#[], #[.agg #[.int .i64 0, .int .i64 0, .int .i64 0, .int .i64 0, .int .i64 0, .int .i64 0], .agg #[.int .i64 0, .int .i64 0, .int .i64 0, .int .i64 0], .int .i64 0], []⟩ 8 (by kernel_rfl) (by kernel_rfl) (by kernel_rfl) (by kernel_rfl)) ?_
  intro W base args ds gs before hval0 hW hcnd _
  have hval : ∀ (j : Nat) t v, Try.f7.params[j]? = some t → args[j]? = some v → Value.okWide Try.prog W .any base t v := hval0
  have hW' := hW
  obtain ⟨p, q, hA0, hV, rfl, hfz, hnd⟩ := hW
  have hA : DataW.TrodAll enc Try.prog W 0 (fun _ => true) true Try.f7.params.toList args.toList ds p := hA0
  rw [Try.params7] at hA hval
  obtain ⟨v0, vs0, d0, ds0, p0, q0, hargs, rfl, rfl, h0, r0⟩ := trodAll_cons hA
  obtain ⟨v1, vs1, d1, ds1, p1, q1, rfl, rfl, rfl, h1, r1⟩ := trodAll_cons r0
  obtain ⟨v2, vs2, d2, ds2, p2, q2, rfl, rfl, rfl, h2, r2⟩ := trodAll_cons r1
  obtain ⟨rfl, rfl, rfl⟩ := trodAll_nil r2
  obtain rfl : args = #[v0, v1, v2] := by cases args; simp_all
  obtain ⟨rfl, rfl⟩ := trodVars_none hV
  have k0 := h0
  have lt0 : ∀ x ∈ p0, x.block < W.heap.size := by obtain ⟨m, hm⟩ := k0; exact DataW.trod_lt m _ _ _ hm
  obtain ⟨cs0, rfl, hl0, hc0⟩ := plain_agg (n := 5) Try.underlying41 (by kernel_rfl) (hval 0 41 v0 rfl rfl) h0
  obtain ⟨x00, x01, x02, x03, x04, x05, rfl⟩ := cells6 (hl0.trans (by kernel_rfl)) hc0
  have k1 := h1
  have lt1 : ∀ x ∈ p1, x.block < W.heap.size := by obtain ⟨m, hm⟩ := k1; exact DataW.trod_lt m _ _ _ hm
  obtain ⟨cs1, rfl, hl1, hc1⟩ := plain_agg (n := 5) Try.underlying51 (by kernel_rfl) (hval 1 51 v1 rfl rfl) h1
  obtain ⟨x10, x11, x12, x13, rfl⟩ := cells4 (hl1.trans (by kernel_rfl)) hc1
  have k2 := h2
  have lt2 : ∀ x ∈ p2, x.block < W.heap.size := by obtain ⟨m, hm⟩ := k2; exact DataW.trod_lt m _ _ _ hm
  obtain ⟨x2, rfl, _, _, w2⟩ := open_int Try.underlying3 (hval 2 3 v2 rfl rfl) h2
  clear hA0 hval0
  refine (near7 x00 x01 x02 x03 x04 x05 x10 x11 x12 x13 x2 W).mono fun e W' ⟨he, bel⟩ => ?_
  subst he
  exact ⟨_, rfl, _, _, _, [], _, [], hW', trodAll_mk1 (shut_bool Try.underlying4 _), (trodAll_cons_mk (Below.trod laidOutArmsNear (by kernel_rfl) (of_decide_eq_true (by kernel_rfl)) k0 bel lt0) (trodAll_cons_mk (Below.trod laidOutArmsNear (by kernel_rfl) (of_decide_eq_true (by kernel_rfl)) k1 bel lt1) (trodAll_cons_mk (Below.trod laidOutArmsNear (by kernel_rfl) (of_decide_eq_true (by kernel_rfl)) k2 bel lt2) trodAll_mk0))), rfl, bel.frame _, fun h => by cases h⟩

theorem armsNear_over : Rows.armsNearRow.holds Try.pinned (OpenSpec.ofChange Rows.armsNearSpec) :=
  OpenClaim.holds_of_wide 7 Try.f7 rfl rfl rfl rfl rfl rfl rfl ⟨rfl, rfl, rfl, rfl, rfl⟩ rfl rfl rfl rfl rfl (by kernel_rfl) Try.func7 (by kernel_rfl)
    (of_decide_eq_true (by kernel_rfl)) (by unfold Func.isWrapper; rw [if_neg (of_decide_eq_false (by kernel_rfl))]; exact ⟨rfl, rfl⟩)
    (fun os started H enc _ => liftedArmsNear os started H enc)

/-- The statement. -/
theorem armsNear_holds : Rows.ArmsNearSaid := armsNear_over
#print axioms armsNear_holds
