/- TopHull: a hull has at least the area of its polygon on a sheet, and just this if no corner is inside. No condition: every input. -/
import Derived.Test.YtgmhelclofnpkaaRows
import Derived.Test.YtgmhelclofnpkaaFrame
import Derived.Test.YtgmhelclofnpkaaOpSh
import Derived.Test.YtgmhelclofnpkaaHulC
namespace Go.Proofs.Ytgmhelclofnpkaa
open Go.ChangeShapes Go.WideShapes Go.ChangeAt Go.RowKit

theorem hullTopF (aL aH lL lH : Int) (A : Option Addr) (n cap : Nat) (wq : Int) (cs : List Ct) (A2 : Option Addr) (ps : List P2) (n2 cap2 : Nat) (w : World) (hA : Rd 4 w A (cs.map ctrow)) (hn : n = cs.length) (hlen : n ≤ 9223372036854775807)
    (hA2 : Rd 2 w A2 (ps.map ptrow)) (hn2 : n2 = ps.length) (hlen2 : n2 ≤ 9223372036854775807) :
    Calls Try.prog 4 #[shV aL aH lL lH A n cap wq, .slice A2 n2 cap2] w fun e w' => e = .returned (.bool true) ∧ Below w.heap.size w w' := hullTopW aL aH lL lH A n cap wq cs A2 n2 cap2 ps w hA hn hlen hA2 hn2 hlen2
theorem ownTopHull : ownKnob Try.prog.godebug = none := by kernel_rfl
theorem laidOutTopHull : laidOutB Try.prog = true := by kernel_rfl
set_option maxRecDepth 100000 in
theorem liftedTopHull (os : Os) (started : os.Started) (H : Type) (enc : TypeId × Value → H) :
    ReturnsInHanded {} Try.checked os 4 .any (Rows.topHullSpec.pre6 enc Try.prog Try.f4 Rows.topHullRow.domain false) (Rows.topHullSpec.post enc Try.prog Try.f4 false true false false) := by
  refine returnsInHanded_of_change (C := Try.checked) ownTopHull started (by kernel_rfl) Try.func4
    (ChangeSpec.witness6 (enc := enc) (C := Try.checked) false ⟨#[], #[.agg #[.int .i64 0, .int .i64 0, .int .i64 0, .int .i64 0, .slice none 0 0, .int .i64 0], .slice none 0 0], []⟩ 8 (by kernel_rfl) (by kernel_rfl) (by kernel_rfl) (by kernel_rfl)) ?_
  intro W base args ds gs before hval0 hW hcnd _
  have hval : ∀ (j : Nat) t v, Try.f4.params[j]? = some t → args[j]? = some v → Value.okWide Try.prog W .any base t v := hval0
  have hW' := hW
  obtain ⟨p, q, hA0, hV, rfl, hfz, hnd⟩ := hW
  have hA : DataW.TrodAll enc Try.prog W 0 (fun _ => true) true Try.f4.params.toList args.toList ds p := hA0
  rw [Try.params4] at hA hval
  obtain ⟨v0, vs0, d0, ds0, p0, q0, hargs, rfl, rfl, h0, r0⟩ := trodAll_cons hA
  obtain ⟨v1, vs1, d1, ds1, p1, q1, rfl, rfl, rfl, h1, r1⟩ := trodAll_cons r0
  obtain ⟨rfl, rfl, rfl⟩ := trodAll_nil r1
  obtain rfl : args = #[v0, v1] := by cases args; simp_all
  obtain ⟨rfl, rfl⟩ := trodVars_none hV
  have k0 := h0
  have lt0 : ∀ x ∈ p0, x.block < W.heap.size := by obtain ⟨m, hm⟩ := k0; exact DataW.trod_lt m _ _ _ hm
  obtain ⟨hA0, hB0, hC0, hD0, hE0, hn0, hc0, hw0, hs0, rfl, gn0, gm0, gr0⟩ := open_sheet (hval 0 44 v0 rfl rfl) h0
  have k1 := h1
  have lt1 : ∀ x ∈ p1, x.block < W.heap.size := by obtain ⟨m, hm⟩ := k1; exact DataW.trod_lt m _ _ _ hm
  obtain ⟨xA1, xn1, xc1, xg1, rfl, gn1, gm1, gr1⟩ := open_pts (hval 1 22 v1 rfl rfl) h1
  clear hA0 hval0
  refine (hullTopF hA0 hB0 hC0 hD0 hE0 hn0 hc0 hw0 hs0 xA1 xg1 xn1 xc1 W gr0 gn0 gm0 gr1 gn1 gm1).mono fun e W' ⟨he, bel⟩ => ?_
  subst he
  exact ⟨_, rfl, _, _, _, [], _, [], hW', trodAll_mk1 (shut_bool Try.underlying4 _), (trodAll_cons_mk (Below.trod laidOutTopHull (by kernel_rfl) (of_decide_eq_true (by kernel_rfl)) k0 bel lt0) (trodAll_cons_mk (Below.trod laidOutTopHull (by kernel_rfl) (of_decide_eq_true (by kernel_rfl)) k1 bel lt1) trodAll_mk0)), rfl, bel.frame _, fun h => by cases h⟩

theorem topHull_over : Rows.topHullRow.holds Try.pinned (OpenSpec.ofChange Rows.topHullSpec) :=
  OpenClaim.holds_of_wide 4 Try.f4 rfl rfl rfl rfl rfl rfl rfl ⟨rfl, rfl, rfl, rfl, rfl⟩ rfl rfl rfl rfl rfl (by kernel_rfl) Try.func4 (by kernel_rfl)
    (of_decide_eq_true (by kernel_rfl)) (by unfold Func.isWrapper; rw [if_neg (of_decide_eq_false (by kernel_rfl))]; exact ⟨rfl, rfl⟩)
    (fun os started H enc _ => liftedTopHull os started H enc)

/-- The statement. -/
theorem topHull_holds : Rows.TopHullSaid := topHull_over
#print axioms topHull_holds

end Go.Proofs.Ytgmhelclofnpkaa
