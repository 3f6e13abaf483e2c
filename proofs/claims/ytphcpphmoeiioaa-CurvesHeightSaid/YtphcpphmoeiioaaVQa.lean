/- Walks: a front takes one sum more. -/
import Derived.Test.YtphcpphmoeiioaaVMa
namespace Go.Proofs.Ytphcpphmoeiioaa
open Go.RowKit Go.Maps

theorem by_below {w w' : World} (h : Below w.heap.size w w') (b : Nat) : w.grownBy w' (some b) := ⟨h.os, h.tape, h.output, h.size, fun i hi _ => h.block i hi⟩
theorem updF_none {F : Int → Int → Option (Int × Int)} {x v lo hi : Int} (h : F x v = none) : updF F x v lo hi = putF F x v lo hi := by
  funext y u; unfold updF putF; rw [h]
theorem updF_some {F : Int → Int → Option (Int × Int)} {x v lo hi : Int} {p : Int × Int} (h : F x v = some p) : updF F x v (min lo p.1) (max hi p.2) = putF F x v lo hi := by
  funext y u; unfold updF putF; rw [h]
set_option maxRecDepth 100000 in
set_option maxHeartbeats 2000000 in
theorem put88 (b n : Nat) (F : Int → Int → Option (Int × Int)) (x v lo hi : Int) (w : World) (hm : MapF w b n F) (hn : n < 100000000000000) (hx : (Lit.int .i64 x).wf = true) (hv : (Lit.int .i64 v).wf = true) :
    Calls Try.prog 88 #[.map (some b), .agg #[.int .i64 x, .int .i64 v], .agg #[.int .i64 lo, .int .i64 hi]] w fun e w' => e = .returned (.tuple #[]) ∧ MapF w' b (n + 1) (putF F x v lo hi) ∧ w.grownBy w' (some b) := by
  have hbl := hm.lt
  have HM := Lib.hid hm
  clear hm
  cases hF : F x v with
  | none =>
    have HF := Lib.hid hF
    clear hF
    go_enter Try.func88, Try.ntmps88
    go_wp2_with (first | (at_lookup; go_must (refine wp_lookF _ rfl _ _ _ rfl Try.underlying92 b n F rfl (HM.out.below (B := w.heap.size) (by (repeat' (first | (with_reducible exact Below.refl _ _) | (with_reducible assumption) | (with_reducible refine Below.drew ?_) | (with_reducible refine below_drewN ?_ _) | (with_reducible refine Below.setCell ?_ ?_ _) | (with_reducible refine Below.alloc ?_ ?_ _) | (refine Below.trans ?_ (Below.mono (by with_reducible assumption) ?_)) | omega | (exact Below.size (by with_reducible assumption)) | (simp; done) | (simp; omega)))) hbl) x v rfl hx hv ?_); rw [HF.out]; simp only [Option.getD_none, Option.isSome_none]) | (at_mapUpdate; go_must (refine wp_putF _ rfl _ _ _ _ rfl Try.underlying92 b n F rfl (HM.out.below (B := w.heap.size) (by (repeat' (first | (with_reducible exact Below.refl _ _) | (with_reducible assumption) | (with_reducible refine Below.drew ?_) | (with_reducible refine below_drewN ?_ _) | (with_reducible refine Below.setCell ?_ ?_ _) | (with_reducible refine Below.alloc ?_ ?_ _) | (refine Below.trans ?_ (Below.mono (by with_reducible assumption) ?_)) | omega | (exact Below.size (by with_reducible assumption)) | (simp; done) | (simp; omega)))) hbl) hn x v lo hi rfl rfl hx hv ?_); intro w1 hm1 hg1))
    (refine bodyPost_end (v := .tuple #[]) ?_ ?_ ?_ <;> first | rfl | (simp [results, Try.results88, go_sem]; done) | skip)
    exact ⟨rfl, updF_none HF.out ▸ hm1, (by_below (by (repeat' (first | (with_reducible exact Below.refl _ _) | (with_reducible assumption) | (with_reducible refine Below.drew ?_) | (with_reducible refine below_drewN ?_ _) | (with_reducible refine Below.setCell ?_ ?_ _) | (with_reducible refine Below.alloc ?_ ?_ _) | (refine Below.trans ?_ (Below.mono (by with_reducible assumption) ?_)) | omega | (exact Below.size (by with_reducible assumption)) | (simp; done) | (simp; omega)))) b).trans hg1⟩
  | some p =>
    have HF := Lib.hid hF
    have HP := Lib.hid (updF_some (lo := lo) (hi := hi) hF)
    clear hF
    go_enter Try.func88, Try.ntmps88
    go_wp2_with (first | (at_lookup; go_must (refine wp_lookF _ rfl _ _ _ rfl Try.underlying92 b n F rfl (HM.out.below (B := w.heap.size) (by (repeat' (first | (with_reducible exact Below.refl _ _) | (with_reducible assumption) | (with_reducible refine Below.drew ?_) | (with_reducible refine below_drewN ?_ _) | (with_reducible refine Below.setCell ?_ ?_ _) | (with_reducible refine Below.alloc ?_ ?_ _) | (refine Below.trans ?_ (Below.mono (by with_reducible assumption) ?_)) | omega | (exact Below.size (by with_reducible assumption)) | (simp; done) | (simp; omega)))) hbl) x v rfl hx hv ?_); rw [HF.out]; simp only [Option.getD_some, Option.isSome_some]))
    refine (with81 _ _ _ _ _).mono ?_
    rintro e w1 ⟨rfl, hb1⟩
    have hz1 := hb1.size
    have hc1 := fun o => (bcell hb1).1 w.heap.size o (by simp; omega)
    have hf1 := fun o => (bcell hb1).2 w.heap.size o (by simp; omega)
    have hc2 := fun o => (bcell hb1).1 (w.heap.size + 1) o (by simp)
    have hf2 := fun o => (bcell hb1).2 (w.heap.size + 1) o (by simp)
    simp at hz1 hc1 hf1 hc2 hf2
    go_wp2_with (first | (at_mapUpdate; go_must (refine wp_putF _ rfl _ _ _ _ rfl Try.underlying92 b n F rfl (HM.out.below (B := w.heap.size) (by (repeat' (first | (with_reducible exact Below.refl _ _) | (with_reducible assumption) | (with_reducible refine Below.drew ?_) | (with_reducible refine below_drewN ?_ _) | (with_reducible refine Below.setCell ?_ ?_ _) | (with_reducible refine Below.alloc ?_ ?_ _) | (refine Below.trans ?_ (Below.mono (by with_reducible assumption) ?_)) | omega | (exact Below.size (by with_reducible assumption)) | (simp; done) | (simp; omega)))) hbl) hn x v (min lo p.1) (max hi p.2) rfl rfl hx hv ?_); intro w2 hm2 hg2))
    (refine bodyPost_end (v := .tuple #[]) ?_ ?_ ?_ <;> first | rfl | (simp [results, Try.results88, go_sem]; done) | skip)
    exact ⟨rfl, HP.out ▸ hm2, (by_below (by (repeat' (first | (with_reducible exact Below.refl _ _) | (with_reducible assumption) | (with_reducible refine Below.drew ?_) | (with_reducible refine below_drewN ?_ _) | (with_reducible refine Below.setCell ?_ ?_ _) | (with_reducible refine Below.alloc ?_ ?_ _) | (refine Below.trans ?_ (Below.mono (by with_reducible assumption) ?_)) | omega | (exact Below.size (by with_reducible assumption)) | (simp; done) | (simp; omega)))) b).trans hg2⟩
end Go.Proofs.Ytphcpphmoeiioaa
