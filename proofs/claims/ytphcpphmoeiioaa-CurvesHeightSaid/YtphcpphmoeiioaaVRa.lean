/- Walks: the height at a place can be a number. -/
import Derived.Test.YtphcpphmoeiioaaVA
import Derived.Test.YtphcpphmoeiioaaMap
namespace Go.Proofs.Ytphcpphmoeiioaa
open Go.RowKit Go.Maps

/-- The places whose height is known: no map at all, or one. -/
def FixM (w : World) (fv : Value) (f : Int → Option Int) : Prop := (fv = .map none ∧ f = fun _ => none) ∨ ∃ b n, fv = .map (some b) ∧ MapI w b n f
def alB (rl rh : Int) (f : Int → Option Int) (p x : Int) : Bool := btw x rl rh && (match f p with | none => true | some n => decide (n = x))
theorem alB_1 {rl rh : Int} {f : Int → Option Int} {p x : Int} (h : btw x rl rh = false) : alB rl rh f p x = false := by simp [alB, h]
theorem alB_2 {rl rh : Int} {f : Int → Option Int} {p x : Int} (h : btw x rl rh = true) (k : f p = none) : alB rl rh f p x = true := by simp [alB, h, k]
theorem alB_3 {rl rh : Int} {f : Int → Option Int} {p x n : Int} (h : btw x rl rh = true) (k : f p = some n) : alB rl rh f p x = decide (n = x) := by simp [alB, h, k]
/-- 'n, is := m[k]'. -/
theorem wp_lookI (w : World) {ops : Array Oper} {rest : List Oper} {o : Oper} {a : Act} {Q : Exit → Act → World → Prop} (hg : o.guard = none) (m x : Operand) (t : TypeId) (hop : o.op = Op.lookup t m x true) (ht : Try.prog.underlying t = some (.map 3 3)) (b n : Nat) (f : Int → Option Int)
    (hm : a.eval m = .map (some b)) (hown : MapI w b n f) (k : Int) (hx : a.eval x = .int .i64 k) (hk : (Lit.int .i64 k).wf = true)
    (hK : wpList Try.prog ops Q rest (a.put o.dst (.tuple #[.int .i64 ((f k).getD 0), .bool (f k).isSome])) w) :
    wpList Try.prog ops Q (o :: rest) a w := by
  obtain ⟨D, h1, h2⟩ := hown
  refine wpList_lookup_own_ok_int w hg m x t hop 3 3 .i64 key3 ht Try.underlying3 (zero3 w) b n D hm h1 _ (.int .i64 k) hx (keyOf_int_mk Try.underlying3 hk) ?_
  intro c hat _
  have := h2 k
  cases hf : f k with
  | none =>
    rw [hf] at this hK
    simp only at this
    rw [atKey_of_not_has this] at hat
    simp at hat
    subst hat
    rw [this]
    exact hK
  | some u =>
    rw [hf] at this hK
    simp only at this
    rw [this.2] at hat
    simp at hat
    subst hat
    rw [this.1]
    exact hK
/-- .. of no map. -/
theorem wp_lookN (w : World) {ops : Array Oper} {rest : List Oper} {o : Oper} {a : Act} {Q : Exit → Act → World → Prop} (hg : o.guard = none) (m x : Operand) (t : TypeId) (hop : o.op = Op.lookup t m x true) (ht : Try.prog.underlying t = some (.map 3 3))
    (hm : a.eval m = .map none) (k : Int) (hx : a.eval x = .int .i64 k) (hk : (Lit.int .i64 k).wf = true)
    (hK : wpList Try.prog ops Q rest (a.put o.dst (.tuple #[.int .i64 0, .bool false])) w) :
    wpList Try.prog ops Q (o :: rest) a w := by
  have hrun := Maps.look_nil (w := w) true key3 ht (zero3 w) (keyOf_int_mk Try.underlying3 hk)
  refine wpList_plain hg fun K' hK' => ?_
  unfold Oper.wp
  simp [execOp, hop, hm, hx, hrun, Result.andThen]
  exact hK' _ _ hK
set_option maxRecDepth 100000 in
set_option maxHeartbeats 2000000 in
theorem allows87_nil (L sl rl rh wr : Int) (s : Value) (p x : Int) (w : World) (hp : (Lit.int .i64 p).wf = true) :
    Calls Try.prog 87 #[.agg #[.int .i64 L, .int .i64 sl, .int .i64 rl, .int .i64 rh, s, .int .i64 wr, .map none], .int .i64 p, .int .i64 x] w fun e w' => e = .returned (.bool (btw x rl rh)) ∧ Below w.heap.size w w' := by
  cases h : btw x rl rh
  all_goals
    have H := Lib.hid h
    clear h
    go_enter Try.func87, Try.ntmps87
    go_wp2_with (first | (at_lookup; go_must (refine wp_lookN _ rfl _ _ _ rfl Try.underlying68 rfl p rfl hp ?_)))
    refine (within66 _ _ _ _).mono ?_
    rw [H.out]
    rintro e w1 ⟨rfl, rfl⟩
    go_wp2
    go_ret
    exact ⟨rfl, by (repeat' (first | (with_reducible exact Below.refl _ _) | (with_reducible assumption) | (with_reducible refine Below.drew ?_) | (with_reducible refine below_drewN ?_ _) | (with_reducible refine Below.setCell ?_ ?_ _) | (with_reducible refine Below.alloc ?_ ?_ _) | (refine Below.trans ?_ (Below.mono (by with_reducible assumption) ?_)) | omega | (exact Below.size (by with_reducible assumption)) | (simp; done) | (simp; omega)))⟩
set_option maxRecDepth 100000 in
set_option maxHeartbeats 2000000 in
theorem allows87_map (L sl rl rh wr : Int) (s : Value) (b n : Nat) (f : Int → Option Int) (p x : Int) (w : World) (hm : MapI w b n f) (hp : (Lit.int .i64 p).wf = true) :
    Calls Try.prog 87 #[.agg #[.int .i64 L, .int .i64 sl, .int .i64 rl, .int .i64 rh, s, .int .i64 wr, .map (some b)], .int .i64 p, .int .i64 x] w fun e w' => e = .returned (.bool (alB rl rh f p x)) ∧ Below w.heap.size w w' := by
  have hbl := hm.lt
  have HM := Lib.hid hm
  clear hm
  cases h : btw x rl rh
  · rw [alB_1 h]
    have H := Lib.hid h
    clear h
    go_enter Try.func87, Try.ntmps87
    go_wp2_with (first | (at_lookup; go_must (refine wp_lookI _ rfl _ _ _ rfl Try.underlying68 b n f rfl (HM.out.below (B := w.heap.size) (by (repeat' (first | (with_reducible exact Below.refl _ _) | (with_reducible assumption) | (with_reducible refine Below.drew ?_) | (with_reducible refine below_drewN ?_ _) | (with_reducible refine Below.setCell ?_ ?_ _) | (with_reducible refine Below.alloc ?_ ?_ _) | (refine Below.trans ?_ (Below.mono (by with_reducible assumption) ?_)) | omega | (exact Below.size (by with_reducible assumption)) | (simp; done) | (simp; omega)))) hbl) p rfl hp ?_)))
    refine (within66 _ _ _ _).mono ?_
    rw [H.out]
    rintro e w1 ⟨rfl, rfl⟩
    go_wp2
    go_ret
    exact ⟨rfl, by (repeat' (first | (with_reducible exact Below.refl _ _) | (with_reducible assumption) | (with_reducible refine Below.drew ?_) | (with_reducible refine below_drewN ?_ _) | (with_reducible refine Below.setCell ?_ ?_ _) | (with_reducible refine Below.alloc ?_ ?_ _) | (refine Below.trans ?_ (Below.mono (by with_reducible assumption) ?_)) | omega | (exact Below.size (by with_reducible assumption)) | (simp; done) | (simp; omega)))⟩
  · cases hf : f p with
    | none =>
      rw [alB_2 h hf]
      have H := Lib.hid h
      have HF := Lib.hid hf
      clear h hf
      go_enter Try.func87, Try.ntmps87
      go_wp2_with (first | (at_lookup; go_must (refine wp_lookI _ rfl _ _ _ rfl Try.underlying68 b n f rfl (HM.out.below (B := w.heap.size) (by (repeat' (first | (with_reducible exact Below.refl _ _) | (with_reducible assumption) | (with_reducible refine Below.drew ?_) | (with_reducible refine below_drewN ?_ _) | (with_reducible refine Below.setCell ?_ ?_ _) | (with_reducible refine Below.alloc ?_ ?_ _) | (refine Below.trans ?_ (Below.mono (by with_reducible assumption) ?_)) | omega | (exact Below.size (by with_reducible assumption)) | (simp; done) | (simp; omega)))) hbl) p rfl hp ?_); rw [HF.out]; simp only [Option.getD_none, Option.isSome_none]))
      refine (within66 _ _ _ _).mono ?_
      rw [H.out]
      rintro e w1 ⟨rfl, rfl⟩
      go_wp2
      go_ret
      exact ⟨rfl, by (repeat' (first | (with_reducible exact Below.refl _ _) | (with_reducible assumption) | (with_reducible refine Below.drew ?_) | (with_reducible refine below_drewN ?_ _) | (with_reducible refine Below.setCell ?_ ?_ _) | (with_reducible refine Below.alloc ?_ ?_ _) | (refine Below.trans ?_ (Below.mono (by with_reducible assumption) ?_)) | omega | (exact Below.size (by with_reducible assumption)) | (simp; done) | (simp; omega)))⟩
    | some q =>
      rw [alB_3 h hf]
      have H := Lib.hid h
      have HF := Lib.hid hf
      clear h hf
      go_enter Try.func87, Try.ntmps87
      go_wp2_with (first | (at_lookup; go_must (refine wp_lookI _ rfl _ _ _ rfl Try.underlying68 b n f rfl (HM.out.below (B := w.heap.size) (by (repeat' (first | (with_reducible exact Below.refl _ _) | (with_reducible assumption) | (with_reducible refine Below.drew ?_) | (with_reducible refine below_drewN ?_ _) | (with_reducible refine Below.setCell ?_ ?_ _) | (with_reducible refine Below.alloc ?_ ?_ _) | (refine Below.trans ?_ (Below.mono (by with_reducible assumption) ?_)) | omega | (exact Below.size (by with_reducible assumption)) | (simp; done) | (simp; omega)))) hbl) p rfl hp ?_); rw [HF.out]; simp only [Option.getD_some, Option.isSome_some]))
      refine (within66 _ _ _ _).mono ?_
      rw [H.out]
      rintro e w1 ⟨rfl, rfl⟩
      go_wp2
      go_ret
      exact ⟨by first | rfl | (congr 1; done), by (repeat' (first | (with_reducible exact Below.refl _ _) | (with_reducible assumption) | (with_reducible refine Below.drew ?_) | (with_reducible refine below_drewN ?_ _) | (with_reducible refine Below.setCell ?_ ?_ _) | (with_reducible refine Below.alloc ?_ ?_ _) | (refine Below.trans ?_ (Below.mono (by with_reducible assumption) ?_)) | omega | (exact Below.size (by with_reducible assumption)) | (simp; done) | (simp; omega)))⟩
end Go.Proofs.Ytphcpphmoeiioaa
