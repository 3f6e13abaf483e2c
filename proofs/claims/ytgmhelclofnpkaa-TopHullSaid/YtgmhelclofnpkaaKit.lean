/- Small words for walks: what a call's own blocks hold, and what stands behind a call. -/
import Derived.WalkKit
import Derived.WalkSpells
import Derived.WalkLawsBesides
import Derived.Deep.QuietTactic
import Derived.BigQuiet
import Derived.Lib.Hide
import Derived.Handy
namespace Go.Proofs.Ytgmhelclofnpkaa
open Go.RowKit

theorem ret_int {k : IntKind} {a b : Int} (h : a = b) : Ending.returned (.int k a) = .returned (.int k b) := by rw [h]
theorem ret_bool {a b : Bool} (h : a = b) : Ending.returned (.bool a) = .returned (.bool b) := by rw [h]
theorem bcell {W w1 : World} {B : Nat} (hb : Below B W w1) : (∀ b o, b < B → w1.cell? ⟨b, o, none⟩ = W.cell? ⟨b, o, none⟩) ∧ (∀ b o, b < B → w1.frozen? ⟨b, o, none⟩ = W.frozen? ⟨b, o, none⟩) :=
  ⟨fun b o h => hb.cell (p := ⟨b, o, none⟩) h, fun b o h => hb.frozen (p := ⟨b, o, none⟩) h⟩
theorem below_drewN {B : Nat} {a w : World} (h : Below B a w) (n : Nat) : Below B a (w.drewN n) := ⟨h.os, h.tape, h.output, h.size, h.block⟩
theorem quiet_left {P : Program} {f : FuncId} {args : Array Value} {w : World} {n : Nat} {v : Value}
    (h : Calls P f args (w.drewN n) fun e w' => e = .returned v ∧ w.drewN n = w') : Calls P f args (w.drewN n) fun e w'' => e = .returned v ∧ ∃ m, w'' = w.drewN m :=
  h.mono fun _ _ ⟨he, hm⟩ => ⟨he, n, hm.symm⟩

/-- Block b holds just these cells, none of them frozen. -/
structure Own (w : World) (b : Nat) (vs : List Value) : Prop where
  lt : b < w.heap.size
  c : ∀ i, w.cell? ⟨b, i, none⟩ = vs[i]?
  f : ∀ i, w.frozen? ⟨b, i, none⟩ = false

theorem Own.below {w w' : World} {b B : Nat} {vs : List Value} (h : Own w b vs) (k : Below B w w') (hb : b < B) : Own w' b vs :=
  ⟨Nat.lt_of_lt_of_le h.lt k.size, fun i => (k.cell (p := ⟨b, i, none⟩) hb).trans (h.c i), fun i => (k.frozen (p := ⟨b, i, none⟩) hb).trans (h.f i)⟩
theorem Own.alloc {w : World} {b : Nat} {vs : List Value} (h : Own w b vs) (o : Obj) : Own (w.alloc o) b vs :=
  h.below ((Below.refl w.heap.size w).alloc (Nat.le_refl _) o) h.lt
theorem Own.drew {w : World} {b : Nat} {vs : List Value} (h : Own w b vs) : Own w.drew b vs := ⟨h.lt, h.c, h.f⟩
theorem Own.drewN {w : World} {b : Nat} {vs : List Value} (h : Own w b vs) (n : Nat) : Own (w.drewN n) b vs := ⟨h.lt, h.c, h.f⟩
theorem Own.setOther {w : World} {b : Nat} {vs : List Value} (h : Own w b vs) {a : Addr} (ha : a.block ≠ b) (v : Value) : Own (w.setCell a v) b vs :=
  ⟨by simpa using h.lt, fun i => by rw [World.cell?_setCell_other (h := fun e => ha (by rw [e]))]; exact h.c i, fun i => by rw [World.frozen?_setCell]; exact h.f i⟩
theorem Own.set {w : World} {b : Nat} {vs : List Value} (h : Own w b vs) (i : Nat) (hi : i < vs.length) (v : Value) : Own (w.setCell ⟨b, i, none⟩ v) b (vs.set i v) := by
  refine ⟨by simpa using h.lt, fun j => ?_, fun j => by rw [World.frozen?_setCell]; exact h.f j⟩
  by_cases hj : i = j
  · subst hj
    have : (w.cell? ⟨b, i, none⟩).isSome = true := by rw [h.c]; simp [hi]
    rw [World.cell?_setCell_same' w _ v this]; simp [hi]
  · rw [World.cell?_setCell_other (h := fun e : (⟨b, i, none⟩ : Addr) = ⟨b, j, none⟩ => hj (congrArg Addr.off e)), h.c]; simp [hj]
theorem Own.new {w : World} (c : Array Value) (t : TypeId) : Own (w.alloc (.cells c t)) w.heap.size c.toList :=
  ⟨by simp, fun i => by simp, fun i => by simp⟩
theorem Own.new' {w : World} {b : Nat} {vs : List Value} (c : Array Value) (t : TypeId) (hb : b = w.heap.size) (hv : c.toList = vs) : Own (w.alloc (.cells c t)) b vs := by
  subst hb hv; exact Own.new c t
theorem Own.cast {w : World} {b : Nat} {vs vs' : List Value} (h : Own w b vs) (e : vs = vs') : Own w b vs' := e ▸ h
theorem own_set2 {w : World} {b : Nat} {vs : List Value} (h : Own w b vs) (hl : vs.length = 2) (x0 x1 : Value) : Own ((w.setCell ⟨b, 0, none⟩ x0).setCell ⟨b, 1, none⟩ x1) b [x0, x1] := by
  match vs, hl with
  | [a0, a1], _ => exact ((h.set 0 (by simp) x0).set 1 (by simp) x1)
theorem own_set3 {w : World} {b : Nat} {vs : List Value} (h : Own w b vs) (hl : vs.length = 3) (x0 x1 x2 : Value) : Own (((w.setCell ⟨b, 0, none⟩ x0).setCell ⟨b, 1, none⟩ x1).setCell ⟨b, 2, none⟩ x2) b [x0, x1, x2] := by
  match vs, hl with
  | [a0, a1, a2], _ => exact (((h.set 0 (by simp) x0).set 1 (by simp) x1).set 2 (by simp) x2)
theorem own_set4 {w : World} {b : Nat} {vs : List Value} (h : Own w b vs) (hl : vs.length = 4) (x0 x1 x2 x3 : Value) : Own ((((w.setCell ⟨b, 0, none⟩ x0).setCell ⟨b, 1, none⟩ x1).setCell ⟨b, 2, none⟩ x2).setCell ⟨b, 3, none⟩ x3) b [x0, x1, x2, x3] := by
  match vs, hl with
  | [a0, a1, a2, a3], _ => exact ((((h.set 0 (by simp) x0).set 1 (by simp) x1).set 2 (by simp) x2).set 3 (by simp) x3)
theorem own_set6 {w : World} {b : Nat} {vs : List Value} (h : Own w b vs) (hl : vs.length = 6) (x0 x1 x2 x3 x4 x5 : Value) : Own ((((((w.setCell ⟨b, 0, none⟩ x0).setCell ⟨b, 1, none⟩ x1).setCell ⟨b, 2, none⟩ x2).setCell ⟨b, 3, none⟩ x3).setCell ⟨b, 4, none⟩ x4).setCell ⟨b, 5, none⟩ x5) b [x0, x1, x2, x3, x4, x5] := by
  match vs, hl with
  | [a0, a1, a2, a3, a4, a5], _ => exact ((((((h.set 0 (by simp) x0).set 1 (by simp) x1).set 2 (by simp) x2).set 3 (by simp) x3).set 4 (by simp) x4).set 5 (by simp) x5)
theorem own_set8 {w : World} {b : Nat} {vs : List Value} (h : Own w b vs) (hl : vs.length = 8) (x0 x1 x2 x3 x4 x5 x6 x7 : Value) : Own ((((((((w.setCell ⟨b, 0, none⟩ x0).setCell ⟨b, 1, none⟩ x1).setCell ⟨b, 2, none⟩ x2).setCell ⟨b, 3, none⟩ x3).setCell ⟨b, 4, none⟩ x4).setCell ⟨b, 5, none⟩ x5).setCell ⟨b, 6, none⟩ x6).setCell ⟨b, 7, none⟩ x7) b [x0, x1, x2, x3, x4, x5, x6, x7] := by
  match vs, hl with
  | [a0, a1, a2, a3, a4, a5, a6, a7], _ => exact ((((((((h.set 0 (by simp) x0).set 1 (by simp) x1).set 2 (by simp) x2).set 3 (by simp) x3).set 4 (by simp) x4).set 5 (by simp) x5).set 6 (by simp) x6).set 7 (by simp) x7)
/-- A slice at the address A reads as these rows of sz cells each (its capacity and what lies behind them are left open). -/
structure Rd (sz : Nat) (w : World) (A : Option Addr) (rows : List (List Value)) : Prop where
  at_ : ∀ i, i < rows.length → ∃ b off, A = some ⟨b, off, none⟩ ∧ b < w.heap.size ∧ ∀ j r, rows[j]? = some r → ∀ c v, r[c]? = some v → w.cell? ⟨b, off + j * sz + c, none⟩ = some v
theorem Rd.nil (sz : Nat) (w : World) (A : Option Addr) : Rd sz w A [] := ⟨fun i h => absurd h (Nat.not_lt_zero i)⟩
theorem Rd.mk' {sz : Nat} {w : World} {b off : Nat} {rows : List (List Value)} (hb : b < w.heap.size) (h : ∀ j r, rows[j]? = some r → ∀ c v, r[c]? = some v → w.cell? ⟨b, off + j * sz + c, none⟩ = some v) : Rd sz w (some ⟨b, off, none⟩) rows :=
  ⟨fun _ _ => ⟨b, off, rfl, hb, h⟩⟩
theorem Rd.below {sz : Nat} {w w' : World} {A : Option Addr} {rows : List (List Value)} {B : Nat} (h : Rd sz w A rows) (k : Below B w w') (hB : w.heap.size ≤ B) : Rd sz w' A rows :=
  ⟨fun i hi => let ⟨b, off, e, hb, hc⟩ := h.at_ i hi
    ⟨b, off, e, Nat.lt_of_lt_of_le hb k.size, fun j r hj c v hv => (k.cell (p := ⟨b, off + j * sz + c, none⟩) (Nat.lt_of_lt_of_le hb hB)).trans (hc j r hj c v hv)⟩⟩
theorem Rd.setCell {sz : Nat} {w : World} {A : Option Addr} {rows : List (List Value)} (h : Rd sz w A rows) {a : Addr} (ha : ∀ b off, A = some ⟨b, off, none⟩ → a.block ≠ b) (u : Value) : Rd sz (w.setCell a u) A rows :=
  ⟨fun i hi => let ⟨b, off, e, hb, hc⟩ := h.at_ i hi
    ⟨b, off, e, by simpa using hb, fun j r hj c v hv => by rw [World.cell?_setCell_other (h := fun e' => ha b off e (by rw [e']))]; exact hc j r hj c v hv⟩⟩
/-- One element's cells. -/
theorem Rd.elem {sz : Nat} {w : World} {A : Option Addr} {rows : List (List Value)} (h : Rd sz w A rows) {i : Nat} {r : List Value} (hi : rows[i]? = some r) :
    ∃ b off, A = some ⟨b, off, none⟩ ∧ b < w.heap.size ∧ ∀ c v, r[c]? = some v → w.cell? ⟨b, off + i * sz + c, none⟩ = some v := by
  obtain ⟨hlt, _⟩ := List.getElem?_eq_some_iff.1 hi
  obtain ⟨b, off, e, hb, hc⟩ := h.at_ i hlt
  exact ⟨b, off, e, hb, fun c v hv => hc i r hi c v hv⟩
def irow (x : Int) : List Value := [.int .i64 x]
/-- A slice of numbers. -/
def RdI (w : World) (A : Option Addr) (xs : List Int) : Prop := Rd 1 w A (xs.map irow)
theorem RdI.nil (w : World) (A : Option Addr) : RdI w A [] := Rd.nil 1 w A
theorem RdI.below {w w' : World} {A : Option Addr} {xs : List Int} {B : Nat} (h : RdI w A xs) (k : Below B w w') (hB : w.heap.size ≤ B) : RdI w' A xs := Rd.below h k hB
theorem RdI.elem {w : World} {A : Option Addr} {xs : List Int} (h : RdI w A xs) {i : Nat} {x : Int} (hi : xs[i]? = some x) :
    ∃ b off, A = some ⟨b, off, none⟩ ∧ b < w.heap.size ∧ w.cell? ⟨b, off + i, none⟩ = some (.int .i64 x) := by
  obtain ⟨b, off, e, hb, hc⟩ := Rd.elem h (i := i) (r := irow x) (by simp [hi])
  refine ⟨b, off, e, hb, ?_⟩
  have := hc 0 (.int .i64 x) rfl
  simpa using this
theorem take_snoc {α : Type} {xs : List α} {k : Nat} {y : α} (h : xs[k]? = some y) : xs.take (k + 1) = xs.take k ++ [y] := by
  obtain ⟨hlt, rfl⟩ := List.getElem?_eq_some_iff.1 h
  exact List.take_succ_eq_append_getElem hlt

theorem ownsRow_below {w w' : World} {base e size n B : Nat} {v : Value} {xs : List Value} (h : w.ownsRow base e size v n xs) (k : Below B w w') (hB : w.heap.size ≤ B) : w'.ownsRow base e size v n xs := by
  obtain ⟨h1, h2⟩ := h
  refine ⟨h1, ?_⟩
  rcases h2 with h2 | ⟨g, cap, cur, hv, hg, hh, r⟩
  · exact Or.inl h2
  · have hlt : g < w.heap.size := (Array.getElem?_eq_some_iff.1 hh).1
    exact Or.inr ⟨g, cap, cur, hv, hg, by rw [k.block g (Nat.lt_of_lt_of_le hlt hB)]; exact hh, r⟩
/-- The slice v, made by the call itself from block base on, holds these rows of sz cells each (its element type: e). -/
def Gro (w : World) (base e sz : Nat) (v : Value) (rows : List (List Value)) : Prop := (∀ r ∈ rows, r.length = sz) ∧ w.ownsRow base e sz v rows.length rows.flatten
theorem Gro.nil (w : World) (base e sz : Nat) : Gro w base e sz (.slice none 0 0) [] := ⟨fun _ h => (by cases h), World.ownsRow_nil w base e sz⟩
theorem Gro.below {w w' : World} {base e sz B : Nat} {v : Value} {rows : List (List Value)} (h : Gro w base e sz v rows) (k : Below B w w') (hB : w.heap.size ≤ B) : Gro w' base e sz v rows := ⟨h.1, ownsRow_below h.2 k hB⟩
theorem Gro.alloc {w : World} {base e sz : Nat} {v : Value} {rows : List (List Value)} (h : Gro w base e sz v rows) (o : Obj) : Gro (w.alloc o) base e sz v rows := ⟨h.1, h.2.alloc o⟩
theorem Gro.drewN {w : World} {base e sz : Nat} {v : Value} {rows : List (List Value)} (h : Gro w base e sz v rows) (n : Nat) : Gro (w.drewN n) base e sz v rows := h
theorem Gro.grown {w w' : World} {base e sz : Nat} {v v' : Value} {rows : List (List Value)} {r : List Value} (h : Gro w base e sz v rows) (hr : r.length = sz) (ho : w'.ownsRow base e sz v' (rows.length + 1) (rows.flatten ++ r)) : Gro w' base e sz v' (rows ++ [r]) := by
  refine ⟨fun x hx => ?_, ?_⟩
  · rcases List.mem_append.1 hx with hx | hx
    · exact h.1 x hx
    · rw [List.mem_singleton.1 hx]; exact hr
  · rw [List.flatten_append, List.length_append]
    simpa using ho
theorem getElem?_flatten_row {sz : Nat} : ∀ (rows : List (List Value)), (∀ r ∈ rows, r.length = sz) → ∀ (j c : Nat) (r : List Value) (v : Value), rows[j]? = some r → r[c]? = some v → rows.flatten[j * sz + c]? = some v
  | [], _, j, c, r, v, h, _ => by simp at h
  | a :: rows, hl, 0, c, r, v, h, hv => by
    simp only [List.getElem?_cons_zero, Option.some.injEq] at h
    subst h
    rw [List.flatten_cons, Nat.zero_mul, Nat.zero_add, List.getElem?_append_left (List.getElem?_eq_some_iff.1 hv).1]
    exact hv
  | a :: rows, hl, j + 1, c, r, v, h, hv => by
    rw [List.getElem?_cons_succ] at h
    have ih := getElem?_flatten_row rows (fun x hx => hl x (List.mem_cons_of_mem _ hx)) j c r v h hv
    have ha := hl a (List.mem_cons_self ..)
    rw [List.flatten_cons, List.getElem?_append_right (by rw [ha, Nat.succ_mul]; omega), ha, Nat.succ_mul, show j * sz + sz + c - sz = j * sz + c by omega]
    exact ih
/-- It reads as these rows. -/
theorem Gro.out {w : World} {base e sz : Nat} {v : Value} {rows : List (List Value)} (h : Gro w base e sz v rows) : ∃ A cap, v = .slice A rows.length cap ∧ Rd sz w A rows := by
  obtain ⟨h0, h1, h2⟩ := h
  rcases h2 with ⟨rfl, hn⟩ | ⟨g, cap, cur, rfl, hg, hh, hcap, hmax, hsz, ht⟩
  · obtain rfl := List.length_eq_zero_iff.1 hn
    exact ⟨none, 0, rfl, Rd.nil sz w none⟩
  · refine ⟨some ⟨g, 0, none⟩, cap, rfl, Rd.mk' (Array.getElem?_eq_some_iff.1 hh).1 fun j r hj c v hv => ?_⟩
    have e1 := getElem?_flatten_row rows h0 j c r v hj hv
    rw [← ht, List.getElem?_take] at e1
    split at e1
    · rw [Nat.zero_add]
      simp only [World.cell?, hh]
      simpa using e1
    · simp at e1

/-- A world in which nothing that was there in W has turned. -/
structure Aft (W : World) where
  w : World
  h : Below W.heap.size W w
instance Aft.some (W : World) : Nonempty (Aft W) := ⟨⟨W, Below.refl _ _⟩⟩
theorem Aft.cell {W : World} {b : Nat} {vs : List Value} (h : Own W b vs) (x : Aft W) (i : Nat) : x.w.cell? ⟨b, i, none⟩ = vs[i]? := (h.below x.h h.lt).c i
theorem Aft.old {W : World} (x : Aft W) {b : Nat} (hb : b < W.heap.size) (i : Nat) : x.w.cell? ⟨b, i, none⟩ = W.cell? ⟨b, i, none⟩ := x.h.cell (p := ⟨b, i, none⟩) hb
theorem aft_of {P : Program} {f : FuncId} {args : Array Value} {W : World} {x : Aft W} {v : Value}
    (h : Calls P f args x.w fun e w' => e = .returned v ∧ Below x.w.heap.size x.w w') : Calls P f args x.w fun e w'' => e = .returned v ∧ ∃ y : Aft W, w'' = y.w :=
  h.mono fun _ w' ⟨he, hb⟩ => ⟨he, ⟨w', x.h.trans (hb.mono x.h.size)⟩, rfl⟩
theorem aft_same {P : Program} {f : FuncId} {args : Array Value} {W : World} {x : Aft W} {v : Value}
    (h : Calls P f args x.w fun e w' => e = .returned v ∧ x.w = w') : Calls P f args x.w fun e w'' => e = .returned v ∧ ∃ y : Aft W, w'' = y.w :=
  h.mono fun _ _ ⟨he, hm⟩ => ⟨he, x, hm.symm⟩
/-- A region that draws its order, whose operations read, and whose calls make memory of their own: ONE walk in the text's order. -/
theorem wp_region_aft {P : Program} {id : Nat} {Q : Exit → Act → World → Prop} {a : Act} {w : World} {l : List Oper} (hm : P.follows .mixedOrders = true) (hB : Region.lexB .any l.toArray = true)
    (h : wpQuiet P l.toArray (fun w' => ∃ x : Aft w, w' = x.w) (fun a' => ∀ w', (∃ x : Aft w, w' = x.w) → Q .normal a' w') l a) : (Code.region id l.toArray true).wp P Q a w :=
  wp_region_quiet (C := fun w' => ∃ x : Aft w, w' = x.w) hm hB ⟨⟨w.drew, (Below.refl _ _).drew⟩, rfl⟩ (by simpa using h)

end Go.Proofs.Ytgmhelclofnpkaa
