/- Walks: the examples of polygons and sheets; both layers are there. -/
import Derived.Test.YtgmhelclofnpkaaUf
import Derived.Test.YtgmhelclofnpkaaKh
namespace Go.Proofs.Ytgmhelclofnpkaa
open Go.RowKit

def exPs : List P2 := [(0, 0), (4, 0), (4, 3), (2, 1), (0, 3)]
def exCs : List Ct := [⟨1, 1000, 985, 2⟩, ⟨2, 500, 500, 1⟩, ⟨1, 2000, 1990, 20⟩]
theorem exPs_ok : Pl.ok exPs = true := by kernel_rfl
theorem exPs_area : Pl.area exPs = 16 := by kernel_rfl
theorem exCs_ok : Sh.okSh 980 1000 990 1010 0 exCs = true := by kernel_rfl
theorem exCs_len : (Sh.trs 980 1000 990 1010 0 exCs).length = 15 := by kernel_rfl
theorem flat_get' {sz : Nat} : ∀ {rows : List (List Value)}, (∀ r ∈ rows, r.length = sz) → ∀ {j : Nat} {r : List Value}, rows[j]? = some r → ∀ {c : Nat} {v : Value}, r[c]? = some v → rows.flatten[j * sz + c]? = some v
  | [], _, j, r, h, _, _, _ => by simp at h
  | r0 :: rows, hl, 0, r, h, c, v, hc => by
    simp at h; subst h
    obtain ⟨hlt, _⟩ := List.getElem?_eq_some_iff.1 hc
    rw [List.flatten_cons, Nat.zero_mul, Nat.zero_add, List.getElem?_append_left hlt]; exact hc
  | r0 :: rows, hl, j + 1, r, h, c, v, hc => by
    have e0 : r0.length = sz := hl r0 (List.mem_cons_self ..)
    rw [List.flatten_cons, List.getElem?_append_right (by rw [e0, Nat.succ_mul]; omega), e0, show (j + 1) * sz + c - sz = j * sz + c by rw [Nat.succ_mul]; omega]
    exact flat_get' (fun r hr => hl r (List.mem_cons_of_mem _ hr)) (by simpa using h) hc
theorem Own.rd' {sz : Nat} {w : World} {b : Nat} {vs : List Value} {rows : List (List Value)} (h : Own w b vs) (e : rows.flatten = vs) (hl : ∀ r ∈ rows, r.length = sz) : Rd sz w (some ⟨b, 0, none⟩) rows :=
  Rd.mk' h.lt fun j r hj c v hv => by rw [Nat.zero_add, h.c, ← e]; exact flat_get' hl hj hv
set_option maxHeartbeats 1000000 in
theorem ex02W (w : World) : Calls Try.prog 33 #[] w fun e w' => ∃ (A : Option Addr) (cap : Nat), e = .returned (.slice A 5 cap) ∧ Rd 2 w' A (exPs.map ptrow) ∧ Below w.heap.size w w' := by
  go_enter Try.func33, Try.ntmps33
  go_wp2
  go_ret
  refine ⟨some ⟨w.heap.size, 0, none⟩, 5, rfl, ?_, by (repeat' (first | (with_reducible exact Below.refl _ _) | (with_reducible assumption) | (with_reducible refine Below.drew ?_) | (with_reducible refine below_drewN ?_ _) | (with_reducible refine Below.setCell ?_ ?_ _) | (with_reducible refine Below.alloc ?_ ?_ _) | (refine Below.trans ?_ (Below.mono (by with_reducible assumption) ?_)) | omega | (exact Below.size (by with_reducible assumption)) | (simp; done) | (simp; omega)))⟩
  refine Own.rd' (vs := [.int .i64 0, .int .i64 0, .int .i64 4, .int .i64 0, .int .i64 4, .int .i64 3, .int .i64 2, .int .i64 1, .int .i64 0, .int .i64 3]) ?_ rfl (by simp [exPs, ptrow])
  exact Own.new' _ _ rfl rfl
set_option maxHeartbeats 2000000 in
theorem ex04W (w : World) : Calls Try.prog 46 #[] w fun e w' => ∃ (A : Option Addr) (cap : Nat), e = .returned (shV 980 1000 990 1010 A 3 cap 0) ∧ Rd 4 w' A (exCs.map ctrow) ∧ Below w.heap.size w w' := by
  go_enter Try.func46, Try.ntmps46
  go_wp2
  have oB := ((Below.refl w.heap.size w).alloc (Nat.le_refl _) (Obj.cells #[.int .i64 980, .int .i64 1000, .int .i64 990, .int .i64 1010, .slice (some ⟨w.heap.size + 1, 0, none⟩) 3 3, .int .i64 0] 44)).alloc (by simp) (Obj.cells #[.int .i64 1, .int .i64 1000, .int .i64 985, .int .i64 2, .int .i64 2, .int .i64 500, .int .i64 500, .int .i64 1, .int .i64 1, .int .i64 2000, .int .i64 1990, .int .i64 20] 93)
  go_returns
  refine ⟨some ⟨w.heap.size + 1, 0, none⟩, 3, rfl, ?_, oB⟩
  refine Own.rd' (vs := [.int .i64 1, .int .i64 1000, .int .i64 985, .int .i64 2, .int .i64 2, .int .i64 500, .int .i64 500, .int .i64 1, .int .i64 1, .int .i64 2000, .int .i64 1990, .int .i64 20]) ?_ rfl (by simp [exCs, ctrow])
  exact Own.new' _ _ (by simp) rfl
theorem cTup {P : Program} {f : FuncId} {args : Array Value} {w : World} {a b c d : Int} (h : a = c) (h' : b = d) (k : Calls P f args w fun e w' => e = .returned (.tuple #[.int .i64 a, .int .i64 b]) ∧ Below w.heap.size w w') : Calls P f args w fun e w' => e = .returned (.tuple #[.int .i64 c, .int .i64 d]) ∧ Below w.heap.size w w' := by subst h h'; exact k
set_option maxHeartbeats 2000000 in
theorem mappedW (w : World) : Calls Try.prog 15 #[] w fun e w' => e = .returned (.bool true) ∧ Below w.heap.size w w' := by
  go_enter Try.func15, Try.ntmps15
  go_wp2_with fail
  refine (ex02W _).mono ?_
  rintro e w1 ⟨A, cap, rfl, hR, hb1⟩
  have HR := Lib.hid hR
  clear hR
  go_wp2_with fail
  refine (cTup (show (if Pl.ok exPs = true then Pl.area exPs else 0) = 16 by rw [exPs_ok]; exact exPs_area) (show (if Pl.ok exPs = true then (0 : Int) else 20) = 0 by rw [exPs_ok]; rfl) (ctwW A 5 cap exPs _ HR.out rfl (by omega))).mono ?_
  rintro e w2 ⟨rfl, hb2⟩
  have hB2 : Below w.heap.size w w2 := hb1.trans (hb2.mono hb1.size)
  clear hb1 hb2
  go_wp2_with fail
  refine (ex04W _).mono ?_
  rintro e w3 ⟨A', cap', rfl, hR', hb3⟩
  have HR' := Lib.hid hR'
  have hB3 : Below w.heap.size w w3 := hB2.trans (hb3.mono hB2.size)
  clear hR' hb3 hB2
  go_wp2_with fail
  refine (cTup (show (((Sh.trs 980 1000 990 1010 0 exCs).length : Nat) : Int) = 15 by rw [exCs_len]; rfl) rfl (sManyW 980 1000 990 1010 A' 3 cap' 0 exCs _ HR'.out rfl exCs_ok (show Sh.trs 980 1000 990 1010 0 exCs ≠ [] from fun e => by have := exCs_len; rw [e] at this; cases this))).mono ?_
  rintro e w4 ⟨rfl, hb4⟩
  go_wp2
  go_ret
  exact ⟨rfl, hB3.trans (hb4.mono hB3.size)⟩
end Go.Proofs.Ytgmhelclofnpkaa
