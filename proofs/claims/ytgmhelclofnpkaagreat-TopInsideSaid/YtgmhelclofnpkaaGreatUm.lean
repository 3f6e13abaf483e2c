/- Walks: the examples of polygons and sheets; both layers are there. -/
import Derived.Test.YtgmhelclofnpkaaGreatUf
import Derived.Test.YtgmhelclofnpkaaGreatKh
namespace Go.Proofs.YtgmhelclofnpkaaGreat
open Go.RowKit

def exPs : List P2 := [(0, 0), (4, 0), (4, 3), (2, 1), (0, 3)]
def exCs : List Ct := [⟨1, 1000, 985, 2⟩, ⟨2, 500, 500, 1⟩, ⟨1, 2000, 1990, 20⟩]
theorem exPs_ok : Pl.ok exPs = true := by kernel_rfl
theorem exPs_area : Pl.area exPs = 16 := by kernel_rfl
theorem exCs_ok : Sh.okSh 980 1000 990 1010 0 exCs = true := by kernel_rfl
theorem exCs_len : (Sh.trs 980 1000 990 1010 0 exCs).length = 15 := by kernel_rfl
theorem flat_get' {sz : Nat} : ∀ {rows : List (List Value)}, (∀ r ∈ rows, r.length = sz) → ∀ {j : Nat} {r : List Value}, rows[j]? = some r → ∀ {c : Nat} {v : Value}, r[c]? = some v → rows.flatten[j * sz + c]? = some v
  | [], _, j, r, h, _, _, _ => by simp at h
  | r0 :: rows, hl, 0, r, h, c, v, hc => by
    simp at h; subst h
    obtain ⟨hlt, _⟩ := List.getElem?_eq_some_iff.1 hc
    rw [List.flatten_cons, Nat.zero_mul, Nat.zero_add, List.getElem?_append_left hlt]; exact hc
  | r0 :: rows, hl, j + 1, r, h, c, v, hc => by
    have e0 : r0.length = sz := hl r0 (List.mem_cons_self ..)
    rw [List.flatten_cons, List.getElem?_append_right (by rw [e0, Nat.succ_mul]; omega), e0, show (j + 1) * sz + c - sz = j * sz + c by rw [Nat.succ_mul]; omega]
    exact flat_get' (fun r hr => hl r (List.mem_cons_of_mem _ hr)) (by simpa using h) hc
theorem Own.rd' {sz : Nat} {w : World} {b : Nat} {vs : List Value} {rows : List (List Value)} (h : Own w b vs) (e : rows.flatten = vs) (hl : ∀ r ∈ rows, r.length = sz) : Rd sz w (some ⟨b, 0, none⟩) rows :=
  Rd.mk' h.lt fun j r hj c v hv => by rw [Nat.zero_add, h.c, ← e]; exact flat_get' hl hj hv
set_option maxHeartbeats 1000000 in
theorem ex02W (w : World) : Calls Tryz.prog 41 #[] w fun e w' => ∃ (A : Option Addr) (cap : Nat), e = .returned (.slice A 5 cap) ∧ Rd 2 w' A (exPs.map ptrow) ∧ Below w.heap.size w w' := by
  go_enter Tryz.func41, Tryz.ntmps41
  go_wp2
  go_ret
  refine ⟨some ⟨w.heap.size, 0, none⟩, 5, rfl, ?_, by (repeat' (first | (with_reducible exact Below.refl _ _) | (with_reducible assumption) | (with_reducible refine Below.drew ?_) | (with_reducible refine below_drewN ?_ _) | (with_reducible refine Below.setCell ?_ ?_ _) | (with_reducible refine Below.alloc ?_ ?_ _) | (refine Below.trans ?_ (Below.mono (by with_reducible assumption) ?_)) | omega | (exact Below.size (by with_reducible assumption)) | (simp; done) | (simp; omega)))⟩
  refine Own.rd' (vs := [.int .i64 0, .int .i64 0, .int .i64 4, .int .i64 0, .int .i64 4, .int .i64 3, .int .i64 2, .int .i64 1, .int .i64 0, .int .i64 3]) ?_ rfl (by simp [exPs, ptrow])
  exact Own.new' _ _ rfl rfl
theorem cTup {P : Program} {f : FuncId} {args : Array Value} {w : World} {a b c d : Int} (h : a = c) (h' : b = d) (k : Calls P f args w fun e w' => e = .returned (.tuple #[.int .i64 a, .int .i64 b]) ∧ Below w.heap.size w w') : Calls P f args w fun e w' => e = .returned (.tuple #[.int .i64 c, .int .i64 d]) ∧ Below w.heap.size w w' := by subst h h'; exact k
end Go.Proofs.YtgmhelclofnpkaaGreat
