/- Walks: the heights of a place for a loop over them; the greatest doubt left. -/
import Derived.Test.YtphcpphmoeiioaaWI
import Derived.RangeFuncWrites
import Derived.RangeFuncBox
namespace Go.Proofs.Ytphcpphmoeiioaa
open Go.RowKit Go.Maps Go.Shelf

attribute [local go_sem] Oper.semAt_some
abbrev Ht := {x : Int // -100 ≤ x ∧ x ≤ 100}
def KpB (n₁ B0 B1 : Nat) (W W' : World) : Prop := Below n₁ W W' ∧ W'.heap[B0]? = W.heap[B0]? ∧ W'.heap[B1]? = W.heap[B1]?
theorem Own.ofBlock {w w' : World} {b : Nat} {vs : List Value} (h : Own w b vs) (e : w'.heap[b]? = w.heap[b]?) : Own w' b vs :=
  ⟨by
    have h1 := h.lt
    have : w.heap[b]? = some (w.heap[b]'h1) := Array.getElem?_eq_getElem h1
    rw [this] at e
    exact (Array.getElem?_eq_some_iff.1 e).1, fun i => (World.cell?_of_block e).trans (h.c i), fun i => (World.frozen?_of_block e).trans (h.f i)⟩
set_option maxRecDepth 100000 in
theorem stops79 (L sl rl rh wg : Int) (A : Option Addr) (n cap : Nat) (ks : List Kn) (p : Nat) (B0 B1 n₁ : Nat) (w : World) (nF : Nat) (hnF : 2 ≤ nF) (hA : ∀ W, Below n₁ w W → Rd 3 W A (ks.map krow)) (hn₁ : n₁ ≤ w.heap.size) (hn : Hid (n = ks.length)) (hV : Hid (CvV L sl rl rh wg ks)) (hp : (p : Int) ≤ L)
    (h0 : Own w B0 [.int .i64 L, .int .i64 sl, .int .i64 rl, .int .i64 rh, .slice A n cap, .int .i64 wg, .map none]) (h1 : Own w B1 [.int .i64 p]) :
    SeqStopsK Fence.wide nF Try.prog 79 #[.pointer (some ⟨B0, 0, none⟩), .pointer (some ⟨B1, 0, none⟩)] (fun x : Ht => #[.int .i64 x.1]) (KpB n₁ B0 B1) (fun xs => xs.map (·.1) = htL (cvOf L sl rl rh wg ks) p (rh - rl + 1).toNat) (fun _ => True) 201 w := by
  intro l J Jx W hW hJ hJx hY hJ0
  have hz := hW.size
  have hl0 := h0.lt
  have hl1 := h1.lt
  refine (heights79 L sl rl rh wg A n cap ks p B0 B1 nF hnF hn hV hp l (fun pre W1 => ∃ pre' : List Ht, pre'.map (·.1) = pre ∧ J pre' W1 ∧ Below n₁ w W1 ∧ W1.heap[B0]? = w.heap[B0]? ∧ W1.heap[B1]? = w.heap[B1]?) (fun pre W1 => ∃ pre', Jx pre' W1) W ?_ ?_ ?_ ?_).mono ?_
  · rintro s W1 W2 row ⟨pre', e, hj, hb, e0, e1⟩ hg hr
    have hs := hb.size
    have hrow : ∀ r, row = some r → W.heap.size ≤ r := fun r e => (hr r e).1
    exact ⟨pre', e, hJ _ _ _ row hj hg hr, hb.grown hg (by omega) (fun k ek => by have := hrow k ek; omega), (hg.block B0 (by omega) (fun ek => by have := hrow _ ek.symm; omega)).trans e0, (hg.block B1 (by omega) (fun ek => by have := hrow _ ek.symm; omega)).trans e1⟩
  · rintro pre W1 ⟨pre', e, hj, hb, e0, e1⟩
    exact ⟨h0.ofBlock e0, h1.ofBlock e1, hA _ hb⟩
  · rintro pre x W1 ⟨pre', e, hj, hb, e0, e1⟩ hlen hx1 hx2
    have hs := hb.size
    have hl : pre'.length < 201 := by rw [← e, List.length_map] at hlen; exact hlen
    refine (hY pre' ⟨x, hx1, hx2⟩ W1 hj hl).mono ?_
    rintro e' W' (⟨rfl, h1, h2, h3, h4⟩ | ⟨rfl, h1⟩)
    · exact Or.inl ⟨rfl, pre' ++ [⟨x, hx1, hx2⟩], by simp [e], h1, hb.trans h2, h3.trans e0, h4.trans e1⟩
    · exact Or.inr ⟨rfl, _, h1⟩
  · exact ⟨[], rfl, hJ0, hW.mono hn₁, hW.block B0 hl0, hW.block B1 hl1⟩
  · rintro e W' ⟨h1, ⟨pre', h2, h3, _⟩ | ⟨pre, pre', h2⟩⟩
    · exact ⟨h1, Or.inl ⟨pre', h2, h3⟩⟩
    · exact ⟨h1, Or.inr ⟨pre', trivial, h2⟩⟩
end Go.Proofs.Ytphcpphmoeiioaa
