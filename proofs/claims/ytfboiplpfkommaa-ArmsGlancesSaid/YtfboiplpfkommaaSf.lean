/- Walks: appending glances in a region that draws its order. -/
import Derived.Test.YtfboiplpfkommaaSd
import Derived.Test.YtfboiplpfkommaaGlanP
import Derived.Deep.AppendLies
import Derived.Deep.RegionHeld3
namespace Go.Proofs.Ytfboiplpfkommaa
open Go.RowKit

theorem rev_get {gs : List Gl} {n j : Nat} (hn : n = gs.length) (hj : j < n) : ∃ g, gs[n - 1 - j]? = some g ∧ gs.reverse[j]? = some g := by
  have hlt : n - 1 - j < gs.length := by omega
  refine ⟨gs[n - 1 - j], by simp [hlt], ?_⟩
  rw [List.getElem?_reverse (by omega), ← hn]
  simp [hlt]

theorem keepS {W w' : World} {b : Nat} {vs : List Value} (o : Own W b vs) (h : Below W.heap.size W w') : Below W.heap.size W w' ∧ ∀ i, w'.cell? ⟨b, i, none⟩ = vs[i]? := ⟨h, (o.below h o.lt).c⟩
theorem row_drew {w : World} {base e size n : Nat} {v : Value} {xs : List Value} (h : w.ownsRow base e size v n xs) : w.drew.ownsRow base e size v n xs := h
theorem row_drewN {w : World} {base e size n : Nat} {v : Value} {xs : List Value} (h : w.ownsRow base e size v n xs) (k : Nat) : (w.drewN k).ownsRow base e size v n xs := h
theorem made0 {w : World} {B g0 : Nat} (hg : g0 = w.heap.size) (hB : B ≤ w.heap.size) : (w.alloc (.cells #[] 71)).ownsRow B 71 2 (.slice (some ⟨g0, 0, none⟩) 0 0) 0 [] := by
  subst hg
  exact World.ownsRow_made w #[] 0 hB (Nat.zero_le _) rfl
theorem own_grown {w w' : World} {g0 b : Nat} {vs : List Value} (hg : w.grownBy w' (some g0)) (h : Own w b vs) (hb : b ≠ g0) : Own w' b vs :=
  ⟨Nat.lt_of_lt_of_le h.lt hg.size, fun i => (World.cell?_of_block (a := ⟨b, i, none⟩) (hg.block b h.lt (by simpa using hb))).trans (h.c i),
    fun i => (World.frozen?_of_block (a := ⟨b, i, none⟩) (hg.block b h.lt (by simpa using hb))).trans (h.f i)⟩
theorem stepA {w9 w : World} {ops : Array Oper} {o : Oper} {a : Act} {K : Act → World → Prop} {Q : Exit → Act → World → Prop} {E : Prop} {ad : Addr} {gs : List Gl} {n cap g0 : Nat} (hgd : o.guard = none) (s x : Operand)
    (ho : o.op = .call { callee := .builtin .append, args := #[s, x], argTypes := #[64, 64] }) (hs : a.eval s = .slice (some ⟨g0, 0, none⟩) 0 0) (hx : a.eval x = .slice (some ad) n cap)
    (hA : RdG w9 (some ad) gs) (hn : Hid (n = gs.length)) (hn1 : 1 ≤ n) (hn6 : n ≤ 6) (hown : w.ownsRow w9.heap.size 71 2 (.slice (some ⟨g0, 0, none⟩) 0 0) 0 []) (hb : Below w9.heap.size w9 w)
    (h : ∀ g cap' w', w'.ownsRow w9.heap.size 71 2 (.slice (some ⟨g, 0, none⟩) n cap') n (gs.flatMap grow) → Below w9.heap.size w9 w' → (∀ b vs, Own w b vs → b ≠ g0 → Own w' b vs) → (g0 = g ∨ g = w.heap.size) → g < w'.heap.size → K (a.put o.dst (.slice (some ⟨g, 0, none⟩) n cap')) w') :
    if Region.wanted o (yielded ops a.tmps) = true then Oper.wp Try.prog o a w K Q else E := by
  obtain ⟨i0, hi0, hi1, hi2, hi3⟩ := info_parts Try.info71
  refine step_append_lies w hgd s x 64 ho w9.heap.size 71 i0 (.agg #[.int .i64 0, .int .i64 0]) 2 16 Try.underlying64 hi0 hi1 hi2 hi3 rfl (by decide) _ 0 [] hs hown ad n cap (gs.flatMap grow) hx (by rw [flat_len, ← hn.out]) (RdG.flat (hA.below hb (Nat.le_refl _))) (flat_one gs) (by omega) (by unfold maxLen; omega) (by omega) hb.size _ rfl ?_
  intro g cap' w' ho' hg hat hlt
  rw [Nat.zero_add, List.nil_append] at ho'
  rw [Nat.zero_add]
  have hg2 : w.grownBy w' (some g0) := hg
  exact h g cap' w' ho' (hb.grown hg2 hb.size (fun k e => by cases e; exact (hown.lt g0 rfl).1)) (fun b vs ho hne => own_grown hg2 ho hne) (hat.elim (fun e => .inl (by simpa [Value.ownBlock] using e)) .inr) hlt
theorem stepB {w9 w : World} {ops : Array Oper} {o : Oper} {a : Act} {K : Act → World → Prop} {Q : Exit → Act → World → Prop} {E : Prop} {gs : List Gl} {n cap g g2 : Nat} {gm gl : Int} (hgd : o.guard = none) (s x : Operand)
    (ho : o.op = .call { callee := .builtin .append, args := #[s, x], argTypes := #[64, 64] }) (hs : a.eval s = .slice (some ⟨g, 0, none⟩) n cap) (hx : a.eval x = .slice (some ⟨g2, 0, none⟩) 1 1)
    (hn : Hid (n = gs.length)) (hn6 : n ≤ 6) (hown : w.ownsRow w9.heap.size 71 2 (.slice (some ⟨g, 0, none⟩) n cap) n (gs.flatMap grow)) (ho2 : Own w g2 [.int .i64 gm, .int .i64 gl]) (hb : Below w9.heap.size w9 w)
    (h : ∀ g' cap' w', RdG w' (some ⟨g', 0, none⟩) (gs ++ [⟨gm, gl⟩]) → Below w9.heap.size w9 w' → K (a.put o.dst (.slice (some ⟨g', 0, none⟩) (n + 1) cap')) w') :
    if Region.wanted o (yielded ops a.tmps) = true then Oper.wp Try.prog o a w K Q else E := by
  obtain ⟨i0, hi0, hi1, hi2, hi3⟩ := info_parts Try.info71
  refine step_append_lies w hgd s x 64 ho w9.heap.size 71 i0 (.agg #[.int .i64 0, .int .i64 0]) 2 16 Try.underlying64 hi0 hi1 hi2 hi3 rfl (by decide) _ n _ hs hown ⟨g2, 0, none⟩ 1 1 [.int .i64 gm, .int .i64 gl] hx rfl ?_ (by simp [Value.oneCell']) (by omega) (by unfold maxLen; omega) (by omega) hb.size _ rfl ?_
  · intro j u hu
    have := ho2.c j
    rw [hu] at this
    rw [← this]
    unfold Addr.add
    split
    · rename_i h0; subst h0; rfl
    · simp
  · intro g' cap' w' ho' hg hat hlt
    have hg2 : w.grownBy w' (some g) := hg
    have e1 : gs.flatMap grow ++ [.int .i64 gm, .int .i64 gl] = (gs ++ [(⟨gm, gl⟩ : Gl)]).flatMap grow := by rw [List.flatMap_append]; rfl
    rw [e1] at ho'
    obtain ⟨A, c, hv, hr⟩ := gro_gl (n := n + 1) (by rw [List.length_append, ← hn.out]; rfl) ho'
    simp only [Value.slice.injEq] at hv
    obtain ⟨rfl, _, rfl⟩ := hv
    exact h g' cap' w' hr (hb.grown hg2 hb.size (fun k e => by cases e; exact (hown.lt g rfl).1))

end Go.Proofs.Ytfboiplpfkommaa
