/- Walks: all truths of a sheet, as an iterator. -/
import Derived.Test.YtgmhelclofnpkaaUc
namespace Go.Proofs.Ytgmhelclofnpkaa
open Go.RowKit Go.Shelf

attribute [local go_sem] Oper.semAt_some
theorem own_kpc {n₁ n₂ B0 b : Nat} {vs : List Value} {W W' : World} (h : Own W b vs) (k : KpC n₁ n₂ B0 W W') (hb : n₂ ≤ b) : Own W' b vs := h.ofBlock (k.2.2 b hb h.lt)
/-- A round's contract serves inside another round. -/
theorem roundIn_any {m m' l2 l : Nat} {P : Program} {f : FuncId} {tmps : Array Value} {assign body : Code} {w : World} {R : Ending → World → Prop} (h : RoundIn Fence.wide m P l f tmps assign body w R) : RoundIn (Fence.wide.inRound l2) m' P l f tmps assign body w R :=
  ⟨trivial, fun c cs _ => h.2 c cs (room_wide _)⟩
theorem sallB (aL aH lL lH : Int) (A : Option Addr) (n cap : Nat) (wq : Int) (cs : List Ct) (Bs n₁ : Nat) (w : World) (nF : Nat) (hnF : 2 ≤ nF) (hA : ∀ W, Below n₁ w W → Rd 4 W A (cs.map ctrow)) (hn₁ : n₁ ≤ w.heap.size) (hn : Hid (n = cs.length)) (hV : Hid (ShV aL aH lL lH wq cs)) (h0 : Own w Bs (shC aL aH lL lH A n cap wq)) :
    SeqB nF Try.prog 119 #[.pointer (some ⟨Bs, 0, none⟩)] #[] (fun x : Fac aL aH lL lH => facE cs x.1) (KpB1 n₁ Bs) (fun ys => ys.map (·.1) = Sh.allP aL aH lL lH) 40401 w := by
  intro l J Jx W hW hW2 hJ hJx hY hJ0
  have hz := hW.size
  have hl0 := h0.lt
  refine (salls aL aH lL lH A n cap wq cs Bs nF hnF hn hV l (fun pre W1 => J pre W1 ∧ Below n₁ w W1 ∧ W1.heap[Bs]? = w.heap[Bs]?) Jx W ?_ ?_ ?_ ?_).mono ?_
  · rintro s W1 W2 row ⟨hj, hb, e0⟩ hg hr
    have hJ := abides_of_own hJ
    have hs := hb.size
    have hrow : ∀ r, row = some r → W.heap.size ≤ r := fun r e => (hr r e).1
    exact ⟨hJ _ _ _ row hj hg hr, hb.grown hg (by omega) (fun k ek => by have := hrow k ek; omega), (hg.block Bs (by omega) (fun ek => by have := hrow _ ek.symm; omega)).trans e0⟩
  · rintro pre W1 ⟨hj, hb, e0⟩
    exact ⟨h0.ofBlock e0, hA _ hb⟩
  · rintro pre x W1 ⟨hj, hb, e0⟩ hlen
    refine (hY pre x W1 hj hlen).mono ?_
    rintro e' W' (⟨rfl, h1, h2, h3⟩ | ⟨rfl, h1, _⟩)
    · exact Or.inl ⟨rfl, h1, hb.trans h2, h3.trans e0⟩
    · exact Or.inr ⟨rfl, h1⟩
  · exact ⟨hJ0, hW.mono hn₁, hW.block Bs hl0⟩
  · rintro e W' ⟨h1, ⟨pre', h2, h3, _⟩ | ⟨pre, h2⟩⟩
    · exact ⟨h1, Or.inl ⟨pre', h2, h3⟩⟩
    · exact ⟨h1, Or.inr ⟨pre, h2⟩⟩
/-- The factors are a truth. -/
def trB (wq : Int) (cs : List Ct) (p : P2) : Bool := decide ((Sh.wrongs cs p : Int) ≤ wq)
abbrev Tr (aL aH lL lH wq : Int) (cs : List Ct) := {p : P2 // Sh.In aL aH lL lH p ∧ trB wq cs p = true}
def trO {aL aH lL lH : Int} (wq : Int) (cs : List Ct) (x : Fac aL aH lL lH) : Option (Tr aL aH lL lH wq cs) := if h : trB wq cs x.1 = true then some ⟨x.1, x.2, h⟩ else none
def trF {aL aH lL lH : Int} (wq : Int) (cs : List Ct) (pre : List (Fac aL aH lL lH)) : List (Tr aL aH lL lH wq cs) := pre.filterMap (trO wq cs)
theorem trF_vals {aL aH lL lH wq : Int} {cs : List Ct} : ∀ ys : List (Fac aL aH lL lH), (trF wq cs ys).map (·.1) = (ys.map (·.1)).filter fun p => trB wq cs p
  | [] => rfl
  | y :: ys => by
    have ih := trF_vals (wq := wq) (cs := cs) ys
    unfold trF at ih ⊢
    rw [List.filterMap_cons, List.map_cons, List.filter_cons]
    unfold trO at ih ⊢
    by_cases h : trB wq cs y.1 = true
    · rw [dif_pos h, if_pos h, List.map_cons, ih]
    · rw [dif_neg h, if_neg h, ih]
theorem trF_map {aL aH lL lH wq : Int} {cs : List Ct} {ys : List (Fac aL aH lL lH)} (h : ys.map (·.1) = Sh.allP aL aH lL lH) : (trF wq cs ys).map (·.1) = Sh.trs aL aH lL lH wq cs := by
  rw [trF_vals, h]; rfl
theorem trF_no {aL aH lL lH wq : Int} {cs : List Ct} {pre : List (Fac aL aH lL lH)} {x : Fac aL aH lL lH} (h : trB wq cs x.1 = false) : trF wq cs (pre ++ [x]) = trF wq cs pre := by
  simp [trF, trO, h]
theorem trF_yes {aL aH lL lH wq : Int} {cs : List Ct} {pre : List (Fac aL aH lL lH)} {x : Fac aL aH lL lH} (h : trB wq cs x.1 = true) : trF wq cs (pre ++ [x]) = trF wq cs pre ++ [⟨x.1, x.2, h⟩] := by
  simp [trF, trO, h]
theorem pairs_mem {aL lL : Int} {m : Nat} {i j : Nat} (hj : j < m) : ∀ n, i < n → (aL + (i : Int), lL + (j : Int)) ∈ Sh.pairs aL lL m n
  | 0, h => by omega
  | n + 1, h => by
    rw [Sh.pairs, List.mem_append]
    by_cases e : i = n
    · subst e
      exact Or.inr (List.mem_map.2 ⟨j, List.mem_range.2 hj, rfl⟩)
    · exact Or.inl (pairs_mem hj n (by omega))
theorem allP_mem {aL aH lL lH : Int} {p : P2} (h : Sh.In aL aH lL lH p) : p ∈ Sh.allP aL aH lL lH := by
  obtain ⟨⟨h1, h2⟩, h3, h4⟩ := h
  have := pairs_mem (aL := aL) (lL := lL) (m := (lH - lL + 1).toNat) (i := (p.1 - aL).toNat) (j := (p.2 - lL).toNat) (by omega) (aH - aL + 1).toNat (by omega)
  rw [show aL + (((p.1 - aL).toNat : Nat) : Int) = p.1 by omega, show lL + (((p.2 - lL).toNat : Nat) : Int) = p.2 by omega] at this
  exact this
theorem trs_mem {aL aH lL lH wq : Int} {cs : List Ct} (x : Tr aL aH lL lH wq cs) : x.1 ∈ Sh.trs aL aH lL lH wq cs := List.mem_filter.2 ⟨allP_mem x.2.1, x.2.2⟩
def facT (p : P2) : Array Value := #[.agg #[.int .i64 p.1, .int .i64 p.2]]
set_option maxRecDepth 100000 in
set_option maxHeartbeats 8000000 in
theorem strS (aL aH lL lH : Int) (A : Option Addr) (n cap : Nat) (wq : Int) (cs : List Ct) (Bs n₁ : Nat) (w : World) (nF : Nat) (hnF : 5 ≤ nF) (hA : ∀ W, Below n₁ w W → Rd 4 W A (cs.map ctrow)) (hn₁ : n₁ ≤ w.heap.size) (hn : Hid (n = cs.length)) (hV : Hid (ShV aL aH lL lH wq cs)) (h0 : Own w Bs (shC aL aH lL lH A n cap wq)) :
    SeqB nF Try.prog 92 #[.pointer (some ⟨Bs, 0, none⟩)] #[] (fun x : Tr aL aH lL lH wq cs => facT x.1) (KpC n₁ (w.heap.size + 2) Bs) (fun ys => ys.map (·.1) = Sh.trs aL aH lL lH wq cs) 40401 w := by
  intro l J Jx W hW hW2 hJ hJx hY hJ0
  have hz := hW.size
  have hl0 := h0.lt
  have f1 : Fence.wide.fn 119 := trivial
  refine callsIn_of_wp_marks Try.func92 rfl trivial ?_ rfl
  simp only [Try.ntmps92, List.size_toArray, List.length_cons, List.length_nil, Nat.reduceAdd, Nat.reduceSub, Array.replicate_succ, Array.replicate_zero, List.push_toArray, List.append_toArray, List.nil_append, List.cons_append]
  gi_wp2
  refine wpIn_gen fun W0 hW0 => ?_
  have hB0 : Below W.heap.size W W0 := by rw [hW0]; (repeat' (first | (with_reducible exact Below.refl _ _) | (with_reducible assumption) | (with_reducible refine Below.drew ?_) | (with_reducible refine below_drewN ?_ _) | (with_reducible refine Below.setCell ?_ ?_ _) | (with_reducible refine Below.alloc ?_ ?_ _) | (refine Below.trans ?_ (Below.mono (by with_reducible assumption) ?_)) | omega | (exact Below.size (by with_reducible assumption)) | (simp; done) | (simp; omega)))
  have hsz : W0.heap.size = W.heap.size + 2 := by rw [hW0]; simp
  have o0 : Own W0 W.heap.size [.pointer (some ⟨Bs, 0, none⟩)] := by rw [hW0]; exact (Own.new' _ _ (by simp) rfl).alloc _
  have o1 : Own W0 (W.heap.size + 1) [.func (.yield l) #[] #[]] := by rw [hW0]; exact Own.new' _ _ (by simp) rfl
  have hJ1 : J [] W0 := hJ _ _ _ none hJ0 (grown_of_below hB0) (fun r e => by cases e)
  have hwW0 : Below n₁ w W0 := (hW.mono hn₁).trans (hB0.mono (by omega))
  have eB : W0.heap[Bs]? = w.heap[Bs]? := (hB0.block Bs (by omega)).trans (hW.block Bs hl0)
  clear hW0
  refine wpIn_rangeB (by omega) (gf := 119) (fst := #[.pointer (some ⟨Bs, 0, none⟩)]) (lb := #[]) rfl (enters_of Try.func119 (by kernel_rfl) rfl)
    (sallB aL aH lL lH A n cap wq cs Bs n₁ W0 (nF - 1) (by omega) (fun W' hW' => hA _ (hwW0.trans hW')) (by omega) hn hV (h0.ofBlock eB))
    (fun h1 h2 => ⟨h1.1.trans h2.1, h2.2.trans h1.2⟩) (fun W' o o' ho hc hw => ⟨?kb, World.putObj_heap_other (by omega)⟩) (fun _ => rfl)
    (fun pre W1 => J (trF wq cs pre) W1 ∧ (Own W1 W.heap.size [.pointer (some ⟨Bs, 0, none⟩)] ∧ Own W1 (W.heap.size + 1) [.func (.yield l) #[] #[]]) ∧ W0.heap.size ≤ W1.heap.size ∧ Below n₁ w W1 ∧ W1.heap[Bs]? = w.heap[Bs]?)
    (fun c pre W1 => c = .ret ∧ ∃ pre', Jx pre' W1)
    ?hI ?hIx ⟨hJ1, ⟨o0, o1⟩, Nat.le_refl _, hwW0, eB⟩
    (fun x a' W1 => ∃ Bf, W0.heap.size ≤ Bf ∧ Own W1 Bf [.int .i64 x.1.1, .int .i64 x.1.2] ∧ a' = { tmps := #[.pointer (some ⟨Bs, 0, none⟩), .func (.yield l) #[] #[], .pointer (some ⟨W.heap.size, 0, none⟩), .pointer (some ⟨W.heap.size + 1, 0, none⟩), .pointer (some ⟨Bf, 0, none⟩), .int .i64 (Sh.wrongs cs x.1), .pointer (some ⟨Bs, 0, none⟩), .func (.func 119) #[.pointer (some ⟨Bs, 0, none⟩)] #[], .agg #[.int .i64 x.1.1, .int .i64 x.1.2], .int .i64 (Sh.wrongs cs x.1), undef, undef, undef, undef, undef, undef, undef, undef, undef, undef, undef, undef, undef], defers := [] })
    ?hAx ?assign ?body ?done ?stop
  case kb =>
    have hlt := (Array.getElem?_eq_some_iff.1 ho).1
    exact (Below.refl n₁ W').grown (grownBy_putObj' W' _ o') (by omega) (fun k e => by cases e; omega)
  case hI =>
    rintro s X Y row ⟨e1, ⟨e2, e3⟩, e4, e5, e6⟩ hg hr
    have hrow : ∀ r, row = some r → W0.heap.size ≤ r := fun r e => (hr r e).1
    refine ⟨?_, ⟨e2.grown hg (fun e => by have := hrow _ e.symm; omega), e3.grown hg (fun e => by have := hrow _ e.symm; omega)⟩, Nat.le_trans e4 hg.size, e5.grown hg (by omega) (fun k e => by have := hrow k e; omega), (hg.block Bs (by omega) (fun e => by have := hrow _ e.symm; omega)).trans e6⟩
    exact hJ _ X Y row e1 hg (fun r e => ⟨by have := hrow r e; omega, (hr r e).2⟩)
  case hIx =>
    rintro c s X Y row ⟨e0, pre', e1⟩ hg hr
    exact ⟨e0, pre', hJx _ X Y row e1 hg (fun r e => ⟨by have := (hr r e).1; omega, (hr r e).2⟩)⟩
  case hAx =>
    rintro x a' _ X Y row ⟨Bf, h2, h4, h5⟩ hg hr
    exact ⟨Bf, h2, own_abides h4 hg (fun r e => (hr r e).2), h5⟩
  case assign =>
    rintro l2 pre x W1 K ⟨e1, ⟨e2, e3⟩, e4, e5, e6⟩ hK
    simp only [facE]
    gi_wp2
    have hb : Below W1.heap.size W1 (W1.alloc (.cells #[.int .i64 x.1.1, .int .i64 x.1.2] 112)) := (Below.refl _ W1).alloc (Nat.le_refl _) _
    refine hK _ _ ((KeepsOthers.alloc _ _).from _) ⟨hb.mono (by omega), Below.heap_alloc _ _ _ (by omega)⟩ ⟨hJ _ _ _ none e1 (grown_of_below hb) (fun r e => by cases e), ⟨e2.alloc _, e3.alloc _⟩, by simp; omega, e5.trans (hb.mono (by omega)), (Below.heap_alloc _ _ _ (by omega)).trans e6⟩ ⟨W1.heap.size, e4, Own.new' _ _ rfl rfl, rfl⟩
  case done =>
    rintro D xs W1 hD hS ⟨e1, ⟨e2, e3⟩, e4, e5, e6⟩ hK
    have hmap := Lib.hid (trF_map (wq := wq) (cs := cs) hS)
    have E1 := Lib.hid e1
    clear hS e1
    gi_wp2
    refine ⟨by simp, .inl ⟨_, _, rfl, run_takeDeferred hK, ?_⟩⟩
    exact ⟨_, results_none rfl _ _ _, ⟨_, rfl⟩, Or.inl ⟨_, hmap.out, hJ _ _ _ (some D) E1.out (grownBy_putObj' W1 D _) (fun r e => by cases e; exact ⟨by omega, _, hK, rfl⟩)⟩⟩
  case stop =>
    rintro D c pre W1 hD ⟨rfl, pre', e1⟩ hK
    gi_wp2
    refine ⟨by simp, .inl ⟨_, _, rfl, run_takeDeferred hK, ?_⟩⟩
    exact ⟨_, results_none rfl _ _ _, ⟨_, rfl⟩, Or.inr ⟨_, hJx _ _ _ (some D) e1 (grownBy_putObj' W1 D _) (fun r e => by cases e; exact ⟨by omega, _, hK, rfl⟩)⟩⟩
  case body =>
    rintro l2 pre x a' W1 hl2 hr ⟨e1, ⟨e2, e3⟩, e4, e5, e6⟩ ⟨Bf, hBf, oo, rfl⟩ hlt
    have hS := h0.ofBlock e6
    obtain ⟨lS, cS, fS⟩ := hS
    unfold shC at cS
    have E1 := Lib.hid e1
    obtain ⟨lo, co, fo⟩ := oo
    have q2 := Lib.hid e2
    have q3 := Lib.hid e3
    obtain ⟨l2', c2, f2⟩ := e2
    obtain ⟨l3', c3, f3⟩ := e3
    cases hT : trB wq cs x.1
    · have hle : ¬ ((Sh.wrongs cs x.1 : Nat) : Int) ≤ wq := of_decide_eq_false hT
      have hno := Lib.hid (trF_no (pre := pre) hT)
      clear hT e1
      gi_wp2
      refine ⟨fun _ h => (by cases h), ?_⟩
      gi_wp2
      refine ⟨KeepsFrom.refl _ _, ⟨Below.refl _ _, rfl⟩, ?_, ⟨q2.out, q3.out⟩, e4, e5, e6⟩
      rw [hno.out]; exact E1.out
    · have hle : ((Sh.wrongs cs x.1 : Nat) : Int) ≤ wq := of_decide_eq_true hT
      have hyes := Lib.hid (trF_yes (pre := pre) hT)
      have hpl : (trF wq cs pre).length < 40401 := Nat.lt_of_le_of_lt (List.length_filterMap_le ..) hlt
      obtain ⟨fn, tmps, assign, body, hy, hR⟩ := hY _ ⟨x.1, x.2, hT⟩ W1 e1 hpl
      simp only [facT] at hy
      have HR := Lib.hid hR
      clear hR e1
      gi_wp2
      refine ⟨fun e => (by cases e), (roundIn_any HR.out).mono ?_⟩
      rintro e W4 (⟨rfl, h1, h2⟩ | ⟨rfl, h1, h2⟩)
      · have h4 := h2.1.size
        gi_wp2
        refine ⟨h2.keeps (by omega), ⟨h2.1, h2.2.1⟩, ?_, ⟨own_kpc q2.out h2 (by omega), own_kpc q3.out h2 (by omega)⟩, by omega, e5.trans h2.1, h2.2.1.trans e6⟩
        rw [hyes.out]; exact h1
      · gi_wp2
        exact ⟨⟨h2.size, fun k o hk ho hc => h2.same k o (by omega) ho hc⟩, rfl, _, h1⟩
end Go.Proofs.Ytgmhelclofnpkaa
