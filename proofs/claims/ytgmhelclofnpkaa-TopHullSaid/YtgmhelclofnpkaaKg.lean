/- Walks: the doubled area of a polygon by its sides. -/
import Derived.Test.YtgmhelclofnpkaaKf
namespace Go.Proofs.Ytgmhelclofnpkaa
open Go.RowKit Go.Shelf

attribute [local go_sem] Oper.semAt_some
namespace Pl
def crs (ps : List P2) (k : Nat) : Int := (at' ps k).1 * (nx ps k).2 - (at' ps k).2 * (nx ps k).1
def sumL (ps : List P2) : List Nat → Int
  | [] => 0
  | k :: r => crs ps k + sumL ps r
theorem sumL_snoc (ps : List P2) (k : Nat) : ∀ l, sumL ps (l ++ [k]) = sumL ps l + crs ps k
  | [] => by simp [sumL]
  | a :: l => by rw [List.cons_append, sumL, sumL_snoc ps k l, sumL]; omega
theorem sumL_range (ps : List P2) : ∀ n, sumL ps (List.range n) = sumTo ps n
  | 0 => rfl
  | n + 1 => by rw [List.range_succ, sumL_snoc, sumL_range ps n, sumTo]; rfl
theorem crs_bd {ps : List P2} (h : ps.all isP = true) {k : Nat} (hk : k < ps.length) : -80000 ≤ crs ps k ∧ crs ps k ≤ 80000 := by
  have := cross_bd (at_isP h hk) (nx_isP h hk)
  unfold crs; omega
theorem sumL_bd {ps : List P2} (h : ps.all isP = true) : ∀ l : List Nat, (∀ k ∈ l, k < ps.length) → -80000 * (l.length : Int) ≤ sumL ps l ∧ sumL ps l ≤ 80000 * (l.length : Int)
  | [], _ => by simp [sumL]
  | a :: l, hl => by
    have h1 := crs_bd h (hl a (List.mem_cons_self ..))
    have h2 := sumL_bd h l fun k hk => hl k (List.mem_cons_of_mem _ hk)
    simp only [sumL, List.length_cons]
    omega
end Pl
theorem ctwice1W (a b : P2) (w : World) : Calls Try.prog 88 #[ptV a, ptV b] w fun e w' => e = .returned (.int .i64 1) ∧ Below w.heap.size w w' := by
  go_enter Try.func88, Try.ntmps88
  go_wp2
  go_ret
  exact ⟨rfl, by (repeat' (first | (with_reducible exact Below.refl _ _) | (with_reducible assumption) | (with_reducible refine Below.drew ?_) | (with_reducible refine below_drewN ?_ _) | (with_reducible refine Below.setCell ?_ ?_ _) | (with_reducible refine Below.alloc ?_ ?_ _) | (refine Below.trans ?_ (Below.mono (by with_reducible assumption) ?_)) | omega | (exact Below.size (by with_reducible assumption)) | (simp; done) | (simp; omega)))⟩
/-- What the sum reads in a round. -/
structure SumS (b0 bo : Nat) (vs : List Value) (W : World) : Prop where
  f : Own W b0 [.func (.func 88) #[] #[]]
  o : Own W bo vs
set_option maxRecDepth 100000 in
set_option maxHeartbeats 8000000 in
theorem csumW (A : Option Addr) (n cap : Nat) (ps : List P2) (w : World) (hA : Rd 2 w A (ps.map ptrow)) (hn : Hid (n = ps.length)) (hlen : n ≤ 1000) (hP : Hid (ps.all Pl.isP = true)) :
    Calls Try.prog 87 #[.slice A n cap, .func (.func 88) #[] #[]] w fun e w' => e = .returned (.int .i64 (Pl.area ps)) ∧ Below w.heap.size w w' := by
  have HA := Lib.hid hA
  clear hA
  have f1 : Fence.wide.fn 62 := trivial
  have f2 : Fence.wide.fn 98 := trivial
  refine (callsIn_wide (n := 9)).1 ?_
  refine callsIn_of_wp_marks Try.func87 rfl trivial ?_ rfl
  simp only [Try.ntmps87, List.size_toArray, List.length_cons, List.length_nil, Nat.reduceAdd, Nat.reduceSub, Array.replicate_succ, Array.replicate_zero, List.push_toArray, List.append_toArray, List.nil_append, List.cons_append]
  gi_wp2_with (gi_at_call 62; refine (callsIn_wide.2 (sidesW _ _ _ _)).mono ?_; rintro e w' ⟨rfl, rfl⟩)
  refine wpIn_gen fun W0 hW0 => ?_
  have hB0 : Below w.heap.size w W0 := by rw [hW0]; (repeat' (first | (with_reducible exact Below.refl _ _) | (with_reducible assumption) | (with_reducible refine Below.drew ?_) | (with_reducible refine below_drewN ?_ _) | (with_reducible refine Below.setCell ?_ ?_ _) | (with_reducible refine Below.alloc ?_ ?_ _) | (refine Below.trans ?_ (Below.mono (by with_reducible assumption) ?_)) | omega | (exact Below.size (by with_reducible assumption)) | (simp; done) | (simp; omega)))
  have hsz : W0.heap.size = w.heap.size + 3 := by rw [hW0]; simp
  have o0 : Own W0 w.heap.size [.func (.func 88) #[] #[]] := by rw [hW0]; exact ((Own.new' _ _ (by simp) rfl).alloc _).alloc _
  have o1 : Own W0 (w.heap.size + 1) [.int .i64 0] := by rw [hW0]; exact (Own.new' _ _ (by simp) rfl).alloc _
  have o2 : Own W0 (w.heap.size + 1 + 1) [.slice A n cap] := by rw [hW0]; exact Own.new' _ _ (by simp) rfl
  clear hW0
  refine wpIn_rangeFunc_ownH rfl (by omega) (gf := 98) (lb := #[.pointer (some ⟨w.heap.size + 1 + 1, 0, none⟩)]) rfl f2 (enters_of Try.func98 (by kernel_rfl) rfl)
    (sidesS A n cap ps (w.heap.size + 1 + 1) w.heap.size W0 8 (by omega) (fun W hW => HA.out.below (hB0.trans hW) (Nat.le_refl _)) hB0.size hn hlen o2)
    (fun h1 h2 => ⟨h1.1.trans h2.1, h2.2.trans h1.2⟩)
    (fun W l o o' hl ho hc hw => ⟨?kb, World.putObj_heap_other (by omega)⟩)
    (Below.refl _ _) (fun _ => rfl)
    (fun pre W => (Own W w.heap.size [.func (.func 88) #[] #[]] ∧ Own W (w.heap.size + 1) [.int .i64 (Pl.sumL ps (pre.map (·.1)))]) ∧ W0.heap.size ≤ W.heap.size ∧ Below w.heap.size w W)
    (fun _ _ _ => False)
    ?hI (fun _ _ _ _ _ hs _ _ => hs) ⟨⟨o0, o1⟩, Nat.le_refl _, hB0⟩
    (fun x a' W => ∃ Bo, W0.heap.size ≤ Bo ∧ Own W Bo [.int .i64 (Pl.at' ps x.1).1, .int .i64 (Pl.at' ps x.1).2, .int .i64 (Pl.nx ps x.1).1, .int .i64 (Pl.nx ps x.1).2] ∧ a' = { tmps := #[.slice A n cap, .func (.func 88) #[] #[], undef, .pointer (some ⟨w.heap.size, 0, none⟩), .int .i64 0, .pointer (some ⟨w.heap.size + 1, 0, none⟩), undef, .pointer (some ⟨Bo, 0, none⟩), .slice A n cap, .func (.func 98) #[] #[.pointer (some ⟨w.heap.size + 1 + 1, 0, none⟩)], .int .i64 x.1, sdV (Pl.at' ps x.1) (Pl.nx ps x.1), undef, undef, undef, undef, undef, undef, undef, undef, undef, undef, undef, undef, undef, undef, undef, undef, undef, undef, undef, undef, undef, undef, undef, undef, undef], defers := [] })
    ?hAx ?assign ?body ?done ?stop
  case kb =>
    have hlt := (Array.getElem?_eq_some_iff.1 ho).1
    exact (Below.refl w.heap.size W).grown (grownBy_putObj' W l o') (by omega) (fun k e => by cases e; omega)
  case hI =>
    rintro s W W' row ⟨⟨h2, h3⟩, h5, h6⟩ hg hr
    have hrow : ∀ r, row = some r → W0.heap.size ≤ r := fun r e => (hr r e).1
    exact ⟨⟨h2.grown hg (fun e => by have := hrow _ e.symm; omega), h3.grown hg (fun e => by have := hrow _ e.symm; omega)⟩, Nat.le_trans h5 hg.size, h6.grown hg h6.size (fun k e => by have := hrow k e; omega)⟩
  case hAx =>
    rintro x a' _ W W' row ⟨Bs, h2, h4, h5⟩ hg hr
    exact ⟨Bs, h2, own_abides h4 hg (fun r e => (hr r e).2), h5⟩
  case assign =>
    rintro l pre x W K ⟨⟨h2, h3⟩, h5, h6⟩ hK
    simp only [sdE]
    gi_wp2
    refine hK _ _ ((KeepsOthers.alloc _ _).from _) ⟨(Below.refl _ W).alloc h6.size _, Below.heap_alloc _ _ _ (by omega)⟩ ⟨⟨h2.alloc _, h3.alloc _⟩, by simp; omega, h6.alloc h6.size _⟩ ⟨W.heap.size, by omega, Own.new' _ _ rfl rfl, rfl⟩
  case done =>
    rintro D xs W hD hS ⟨⟨h2, h3⟩, h5, h6⟩ hK
    have hres : Pl.sumL ps (xs.map (·.1)) = Pl.area ps := by rw [hS, Pl.sumL_range, hn.out]; rfl
    have HRES := Lib.hid hres
    clear hres hS
    have h6' := Lib.hid h6
    obtain ⟨l1, k1, g1⟩ := h3
    gi_wp2
    refine ⟨by simp, .inl ⟨_, _, rfl, run_takeDeferred hK, ?_⟩⟩
    exact ⟨_, results_tmp rfl _ _ _, by exact ret_int HRES.out, h6'.out.trans (belowK_b (w := w) (Nat.le_refl _) W D _ _ (by omega) hK rfl rfl)⟩
  case body =>
    rintro l pre x a' W hl hr ⟨⟨h2, h3⟩, h5, h6⟩ ⟨Bo, hBo, oo, rfl⟩ hlt
    have hxn : x.1 < n := x.2
    have hL := hn.out
    have hA1 := Pl.at_isP hP.out (i := x.1) (by omega)
    have hN1 := Pl.nx_isP hP.out (i := x.1) (by omega)
    have hcb := Pl.cross_bd hA1 hN1
    have hsb := Pl.sumL_bd hP.out (pre.map (·.1)) (fun k hk => by obtain ⟨y, _, e⟩ := List.mem_map.1 hk; have := y.2; omega)
    have hplen : (pre.map (·.1)).length = pre.length := List.length_map ..
    have hcr : Pl.crs ps x.1 = (Pl.at' ps x.1).1 * (Pl.nx ps x.1).2 - (Pl.at' ps x.1).2 * (Pl.nx ps x.1).1 := rfl
    have hm1 : IntKind.i64.wrap ((Pl.at' ps x.1).1 * (Pl.nx ps x.1).2) = (Pl.at' ps x.1).1 * (Pl.nx ps x.1).2 := IntWalk.i64_in _ (by omega)
    have hm2 : IntKind.i64.wrap ((Pl.at' ps x.1).2 * (Pl.nx ps x.1).1) = (Pl.at' ps x.1).2 * (Pl.nx ps x.1).1 := IntWalk.i64_in _ (by omega)
    have hm3 : IntKind.i64.wrap ((Pl.at' ps x.1).1 * (Pl.nx ps x.1).2 - (Pl.at' ps x.1).2 * (Pl.nx ps x.1).1) = (Pl.at' ps x.1).1 * (Pl.nx ps x.1).2 - (Pl.at' ps x.1).2 * (Pl.nx ps x.1).1 := IntWalk.i64_in _ (by omega)
    obtain ⟨m, hm⟩ : ∃ m, Pl.sumL ps (pre.map (·.1)) = m := ⟨_, rfl⟩
    rw [hm] at h3 hsb
    have hm4 : IntKind.i64.wrap (m + ((Pl.at' ps x.1).1 * (Pl.nx ps x.1).2 - (Pl.at' ps x.1).2 * (Pl.nx ps x.1).1)) = m + ((Pl.at' ps x.1).1 * (Pl.nx ps x.1).2 - (Pl.at' ps x.1).2 * (Pl.nx ps x.1).1) := IntWalk.i64_in _ (by omega)
    have hnew : Pl.sumL ps ((pre ++ [x]).map (·.1)) = m + ((Pl.at' ps x.1).1 * (Pl.nx ps x.1).2 - (Pl.at' ps x.1).2 * (Pl.nx ps x.1).1) := by
      rw [List.map_append, ← hm]
      exact Pl.sumL_snoc ps x.1 _
    have HNEW := Lib.hid hnew
    clear hnew hcb hsb hplen hcr hm hL hA1 hN1
    have S0 : SumS w.heap.size Bo [.int .i64 (Pl.at' ps x.1).1, .int .i64 (Pl.at' ps x.1).2, .int .i64 (Pl.nx ps x.1).1, .int .i64 (Pl.nx ps x.1).2] W.drew := ⟨h2.drew, oo.drew⟩
    have T0 : Own W.drew (w.heap.size + 1) [.int .i64 m] := h3.drew
    have B0 : Below W.heap.size W W.drew := (Below.refl _ _).drew
    have hne : w.heap.size + 1 < W.heap.size := h3.lt
    have hzW := h6.size
    gi_wp2
    refine region_in (S := SumS w.heap.size Bo [.int .i64 (Pl.at' ps x.1).1, .int .i64 (Pl.at' ps x.1).2, .int .i64 (Pl.nx ps x.1).1, .int .i64 (Pl.nx ps x.1).2]) 25 (by kernel_rfl) (by kernel_rfl) (by kernel_rfl) (by rintro ⟨a, w, h⟩; exact h) ?_
    generalize W.drew = R0 at S0 T0 B0 ⊢
    refine rg_take (fuel := 5) [1, 2, 3, 4, 5, 7, 8, 9, 10, 11, 12, 13, 14, 15, 16, 17, 18, 19, 20, 21] (by kernel_rfl) (by intro _ _ d _ _ h; first | (cases d <;> exact h) | (simp [Exit.then, Exit.inBlock, ownPostG] at h)) rfl (by kernel_rfl) (by kernel_rfl) S0 ?_
    simp only [pickL, pick1, List.cons_append, List.nil_append]
    iterate 20 (refine wpTake_cons (v := ?_) (Or.inl ⟨by rfl, ?_⟩) ?_; rotate_left; (intro w' hSw; have yf := hSw.f.c; have yo := hSw.o.c; clear hSw; go_simp; (try with_reducible rfl)); (try simp only [Act.put, List.setIfInBounds_toArray, List.set_cons_zero, List.set_cons_succ]))
    refine wpTake_nil ?_
    have fin : ∀ w1 : World, Below W.heap.size W w1 → Own w1 (w.heap.size + 1) [.int .i64 m] → ownPostG W0.heap.size (KpB1 w.heap.size (w.heap.size + 1 + 1)) (fun pre W => (Own W w.heap.size [.func (.func 88) #[] #[]] ∧ Own W (w.heap.size + 1) [.int .i64 (Pl.sumL ps (pre.map (·.1)))]) ∧ W0.heap.size ≤ W.heap.size ∧ Below w.heap.size w W) (fun _ _ _ => False) (pre ++ [x]) W .normal { tmps := #[], defers := [] }
        (w1.setCell ⟨w.heap.size + 1, 0, none⟩ (.int .i64 (m + ((Pl.at' ps x.1).1 * (Pl.nx ps x.1).2 - (Pl.at' ps x.1).2 * (Pl.nx ps x.1).1)))) := fun w1 hb hs => by
      have hz1 := hb.size
      refine ⟨((KeepsOthers.of_grownBy (grown_of_below hb) (fun j o e _ => by cases e)).trans (KeepsOthers.setCell _ _ _)).from _, ⟨(hb.mono hzW).setCell (by dsimp only; omega) _, (Below.heap_setCell _ _ _ _ (by dsimp only; omega)).trans (hb.block _ (by omega))⟩, ⟨(h2.below hb h2.lt).setOther (by dsimp only; omega) _, ?_⟩, by simp; omega, (h6.trans (hb.mono hzW)).setCell (by dsimp only; omega) _⟩
      rw [HNEW.out]
      exact hs.set 0 (by simp) _
    have FIN := Lib.hid fin
    clear fin
    refine rg_two (fuel := 4) 0 6 rfl (by kernel_rfl) (by kernel_rfl) ?_ ?_ <;> simp only [pick1, wpHead]
    · intro K' hK
      rw [if_pos (by rfl)]
      have yt := T0.c
      go_simp
      refine hK.out _ _ S0 ?_
      clear hK K' yt
      (try simp only [Act.put, List.setIfInBounds_toArray, List.set_cons_zero, List.set_cons_succ])
      refine rg_one (fuel := 3) 6 rfl (by kernel_rfl) (by kernel_rfl) ?_; simp only [pick1, wpHead]
      intro K' hK
      rw [if_pos (by rfl)]
      go_simp
      refine (ctwice1W _ _ _).mono ?_
      rintro e w1 ⟨rfl, hb1⟩
      have S1 : SumS w.heap.size Bo [.int .i64 (Pl.at' ps x.1).1, .int .i64 (Pl.at' ps x.1).2, .int .i64 (Pl.nx ps x.1).1, .int .i64 (Pl.nx ps x.1).2] w1 := ⟨S0.f.below hb1 S0.f.lt, S0.o.below hb1 S0.o.lt⟩
      have B1 : Below W.heap.size W w1 := B0.trans (hb1.mono B0.size)
      have T1 := T0.below hb1 T0.lt
      refine hK.out _ _ S1 ?_
      clear hK K'
      (try simp only [Act.put, List.setIfInBounds_toArray, List.set_cons_zero, List.set_cons_succ])
      refine rg_take (fuel := 1) [22, 23] (by kernel_rfl) (by intro _ _ d _ _ h; first | (cases d <;> exact h) | (simp [Exit.then, Exit.inBlock, ownPostG] at h)) rfl (by kernel_rfl) (by kernel_rfl) S1 ?_
      simp only [pickL, pick1, List.cons_append, List.nil_append]
      iterate 2 (refine wpTake_cons (v := ?_) (Or.inl ⟨by rfl, ?_⟩) ?_; rotate_left; (intro w' hSw; have yf := hSw.f.c; have yo := hSw.o.c; clear hSw; go_simp; (try with_reducible rfl)); (try simp only [Act.put, List.setIfInBounds_toArray, List.set_cons_zero, List.set_cons_succ]))
      refine wpTake_nil ?_
      refine rg_one (fuel := 0) 24 rfl (by kernel_rfl) (by kernel_rfl) ?_; simp only [pick1, wpHead]
      intro K' hK
      rw [if_pos (by rfl)]
      obtain ⟨lt, ct, gt⟩ := T1
      go_simp
      refine hK.out _ _ ⟨S1.f.setOther (by dsimp only; omega) _, S1.o.setOther (by dsimp only; omega) _⟩ ?_
      clear hK K'
      refine rg_done (by kernel_rfl) ?_
      gi_wp2
      have F := FIN.out _ B1 ⟨lt, ct, gt⟩
      simp only [ownPostG] at F ⊢
      exact F
    · intro K' hK
      rw [if_pos (by rfl)]
      go_simp
      refine (ctwice1W _ _ _).mono ?_
      rintro e w1 ⟨rfl, hb1⟩
      have S1 : SumS w.heap.size Bo [.int .i64 (Pl.at' ps x.1).1, .int .i64 (Pl.at' ps x.1).2, .int .i64 (Pl.nx ps x.1).1, .int .i64 (Pl.nx ps x.1).2] w1 := ⟨S0.f.below hb1 S0.f.lt, S0.o.below hb1 S0.o.lt⟩
      have B1 : Below W.heap.size W w1 := B0.trans (hb1.mono B0.size)
      have T1 := T0.below hb1 T0.lt
      refine hK.out _ _ S1 ?_
      clear hK K'
      (try simp only [Act.put, List.setIfInBounds_toArray, List.set_cons_zero, List.set_cons_succ])
      refine rg_take (fuel := 3) [22] (by kernel_rfl) (by intro _ _ d _ _ h; first | (cases d <;> exact h) | (simp [Exit.then, Exit.inBlock, ownPostG] at h)) rfl (by kernel_rfl) (by kernel_rfl) S1 ?_
      simp only [pickL, pick1, List.cons_append, List.nil_append]
      (refine wpTake_cons (v := ?_) (Or.inl ⟨by rfl, ?_⟩) ?_; rotate_left; (intro w' hSw; have yf := hSw.f.c; have yo := hSw.o.c; clear hSw; go_simp; (try with_reducible rfl)); (try simp only [Act.put, List.setIfInBounds_toArray, List.set_cons_zero, List.set_cons_succ]))
      refine wpTake_nil ?_
      refine rg_one (fuel := 2) 0 rfl (by kernel_rfl) (by kernel_rfl) ?_; simp only [pick1, wpHead]
      intro K' hK
      rw [if_pos (by rfl)]
      have yt := T1.c
      go_simp
      refine hK.out _ _ S1 ?_
      clear hK K' yt
      (try simp only [Act.put, List.setIfInBounds_toArray, List.set_cons_zero, List.set_cons_succ])
      refine rg_take (fuel := 1) [23] (by kernel_rfl) (by intro _ _ d _ _ h; first | (cases d <;> exact h) | (simp [Exit.then, Exit.inBlock, ownPostG] at h)) rfl (by kernel_rfl) (by kernel_rfl) S1 ?_
      simp only [pickL, pick1, List.cons_append, List.nil_append]
      (refine wpTake_cons (v := ?_) (Or.inl ⟨by rfl, ?_⟩) ?_; rotate_left; (intro w' hSw; have yf := hSw.f.c; have yo := hSw.o.c; clear hSw; go_simp; (try with_reducible rfl)); (try simp only [Act.put, List.setIfInBounds_toArray, List.set_cons_zero, List.set_cons_succ]))
      refine wpTake_nil ?_
      refine rg_one (fuel := 0) 24 rfl (by kernel_rfl) (by kernel_rfl) ?_; simp only [pick1, wpHead]
      intro K' hK
      rw [if_pos (by rfl)]
      obtain ⟨lt, ct, gt⟩ := T1
      go_simp
      refine hK.out _ _ ⟨S1.f.setOther (by dsimp only; omega) _, S1.o.setOther (by dsimp only; omega) _⟩ ?_
      clear hK K'
      refine rg_done (by kernel_rfl) ?_
      gi_wp2
      have F := FIN.out _ B1 ⟨lt, ct, gt⟩
      simp only [ownPostG] at F ⊢
      exact F
  case stop =>
    rintro D c pre W _ _ h _
    exact h.elim
end Go.Proofs.Ytgmhelclofnpkaa
