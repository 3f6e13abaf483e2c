/- Walks: all truths of a wheel, as an iterator. -/
import Derived.Test.YtgmhelclofnpkaaQf
namespace Go.Proofs.Ytgmhelclofnpkaa
open Go.RowKit Go.Shelf

attribute [local go_sem] Oper.semAt_some
/-- An area and a skew are a truth. -/
def wtB (h : Wh) (l : List Wk) (p : P2) : Bool := decide ((Wl.wrongsN h l p : Int) ≤ h.wrong)
abbrev Wt (h : Wh) (l : List Wk) := {p : P2 // Sh.In h.lo h.hi (-h.skew) h.skew p ∧ wtB h l p = true}
def wtO {h : Wh} (l : List Wk) (x : At h) : Option (Wt h l) := if k : wtB h l x.1 = true then some ⟨x.1, x.2, k⟩ else none
def wtF {h : Wh} (l : List Wk) (pre : List (At h)) : List (Wt h l) := pre.filterMap (wtO l)
theorem wtF_vals {h : Wh} {l : List Wk} : ∀ ys : List (At h), (wtF l ys).map (·.1) = (ys.map (·.1)).filter fun p => wtB h l p
  | [] => rfl
  | y :: ys => by
    have ih := wtF_vals (l := l) ys
    unfold wtF at ih ⊢
    rw [List.filterMap_cons, List.map_cons, List.filter_cons]
    unfold wtO at ih ⊢
    by_cases k : wtB h l y.1 = true
    · rw [dif_pos k, if_pos k, List.map_cons, ih]
    · rw [dif_neg k, if_neg k, ih]
theorem wtF_map {h : Wh} {l : List Wk} {ys : List (At h)} (k : ys.map (·.1) = Sh.allP h.lo h.hi (-h.skew) h.skew) : (wtF l ys).map (·.1) = Wl.trs h l := by
  rw [wtF_vals, k]; rfl
theorem wtF_no {h : Wh} {l : List Wk} {pre : List (At h)} {x : At h} (k : wtB h l x.1 = false) : wtF l (pre ++ [x]) = wtF l pre := by
  simp [wtF, wtO, k]
theorem wtF_yes {h : Wh} {l : List Wk} {pre : List (At h)} {x : At h} (k : wtB h l x.1 = true) : wtF l (pre ++ [x]) = wtF l pre ++ [⟨x.1, x.2, k⟩] := by
  simp [wtF, wtO, k]
theorem wt_mem {h : Wh} {l : List Wk} (x : Wt h l) : x.1 ∈ Wl.trs h l := List.mem_filter.2 ⟨allP_mem x.2.1, x.2.2⟩
/-- What a round of the truths reads. -/
structure WtS (h : Wh) (A : Option Addr) (n cap Bd Bf l : Nat) (t : P2) (w : World) : Prop where
  d : Own w Bd (dkC h A n cap)
  y : Own w (Bd + 1) [.func (.yield l) #[] #[]]
  t : Own w Bf [.int .i64 t.1, .int .i64 t.2]
theorem WtS.below {h : Wh} {A : Option Addr} {n cap Bd Bf l : Nat} {t : P2} {w w' : World} (k : WtS h A n cap Bd Bf l t w) (hb : Below w.heap.size w w') : WtS h A n cap Bd Bf l t w' := ⟨k.d.below hb k.d.lt, k.y.below hb k.y.lt, k.t.below hb k.t.lt⟩
theorem KpC.weak {n₁ n₂ n₃ B0 : Nat} {W W' : World} (k : KpC n₁ n₂ B0 W W') (h : n₂ ≤ n₃) : KpC n₁ n₃ B0 W W' := ⟨k.1, k.2.1, fun b hb => k.2.2 b (by omega)⟩
set_option maxRecDepth 100000 in
set_option maxHeartbeats 8000000 in
theorem wtruthsS (h : Wh) (A : Option Addr) (ws : List Wk) (n cap n₁ B0 : Nat) (w : World) (nF : Nat) (hnF : 5 ≤ nF) (hA : ∀ W, Below n₁ w W → Rd 5 W A (ws.map wkrow)) (hn₁ : n₁ ≤ w.heap.size) (hB0 : B0 < w.heap.size) (hn : Hid (n = ws.length)) (hV : Hid (WhV h ws)) :
    SeqB nF Try.prog 89 #[dkV h A n cap] #[] (fun x : Wt h ws => facT x.1) (KpC n₁ (w.heap.size + 2) B0) (fun ys => ys.map (·.1) = Wl.trs h ws) 410001 w := by
  intro l J Jx W hW hW2 hJ hJx hY hJ0
  have hz := hW.size
  have f1 : Fence.wide.fn 76 := trivial
  have f2 : Fence.wide.fn 77 := trivial
  have hn8 : n ≤ 8 := by have := hV.out.n; have := hn.out; omega
  refine callsIn_of_wp_marks Try.func89 rfl trivial ?_ rfl
  simp only [Try.ntmps89, List.size_toArray, List.length_cons, List.length_nil, Nat.reduceAdd, Nat.reduceSub, Array.replicate_succ, Array.replicate_zero, List.push_toArray, List.append_toArray, List.nil_append, List.cons_append]
  gi_wp2
  refine wpIn_gen fun W0 hW0 => ?_
  have hB1 : Below W.heap.size W W0 := by rw [hW0]; (repeat' (first | (with_reducible exact Below.refl _ _) | (with_reducible assumption) | (with_reducible refine Below.drew ?_) | (with_reducible refine below_drewN ?_ _) | (with_reducible refine Below.setCell ?_ ?_ _) | (with_reducible refine Below.alloc ?_ ?_ _) | (refine Below.trans ?_ (Below.mono (by with_reducible assumption) ?_)) | omega | (exact Below.size (by with_reducible assumption)) | (simp; done) | (simp; omega)))
  have hsz : W0.heap.size = W.heap.size + 2 := by rw [hW0]; simp
  have o0 : Own W0 W.heap.size (dkC h A n cap) := by rw [hW0]; exact (Own.new' _ _ (by simp) rfl).alloc _
  have o1 : Own W0 (W.heap.size + 1) [.func (.yield l) #[] #[]] := by rw [hW0]; exact Own.new' _ _ (by simp) rfl
  have hJ1 : J [] W0 := hJ _ _ _ none hJ0 (grown_of_below hB1) (fun r e => by cases e)
  have hwW0 : Below n₁ w W0 := (hW.mono hn₁).trans (hB1.mono (by omega))
  clear hW0
  refine wpIn_rangeB (by omega) (gf := 76) (fst := #[dkV h A n cap]) (lb := #[]) rfl (enters_of Try.func76 (by kernel_rfl) rfl)
    (wallB h A n cap n₁ B0 W0 (nF - 1) (by omega) (by omega) hV.out.k)
    (fun h1 h2 => h1.trans h2) (fun W' o o' ho hc hw => KpC.put (by omega) (by omega) (by have := (Array.getElem?_eq_some_iff.1 ho).1; omega) (by omega)) (fun _ => rfl)
    (fun pre W1 => J (wtF ws pre) W1 ∧ (Own W1 W.heap.size (dkC h A n cap) ∧ Own W1 (W.heap.size + 1) [.func (.yield l) #[] #[]]) ∧ W0.heap.size ≤ W1.heap.size ∧ Below n₁ w W1)
    (fun c pre W1 => c = .ret ∧ ∃ pre', Jx pre' W1)
    ?hI ?hIx ⟨hJ1, ⟨o0, o1⟩, Nat.le_refl _, hwW0⟩
    (fun x a' W1 => ∃ Bf, W0.heap.size ≤ Bf ∧ Own W1 Bf [.int .i64 x.1.1, .int .i64 x.1.2] ∧ a' = { tmps := #[dkV h A n cap, .func (.yield l) #[] #[], .pointer (some ⟨W.heap.size, 0, none⟩), .pointer (some ⟨W.heap.size + 1, 0, none⟩), .pointer (some ⟨Bf, 0, none⟩), dkV h A n cap, .func (.func 76) #[dkV h A n cap] #[], .agg #[.int .i64 x.1.1, .int .i64 x.1.2], undef, undef, undef, undef, undef, undef, undef, undef, undef, undef, undef, undef, undef], defers := [] })
    ?hAx ?assign ?body ?done ?stop
  case hI =>
    rintro s X Y row ⟨e1, ⟨e2, e3⟩, e4, e5⟩ hg hr
    have hrow : ∀ r, row = some r → W0.heap.size ≤ r := fun r e => (hr r e).1
    refine ⟨?_, ⟨e2.grown hg (fun e => by have := hrow _ e.symm; omega), e3.grown hg (fun e => by have := hrow _ e.symm; omega)⟩, Nat.le_trans e4 hg.size, e5.grown hg (by omega) (fun k e => by have := hrow k e; omega)⟩
    exact hJ _ X Y row e1 hg (fun r e => ⟨by have := hrow r e; omega, (hr r e).2⟩)
  case hIx =>
    rintro c s X Y row ⟨e0, pre', e1⟩ hg hr
    exact ⟨e0, pre', hJx _ X Y row e1 hg (fun r e => ⟨by have := (hr r e).1; omega, (hr r e).2⟩)⟩
  case hAx =>
    rintro x a' _ X Y row ⟨Bf, h2, h4, h5⟩ hg hr
    exact ⟨Bf, h2, own_abides h4 hg (fun r e => (hr r e).2), h5⟩
  case assign =>
    rintro l2 pre x W1 K ⟨e1, ⟨e2, e3⟩, e4, e5⟩ hK
    simp only [facT]
    gi_wp2
    have hb : Below W1.heap.size W1 (W1.alloc (.cells #[.int .i64 x.1.1, .int .i64 x.1.2] 90)) := (Below.refl _ W1).alloc (Nat.le_refl _) _
    refine hK _ _ ((KeepsOthers.alloc _ _).from _) (KpC.below hb (by omega) (by omega)) ⟨hJ _ _ _ none e1 (grown_of_below hb) (fun r e => by cases e), ⟨e2.alloc _, e3.alloc _⟩, by simp; omega, e5.trans (hb.mono (by omega))⟩ ⟨W1.heap.size, e4, Own.new' _ _ rfl rfl, rfl⟩
  case done =>
    rintro D xs W1 hD hS ⟨e1, ⟨e2, e3⟩, e4, e5⟩ hK
    have hmap := Lib.hid (wtF_map (l := ws) hS)
    have E1 := Lib.hid e1
    clear hS e1
    gi_wp2
    refine ⟨by simp, .inl ⟨_, _, rfl, run_takeDeferred hK, ?_⟩⟩
    exact ⟨_, results_none rfl _ _ _, ⟨_, rfl⟩, Or.inl ⟨_, hmap.out, hJ _ _ _ (some D) E1.out (grownBy_putObj' W1 D _) (fun r e => by cases e; exact ⟨by omega, _, hK, rfl⟩)⟩⟩
  case stop =>
    rintro D c pre W1 hD ⟨rfl, pre', e1⟩ hK
    gi_wp2
    refine ⟨by simp, .inl ⟨_, _, rfl, run_takeDeferred hK, ?_⟩⟩
    exact ⟨_, results_none rfl _ _ _, ⟨_, rfl⟩, Or.inr ⟨_, hJx _ _ _ (some D) e1 (grownBy_putObj' W1 D _) (fun r e => by cases e; exact ⟨by omega, _, hK, rfl⟩)⟩⟩
  case body =>
    rintro l2 pre x a' W1 hl2 hr ⟨e1, ⟨e2, e3⟩, e4, e5⟩ ⟨Bf, hBf, oo, rfl⟩ hlt
    have h4 := at_bd hV.out x.2
    have HC := Lib.hid (fun W hA' => wwrongsW h A ws n cap x.1 W hA' hn hn8 hV.out.k hV.out.l h4)
    have S1 : WtS h A n cap W.heap.size Bf l x.1 W1.drew := ⟨e2.drew, e3.drew, oo.drew⟩
    have B1 : Below W1.heap.size W1 W1.drew := (Below.refl _ _).drew
    have hs1 := hW.size
    obtain ⟨x, hIn⟩ := x
    obtain ⟨t1, t2⟩ := x
    simp only at S1 HC h4
    clear e2 e3 oo
    gi_wp2
    refine rw_startJ (WtS h A n cap W.heap.size Bf l (t1, t2)) 10 13 (by kernel_rfl) rfl ?_
    generalize hR : W1.drew = R0 at S1 B1 ⊢
    clear hR
    refine rw_takeJ (by kernel_rfl) (fuel := 8) [0, 1, 3, 4, 5] (by kernel_rfl) (by kernel_rfl) (by intro _ _ d _ _ h; first | (cases d <;> exact h) | (simp [Exit.then, Exit.inBlock, ownPostG] at h)) rfl (by kernel_rfl) (by kernel_rfl) S1 ?_; simp only [pickL, pick1, List.cons_append, List.nil_append]
    iterate 5 (refine wpTake_cons (v := ?_) (Or.inl ⟨by rfl, ?_⟩) ?_; rotate_left; (intro w' hSw; have yd := hSw.d.c; have yy := hSw.y.c; have yt := hSw.t.c; clear hSw; go_simp; (try with_reducible rfl)); (try simp only [Act.put, List.setIfInBounds_toArray, List.set_cons_zero, List.set_cons_succ]))
    refine wpTake_nil ?_
    refine rw_oneJ (fuel := 7) 2 rfl (by kernel_rfl) (by kernel_rfl) ?_; simp only [pick1, headWJ]
    intro K' hK
    rw [if_pos (by rfl)]
    gi_wp2
    refine ⟨fun e => (by cases e), (CallsIn.inRound l2 (callsIn_wide.2 (HC.out _ (hA _ ((e5.trans (B1.mono (by omega)))))))).mono ?_⟩
    rintro e w2 ⟨rfl, hb2⟩
    have S2 := S1.below hb2
    have B2 : Below W1.heap.size W1 w2 := B1.trans (hb2.mono B1.size)
    refine hK _ _ (Or.inr (Or.inr S2)) ?_
    clear S1 B1 hb2 hK K'
    (try simp only [Act.put, List.setIfInBounds_toArray, List.set_cons_zero, List.set_cons_succ])
    have eJ := hJ _ _ _ none e1 (grown_of_below B2) (fun r e => by cases e)
    cases hT : wtB h ws (t1, t2)
    · have hle : decide (((Wl.wrongsN h ws (t1, t2) : Nat) : Int) ≤ h.wrong) = false := hT
      have hno := Lib.hid (wtF_no (pre := pre) (x := ⟨(t1, t2), hIn⟩) hT)
      have EJ := Lib.hid eJ
      clear hT e1 eJ
      refine rw_takeJ (by kernel_rfl) (fuel := 5) [6, 7] (by kernel_rfl) (by kernel_rfl) (by intro _ _ d _ _ h; first | (cases d <;> exact h) | (simp [Exit.then, Exit.inBlock, ownPostG] at h)) rfl (by kernel_rfl) (by kernel_rfl) S2 ?_; simp only [pickL, pick1, List.cons_append, List.nil_append]
      iterate 2 (refine wpTake_cons (v := ?_) (Or.inl ⟨by rfl, ?_⟩) ?_; rotate_left; (intro w' hSw; have yd := hSw.d.c; have yy := hSw.y.c; have yt := hSw.t.c; clear hSw; go_simp; (try with_reducible rfl)); (try simp only [Act.put, List.setIfInBounds_toArray, List.set_cons_zero, List.set_cons_succ]))
      refine wpTake_nil ?_
      (try simp only [hle])
      refine rw_takeJ (by kernel_rfl) (fuel := 3) [8, 9] (by kernel_rfl) (by kernel_rfl) (by intro _ _ d _ _ h; first | (cases d <;> exact h) | (simp [Exit.then, Exit.inBlock, ownPostG] at h)) rfl (by kernel_rfl) (by kernel_rfl) S2 ?_; simp only [pickL, pick1, List.cons_append, List.nil_append]
      iterate 2 (refine wpTake_cons (v := undef) (Or.inr ⟨by rfl, rfl⟩) ?_; (try simp only [Act.put, List.setIfInBounds_toArray, List.set_cons_zero, List.set_cons_succ]))
      refine wpTake_nil ?_
      refine rw_oneJ (fuel := 2) 10 rfl (by kernel_rfl) (by kernel_rfl) ?_; simp only [pick1, headWJ]
      intro K' hK
      rw [if_neg (by intro e; cases e)]
      refine hK _ _ (by first | trivial | exact Or.inl trivial | exact Or.inl rfl) ?_
      clear hK K'
      (try simp only [Act.put, List.setIfInBounds_toArray, List.set_cons_zero, List.set_cons_succ])
      refine rw_oneJ (fuel := 1) 11 rfl (by kernel_rfl) (by kernel_rfl) ?_; simp only [pick1, headWJ]
      intro K' hK
      rw [if_neg (by intro e; cases e)]
      refine hK _ _ (by first | trivial | exact Or.inr (Or.inl (by kernel_rfl)) | exact Or.inl (by kernel_rfl)) ?_
      clear hK K'
      (try simp only [Act.put, List.setIfInBounds_toArray, List.set_cons_zero, List.set_cons_succ])
      refine rw_oneJ (fuel := 0) 12 rfl (by kernel_rfl) (by kernel_rfl) ?_; simp only [pick1, headWJ]
      intro K' hK
      rw [if_pos (by rfl)]
      gi_wp2
      refine hK _ _ (by first | trivial | exact Or.inr (Or.inl (by kernel_rfl)) | exact Or.inl (by kernel_rfl)) ?_
      clear hK K'
      refine rw_doneJ (by kernel_rfl) ?_
      gi_wp2
      refine ⟨(KeepsOthers.of_grownBy (grown_of_below B2) (fun j o e _ => by cases e)).from _, KpC.below B2 (by omega) (by omega), ?_, ⟨S2.d, S2.y⟩, by have := B2.size; omega, e5.trans (B2.mono (by omega))⟩
      rw [hno.out]; exact EJ.out
    · have hle : decide (((Wl.wrongsN h ws (t1, t2) : Nat) : Int) ≤ h.wrong) = true := hT
      have hyes := Lib.hid (wtF_yes (pre := pre) (x := ⟨(t1, t2), hIn⟩) hT)
      have hpl : (wtF ws pre).length < 410001 := Nat.lt_of_le_of_lt (List.length_filterMap_le ..) hlt
      obtain ⟨fn, tmps, assign, body, hy, hR⟩ := hY _ ⟨(t1, t2), hIn, hT⟩ w2 eJ hpl
      simp only [facT] at hy
      have HR : Hid (RoundIn Fence.wide (nF - 1) Try.prog l fn tmps assign body w2 fun e W' => ∃ bb, e = .returned (.bool bb) ∧ Hid ((bb = true ∧ J (wtF ws pre ++ [⟨(t1, t2), hIn, hT⟩]) W' ∧ KpC n₁ (w.heap.size + 2) B0 w2 W') ∨ (bb = false ∧ Jx (wtF ws pre ++ [⟨(t1, t2), hIn, hT⟩]) W' ∧ KeepsFrom (w.heap.size + 2) w2 W'))) := hR.mono fun e W' k => by
        rcases k with ⟨k1, k2⟩ | ⟨k1, k2⟩
        · exact ⟨true, k1, Or.inl ⟨rfl, k2⟩⟩
        · exact ⟨false, k1, Or.inr ⟨rfl, k2⟩⟩
      clear hR e1 eJ
      refine rw_takeJ (by kernel_rfl) (fuel := 5) [6, 7] (by kernel_rfl) (by kernel_rfl) (by intro _ _ d _ _ h; first | (cases d <;> exact h) | (simp [Exit.then, Exit.inBlock, ownPostG] at h)) rfl (by kernel_rfl) (by kernel_rfl) S2 ?_; simp only [pickL, pick1, List.cons_append, List.nil_append]
      iterate 2 (refine wpTake_cons (v := ?_) (Or.inl ⟨by rfl, ?_⟩) ?_; rotate_left; (intro w' hSw; have yd := hSw.d.c; have yy := hSw.y.c; have yt := hSw.t.c; clear hSw; go_simp; (try with_reducible rfl)); (try simp only [Act.put, List.setIfInBounds_toArray, List.set_cons_zero, List.set_cons_succ]))
      refine wpTake_nil ?_
      (try simp only [hle])
      refine rw_takeJ (by kernel_rfl) (fuel := 3) [8, 9] (by kernel_rfl) (by kernel_rfl) (by intro _ _ d _ _ h; first | (cases d <;> exact h) | (simp [Exit.then, Exit.inBlock, ownPostG] at h)) rfl (by kernel_rfl) (by kernel_rfl) S2 ?_; simp only [pickL, pick1, List.cons_append, List.nil_append]
      iterate 2 (refine wpTake_cons (v := ?_) (Or.inl ⟨by rfl, ?_⟩) ?_; rotate_left; (intro w' hSw; have yd := hSw.d.c; have yy := hSw.y.c; have yt := hSw.t.c; clear hSw; go_simp; (try with_reducible rfl)); (try simp only [Act.put, List.setIfInBounds_toArray, List.set_cons_zero, List.set_cons_succ]))
      refine wpTake_nil ?_
      refine rw_oneJ (fuel := 2) 10 rfl (by kernel_rfl) (by kernel_rfl) ?_; simp only [pick1, headWJ]
      intro K' hK
      rw [if_pos (by rfl)]
      gi_wp2
      refine ⟨fun e => (by cases e), (roundIn_any HR.out).mono ?_⟩
      rintro e W4 ⟨bb, rfl, HB⟩
      refine hK _ _ (by first | trivial | exact Or.inl trivial | exact Or.inl rfl) ?_
      clear hK K'
      (try simp only [Act.put, List.setIfInBounds_toArray, List.set_cons_zero, List.set_cons_succ])
      refine rw_oneJ (fuel := 1) 11 rfl (by kernel_rfl) (by kernel_rfl) ?_; simp only [pick1, headWJ]
      intro K' hK
      rw [if_pos (by rfl)]
      gi_wp2
      refine hK _ _ (by first | trivial | exact Or.inr (Or.inl (by kernel_rfl)) | exact Or.inl (by kernel_rfl)) ?_
      clear hK K'
      (try simp only [Act.put, List.setIfInBounds_toArray, List.set_cons_zero, List.set_cons_succ])
      refine rw_oneJ (fuel := 0) 12 rfl (by kernel_rfl) (by kernel_rfl) ?_; simp only [pick1, headWJ]
      intro K' hK
      rw [if_pos (by rfl)]
      gi_wp2
      refine hK _ _ (by first | trivial | exact Or.inr (Or.inl (by kernel_rfl)) | exact Or.inl (by kernel_rfl)) ?_
      clear hK K'
      refine rw_doneJ (by kernel_rfl) ?_
      have h2s := B2.size
      rcases HB.out with ⟨rfl, j1, j2⟩ | ⟨rfl, j1, j2⟩
      · have h4s := j2.1.size
        have ks : KpC n₁ (W0.heap.size + 2) B0 W1 W4 := (KpC.below B2 (by omega) (by omega)).trans (j2.weak (by omega))
        gi_wp2
        rw [hsz] at ks
        refine ⟨((KeepsOthers.of_grownBy (grown_of_below B2) (fun j o e _ => by cases e)).from _).trans (j2.keeps (by omega)), ks, ?_, ⟨own_kpc S2.d j2 (by omega), own_kpc S2.y j2 (by omega)⟩, by omega, (e5.trans (B2.mono (by omega))).trans j2.1⟩
        rw [hyes.out]; exact j1
      · gi_wp2
        exact ⟨((KeepsOthers.of_grownBy (grown_of_below B2) (fun j o e _ => by cases e)).from _).trans ⟨j2.size, fun k o hk ho hc => j2.same k o (by omega) ho hc⟩, rfl, _, j1⟩
end Go.Proofs.Ytgmhelclofnpkaa
