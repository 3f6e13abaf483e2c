/- Walks: the greatest doubt if the height at a place is known. -/
import Derived.Test.YtphcpphmoeiioaaWJ
namespace Go.Proofs.Ytphcpphmoeiioaa
open Go.RowKit Go.Maps Go.Shelf

attribute [local go_sem] Oper.semAt_some
theorem sUp_bd {c : Cv} (h1 : -100 ≤ c.rlo) (h2 : c.rhi ≤ 100) {h : Nat → Int} (a b : Int) : ∀ k, Ok c k h → -200 * (k : Int) ≤ sUp h a b k ∧ sUp h a b k ≤ 200 * (k : Int)
  | 0, _ => by simp [sUp]
  | k + 1, H => by
    have ih := sUp_bd h1 h2 a b k ⟨fun i hi => H.1 i (by omega), fun i hi => H.2 i (by omega)⟩
    have e1 := H.1 k (by omega)
    have e2 := H.1 (k + 1) (Nat.le_refl _)
    show -200 * ((k + 1 : Nat) : Int) ≤ sUp h a b k + _ ∧ sUp h a b k + _ ≤ 200 * ((k + 1 : Nat) : Int)
    split <;> omega
theorem inF_bd {L sl rl rh wg : Int} {ks : List Kn} (hV : CvV L sl rl rh wg ks) {f : Int → Option Int} {a b s : Int} (h : InF (cvOf L sl rl rh wg ks) f a b s) : -2400 ≤ s ∧ s ≤ 2400 := by
  obtain ⟨g, k1, _, rfl⟩ := h
  have := sUp_bd (c := cvOf L sl rl rh wg ks) hV.r1 hV.r2 a b _ k1.1
  have hl : (cvOf L sl rl rh wg ks).long ≤ 12 := by show L.toNat ≤ 12; have := hV.l2; omega
  omega
theorem intR_bd {L sl rl rh wg : Int} {ks : List Kn} (hV : CvV L sl rl rh wg ks) {f : Int → Option Int} {a b lo hi : Int} {m : Nat} (h : IntR (InF (cvOf L sl rl rh wg ks) f a b) m lo hi) : (-2400 ≤ lo ∧ lo ≤ 2400) ∧ -2400 ≤ hi ∧ hi ≤ 2400 := by
  rcases h with ⟨_, rfl, rfl, _⟩ | ⟨_, h⟩
  · omega
  · exact ⟨inF_bd hV h.1, inF_bd hV h.2.1⟩
theorem inF_one (c : Cv) (p : Nat) (hp : p ≤ c.long) (x a b s : Int) : InF c (upd (fun _ => none) (p : Int) x) a b s ↔ ∃ h, Truth c h ∧ h p = x ∧ sUp h a b c.long = s := by
  constructor
  · rintro ⟨h, k1, k2, k3⟩
    exact ⟨h, k1, (k2 p hp x (by simp [upd])).symm, k3⟩
  · rintro ⟨h, k1, rfl, k3⟩
    refine ⟨h, k1, fun i hi m hm => ?_, k3⟩
    unfold upd at hm
    by_cases e : (i : Int) = (p : Int)
    · rw [if_pos e] at hm
      have : i = p := by omega
      subst this
      cases hm; rfl
    · rw [if_neg e] at hm; cases hm
def WL (c : Cv) (p : Nat) (pre : List Int) (m : Int) : Prop :=
  (0 ≤ m ∧ m ≤ 4800) ∧ (m = 0 ∨ ∃ h g, Truth c h ∧ Truth c g ∧ h p = g p ∧ sUp h 0 c.long c.long - sUp g 0 c.long c.long = m) ∧
  ∀ h g, Truth c h → Truth c g → h p = g p → h p ∈ pre → sUp h 0 c.long c.long - sUp g 0 c.long c.long ≤ m
theorem WL.nil (c : Cv) (p : Nat) : WL c p [] 0 := ⟨by omega, Or.inl rfl, fun _ _ _ _ _ h => by cases h⟩
theorem WL.step {L sl rl rh wg : Int} {ks : List Kn} (hV : CvV L sl rl rh wg ks) {p : Nat} (hp : p ≤ L.toNat) {pre : List Int} {m x lo hi : Int} {k : Nat} (h : WL (cvOf L sl rl rh wg ks) p pre m) (hI : IntR (InF (cvOf L sl rl rh wg ks) (upd (fun _ => none) (p : Int) x) 0 L) k lo hi) :
    WL (cvOf L sl rl rh wg ks) p (pre ++ [x]) (max m (hi - lo)) := by
  obtain ⟨h1, h2, h3⟩ := h
  have hb := intR_bd hV hI
  have hl : ((cvOf L sl rl rh wg ks).long : Int) = L := Int.toNat_of_nonneg (Int.le_trans (by decide) hV.l1)
  refine ⟨by omega, ?_, ?_⟩
  · by_cases e : hi - lo ≤ m
    · rw [Int.max_eq_left e]; exact h2
    · rw [Int.max_eq_right (by omega)]
      rcases hI with ⟨_, rfl, rfl, _⟩ | ⟨_, hI⟩
      · omega
      · obtain ⟨g1, k1, k2, k3⟩ := (inF_one (cvOf L sl rl rh wg ks) p hp x 0 L hi).1 hI.2.1
        obtain ⟨g2, j1, j2, j3⟩ := (inF_one (cvOf L sl rl rh wg ks) p hp x 0 L lo).1 hI.1
        refine Or.inr ⟨g1, g2, k1, j1, by rw [k2, j2], ?_⟩
        rw [hl, k3, j3]
  · intro g1 g2 k1 k2 k3 k4
    rcases List.mem_append.1 k4 with k4 | k4
    · have := h3 g1 g2 k1 k2 k3 k4; omega
    · have e := List.mem_singleton.1 k4
      have i1 := (inF_one (cvOf L sl rl rh wg ks) p hp x 0 L _).2 ⟨g1, k1, e, rfl⟩
      have i2 := (inF_one (cvOf L sl rl rh wg ks) p hp x 0 L _).2 ⟨g2, k2, by rw [← k3]; exact e, rfl⟩
      rcases hI with ⟨_, _, _, h4⟩ | ⟨_, hI⟩
      · exact absurd i1 (h4 _)
      · have a1 := hI.2.2 _ i1
        have a2 := hI.2.2 _ i2
        rw [hl]
        omega
theorem WL.all {c : Cv} {p : Nat} (hp : p ≤ c.long) {K : Nat} {m : Int} (h : WL c p (htL c p K) m) (hK : c.rhi < c.rlo + K) (hT : ∃ h, Truth c h) : WstP c p m := by
  obtain ⟨h1, h2, h3⟩ := h
  refine ⟨?_, fun g1 g2 k1 k2 k3 => h3 g1 g2 k1 k2 k3 ((htL_mem c p _ K).2 ⟨⟨g1, k1, rfl⟩, (k1.1.1 p hp).1, by have := (k1.1.1 p hp).2; omega⟩)⟩
  rcases h2 with rfl | h2
  · obtain ⟨g, hg⟩ := hT
    exact ⟨g, g, hg, hg, rfl, by omega⟩
  · exact h2
theorem WL.all' {L sl rl rh wg : Int} {ks : List Kn} {p : Nat} {ys : List Ht} {m : Int} (h : WL (cvOf L sl rl rh wg ks) p (ys.map (·.1)) m) (e : ys.map (·.1) = htL (cvOf L sl rl rh wg ks) p (rh - rl + 1).toNat) (hp : p ≤ L.toNat) (hV : CvV L sl rl rh wg ks) (hT : ∃ h, Truth (cvOf L sl rl rh wg ks) h) : WstP (cvOf L sl rl rh wg ks) p m ∧ 0 ≤ m ∧ m ≤ 4800 := by
  rw [e] at h
  refine ⟨h.all hp ?_ hT, h.1⟩
  have := hV.r0
  show rh < rl + ((rh - rl + 1).toNat : Int)
  omega
theorem callsIn_gen {F : Fence} {n : Nat} {P : Program} {f : FuncId} {args : Array Value} {Q : Ending → World → Prop} {w : World} (h : ∀ W, W = w → CallsIn F n P f args W Q) : CallsIn F n P f args w Q := h w rfl
theorem wpIn_gen {F : Fence} {n : Nat} {P : Program} {c : Code} {Q : Exit → Act → World → Prop} {a : Act} {w : World} (h : ∀ W, W = w → c.wpIn F n P Q a W) : c.wpIn F n P Q a w := h w rfl
set_option maxRecDepth 100000 in
set_option maxHeartbeats 4000000 in
theorem worst53 (L sl rl rh wg : Int) (A : Option Addr) (n cap : Nat) (ks : List Kn) (p : Nat) (w : World) (hA : Rd 3 w A (ks.map krow)) (hn : Hid (n = ks.length)) (hV : Hid (CvV L sl rl rh wg ks)) (hp : (p : Int) ≤ L) (hT : Hid (∃ h, Truth (cvOf L sl rl rh wg ks) h)) :
    Calls Try.prog 53 #[.agg #[.int .i64 L, .int .i64 sl, .int .i64 rl, .int .i64 rh, .slice A n cap, .int .i64 wg, .map none], .int .i64 p] w fun e w' => ∃ m : Int, e = .returned (.int .i64 m) ∧ Hid (WstP (cvOf L sl rl rh wg ks) p m) ∧ (0 ≤ m ∧ m ≤ 4800) ∧ Below w.heap.size w w' := by
  have HA := Lib.hid hA
  have hl1 := hV.out.l1
  have hl2 := hV.out.l2
  clear hA
  have hmm := @run_makeMap Try.prog
  have f52 : Fence.wide.fn 52 := trivial
  have f57 : Fence.wide.fn 57 := trivial
  have f79 : Fence.wide.fn 79 := trivial
  refine (callsIn_wide (n := 6)).1 ?_
  refine callsIn_of_wp_marks Try.func53 rfl trivial ?_ rfl
  simp only [Try.ntmps53, List.size_toArray, List.length_cons, List.length_nil, Nat.reduceAdd, Nat.reduceSub, Array.replicate_succ, Array.replicate_zero, List.push_toArray, List.append_toArray, List.nil_append, List.cons_append]
  gi_wp2_with (gi_at_call 52; refine (callsIn_wide.2 (heights52 _ _ _ _ _ _ _ _ _)).mono ?_; rintro e w' ⟨rfl, rfl⟩)
  refine wpIn_gen fun W0 hW0 => ?_
  have hB0 : Below w.heap.size w W0 := by rw [hW0]; (repeat' (first | (with_reducible exact Below.refl _ _) | (with_reducible assumption) | (with_reducible refine Below.drew ?_) | (with_reducible refine below_drewN ?_ _) | (with_reducible refine Below.setCell ?_ ?_ _) | (with_reducible refine Below.alloc ?_ ?_ _) | (refine Below.trans ?_ (Below.mono (by with_reducible assumption) ?_)) | omega | (exact Below.size (by with_reducible assumption)) | (simp; done) | (simp; omega)))
  have hsz : W0.heap.size = w.heap.size + 5 := by rw [hW0]; simp
  have o0 : Own W0 w.heap.size [.int .i64 L, .int .i64 sl, .int .i64 rl, .int .i64 rh, .slice A n cap, .int .i64 wg, .map none] := by rw [hW0]; exact ((((Own.new' _ _ (by simp) rfl).alloc _).alloc _).alloc _).alloc _
  have o1 : Own W0 (w.heap.size + 1) [.int .i64 p] := by rw [hW0]; exact (((Own.new' _ _ (by simp) rfl).alloc _).alloc _).alloc _
  have o2 : Own W0 (w.heap.size + 1 + 1) [.int .i64 0] := by rw [hW0]; exact ((Own.new' _ _ (by simp) rfl).alloc _).alloc _
  have o3 : Own W0 (w.heap.size + 1 + 1 + 1) [.int .i64 L, .int .i64 sl, .int .i64 rl, .int .i64 rh, .slice A n cap, .int .i64 wg, .map none] := by rw [hW0]; exact (Own.new' _ _ (by simp) rfl).alloc _
  have o4 : Own W0 (w.heap.size + 1 + 1 + 1 + 1) [.int .i64 p] := by rw [hW0]; exact Own.new' _ _ (by simp) rfl
  clear hW0
  have hpL : p ≤ L.toNat := by omega
  refine wpIn_rangeFunc_ownG rfl (by omega) (gf := 79) (lb := #[.pointer (some ⟨w.heap.size + 1 + 1 + 1, 0, none⟩), .pointer (some ⟨w.heap.size + 1 + 1 + 1 + 1, 0, none⟩)]) rfl f79 (enters_of Try.func79 (by kernel_rfl) rfl)
    (stops79 L sl rl rh wg A n cap ks p (w.heap.size + 1 + 1 + 1) (w.heap.size + 1 + 1 + 1 + 1) w.heap.size W0 5 (by omega) (fun W hW => HA.out.below (hB0.trans hW) (Nat.le_refl _)) hB0.size hn hV hp o3 o4)
    (fun h1 h2 => ⟨h1.1.trans h2.1, h2.2.1.trans h1.2.1, h2.2.2.trans h1.2.2⟩)
    (fun W l o o' hl ho hc hw => ⟨?kb, World.putObj_heap_other (by omega), World.putObj_heap_other (by omega)⟩)
    (Below.refl _ _) (fun _ => rfl)
    (fun pre W => (∃ m, Hid (WL (cvOf L sl rl rh wg ks) p (pre.map (·.1)) m) ∧ Own W (w.heap.size + 1 + 1) [.int .i64 m]) ∧ Own W w.heap.size [.int .i64 L, .int .i64 sl, .int .i64 rl, .int .i64 rh, .slice A n cap, .int .i64 wg, .map none] ∧ Own W (w.heap.size + 1) [.int .i64 p] ∧ W0.heap.size ≤ W.heap.size ∧ Below w.heap.size w W)
    (fun _ _ _ => False)
    ?hI (fun _ _ _ _ _ hs _ _ => hs) ⟨⟨0, WL.nil _ _, o2⟩, o0, o1, Nat.le_refl _, hB0⟩ ?act ?assign ?body ?done ?stop
  case kb =>
    have hlt := (Array.getElem?_eq_some_iff.1 ho).1
    exact (Below.refl w.heap.size W).grown (grownBy_putObj' W l o') (by omega) (fun k e => by cases e; omega)
  case hI =>
    rintro s W W' row ⟨⟨m, hm, hom⟩, hop, ho1, hsW, hB⟩ hg hr
    have hrow : ∀ r, row = some r → W0.heap.size ≤ r := fun r e => (hr r e).1
    exact ⟨⟨m, hm, hom.grown hg (fun e => by have := hrow _ e.symm; omega)⟩, hop.grown hg (fun e => by have := hrow _ e.symm; omega), ho1.grown hg (fun e => by have := hrow _ e.symm; omega), Nat.le_trans hsW hg.size, hB.grown hg hB.size (fun k e => by have := hrow k e; omega)⟩
  case assign =>
    intro l x W K hK
    gi_wp2
    exact hK
  case done =>
    rintro D ys W hD hS ⟨⟨m, hm, hom⟩, hop, ho1, hsW, hB⟩ hK
    have hW := hm.out.all' hS hpL hV.out hT.out
    obtain ⟨l2, k2, f2⟩ := hom
    gi_wp2
    refine ⟨by simp, .inl ⟨_, _, rfl, run_takeDeferred hK, ?_⟩⟩
    exact ⟨_, results_tmp rfl _ _ _, m, rfl, hW.1, hW.2, hB.trans (belowK_b (w := w) (Nat.le_refl _) W D _ _ (by omega) hK rfl rfl)⟩
  case stop =>
    rintro D c pre W _ _ h _
    exact h.elim
  case body => 
    rintro l pre x W ⟨⟨m, hm, hom⟩, hop, ho1, hsW, hB⟩ hlen
    have hx := x.2
    have hz := hB.size
    have hom' := Lib.hid hom
    have hop' := Lib.hid hop
    have ho1' := Lib.hid ho1
    obtain ⟨l0, k0, f0⟩ := hop
    obtain ⟨l1, k1, f1⟩ := ho1
    obtain ⟨l2, k2, f2⟩ := hom
    have hins := MapI.made (W.alloc (.cells #[.int .i64 L, .int .i64 sl, .int .i64 rl, .int .i64 rh, .slice A n cap, .int .i64 wg, .map none] 70))
    simp only [World.size_alloc] at hins
    gi_wp2_with (first | (refine wpIn_insI _ rfl _ _ _ _ rfl Try.underlying68 (W.heap.size + 1) 0 _ rfl hins (by omega) p x.1 rfl rfl (Go.WalkArith.wf_i64 (by omega)) (Go.WalkArith.wf_i64 (by omega)) ?_; intro w2 hm2 hg2; have hq := Lib.hid (Own.grown (Own.alloc (Own.new' (w := W) #[.int .i64 L, .int .i64 sl, .int .i64 rl, .int .i64 rh, .slice A n cap, .int .i64 wg, .map none] 70 rfl rfl) (.map #[] 0)) hg2 (fun e => by injection e; omega)); have hom2 := Lib.hid (Own.grown ((hom'.out.alloc _).alloc _) hg2 (fun e => by injection e; omega)); have hop2 := Lib.hid (Own.grown ((hop'.out.alloc _).alloc _) hg2 (fun e => by injection e; omega)); have hg2' := Lib.hid hg2; clear hg2; clear l0 k0 f0 l1 k1 f1 l2 k2 f2; obtain ⟨l0, k0, f0⟩ := hop2.out; obtain ⟨l2, k2, f2⟩ := hom2.out; obtain ⟨lq, kq, fq⟩ := hq.out))
    refine callsIn_gen fun W5 hW5 => ?_
    have hb2 : Below W.heap.size W w2 := (((Below.refl _ W).alloc (Nat.le_refl _) _).alloc (by simp) _).grown hg2'.out (by simp; omega) (fun k e => by cases e; omega)
    have hb5 : Below W.heap.size W W5 := by rw [hW5]; exact hb2.setCell (Nat.le_refl _) _
    have hm5 : MapI W5 (W.heap.size + 1) 1 (upd (fun _ => none) (p : Int) x.1) := by rw [hW5]; exact hm2.setCell (by simp) _
    clear hW5 hm2 hq hom2 hop2 l0 k0 f0 l2 k2 f2 lq kq fq hins hb2
    have hz5 := hb5.size
    refine (CallsIn.inRound l (callsIn_wide.2 (integral57 L sl rl rh wg A n cap ks (.map (some (W.heap.size + 1))) (upd (fun _ => none) (p : Int) x.1) 0 L _ (HA.out.below (hB.trans (hb5.mono hz)) (Nat.le_refl _)) hn (Or.inr ⟨_, _, rfl, hm5⟩) hV))).mono ?_
    rintro e w6 ⟨k, lo, hi, rfl, hI, hb6⟩
    have hb6' := hb5.trans (hb6.mono hz5)
    have hz6 := hb6.size
    have hbd := intR_bd hV.out hI.out
    have hom6 := Lib.hid (hom'.out.below hb6' (by omega))
    have hop6 := Lib.hid (hop'.out.below hb6' (by omega))
    have ho16 := Lib.hid (ho1'.out.below hb6' (by omega))
    have hWL := hm.out.step hV.out hpL hI.out
    have hmb := hm.out.1
    have hWL' : ∀ V, max m (hi - lo) = V → WL (cvOf L sl rl rh wg ks) p (pre ++ [x]).unattach V := fun V e => by
      subst e
      show WL _ _ ((pre ++ [x]).map (fun z => z.1)) _
      rw [List.map_append]
      exact hWL
    have HWL := Lib.hid hWL'
    clear hWL hWL'
    clear hb6
    obtain ⟨l2, k2, f2⟩ := hom6.out
    gi_wp2
    all_goals
      simp only [ownPostG]
      refine ⟨?_, ⟨?_, ?_, ?_⟩, ⟨_, ?_, (hom6.out.set 0 (by simp) _).alloc _⟩, ?_, ?_, ?_, ?_⟩
      · exact ((KeepsOthers.of_grownBy (grown_of_below hb6') (fun j o e _ => by cases e)).trans ((KeepsOthers.setCell _ _ _).trans (KeepsOthers.alloc _ _))).from _
      · exact ((hb6'.mono hz).setCell (by dsimp only; omega) _).alloc (by simp only [World.size_setCell]; omega) _
      · exact (Below.heap_alloc _ _ _ (by simp only [World.size_setCell]; omega)).trans ((Below.heap_setCell _ _ _ _ (by dsimp only; omega)).trans (hb6'.block _ (by omega)))
      · exact (Below.heap_alloc _ _ _ (by simp only [World.size_setCell]; omega)).trans ((Below.heap_setCell _ _ _ _ (by dsimp only; omega)).trans (hb6'.block _ (by omega)))
      · first
          | exact HWL.out _ (by omega)
      · exact (hop6.out.setOther (by dsimp only; omega) _).alloc _
      · exact (ho16.out.setOther (by dsimp only; omega) _).alloc _
      · simp only [World.size_setCell, World.size_alloc]; omega
      · exact ((hB.trans (hb6'.mono hz)).setCell (by dsimp only; omega) _).alloc (by simp only [World.size_setCell]; omega) _
end Go.Proofs.Ytphcpphmoeiioaa
