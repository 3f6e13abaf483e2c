/- Walks: TopOpening of the program. -/
import Derived.Test.YtibkgnnpmidgfaaDoorOpnP
import Derived.Test.YtibkgnnpmidgfaaDoorOpF
import Derived.Test.YtibkgnnpmidgfaaDoorUn
import Derived.Test.YtibkgnnpmidgfaaDoorUm
namespace Go.Proofs.YtibkgnnpmidgfaaDoor
open Go.RowKit Go.Maps

theorem exOpn : opnN 0 exB exD exR 0 4 1 = 12 := by kernel_rfl
theorem exOpe : opnE 0 exB exD exR 0 4 1 = 0 := by kernel_rfl
set_option maxHeartbeats 2000000 in
theorem walked16 (w : World) (hT : Tab w) : Calls Tryd.prog 16 #[] w fun e w' => e = .returned (.bool true) ∧ Below w.heap.size w w' := by
  have HT := Lib.hid hT
  clear hT
  go_enter Tryd.func16, Tryd.ntmps16
  go_wp2_with fail
  refine (example54 _).mono ?_
  rintro e w1 ⟨b0, b1, b2, rfl, hR, hb1⟩
  have HR := Lib.hid hR
  clear hR
  go_wp2_with fail
  refine (cTup exOpn exOpe (opening18 _ _ _ 5 2 3 5 2 3 0 0 4 1 exB exD exR _ HR.out (HT.out.below hb1 (Nat.le_refl _)) (by omega) (by omega))).mono ?_
  rintro e w2 ⟨rfl, hb2⟩
  have hB2 : Below w.heap.size w w2 := hb1.trans (hb2.mono hb1.size)
  clear hb1 hb2
  go_wp2_with fail
  refine (mappedW _).mono ?_
  rintro e w3 ⟨rfl, hb3⟩
  go_wp2
  go_ret
  exact ⟨rfl, hB2.trans (hb3.mono hB2.size)⟩
/-- What TopOpening reads. -/
structure OpS (n m : Nat) (vs : List Value) (b off f t : Nat) (x1 y1 x2 y2 : Int) (w : World) : Prop where
  g : Own w n vs
  o : Own w m [.int .i64 1000, .int .i64 1000]
  l : b < w.heap.size
  ca : w.cell? ⟨b, off + f * 2, none⟩ = some (.int .i64 x1)
  cb : w.cell? ⟨b, off + f * 2 + 1, none⟩ = some (.int .i64 y1)
  cc : w.cell? ⟨b, off + t * 2, none⟩ = some (.int .i64 x2)
  cd : w.cell? ⟨b, off + t * 2 + 1, none⟩ = some (.int .i64 y2)
theorem OpS.below {n m : Nat} {vs : List Value} {b off f t : Nat} {x1 y1 x2 y2 : Int} {w w' : World} (h : OpS n m vs b off f t x1 y1 x2 y2 w) (hb : Below w.heap.size w w') : OpS n m vs b off f t x1 y1 x2 y2 w' :=
  ⟨h.g.below hb h.g.lt, h.o.below hb h.o.lt, Nat.lt_of_lt_of_le h.l hb.size, (hb.cell (p := ⟨b, _, none⟩) h.l).trans h.ca, (hb.cell (p := ⟨b, _, none⟩) h.l).trans h.cb, (hb.cell (p := ⟨b, _, none⟩) h.l).trans h.cc, (hb.cell (p := ⟨b, _, none⟩) h.l).trans h.cd⟩
theorem OpS.set {n m : Nat} {vs : List Value} {b off f t : Nat} {x1 y1 x2 y2 : Int} {w : World} (h : OpS n m vs b off f t x1 y1 x2 y2 w) {a : Addr} (k1 : n < a.block) (k2 : m < a.block) (k3 : b < a.block) (v : Value) : OpS n m vs b off f t x1 y1 x2 y2 (w.setCell a v) :=
  have hb : Below (b + 1) w (w.setCell a v) := (Below.refl _ _).setCell (by omega) _
  ⟨h.g.setOther (by omega) v, h.o.setOther (by omega) v, by simpa using h.l, (hb.cell (p := ⟨b, _, none⟩) (Nat.lt_succ_self _)).trans h.ca, (hb.cell (p := ⟨b, _, none⟩) (Nat.lt_succ_self _)).trans h.cb, (hb.cell (p := ⟨b, _, none⟩) (Nat.lt_succ_self _)).trans h.cc, (hb.cell (p := ⟨b, _, none⟩) (Nat.lt_succ_self _)).trans h.cd⟩
theorem OpS.set2 {n m : Nat} {vs : List Value} {b off f t : Nat} {x1 y1 x2 y2 : Int} {w : World} (h : OpS n m vs b off f t x1 y1 x2 y2 w) {Z : Nat} (k1 : n < Z) (k2 : m < Z) (k3 : b < Z) (v u : Value) : OpS n m vs b off f t x1 y1 x2 y2 ((w.setCell ⟨Z, 0, none⟩ v).setCell ⟨Z, 1, none⟩ u) := (h.set (by exact k1) (by exact k2) (by exact k3) v).set (by exact k1) (by exact k2) (by exact k3) u
set_option maxRecDepth 100000 in
set_option maxHeartbeats 4000000 in
theorem opening3 (A0 A1 A2 : Option Addr) (n0 n1 n2 c0 c1 c2 : Nat) (cw : Int) (f t : Int) (B D : List Pt) (R : List Rep) (w : World) (hC : RdC w A0 A1 A2 n0 n1 n2 B D R) (hT : Tab w) (ht1 : -9223372036854775808 ≤ t) (ht2 : t ≤ 9223372036854775807) :
    Calls Tryd.prog 3 #[.agg #[.slice A0 n0 c0, .slice A1 n1 c1, .slice A2 n2 c2, .int .i64 cw], .int .i64 f, .int .i64 t] w fun e w' => e = .returned (.bool true) ∧ Below w.heap.size w w' := by
  have HC := Lib.hid hC
  have HT := Lib.hid hT
  have HL := Lib.hid hC.h0
  have hn0 := hC.l0
  clear hC hT
  have o0 : Own (w.alloc (.cells #[.slice A0 n0 c0, .slice A1 n1 c1, .slice A2 n2 c2, .int .i64 cw] 26)) w.heap.size [.slice A0 n0 c0, .slice A1 n1 c1, .slice A2 n2 c2, .int .i64 cw] := Own.new' _ _ rfl rfl
  have oB : Below w.heap.size w (w.alloc (.cells #[.slice A0 n0 c0, .slice A1 n1 c1, .slice A2 n2 c2, .int .i64 cw] 26)) := by (repeat' (first | (with_reducible exact Below.refl _ _) | (with_reducible assumption) | (with_reducible refine Below.drew ?_) | (with_reducible refine below_drewN ?_ _) | (with_reducible refine Below.setCell ?_ ?_ _) | (with_reducible refine Below.alloc ?_ ?_ _) | (refine Below.trans ?_ (Below.mono (by with_reducible assumption) ?_)) | omega | (exact Below.size (by with_reducible assumption)) | (simp; done) | (simp; omega)))
  go_enter Tryd.func3, Tryd.ntmps3
  go_wp2_with fail
  refine (far13 A0 A1 A2 n0 n1 n2 c0 c1 c2 cw B D R _ (HC.out.below oB (Nat.le_refl _))).mono ?_
  rintro e w1 ⟨⟨b, rfl⟩, hb1⟩
  have q1 := o0.below hb1 o0.lt
  have hB1 : Below w.heap.size w w1 := by (repeat' (first | (with_reducible exact Below.refl _ _) | (with_reducible assumption) | (with_reducible refine Below.drew ?_) | (with_reducible refine below_drewN ?_ _) | (with_reducible refine Below.setCell ?_ ?_ _) | (with_reducible refine Below.alloc ?_ ?_ _) | (refine Below.trans ?_ (Below.mono (by with_reducible assumption) ?_)) | omega | (exact Below.size (by with_reducible assumption)) | (simp; done) | (simp; omega)))
  have Q1 := Lib.hid q1
  obtain ⟨l1, k1, f1⟩ := q1
  clear o0 hb1
  cases b
  · go_wp2_with fail
    refine (check14 A0 A1 A2 n0 n1 n2 c0 c1 c2 cw B D R _ (HC.out.below hB1 (Nat.le_refl _))).mono ?_
    rcases chkE_cases cw B D R with h | h
    · have H := Lib.hid h
      rw [h]
      rintro e w2 ⟨rfl, hb2⟩
      have hB2 : Below w.heap.size w w2 := by (repeat' (first | (with_reducible exact Below.refl _ _) | (with_reducible assumption) | (with_reducible refine Below.drew ?_) | (with_reducible refine below_drewN ?_ _) | (with_reducible refine Below.setCell ?_ ?_ _) | (with_reducible refine Below.alloc ?_ ?_ _) | (refine Below.trans ?_ (Below.mono (by with_reducible assumption) ?_)) | omega | (exact Below.size (by with_reducible assumption)) | (simp; done) | (simp; omega)))
      have q2 := Q1.out.below hb2 Q1.out.lt
      have Q2 := Lib.hid q2
      obtain ⟨l2, k2, f2⟩ := q2
      clear h Q1 hb2 hB1 l1 k1 f1
      go_wp2_with fail
      refine (areBends15 A0 A1 A2 n0 n1 n2 c0 c1 c2 cw f t _).mono ?_
      cases hp : plB n0 f t
      · rintro e w3 ⟨rfl, hb3⟩
        have hB3 : Below w.heap.size w w3 := by (repeat' (first | (with_reducible exact Below.refl _ _) | (with_reducible assumption) | (with_reducible refine Below.drew ?_) | (with_reducible refine below_drewN ?_ _) | (with_reducible refine Below.setCell ?_ ?_ _) | (with_reducible refine Below.alloc ?_ ?_ _) | (refine Below.trans ?_ (Below.mono (by with_reducible assumption) ?_)) | omega | (exact Below.size (by with_reducible assumption)) | (simp; done) | (simp; omega)))
        clear hp
        go_wp2_with fail
        refine (walked16 _ (HT.out.below hB3 (Nat.le_refl _))).mono ?_
        rintro e w4 ⟨rfl, hb4⟩
        go_wp2
        go_ret
        exact ⟨rfl, by (repeat' (first | (with_reducible exact Below.refl _ _) | (with_reducible assumption) | (with_reducible refine Below.drew ?_) | (with_reducible refine below_drewN ?_ _) | (with_reducible refine Below.setCell ?_ ?_ _) | (with_reducible refine Below.alloc ?_ ?_ _) | (refine Below.trans ?_ (Below.mono (by with_reducible assumption) ?_)) | omega | (exact Below.size (by with_reducible assumption)) | (simp; done) | (simp; omega)))⟩
      · rintro e w3 ⟨rfl, hb3⟩
        have hB3 : Below w.heap.size w w3 := by (repeat' (first | (with_reducible exact Below.refl _ _) | (with_reducible assumption) | (with_reducible refine Below.drew ?_) | (with_reducible refine below_drewN ?_ _) | (with_reducible refine Below.setCell ?_ ?_ _) | (with_reducible refine Below.alloc ?_ ?_ _) | (refine Below.trans ?_ (Below.mono (by with_reducible assumption) ?_)) | omega | (exact Below.size (by with_reducible assumption)) | (simp; done) | (simp; omega)))
        have q3 := Q2.out.below hb3 Q2.out.lt
        have HP := Lib.hid hp
        obtain ⟨hp0, hp1, hp2⟩ := plB_iff.1 hp
        clear hp Q2 l2 k2 f2 hB2 hb3
        obtain ⟨f, rfl⟩ := Int.eq_ofNat_of_zero_le hp0
        obtain ⟨t, rfl⟩ := Int.eq_ofNat_of_zero_le (show 0 ≤ t by omega)
        have hV := val_of (chk_ok H.out)
        have hn12 : n0 ≤ 12 := by have := HL.out; have := hV.b2; omega
        obtain ⟨p1, e1⟩ : ∃ p, B[f]? = some p := ⟨_, List.getElem?_eq_getElem (by have := HL.out; omega)⟩
        obtain ⟨p2, e2⟩ : ∃ p, B[t]? = some p := ⟨_, List.getElem?_eq_getElem (by have := HL.out; omega)⟩
        have pc1 := Lib.hid (hV.pts _ _ e1)
        have pc2 := Lib.hid (hV.pts _ _ e2)
        have HLEN := Lib.hid (show lenB B f t = (p2.1 - p1.1) * (p2.1 - p1.1) + (p2.2 - p1.2) * (p2.2 - p1.2) by unfold lenB; rw [atB_of e1, atB_of e2])
        have HO := Lib.hid (opn_one (f := f) (t := t) H.out (by omega) (by omega) (by have := HP.out; rw [HL.out] at this; exact this))
        obtain ⟨b, off, hA0, hbl, hc1, hc2⟩ := rd_pt (HC.out.below hB3 (Nat.le_refl _)).r0 e1
        obtain ⟨b', off', hA0', _, hc3, hc4⟩ := rd_pt (HC.out.below hB3 (Nat.le_refl _)).r0 e2
        obtain ⟨rfl, rfl⟩ : b = b' ∧ off = off' := by rw [hA0] at hA0'; cases hA0'; exact ⟨rfl, rfl⟩
        clear hV e1 e2 hA0'
        obtain ⟨x1, y1⟩ := p1
        obtain ⟨x2, y2⟩ := p2
        simp only at pc1 pc2 HLEN hc1 hc2 hc3 hc4
        have hz3 := hB3.size
        obtain ⟨m, hm⟩ : ∃ m, w3.heap.size = m := ⟨_, rfl⟩
        have Q3 := Lib.hid q3
        have hl3 := q3.lt
        have HCC := HC
        clear q3 HC oB
        go_wp2
        refine rg_start (OpS w.heap.size m [.slice A0 n0 c0, .slice A1 n1 c1, .slice A2 n2 c2, .int .i64 cw] b off f t x1 y1 x2 y2) 20 (by kernel_rfl) rfl ?_
        have S0 : OpS w.heap.size m [.slice A0 n0 c0, .slice A1 n1 c1, .slice A2 n2 c2, .int .i64 cw] b off f t x1 y1 x2 y2 (w3.alloc (.cells #[.int .i64 1000, .int .i64 1000] 33)).drew := by
          have k : Below w3.heap.size w3 (w3.alloc (.cells #[.int .i64 1000, .int .i64 1000] 33)).drew := by (repeat' (first | (with_reducible exact Below.refl _ _) | (with_reducible assumption) | (with_reducible refine Below.drew ?_) | (with_reducible refine below_drewN ?_ _) | (with_reducible refine Below.setCell ?_ ?_ _) | (with_reducible refine Below.alloc ?_ ?_ _) | (refine Below.trans ?_ (Below.mono (by with_reducible assumption) ?_)) | omega | (exact Below.size (by with_reducible assumption)) | (simp; done) | (simp; omega)))
          exact ⟨Q3.out.below k Q3.out.lt, (Own.new' _ _ hm.symm rfl).drew, Nat.lt_of_lt_of_le hbl k.size, (k.cell (p := ⟨b, _, none⟩) hbl).trans hc1, (k.cell (p := ⟨b, _, none⟩) hbl).trans hc2, (k.cell (p := ⟨b, _, none⟩) hbl).trans hc3, (k.cell (p := ⟨b, _, none⟩) hbl).trans hc4⟩
        have B0 : Below w.heap.size w (w3.alloc (.cells #[.int .i64 1000, .int .i64 1000] 33)).drew := by (repeat' (first | (with_reducible exact Below.refl _ _) | (with_reducible assumption) | (with_reducible refine Below.drew ?_) | (with_reducible refine below_drewN ?_ _) | (with_reducible refine Below.setCell ?_ ?_ _) | (with_reducible refine Below.alloc ?_ ?_ _) | (refine Below.trans ?_ (Below.mono (by with_reducible assumption) ?_)) | omega | (exact Below.size (by with_reducible assumption)) | (simp; done) | (simp; omega)))
        generalize hR : World.drew _ = R0 at S0 B0 ⊢
        clear hR hB3 Q3 hbl hc1 hc2 hc3 hc4 hm hz3 hl3
        subst hA0
        have hfn : f < n0 := by omega
        have htn : t < n0 := by omega
        refine rg_take (fuel := 7) [0, 1, 2, 3, 4, 5, 6, 7, 8, 9, 10, 11, 12] (by kernel_rfl) (by intro _ _ d _ _ h; first | (cases d <;> exact h) | (simp [Exit.then, Exit.inBlock, ownPostG] at h)) rfl (by kernel_rfl) (by kernel_rfl) S0 ?_; simp only [pickL, pick1, List.cons_append, List.nil_append]
        iterate 13 (refine wpTake_cons (v := ?_) (Or.inl ⟨by rfl, ?_⟩) ?_; rotate_left; (intro w' hSw; have yf := hSw.g.c; have yo := hSw.o.c; have ya := hSw.ca; have yb := hSw.cb; have yc := hSw.cc; have yd := hSw.cd; have yl1 := hSw.g.lt; have yl2 := hSw.o.lt; have yl3 := hSw.l; clear hSw; go_simp; (try with_reducible rfl)); (try simp only [Act.put, List.setIfInBounds_toArray, List.set_cons_zero, List.set_cons_succ]))
        refine wpTake_nil ?_
        obtain ⟨D', hD⟩ : ∃ d, (x2 - x1) * (x2 - x1) + (y2 - y1) * (y2 - y1) = d := ⟨_, rfl⟩
        have hD0 : 0 ≤ D' := by
          have := (sq_bd (a := x2 - x1) (A := 400) (by have := pc1.out; have := pc2.out; omega)).1
          have := (sq_bd (a := y2 - y1) (A := 400) (by have := pc1.out; have := pc2.out; omega)).1
          omega
        have hDD : (D' != D') = false := by simp
        have hLen := fun w => sLengthW x1 y1 x2 y2 w pc1.out.1 pc1.out.2 pc2.out.1 pc2.out.2
        rw [hD] at hLen
        have HLN := Lib.hid hLen
        clear hLen pc1 pc2
        refine rg_two (fuel := 6) 13 17 rfl (by kernel_rfl) (by kernel_rfl) ?_ ?_ <;> simp only [pick1, wpHead]
        · intro K' hK; rw [if_pos (by rfl)]; go_simp
          refine (HLN.out _).mono ?_
          rintro e w4 ⟨rfl, hb4⟩
          have S4 := S0.below hb4
          have B4 := B0.trans (hb4.mono B0.size)
          refine hK.out _ _ S4 ?_
          clear S0 hb4
          clear hK K'; (try simp only [Act.put, List.setIfInBounds_toArray, List.set_cons_zero, List.set_cons_succ])
          refine rg_take (fuel := 3) [14, 15, 16] (by kernel_rfl) (by intro _ _ d _ _ h; first | (cases d <;> exact h) | (simp [Exit.then, Exit.inBlock, ownPostG] at h)) rfl (by kernel_rfl) (by kernel_rfl) S4 ?_; simp only [pickL, pick1, List.cons_append, List.nil_append]
          iterate 3 (refine wpTake_cons (v := ?_) (Or.inl ⟨by rfl, ?_⟩) ?_; rotate_left; (intro w' hSw; have yf := hSw.g.c; have yo := hSw.o.c; have ya := hSw.ca; have yb := hSw.cb; have yc := hSw.cc; have yd := hSw.cd; have yl1 := hSw.g.lt; have yl2 := hSw.o.lt; have yl3 := hSw.l; clear hSw; go_simp; (try with_reducible rfl)); (try simp only [Act.put, List.setIfInBounds_toArray, List.set_cons_zero, List.set_cons_succ]))
          refine wpTake_nil ?_
          refine rg_one (fuel := 2) 17 rfl (by kernel_rfl) (by kernel_rfl) ?_; simp only [pick1, wpHead]
          intro K' hK; rw [if_pos (by rfl)]; go_simp
          have ba : Below w4.heap.size w4 (w4.alloc (.cells #[.int .i64 0, .int .i64 0] 33)) := (Below.refl _ _).alloc (Nat.le_refl _) _
          have S5 := S4.below ba
          have z4 : Own (w4.alloc (.cells #[.int .i64 0, .int .i64 0] 33)) w4.heap.size [.int .i64 0, .int .i64 0] := Own.new' _ _ rfl rfl
          refine hK.out _ _ S5 ?_
          clear hK K'; (try simp only [Act.put, List.setIfInBounds_toArray, List.set_cons_zero, List.set_cons_succ])
          have hl4 := S4.g.lt
          have B5 := B4.trans (ba.mono B4.size)
          have hne := S4.o.lt
          have hne2 := S4.l
          obtain ⟨Z, hZ⟩ : ∃ Z, w4.heap.size = Z := ⟨_, rfl⟩
          rw [hZ] at z4 hl4 hne hne2
          (try rw [hZ])
          clear S4 ba
          generalize w4.alloc (.cells #[.int .i64 0, .int .i64 0] 33) = R5 at S5 z4 B5 ⊢
          have hwZ := B4.size
          rw [hZ] at hwZ
          have z5' := Lib.hid z4
          obtain ⟨lz4, cz4, fz4⟩ := z4
          refine rg_one (fuel := 1) 18 rfl (by kernel_rfl) (by kernel_rfl) ?_; simp only [pick1, wpHead]
          intro K' hK; rw [if_pos (by rfl)]; go_simp
          have S6 := S5.set2 (Z := Z) hl4 hne hne2 (.int .i64 D') (.int .i64 D')
          have z5 := own_set2' z5'.out (.int .i64 D') (.int .i64 D')
          have hB5 : Below w.heap.size w ((R5.setCell ⟨Z, 0, none⟩ (.int .i64 D')).setCell ⟨Z, 1, none⟩ (.int .i64 D')) := (B5.setCell (by dsimp only; omega) _).setCell (by dsimp only; omega) _
          refine hK.out _ _ S6 ?_
          clear hK K'; (try simp only [Act.put, List.setIfInBounds_toArray, List.set_cons_zero, List.set_cons_succ])
          clear S5 B5 z5' lz4 cz4 fz4
          generalize (R5.setCell ⟨Z, 0, none⟩ (.int .i64 D')).setCell ⟨Z, 1, none⟩ (.int .i64 D') = R6 at S6 z5 hB5 ⊢
          refine rg_take (fuel := 0) [19] (by kernel_rfl) (by intro _ _ d _ _ h; first | (cases d <;> exact h) | (simp [Exit.then, Exit.inBlock, ownPostG] at h)) rfl (by kernel_rfl) (by kernel_rfl) S6 ?_; simp only [pickL, pick1, List.cons_append, List.nil_append]
          (refine wpTake_cons (v := ?_) (Or.inl ⟨by rfl, ?_⟩) ?_; rotate_left; (intro w' hSw; have yf := hSw.g.c; have yo := hSw.o.c; have ya := hSw.ca; have yb := hSw.cb; have yc := hSw.cc; have yd := hSw.cd; have yl1 := hSw.g.lt; have yl2 := hSw.o.lt; have yl3 := hSw.l; clear hSw; go_simp; (try with_reducible rfl)); (try simp only [Act.put, List.setIfInBounds_toArray, List.set_cons_zero, List.set_cons_succ]))
          refine wpTake_nil ?_
          have g5 := S6.g
          clear S6
          refine rg_done (by kernel_rfl) ?_
          have hT5 := HT.out.below hB5 (Nat.le_refl _)
          have lz5 := z5.lt
          obtain ⟨lg5, kg5, fg5⟩ := g5
          rcases HO.out with ⟨hE, hd⟩ | ⟨hE, q, hN, hq1, hq2, hq3, hq4⟩
          · rw [HLEN.out, hD] at hd
            go_wp2_with fail
            refine (cTup rfl hE (opening18 (some ⟨b, off, none⟩) A1 A2 n0 n1 n2 c0 c1 c2 cw f t 1 B D R _ (HCC.out.below hB5 (Nat.le_refl _)) hT5 (by omega) (by omega))).mono ?_
            rintro e w6 ⟨rfl, hb6⟩
            have hB6 : Below w.heap.size w w6 := hB5.trans (hb6.mono hB5.size)
            have hT6 := Lib.hid (HT.out.below hB6 (Nat.le_refl _))
            obtain ⟨lz, kz, fz⟩ := z5.below hb6 z5.lt
            clear hT5 z5 lg5 kg5 fg5 lz5 hb6 hE
            go_wp2_with fail
            refine (walked16 _ hT6.out).mono ?_
            rintro e w7 ⟨rfl, hb7⟩
            go_wp2
            go_ret
            exact ⟨rfl, hB6.trans (hb7.mono hB6.size)⟩
          · rw [HLEN.out, hD] at hq3 hq4
            go_wp2_with fail
            refine (cTup hN hE (opening18 (some ⟨b, off, none⟩) A1 A2 n0 n1 n2 c0 c1 c2 cw f t 1 B D R _ (HCC.out.below hB5 (Nat.le_refl _)) hT5 (by omega) (by omega))).mono ?_
            rintro e w6 ⟨rfl, hb6⟩
            have hB6 : Below w.heap.size w w6 := hB5.trans (hb6.mono hB5.size)
            have hT6 := Lib.hid (HT.out.below hB6 (Nat.le_refl _))
            obtain ⟨lz, kz, fz⟩ := z5.below hb6 z5.lt
            clear hT5 z5 lg5 kg5 fg5 lz5 hb6 hE hN
            have qq := sq_bd (a := q) (A := 60) (by omega)
            have qr := sq_bd (a := q - 1) (A := 60) (by omega)
            have hw1 : IntKind.i64.wrap (q * q) = q * q := IntWalk.i64_in _ (by omega)
            have hw2 : IntKind.i64.wrap (q - 1) = q - 1 := IntWalk.i64_in _ (by omega)
            have hw3 : IntKind.i64.wrap ((q - 1) * (q - 1)) = (q - 1) * (q - 1) := IntWalk.i64_in _ (by omega)
            by_cases hs : (q - 1) * (q - 1) < D'
            · clear hq4
              go_wp2_with fail
              refine (walked16 _ hT6.out).mono ?_
              rintro e w7 ⟨rfl, hb7⟩
              go_wp2
              go_ret
              exact ⟨rfl, hB6.trans (hb7.mono hB6.size)⟩
            · have hq1' : q = 1 := by rcases hq4 with h | h; exact h; exact absurd h hs
              have hqe : (q == 1) = true := by simp [hq1']
              clear hq4 hq1'
              go_wp2_with fail
              refine (walked16 _ hT6.out).mono ?_
              rintro e w7 ⟨rfl, hb7⟩
              go_wp2
              go_ret
              exact ⟨rfl, hB6.trans (hb7.mono hB6.size)⟩
        · intro K' hK; rw [if_pos (by rfl)]; go_simp
          have ba : Below R0.heap.size R0 (R0.alloc (.cells #[.int .i64 0, .int .i64 0] 33)) := (Below.refl _ _).alloc (Nat.le_refl _) _
          have S4 := S0.below ba
          have z3 : Own (R0.alloc (.cells #[.int .i64 0, .int .i64 0] 33)) R0.heap.size [.int .i64 0, .int .i64 0] := Own.new' _ _ rfl rfl
          refine hK.out _ _ S4 ?_
          clear hK K'; (try simp only [Act.put, List.setIfInBounds_toArray, List.set_cons_zero, List.set_cons_succ])
          have hl4 := S0.g.lt
          have hne := S0.o.lt
          have hne2 := S0.l
          have B4 := B0.trans (ba.mono B0.size)
          obtain ⟨Z, hZ⟩ : ∃ Z, R0.heap.size = Z := ⟨_, rfl⟩
          rw [hZ] at z3 hl4 hne hne2
          have hwZ := B0.size
          rw [hZ] at hwZ
          (try rw [hZ])
          clear S0 ba B0
          generalize R0.alloc (.cells #[.int .i64 0, .int .i64 0] 33) = R4 at S4 z3 B4 ⊢
          refine rg_one (fuel := 5) 13 rfl (by kernel_rfl) (by kernel_rfl) ?_; simp only [pick1, wpHead]
          intro K' hK; rw [if_pos (by rfl)]; go_simp
          refine (HLN.out _).mono ?_
          rintro e w4 ⟨rfl, hb4⟩
          have S5 := S4.below hb4
          have z4 := z3.below hb4 z3.lt
          have B5 := B4.trans (hb4.mono B4.size)
          refine hK.out _ _ S5 ?_
          clear S4 hb4 z3 B4
          clear hK K'; (try simp only [Act.put, List.setIfInBounds_toArray, List.set_cons_zero, List.set_cons_succ])
          refine rg_take (fuel := 2) [14, 15, 16] (by kernel_rfl) (by intro _ _ d _ _ h; first | (cases d <;> exact h) | (simp [Exit.then, Exit.inBlock, ownPostG] at h)) rfl (by kernel_rfl) (by kernel_rfl) S5 ?_; simp only [pickL, pick1, List.cons_append, List.nil_append]
          iterate 3 (refine wpTake_cons (v := ?_) (Or.inl ⟨by rfl, ?_⟩) ?_; rotate_left; (intro w' hSw; have yf := hSw.g.c; have yo := hSw.o.c; have ya := hSw.ca; have yb := hSw.cb; have yc := hSw.cc; have yd := hSw.cd; have yl1 := hSw.g.lt; have yl2 := hSw.o.lt; have yl3 := hSw.l; clear hSw; go_simp; (try with_reducible rfl)); (try simp only [Act.put, List.setIfInBounds_toArray, List.set_cons_zero, List.set_cons_succ]))
          refine wpTake_nil ?_
          have z5' := Lib.hid z4
          obtain ⟨lz4, cz4, fz4⟩ := z4
          refine rg_one (fuel := 1) 18 rfl (by kernel_rfl) (by kernel_rfl) ?_; simp only [pick1, wpHead]
          intro K' hK; rw [if_pos (by rfl)]; go_simp
          have S6 := S5.set2 (Z := Z) hl4 hne hne2 (.int .i64 D') (.int .i64 D')
          have z5 := own_set2' z5'.out (.int .i64 D') (.int .i64 D')
          have hB5 : Below w.heap.size w ((w4.setCell ⟨Z, 0, none⟩ (.int .i64 D')).setCell ⟨Z, 1, none⟩ (.int .i64 D')) := (B5.setCell (by dsimp only; omega) _).setCell (by dsimp only; omega) _
          refine hK.out _ _ S6 ?_
          clear hK K'; (try simp only [Act.put, List.setIfInBounds_toArray, List.set_cons_zero, List.set_cons_succ])
          clear S5 B5 z5' lz4 cz4 fz4
          generalize (w4.setCell ⟨Z, 0, none⟩ (.int .i64 D')).setCell ⟨Z, 1, none⟩ (.int .i64 D') = R6 at S6 z5 hB5 ⊢
          refine rg_take (fuel := 0) [19] (by kernel_rfl) (by intro _ _ d _ _ h; first | (cases d <;> exact h) | (simp [Exit.then, Exit.inBlock, ownPostG] at h)) rfl (by kernel_rfl) (by kernel_rfl) S6 ?_; simp only [pickL, pick1, List.cons_append, List.nil_append]
          (refine wpTake_cons (v := ?_) (Or.inl ⟨by rfl, ?_⟩) ?_; rotate_left; (intro w' hSw; have yf := hSw.g.c; have yo := hSw.o.c; have ya := hSw.ca; have yb := hSw.cb; have yc := hSw.cc; have yd := hSw.cd; have yl1 := hSw.g.lt; have yl2 := hSw.o.lt; have yl3 := hSw.l; clear hSw; go_simp; (try with_reducible rfl)); (try simp only [Act.put, List.setIfInBounds_toArray, List.set_cons_zero, List.set_cons_succ]))
          refine wpTake_nil ?_
          have g5 := S6.g
          clear S6
          refine rg_done (by kernel_rfl) ?_
          have hT5 := HT.out.below hB5 (Nat.le_refl _)
          have lz5 := z5.lt
          obtain ⟨lg5, kg5, fg5⟩ := g5
          rcases HO.out with ⟨hE, hd⟩ | ⟨hE, q, hN, hq1, hq2, hq3, hq4⟩
          · rw [HLEN.out, hD] at hd
            go_wp2_with fail
            refine (cTup rfl hE (opening18 (some ⟨b, off, none⟩) A1 A2 n0 n1 n2 c0 c1 c2 cw f t 1 B D R _ (HCC.out.below hB5 (Nat.le_refl _)) hT5 (by omega) (by omega))).mono ?_
            rintro e w6 ⟨rfl, hb6⟩
            have hB6 : Below w.heap.size w w6 := hB5.trans (hb6.mono hB5.size)
            have hT6 := Lib.hid (HT.out.below hB6 (Nat.le_refl _))
            obtain ⟨lz, kz, fz⟩ := z5.below hb6 z5.lt
            clear hT5 z5 lg5 kg5 fg5 lz5 hb6 hE
            go_wp2_with fail
            refine (walked16 _ hT6.out).mono ?_
            rintro e w7 ⟨rfl, hb7⟩
            go_wp2
            go_ret
            exact ⟨rfl, hB6.trans (hb7.mono hB6.size)⟩
          · rw [HLEN.out, hD] at hq3 hq4
            go_wp2_with fail
            refine (cTup hN hE (opening18 (some ⟨b, off, none⟩) A1 A2 n0 n1 n2 c0 c1 c2 cw f t 1 B D R _ (HCC.out.below hB5 (Nat.le_refl _)) hT5 (by omega) (by omega))).mono ?_
            rintro e w6 ⟨rfl, hb6⟩
            have hB6 : Below w.heap.size w w6 := hB5.trans (hb6.mono hB5.size)
            have hT6 := Lib.hid (HT.out.below hB6 (Nat.le_refl _))
            obtain ⟨lz, kz, fz⟩ := z5.below hb6 z5.lt
            clear hT5 z5 lg5 kg5 fg5 lz5 hb6 hE hN
            have qq := sq_bd (a := q) (A := 60) (by omega)
            have qr := sq_bd (a := q - 1) (A := 60) (by omega)
            have hw1 : IntKind.i64.wrap (q * q) = q * q := IntWalk.i64_in _ (by omega)
            have hw2 : IntKind.i64.wrap (q - 1) = q - 1 := IntWalk.i64_in _ (by omega)
            have hw3 : IntKind.i64.wrap ((q - 1) * (q - 1)) = (q - 1) * (q - 1) := IntWalk.i64_in _ (by omega)
            by_cases hs : (q - 1) * (q - 1) < D'
            · clear hq4
              go_wp2_with fail
              refine (walked16 _ hT6.out).mono ?_
              rintro e w7 ⟨rfl, hb7⟩
              go_wp2
              go_ret
              exact ⟨rfl, hB6.trans (hb7.mono hB6.size)⟩
            · have hq1' : q = 1 := by rcases hq4 with h | h; exact h; exact absurd h hs
              have hqe : (q == 1) = true := by simp [hq1']
              clear hq4 hq1'
              go_wp2_with fail
              refine (walked16 _ hT6.out).mono ?_
              rintro e w7 ⟨rfl, hb7⟩
              go_wp2
              go_ret
              exact ⟨rfl, hB6.trans (hb7.mono hB6.size)⟩
    · rw [h]
      rintro e w2 ⟨rfl, hb2⟩
      have hB2 : Below w.heap.size w w2 := by (repeat' (first | (with_reducible exact Below.refl _ _) | (with_reducible assumption) | (with_reducible refine Below.drew ?_) | (with_reducible refine below_drewN ?_ _) | (with_reducible refine Below.setCell ?_ ?_ _) | (with_reducible refine Below.alloc ?_ ?_ _) | (refine Below.trans ?_ (Below.mono (by with_reducible assumption) ?_)) | omega | (exact Below.size (by with_reducible assumption)) | (simp; done) | (simp; omega)))
      clear h
      go_wp2_with fail
      refine (walked16 _ (HT.out.below hB2 (Nat.le_refl _))).mono ?_
      rintro e w3 ⟨rfl, hb3⟩
      go_wp2
      go_ret
      exact ⟨rfl, by (repeat' (first | (with_reducible exact Below.refl _ _) | (with_reducible assumption) | (with_reducible refine Below.drew ?_) | (with_reducible refine below_drewN ?_ _) | (with_reducible refine Below.setCell ?_ ?_ _) | (with_reducible refine Below.alloc ?_ ?_ _) | (refine Below.trans ?_ (Below.mono (by with_reducible assumption) ?_)) | omega | (exact Below.size (by with_reducible assumption)) | (simp; done) | (simp; omega)))⟩
  · go_wp2_with fail
    refine (walked16 _ (HT.out.below hB1 (Nat.le_refl _))).mono ?_
    rintro e w2 ⟨rfl, hb2⟩
    go_wp2
    go_ret
    exact ⟨rfl, by (repeat' (first | (with_reducible exact Below.refl _ _) | (with_reducible assumption) | (with_reducible refine Below.drew ?_) | (with_reducible refine below_drewN ?_ _) | (with_reducible refine Below.setCell ?_ ?_ _) | (with_reducible refine Below.alloc ?_ ?_ _) | (refine Below.trans ?_ (Below.mono (by with_reducible assumption) ?_)) | omega | (exact Below.size (by with_reducible assumption)) | (simp; done) | (simp; omega)))⟩
end Go.Proofs.YtibkgnnpmidgfaaDoor
