/- Walks: Many of the program. -/
import Derived.Test.YtibkgnnpmidgfaaDoorCq
import Derived.Test.YtibkgnnpmidgfaaDoorManyP
namespace Go.Proofs.YtibkgnnpmidgfaaDoor
open Go.RowKit Go.Maps

/-- A map with keys from 0 to m, holding these numbers (nothing reads as 0). -/
structure NowF (f : Int → Option Int) (m : Nat) (F : Nat → Nat) : Prop where
  k : ∀ y c, f y = some c → 0 ≤ y ∧ y ≤ m
  v : ∀ y : Nat, (f y).getD 0 = (F y : Int)
theorem NowF.put {f : Int → Option Int} {m : Nat} {F G : Nat → Nat} (h : NowF f m F) {x c : Nat} (hx : x ≤ m) (h1 : G x = F x + c) (h2 : ∀ y, y ≠ x → G y = F y) : NowF (upd f x ((f x).getD 0 + c)) m G := by
  refine ⟨fun y d hy => ?_, fun y => ?_⟩
  · unfold upd at hy
    split at hy
    · rename_i e; omega
    · exact h.k y d hy
  · unfold upd
    by_cases e : y = x
    · subst e
      rw [if_pos rfl, h.v, h1]; simp
    · rw [if_neg (by omega), h.v, h2 y e]
theorem NowF.congr {f : Int → Option Int} {m : Nat} {F G : Nat → Nat} (h : NowF f m F) (e : ∀ y, F y = G y) : NowF f m G := by
  rwa [show F = G from funext e] at h
theorem pairF_some {B : List Pt} {R : List Rep} {i : Nat} {s : Pt} {x c : Int} (h : pairF B R i s x = some c) : s.1 ≤ x ∧ x ≤ s.2 ∧ c = wrongD B R i x := by
  unfold pairF at h
  split at h
  · simp at h; omega
  · cases h

set_option maxRecDepth 100000 in
set_option maxHeartbeats 8000000 in
theorem many34_ok (A0 A1 A2 : Option Addr) (n0 n1 n2 c0 c1 c2 : Nat) (cw : Int) (B D : List Pt) (R : List Rep) (w : World) (hC : RdC w A0 A1 A2 n0 n1 n2 B D R) (hE : Hid (opE cw B D R true = 0)) :
    Calls Tryd.prog 34 #[.agg #[.slice A0 n0 c0, .slice A1 n1 c1, .slice A2 n2 c2, .int .i64 cw]] w fun e w' => e = .returned (.tuple #[.int .i64 (manyV cw B D R : Nat), .int .i64 0]) ∧ Below w.heap.size w w' := by
  have HC := Lib.hid hC
  have HL1 := Lib.hid hC.h1
  have hV := Lib.hid (val_of (opE_true hE.out).2)
  have hn1 : n1 ≤ 4 := by have := hV.out.d; have := HL1.out; omega
  have hR := hV.out.r
  have hmm := @run_makeMap Tryd.prog
  have hwid := Lib.hid (wid_le hV.out)
  clear hC
  have o0 : Own (w.alloc (.cells #[.slice A0 n0 c0, .slice A1 n1 c1, .slice A2 n2 c2, .int .i64 cw] 26)) w.heap.size [.slice A0 n0 c0, .slice A1 n1 c1, .slice A2 n2 c2, .int .i64 cw] := Own.new' _ _ rfl rfl
  have oB : Below w.heap.size w (w.alloc (.cells #[.slice A0 n0 c0, .slice A1 n1 c1, .slice A2 n2 c2, .int .i64 cw] 26)) := by (repeat' (first | (with_reducible exact Below.refl _ _) | (with_reducible assumption) | (with_reducible refine Below.drew ?_) | (with_reducible refine below_drewN ?_ _) | (with_reducible refine Below.setCell ?_ ?_ _) | (with_reducible refine Below.alloc ?_ ?_ _) | (refine Below.trans ?_ (Below.mono (by with_reducible assumption) ?_)) | omega | (exact Below.size (by with_reducible assumption)) | (simp; done) | (simp; omega)))
  go_enter Tryd.func34, Tryd.ntmps34
  go_wp2_with fail
  refine (open70_ok A0 A1 A2 n0 n1 n2 c0 c1 c2 cw true B D R _ (HC.out.below oB (Nat.le_refl _)) hE.out).mono ?_
  rintro e w1 ⟨cb, hcb, rfl, hch, hb1⟩
  have q1 := o0.below hb1 o0.lt
  have hB1 : Below w.heap.size w w1 := by (repeat' (first | (with_reducible exact Below.refl _ _) | (with_reducible assumption) | (with_reducible refine Below.drew ?_) | (with_reducible refine below_drewN ?_ _) | (with_reducible refine Below.setCell ?_ ?_ _) | (with_reducible refine Below.alloc ?_ ?_ _) | (refine Below.trans ?_ (Below.mono (by with_reducible assumption) ?_)) | omega | (exact Below.size (by with_reducible assumption)) | (simp; done) | (simp; omega)))
  obtain ⟨w2, hr1, hm2, hg2⟩ := MapI.run_put (MapI.made w1) 99 Tryd.underlying99 (by omega) 0 1 rfl rfl
  have hb2 : Below w1.heap.size w1 w2 := ((Below.refl _ w1).alloc (Nat.le_refl _) _).grown hg2 (by simp) (fun k e => by cases e; exact Nat.le_refl _)
  have q2 := q1.below hb2 q1.lt
  have hB2 : Below w.heap.size w w2 := by (repeat' (first | (with_reducible exact Below.refl _ _) | (with_reducible assumption) | (with_reducible refine Below.drew ?_) | (with_reducible refine below_drewN ?_ _) | (with_reducible refine Below.setCell ?_ ?_ _) | (with_reducible refine Below.alloc ?_ ?_ _) | (refine Below.trans ?_ (Below.mono (by with_reducible assumption) ?_)) | omega | (exact Below.size (by with_reducible assumption)) | (simp; done) | (simp; omega)))
  have hch2 := hch.below hb2 (Nat.le_refl _)
  obtain ⟨PA, pc, bs, h1, h2, h3, h4⟩ := hch2.ex
  have H1 := Lib.hid h1
  have H2 := Lib.hid h2
  have H3 := Lib.hid h3
  have H4 := Lib.hid h4
  have hN0 : NowF (upd (fun _ => none) 0 1) (8 * 0) (cn B D R 0) := ⟨fun y c h => (by obtain ⟨h, _⟩ := oneF_some (d := 0) h; omega), fun y => (by unfold upd cn; by_cases e : y = 0 <;> simp [e])⟩
  clear oB o0 hb1 q1 hB1 hg2 hb2 hch hch2 h2 h3 h4
  obtain ⟨l1, k1, f1⟩ := h1
  obtain ⟨l2, k2, f2⟩ := q2
  have q2 := Own.mk l2 k2 f2
  go_wp2_with fail
  clear hr1
  go_loopg [6, 32] n1 (fun K now y wr => ∃ (k nb nn : Nat) (f : Int → Option Int), K + k = n1 ∧ y = .int .i64 k ∧ now = .map (some nb) ∧ MapI wr nb nn f ∧ nn ≤ 1000 ^ k ∧ NowF f (8 * k) (cn B D R k) ∧ Own wr w.heap.size [.slice A0 n0 c0, .slice A1 n1 c1, .slice A2 n2 c2, .int .i64 cw] ∧ Below w2.heap.size w2 wr)
  case atStart => exact ⟨0, w1.heap.size, 1, _, rfl, rfl, rfl, hm2, by simp, hN0, q2, Below.refl _ _⟩
  case round =>
    clear hm2 hN0 q2 l2 k2 f2
    obtain ⟨k, nb, nn, f, hk, rfl, rfl, hm, hnn, hN, q0, hbw⟩ := hrel
    by_cases hlt : k < n1
    · have hp1 : 1000 ^ k ≤ 1000 ^ 3 := Nat.pow_le_pow_right (by omega) (by omega)
      have hp2 : 1000 ^ (k + 1) = 1000 * 1000 ^ k := by rw [Nat.pow_succ, Nat.mul_comm]
      have hp3 : (1000 : Nat) ^ 3 = 1000000000 := by decide
      have hq1 : 60 ^ k ≤ 60 ^ 3 := Nat.pow_le_pow_right (by omega) (by omega)
      have hq3 : (60 : Nat) ^ 3 = 216000 := by decide
      rw [hp3] at hp1
      rw [hq3] at hq1
      obtain ⟨b, hb⟩ : ∃ b, Hid (bs[k]? = some b) := ⟨bs[k]'(by have := H3.out; omega), by simp [Hid]⟩
      obtain ⟨s, hs, hmb⟩ := H4.out k b hb.out
      have hsk : Hid (sAt D k = s) := by show _ = _; unfold sAt; rw [List.getD_eq_getElem?_getD, hs]; rfl
      have hblt := hmb.lt
      have hcl := Lib.hid (cn_le (R := R) (B := B) hwid.out k)
      have hwk : wid D k ≤ 60 := hwid.out k
      obtain ⟨c9, off9, rfl, hc9l, hcc⟩ := rd_map (Rd.below H2.out hbw (Nat.le_refl _)) hb.out
      have hk1 := (H1.out.below hbw l1).c
      obtain ⟨wo, rfl⟩ : ∃ wo : World, wo = wr := ⟨_, rfl⟩
      have hzo : w2.heap.size ≤ wo.heap.size := hbw.size
      have HMB := Lib.hid (hmb.below hbw hblt)
      have hma : MapI (wo.alloc (.map #[] 0)) nb nn f := hm.kept (World.grownBy_alloc wo _ none) (by simp)
      have hml := hm.lt
      have hg0 := MapI.made wo
      have hp0 : 1000 ^ k = 1000 ^ k := rfl
      clear hs hmb hp0
      go_wp2_with (at_range; go_must (refine wp_rangeI _ rfl _ 99 rfl Tryd.underlying99 nb nn f rfl hma ?_; intro w3 cnt hrg hb3 hs3 hcn))
      (try go_frame)
      rw [World.size_alloc] at hrg
      have hgb := hg0.below hb3 (by simp)
      have hB3 : Below wo.heap.size wo w3 := by (repeat' (first | (with_reducible exact Below.refl _ _) | (with_reducible assumption) | (with_reducible refine Below.drew ?_) | (with_reducible refine below_drewN ?_ _) | (with_reducible refine Below.setCell ?_ ?_ _) | (with_reducible refine Below.alloc ?_ ?_ _) | (refine Below.trans ?_ (Below.mono (by with_reducible assumption) ?_)) | omega | (exact Below.size (by with_reducible assumption)) | (simp; done) | (simp; omega)))
      have hS0 : NowF (fun _ => none) (8 * (k + 1)) (doneN B D R k (cn B D R k) (fun u => (f (u : Int)).isSome)) := ⟨fun y c h => (by cases h), fun y => (by
        rw [doneN_start (fun u hu => ?_)]
        · rfl
        · have hv := hN.v u
          have hu' : f (u : Int) = none := by simpa using hu
          rw [hu'] at hv
          simp at hv; omega)⟩
      clear hs3 hb3 hg0 hma
      go_loopg [10] cnt (fun K _ wr => ∃ (left : Int → Bool) (m : Nat) (g : Int → Option Int), RngI wr nb (wo.heap.size + 1) nn f left K ∧ MapI wr wo.heap.size m g ∧ NowF g (8 * (k + 1)) (doneN B D R k (cn B D R k) (fun u => left (u : Int))) ∧ m + 1000 * K ≤ 1000 * nn ∧ Below wo.heap.size wo wr)
      case atStart => exact ⟨_, 0, _, hrg, hgb, hS0, by omega, hB3⟩
      case round =>
        clear hrg hgb hS0 hB3
        obtain ⟨left, m, g, hrg, hgm, hG, hmb, hB⟩ := hrel
        go_wp2_with (at_next; go_must (refine wp_nextI _ rfl _ rfl nb (wo.heap.size + 1) nn f left _ rfl hrg ?_ ?_))
        · intro hc0 hl0
          go_wp2
          go_roundg (n1 - (k + 1))
          case measure => omega
          case rel =>
            refine ⟨k + 1, wo.heap.size, 1000 * nn, g, by omega, by rw [show ((k + 1 : Nat) : Int) = (k : Int) + 1 by omega], rfl, hgm.mono (by omega), by omega, hG.congr fun y => ?_, q0.below hB q0.lt, by (repeat' (first | (with_reducible exact Below.refl _ _) | (with_reducible assumption) | (with_reducible refine Below.drew ?_) | (with_reducible refine below_drewN ?_ _) | (with_reducible refine Below.setCell ?_ ?_ _) | (with_reducible refine Below.alloc ?_ ?_ _) | (refine Below.trans ?_ (Below.mono (by with_reducible assumption) ?_)) | omega | (exact Below.size (by with_reducible assumption)) | (simp; done) | (simp; omega)))⟩
            simp only [hl0]
            exact doneN_all B D R k y _ (fun v => rfl) hR (by omega)
        · intro x c w4 cnt1 hwx hwc hlx hfx hrg1 hlt1 hg1 hs1 hen
          obtain ⟨hx0, hx1⟩ := hN.k x c hfx
          obtain ⟨u, rfl⟩ := Int.eq_ofNat_of_zero_le hx0
          have hcu : c = (cn B D R k u : Int) := by have := hN.v u; rw [hfx] at this; simpa using this
          subst hcu
          have hcb := hcl.out u
          have hB4 : Below wo.heap.size wo w4 := hB.grown hg1 hB.size (fun k e => by cases e; omega)
          have hgm4 : MapI w4 wo.heap.size m g := hgm.kept hg1 (by simp)
          have hmb4 := HMB.out.below hB4 HMB.out.lt
          have HF := Lib.hid hfx
          have HLX := Lib.hid hlx
          have hDN : ∀ y, doneN B D R k (cn B D R k) (fun i => left (i : Int) && !decide ((i : Int) = (u : Int))) y = doneN B D R k (cn B D R k) (fun i => left (i : Int)) y + doneP B D R k (fun _ => false) u (cn B D R k u) y := by
            intro y
            have e : (fun i : Nat => left (i : Int) && !decide ((i : Int) = (u : Int))) = fun i : Nat => (fun j : Nat => left (j : Int)) i && !decide (i = u) := by
              funext i
              congr 2
              simp only [decide_eq_decide]; omega
            rw [e]
            exact doneN_step (left := fun j : Nat => left (j : Int)) hlx (by omega)
          have HDN := Lib.hid hDN
          clear hfx hlx hrg hgm hB hg1 hs1 hDN
          go_wp2_with (at_range; go_must (refine wp_rangeI _ rfl _ 106 rfl Tryd.underlying106 b 1000 _ rfl hmb4 ?_; intro w5 cnt2 hrg2 hb5 hs5 hcn2))
          (try go_frame)
          have hB5 : Below wo.heap.size wo w5 := by (repeat' (first | (with_reducible exact Below.refl _ _) | (with_reducible assumption) | (with_reducible refine Below.drew ?_) | (with_reducible refine below_drewN ?_ _) | (with_reducible refine Below.setCell ?_ ?_ _) | (with_reducible refine Below.alloc ?_ ?_ _) | (refine Below.trans ?_ (Below.mono (by with_reducible assumption) ?_)) | omega | (exact Below.size (by with_reducible assumption)) | (simp; done) | (simp; omega)))
          have hgm5 := hgm4.below hb5 hgm4.lt
          have hrg5 := hrg1.below hb5 hrg1.map.lt hrg1.lt
          have hbw4 : b < w4.heap.size := hmb4.lt
          have hwo4 : wo.heap.size + 1 < w4.heap.size := hrg1.lt
          have hP0 : NowF g (8 * (k + 1)) (fun y => doneN B D R k (cn B D R k) (fun i => left (i : Int)) y + doneP B D R k (fun j => (pairF B R k s (s.1 + (j : Int))).isSome) u (cn B D R k u) y) := hG.congr fun y => by
            rw [doneP_start (fun j hj => ?_)]
            · rfl
            · unfold wid at hj
              rw [hsk.out] at hj
              unfold pairF
              rw [if_pos (by omega)]; rfl
          clear hs5 hb5 hgm4 hmb4 hrg1 hB4 hG
          go_loopg [13] cnt2 (fun K2 _ wr => ∃ (left2 : Int → Bool) (m2 : Nat) (g2 : Int → Option Int), RngI wr b w4.heap.size 1000 (pairF B R k s) left2 K2 ∧ RngI wr nb (wo.heap.size + 1) nn f (fun i => left i && !decide (i = (u : Int))) cnt1 ∧ MapI wr wo.heap.size m2 g2 ∧ NowF g2 (8 * (k + 1)) (fun y => doneN B D R k (cn B D R k) (fun i => left (i : Int)) y + doneP B D R k (fun j => left2 (s.1 + (j : Int))) u (cn B D R k u) y) ∧ m2 + 1000 * cnt1 + K2 ≤ 1000 * nn ∧ Below wo.heap.size wo wr)
          case atStart => exact ⟨_, m, g, hrg2, hrg5, hgm5, hP0, by omega, hB5⟩
          case round =>
            clear hrg2 hrg5 hgm5 hP0 hB5
            obtain ⟨left2, m2, g2, hrg2, hrg5, hgm5, hG2, hm2, hB6⟩ := hrel
            go_wp2_with (at_next; go_must (refine wp_nextI _ rfl _ rfl b w4.heap.size 1000 (pairF B R k s) left2 _ rfl hrg2 ?_ ?_))
            · intro hc0 hl0
              go_wp2
              go_roundg cnt1
              case measure => omega
              case rel =>
                refine ⟨_, m2, g2, hrg5, hgm5, hG2.congr fun y => ?_, by omega, hB6⟩
                rw [HDN.out]
                congr 1
                unfold doneP
                exact sumTo_congr fun j _ => by simp only [hl0]
            · intro x c w6 cnt3 hwx hwc hlx2 hfx2 hrg6 hlt6 hg6 hs6 hen6
              obtain ⟨hx2, hx3, rfl⟩ := pairF_some hfx2
              obtain ⟨j, rfl⟩ : ∃ j : Nat, x = s.1 + j := ⟨(x - s.1).toNat, by omega⟩
              have hjw : j < wid D k := by unfold wid; rw [hsk.out]; omega
              have hwr : wrongD B R k (s.1 + j) = wrO B D R k j := by unfold wrO; rw [hsk.out]
              have hw8 : wrO B D R k j ≤ 8 := by have := wrongL_le B k ((sAt D k).1 + j) R; unfold wrO wrongD; omega
              rw [hwr] at hen6 ⊢
              have hF2 := hG2.v (u + wrO B D R k j)
              have hd1 := doneN_le (B := B) (D := D) (R := R) (k := k) (f := cn B D R k) (left := fun i => left (i : Int)) (y := u + wrO B D R k j) hcl.out
              have hd2 := doneP_le (B := B) (D := D) (R := R) (k := k) (left := fun j => left2 (s.1 + (j : Int))) (u := u) (y := u + wrO B D R k j) hcb
              have hd3 : wid D k * 60 ^ k ≤ 60 * 60 ^ k := Nat.mul_le_mul_right _ hwk
              obtain ⟨V, hVe⟩ : ∃ V, V = doneN B D R k (cn B D R k) (fun i => left (i : Int)) (u + wrO B D R k j) + doneP B D R k (fun j => left2 (s.1 + (j : Int))) u (cn B D R k u) (u + wrO B D R k j) := ⟨_, rfl⟩
              rw [← hVe] at hF2
              have hVb : V ≤ 1000000000 := by omega
              have hput := hG2.put (x := u + wrO B D R k j) (c := cn B D R k u) (G := fun y => doneN B D R k (cn B D R k) (fun i => left (i : Int)) y + doneP B D R k (fun i => left2 (s.1 + (i : Int)) && !decide (s.1 + (i : Int) = s.1 + (j : Int))) u (cn B D R k u) y) (by omega) ?g1 ?g2
              case g1 =>
                have e : (fun i : Nat => left2 (s.1 + (i : Int)) && !decide (s.1 + (i : Int) = s.1 + (j : Int))) = fun i : Nat => (fun i : Nat => left2 (s.1 + (i : Int))) i && !decide (i = j) := by
                  funext i
                  congr 2
                  simp only [decide_eq_decide]; omega
                show _ + doneP B D R k _ u (cn B D R k u) _ = _
                rw [e, doneP_step (left := fun i : Nat => left2 (s.1 + (i : Int))) hlx2 hjw, if_pos rfl]
                omega
              case g2 =>
                intro y hy
                have e : (fun i : Nat => left2 (s.1 + (i : Int)) && !decide (s.1 + (i : Int) = s.1 + (j : Int))) = fun i : Nat => (fun i : Nat => left2 (s.1 + (i : Int))) i && !decide (i = j) := by
                  funext i
                  congr 2
                  simp only [decide_eq_decide]; omega
                show _ + doneP B D R k _ u (cn B D R k u) _ = _
                rw [e, doneP_step (left := fun i : Nat => left2 (s.1 + (i : Int))) hlx2 hjw, if_neg (by omega)]
                rfl
              rw [hF2] at hput
              have hB7 : Below wo.heap.size wo w6 := hB6.grown hg6 hB6.size (fun k e => by cases e; omega)
              have hgm6 := hgm5.kept hg6 (by simp; omega)
              have hrg7 := hrg5.kept hg6 (by simp; omega) (by simp; omega)
              obtain ⟨q, hq⟩ : ∃ q, wrO B D R k j = q := ⟨_, rfl⟩
              have hxe : (((u + wrO B D R k j : Nat)) : Int) = (u : Int) + q := by omega
              rw [hxe] at hput hF2
              rw [hq] at hw8 hen6 ⊢
              have HPUT := Lib.hid hput
              have HF2 := Lib.hid hF2
              have HWX : Hid ((Lit.int .i64 ((u : Int) + q)).wf = true) := WalkArith.wf_i64 (by omega)
              have HWV : Hid ((Lit.int .i64 ((V : Int) + (cn B D R k u : Nat))).wf = true) := WalkArith.wf_i64 (by omega)
              have hbb : b ≠ wo.heap.size := by omega
              clear hput hF2 hd1 hd2 hd3 hVe hG2 hq hxe hwr hfx2 hlx2 hg6 hrg5 hgm5 hB6 hrg2 hx2 hx3
              go_wp2_with (first | (at_lookup; go_must (refine wp_getI _ rfl _ _ 99 rfl Tryd.underlying99 wo.heap.size m2 g2 rfl hgm6 ((u : Int) + q) rfl HWX.out ?_; rw [HF2.out])) | (at_mapUpdate; go_must (refine wp_putI _ rfl _ _ _ 99 rfl Tryd.underlying99 wo.heap.size m2 g2 rfl hgm6 (by omega) ((u : Int) + q) ((V : Int) + (cn B D R k u : Nat)) rfl rfl HWX.out HWV.out ?_; intro w7 hm7 hg7)))
              have hB8 : Below wo.heap.size wo w7 := hB7.grown hg7 hB7.size (fun k e => by cases e; exact Nat.le_refl _)
              have hrg8 := hrg6.kept hg7 (by simp; omega) (by simp; omega)
              have hrg9 := hrg7.kept hg7 (by simp; omega) (by simp)
              go_roundg cnt3
              case measure => omega
              case rel => exact ⟨_, m2 + 1, _, hrg8, hrg9, hm7, HPUT.out, by omega, hB8⟩
    · have hkn : n1 = k := by omega
      subst hkn
      have hcl := Lib.hid (cn_le (R := R) (B := B) hwid.out n1)
      have hq1 : 60 ^ n1 ≤ 60 ^ 4 := Nat.pow_le_pow_right (by omega) hn1
      have hq3 : (60 : Nat) ^ 4 = 12960000 := by decide
      rw [hq3] at hq1
      obtain ⟨wo, rfl⟩ : ∃ wo : World, wo = wr := ⟨_, rfl⟩
      have hzo : w2.heap.size ≤ wo.heap.size := hbw.size
      have hml := hm.lt
      have hB2' : Below w.heap.size w wo := by (repeat' (first | (with_reducible exact Below.refl _ _) | (with_reducible assumption) | (with_reducible refine Below.drew ?_) | (with_reducible refine below_drewN ?_ _) | (with_reducible refine Below.setCell ?_ ?_ _) | (with_reducible refine Below.alloc ?_ ?_ _) | (refine Below.trans ?_ (Below.mono (by with_reducible assumption) ?_)) | omega | (exact Below.size (by with_reducible assumption)) | (simp; done) | (simp; omega)))
      have hz2 : w.heap.size < wo.heap.size := q0.lt
      go_wp2_with (at_range; go_must (refine wp_rangeI _ rfl _ 99 rfl Tryd.underlying99 nb nn f rfl hm ?_; intro w3 cnt hrg hb3 hs3 hcn))
      (try go_frame)
      have hB3 : Below w.heap.size w w3 := by (repeat' (first | (with_reducible exact Below.refl _ _) | (with_reducible assumption) | (with_reducible refine Below.drew ?_) | (with_reducible refine below_drewN ?_ _) | (with_reducible refine Below.setCell ?_ ?_ _) | (with_reducible refine Below.alloc ?_ ?_ _) | (refine Below.trans ?_ (Below.mono (by with_reducible assumption) ?_)) | omega | (exact Below.size (by with_reducible assumption)) | (simp; done) | (simp; omega)))
      have q3 := q0.below hb3 hz2
      have hS0 : Hid (0 = manyL cw B D R (fun v => (f (v : Int)).isSome)) := by
        show _ = _
        rw [manyL_start (fun u hu => ?_)]
        have hv := hN.v u
        have hu' : f (u : Int) = none := by simpa using hu
        rw [hu', HL1.out] at hv
        simp at hv; omega
      clear hs3 hb3 hm
      go_loopg [14] cnt (fun K y wr => ∃ (left : Int → Bool) (S : Nat), RngI wr nb wo.heap.size nn f left K ∧ y = .int .i64 S ∧ Hid (S = manyL cw B D R (fun v => left (v : Int))) ∧ Own wr w.heap.size [.slice A0 n0 c0, .slice A1 n1 c1, .slice A2 n2 c2, .int .i64 cw] ∧ Below w.heap.size w wr)
      case atStart => exact ⟨_, 0, hrg, rfl, hS0, q3, hB3⟩
      case round =>
        clear hrg hS0 hB3 q3 q0
        obtain ⟨left, S, hrg, rfl, hS, q0, hB⟩ := hrel
        go_wp2_with (at_next; go_must (refine wp_nextI _ rfl _ rfl nb wo.heap.size nn f left _ rfl hrg ?_ ?_))
        · intro hc0 hl0
          have hSe : Hid (S = manyV cw B D R) := by
            show _ = _
            rw [hS.out, ← manyL_end]
            congr 1
            funext v; exact hl0 v
          go_wp2
          go_ret2
          exact ⟨by rw [hSe.out]; rfl, hB⟩
        · intro x c w4 cnt1 hwx hwc hlx hfx hrg1 hlt1 hg1 hs1 hen
          obtain ⟨hx0, hx1⟩ := hN.k x c hfx
          obtain ⟨u, rfl⟩ := Int.eq_ofNat_of_zero_le hx0
          have hcu : c = (cn B D R n1 u : Int) := by have := hN.v u; rw [hfx] at this; simpa using this
          subst hcu
          have hcb := hcl.out u
          have hL := manyL_le (cw := cw) (B := B) (D := D) (R := R) (left := fun v => left (v : Int)) (m := 60 ^ n1) (fun v => by rw [← HL1.out]; exact hcl.out v)
          rw [← hS.out] at hL
          have hst := manyL_step (cw := cw) (B := B) (D := D) (R := R) (left := fun v => left (v : Int)) (u := u) hlx (by omega)
          rw [← HL1.out] at hst
          have e : (fun i : Nat => left (i : Int) && !decide ((i : Int) = (u : Int))) = fun i : Nat => (fun j : Nat => left (j : Int)) i && !decide (i = u) := by
            funext i
            congr 2
            simp only [decide_eq_decide]; omega
          rw [← e, ← hS.out] at hst
          have HST := Lib.hid hst
          have hzr : wo.heap.size < wr.heap.size := hrg.lt
          have hb4 : Below wo.heap.size wr w4 := (Below.refl _ wr).grown hg1 (by omega) (fun k e => by cases e; exact Nat.le_refl _)
          have q4 := q0.below hb4 hz2
          have hB4 : Below w.heap.size w w4 := hB.grown hg1 hB.size (fun k e => by cases e; omega)
          obtain ⟨l4, k4, f4⟩ := q4
          clear hst hfx hlx hg1 hB hrg e
          by_cases huc : (u : Int) ≤ cw
          · go_wp2
            go_roundg cnt1
            case measure => omega
            case rel => exact ⟨_, S + cn B D R n1 u, hrg1, by rw [show ((S + cn B D R n1 u : Nat) : Int) = (S : Int) + (cn B D R n1 u : Nat) by omega], by show _ = _; rw [HST.out, if_pos huc], Own.mk l4 k4 f4, hB4⟩
          · go_wp2
            go_roundg cnt1
            case measure => omega
            case rel => exact ⟨_, S, hrg1, rfl, by show _ = _; rw [HST.out, if_neg (by omega)]; rfl, Own.mk l4 k4 f4, hB4⟩

end Go.Proofs.YtibkgnnpmidgfaaDoor
