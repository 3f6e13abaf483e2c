/- Walks: draw: a coast with how many reports are wrong with each opening. -/
import Derived.Test.YtibkgnnpmidgfaaDoorCi
import Derived.Outline
namespace Go.Proofs.YtibkgnnpmidgfaaDoor
open Go.RowKit Go.Maps

/-- How many of these reports of a pair of dividers are wrong with an opening. -/
def wrongL (B : List Pt) (i : Nat) (x : Int) (l : List Rep) : Nat := (l.filter fun r => decide (r.d = (i : Int)) && !rightB B r x).length
def wrongD (B : List Pt) (R : List Rep) (i : Nat) (x : Int) : Nat := wrongL B i x R
theorem wrongL_snoc (B : List Pt) (i : Nat) (x : Int) (l : List Rep) (r : Rep) : wrongL B i x (l ++ [r]) = wrongL B i x l + (if (decide (r.d = (i : Int)) && !rightB B r x) = true then 1 else 0) := by
  unfold wrongL
  rw [List.filter_append, List.length_append, List.filter_cons]
  split <;> simp
theorem wrongL_le (B : List Pt) (i : Nat) (x : Int) (l : List Rep) : wrongL B i x l ≤ l.length := List.length_filter_le _ _
/-- The map of a pair of dividers. -/
def pairF (B : List Pt) (R : List Rep) (i : Nat) (s : Pt) : Int → Option Int := fun y => if s.1 ≤ y ∧ y ≤ s.2 then some (wrongD B R i y : Int) else none
def partF (B : List Pt) (R : List Rep) (i : Nat) (lo : Int) (k : Nat) : Int → Option Int := fun y => if lo ≤ y ∧ y < lo + k then some (wrongD B R i y : Int) else none
theorem wrongL_take (B : List Pt) (k : Nat) (x : Int) (R : List Rep) (i : Nat) (r : Rep) (h : R[i]? = some r) : wrongL B k x (R.take (i + 1)) = wrongL B k x (R.take i) + (if (decide (r.d = (k : Int)) && !rightB B r x) = true then 1 else 0) := by
  rw [take_snoc h, wrongL_snoc]
theorem upd_get (f : Int → Option Int) (x v : Int) : (upd f x v x).getD 0 = v := by unfold upd; rw [if_pos rfl]; rfl
theorem upd_upd (f : Int → Option Int) (x u v : Int) : upd (upd f x u) x v = upd f x v := by
  funext y; unfold upd; split <;> rfl
theorem partF_done (B : List Pt) (R : List Rep) (i : Nat) (lo : Int) (k : Nat) (y : Int) : upd (partF B R i lo k) (lo + k) (wrongD B R i (lo + k) : Int) y = partF B R i lo (k + 1) y := by
  unfold upd partF
  by_cases e : y = lo + k
  · subst e
    rw [if_pos rfl, if_pos (by omega)]
  · rw [if_neg e]
    by_cases h : lo ≤ y ∧ y < lo + k
    · rw [if_pos h, if_pos (by omega)]
    · rw [if_neg h, if_neg (by omega)]
theorem partF_all (B : List Pt) (R : List Rep) (i : Nat) (s : Pt) (k : Nat) (h : s.1 + k = s.2 + 1) (y : Int) : partF B R i s.1 k y = pairF B R i s y := by
  unfold partF pairF
  by_cases e : s.1 ≤ y ∧ y ≤ s.2
  · rw [if_pos e, if_pos (by omega)]
  · rw [if_neg e, if_neg (by omega)]
def mrow (b : Nat) : List Value := [.map (some b)]
/-- These blocks are the maps of the first pairs of dividers. -/
def PairsW (w : World) (B D : List Pt) (R : List Rep) (bs : List Nat) : Prop := ∀ (i b : Nat), bs[i]? = some b → ∃ s, D[i]? = some s ∧ MapI w b 1000 (pairF B R i s)
theorem PairsW.below {w w' : World} {B D : List Pt} {R : List Rep} {bs : List Nat} {b : Nat} (h : PairsW w B D R bs) (k : Below b w w') (hb : w.heap.size ≤ b) : PairsW w' B D R bs :=
  fun i x hx => let ⟨s, h1, h2⟩ := h i x hx; ⟨s, h1, h2.below k (Nat.lt_of_lt_of_le h2.lt hb)⟩
theorem map_ne_row {w : World} {b n base e sz g m cap : Nat} {f : Int → Option Int} {xs : List Value} (h : MapI w b n f) (k : w.ownsRow base e sz (.slice (some ⟨g, 0, none⟩) m cap) m xs) : b ≠ g := by
  rintro rfl
  obtain ⟨D, ⟨es, clock, h1, _⟩, _⟩ := h
  rcases k.2 with ⟨k1, _⟩ | ⟨g', cap', cur, hv, _, hh, _⟩
  · cases k1
  · cases hv
    rw [h1] at hh
    cases hh
theorem grown_setCell (w : World) (a : Addr) (u : Value) : w.grownBy (w.setCell a u) (some a.block) :=
  have h : Below 0 w (w.setCell a u) := (Below.refl 0 w).setCell (Nat.zero_le _) u
  ⟨h.os, h.tape, h.output, h.size, fun k _ hk => Below.heap_setCell _ _ _ _ (fun e => hk (by rw [e]))⟩
theorem map_kept {w w' : World} {b n base e sz m : Nat} {v : Value} {f : Int → Option Int} {xs : List Value} (h : MapI w b n f) (k : w.ownsRow base e sz v m xs) (hg : w.grownBy w' v.ownBlock) : MapI w' b n f := by
  refine h.kept hg ?_
  rcases k.2 with ⟨rfl, _⟩ | ⟨g, cap, cur, rfl, _, hh, _⟩
  · simp [Value.ownBlock]
  · have := map_ne_row h k
    simp [Value.ownBlock]; exact this
theorem map_ne_own {w : World} {b n c : Nat} {f : Int → Option Int} {v : Value} {vs : List Value} (h : MapI w b n f) (k : Own w c (v :: vs)) : b ≠ c := by
  rintro rfl
  obtain ⟨D, ⟨es, clock, h1, _⟩, _⟩ := h
  have := k.c 0
  simp [World.cell?, h1] at this
theorem Gro.setCell {w : World} {base e sz : Nat} {v : Value} {rows : List (List Value)} (h : Gro w base e sz v rows) {a : Addr} (ha : a.block < base) (u : Value) : Gro (w.setCell a u) base e sz v rows :=
  ⟨h.1, h.2.kept (grown_setCell w a u) (by
    cases hv : v.ownBlock with
    | none => exact Or.inl rfl
    | some g => exact Or.inr (fun e => by
        have h1 := (h.2.lt g hv).1
        have h2 : g = a.block := by simpa using e
        omega))⟩
theorem info106 : (Tryd.prog.info? 106).map (fun i => (i.zero, i.size, i.bytes)) = some (some (.map none), 1, 8) := by kernel_rfl
/-- A chart in block cb: a coast, and the maps of its pairs of dividers. -/
structure Chart (w : World) (cb : Nat) (A0 A1 A2 : Option Addr) (n0 n1 n2 c0 c1 c2 : Nat) (cw : Int) (B D : List Pt) (R : List Rep) : Prop where
  ex : ∃ (PA : Option Addr) (pc : Nat) (bs : List Nat), Own w cb [.slice A0 n0 c0, .slice A1 n1 c1, .slice A2 n2 c2, .int .i64 cw, .slice PA n1 pc] ∧ Rd 1 w PA (bs.map mrow) ∧ bs.length = n1 ∧ PairsW w B D R bs

set_option maxRecDepth 100000 in
set_option maxHeartbeats 4000000 in
theorem draw75 (A0 A1 A2 : Option Addr) (n0 n1 n2 c0 c1 c2 : Nat) (cw : Int) (B D : List Pt) (R : List Rep) (w : World) (hC : RdC w A0 A1 A2 n0 n1 n2 B D R) (hV : Hid (Val cw B D R)) :
    Calls Tryd.prog 75 #[.agg #[.slice A0 n0 c0, .slice A1 n1 c1, .slice A2 n2 c2, .int .i64 cw]] w fun e w' => ∃ cb, w.heap.size ≤ cb ∧ e = .returned (.pointer (some ⟨cb, 0, none⟩)) ∧ Chart w' cb A0 A1 A2 n0 n1 n2 c0 c1 c2 cw B D R ∧ Below w.heap.size w w' := by
  have HC := Lib.hid hC
  have HL1 := Lib.hid hC.h1
  have HL2 := Lib.hid hC.h2
  have hn1 : n1 ≤ 4 := by have := hV.out.d; have := hC.h1; omega
  have hn2 : n2 ≤ 8 := by have := hV.out.r; have := hC.h2; omega
  clear hC
  have hmm := @run_makeMap Tryd.prog
  obtain ⟨i0, hi0, hi1, hi2, hi3⟩ := info_parts info106
  have o0 : Own ((w.alloc (.cells #[.slice A0 n0 c0, .slice A1 n1 c1, .slice A2 n2 c2, .int .i64 cw] 26)).alloc (.cells #[.slice A0 n0 c0, .slice A1 n1 c1, .slice A2 n2 c2, .int .i64 cw, .slice none 0 0] 105)) w.heap.size [.slice A0 n0 c0, .slice A1 n1 c1, .slice A2 n2 c2, .int .i64 cw] := (Own.new' _ _ rfl rfl).alloc _
  have o1 : Own ((w.alloc (.cells #[.slice A0 n0 c0, .slice A1 n1 c1, .slice A2 n2 c2, .int .i64 cw] 26)).alloc (.cells #[.slice A0 n0 c0, .slice A1 n1 c1, .slice A2 n2 c2, .int .i64 cw, .slice none 0 0] 105)) (w.heap.size + 1) [.slice A0 n0 c0, .slice A1 n1 c1, .slice A2 n2 c2, .int .i64 cw, .slice none 0 0] := Own.new' _ _ (by simp) rfl
  have oB : Below w.heap.size w ((w.alloc (.cells #[.slice A0 n0 c0, .slice A1 n1 c1, .slice A2 n2 c2, .int .i64 cw] 26)).alloc (.cells #[.slice A0 n0 c0, .slice A1 n1 c1, .slice A2 n2 c2, .int .i64 cw, .slice none 0 0] 105)) := by (repeat' (first | (with_reducible exact Below.refl _ _) | (with_reducible assumption) | (with_reducible refine Below.drew ?_) | (with_reducible refine below_drewN ?_ _) | (with_reducible refine Below.setCell ?_ ?_ _) | (with_reducible refine Below.alloc ?_ ?_ _) | (refine Below.trans ?_ (Below.mono (by with_reducible assumption) ?_)) | omega | (exact Below.size (by with_reducible assumption)) | (simp; done) | (simp; omega)))
  go_enter Tryd.func75, Tryd.ntmps75
  go_wp2_with fail
  go_loopg [16] n1 (fun K y wr => ∃ (k : Nat) (pv : Value) (bs : List Nat), K + k = n1 ∧ y = .int .i64 k ∧ Own wr w.heap.size [.slice A0 n0 c0, .slice A1 n1 c1, .slice A2 n2 c2, .int .i64 cw] ∧ Own wr (w.heap.size + 1) [.slice A0 n0 c0, .slice A1 n1 c1, .slice A2 n2 c2, .int .i64 cw, pv] ∧ Gro wr (w.heap.size + 2) 106 1 pv (bs.map mrow) ∧ bs.length = k ∧ PairsW wr B D R bs ∧ Below w.heap.size w wr)
  case atStart => exact ⟨0, .slice none 0 0, [], rfl, rfl, o0, o1, Gro.nil _ _ _ _, rfl, fun i b h => (by simp at h), oB⟩
  case round =>
    clear o0 o1 oB
    obtain ⟨k, pv, bs, hk, rfl, q0, q1, hg, hbl, hpw, hbw⟩ := hrel
    by_cases hlt : k < n1
    · obtain ⟨⟨lo, hi⟩, hs⟩ : ∃ s, Hid (D[k]? = some s) := ⟨D[k]'(by have := HL1.out; omega), by simp [Hid]⟩
      have hds := hV.out.ds _ (List.mem_of_getElem? hs.out)
      obtain ⟨b, off, rfl, hb, hc0, hc1⟩ := rd_pt (HC.out.below hbw (Nat.le_refl _)).r1 hs.out
      dsimp only at hds hc0 hc1
      obtain ⟨d1, d2, d3⟩ := hds
      have q0' := q0
      obtain ⟨l0, k0, f0⟩ := q0'
      have q1l := q1.lt
      obtain ⟨wo, rfl⟩ : ∃ wo : World, wo = wr := ⟨_, rfl⟩
      have m0 : MapI ((wo.alloc (.cells #[.int .i64 lo, .int .i64 hi] 33)).alloc (.map #[] 0)) (wo.heap.size + 1) 0 (fun _ => none) := by have := MapI.made (wo.alloc (.cells #[.int .i64 lo, .int .i64 hi] 33)); rwa [World.size_alloc] at this
      have mB : Below wo.heap.size wo ((wo.alloc (.cells #[.int .i64 lo, .int .i64 hi] 33)).alloc (.map #[] 0)) := by (repeat' (first | (with_reducible exact Below.refl _ _) | (with_reducible assumption) | (with_reducible refine Below.drew ?_) | (with_reducible refine below_drewN ?_ _) | (with_reducible refine Below.setCell ?_ ?_ _) | (with_reducible refine Below.alloc ?_ ?_ _) | (refine Below.trans ?_ (Below.mono (by with_reducible assumption) ?_)) | omega | (exact Below.size (by with_reducible assumption)) | (simp; done) | (simp; omega)))
      have mO : Own ((wo.alloc (.cells #[.int .i64 lo, .int .i64 hi] 33)).alloc (.map #[] 0)) wo.heap.size [.int .i64 lo, .int .i64 hi] := (Own.new' _ _ rfl rfl).alloc _
      go_wp2_with fail
      go_loopg [7] ((hi - lo + 1).toNat) (fun K y wi => ∃ (j n : Nat), K + j = (hi - lo + 1).toNat ∧ y = .int .i64 (lo + j) ∧ MapI wi (wo.heap.size + 1) n (partF B R k lo j) ∧ n ≤ 9 * j ∧ Own wi wo.heap.size [.int .i64 lo, .int .i64 hi] ∧ Below wo.heap.size wo wi)
      case atStart => exact ⟨0, 0, rfl, by simp, m0.cast (fun y => by unfold partF; rw [if_neg (by omega)]), by omega, mO, mB⟩
      case round =>
        clear m0 mB mO
        obtain ⟨j, n, hj, rfl, hm, hn, hO, hB⟩ := hrel
        have q0j := q0.below hB q0.lt
        have q1j := q1.below hB q1.lt
        have c0 := hO.c
        have cO := hO.lt
        have hml := hm.lt
        have k0j := q0j.c
        by_cases hjt : lo + j ≤ hi
        · have hwx : (Lit.int .i64 (lo + j)).wf = true := WalkArith.wf_i64 (by omega)
          have hw0 : (Lit.int .i64 0).wf = true := rfl
          have HX := Lib.hid hwx
          have HW := Lib.hid hw0
          clear hwx hw0
          go_wp2_with (at_mapUpdate; refine wp_putI _ rfl _ _ _ 106 rfl Tryd.underlying106 (wo.heap.size + 1) n _ rfl hm (by omega) (lo + j) 0 rfl rfl HX.out HW.out ?_; intro w1 hm1 hg1; have hB1 : Below wo.heap.size wo w1 := hB.grown hg1 hB.size (fun k e => by cases e; omega); have hO1 : Own w1 wo.heap.size [.int .i64 lo, .int .i64 hi] := hO.below ((Below.refl (wo.heap.size + 1) wr).grown hg1 (by omega) (fun k e => by cases e; omega)) (by omega); have k1 := (q0.below hB1 q0.lt).c; clear hg1 k0j c0)
          have hm1' : MapI w1 (wo.heap.size + 1) (n + 1) (upd (partF B R k lo j) (lo + j) (wrongL B k (lo + j) (R.take 0) : Nat)) := hm1
          clear hm1 k1 hm hO hB q0j q1j
          go_loopg [35] n2 (fun K y wi => ∃ (i m : Nat), K + i = n2 ∧ y = .int .i64 i ∧ MapI wi (wo.heap.size + 1) m (upd (partF B R k lo j) (lo + j) (wrongL B k (lo + j) (R.take i) : Nat)) ∧ m ≤ 9 * j + 1 + i ∧ Own wi wo.heap.size [.int .i64 lo, .int .i64 hi] ∧ Below wo.heap.size wo wi)
          case atStart => exact ⟨0, n + 1, rfl, rfl, hm1', by omega, hO1, hB1⟩
          case round =>
            clear hm1' hO1 hB1
            obtain ⟨i, m, hi', rfl, hm, hmn, hO, hB⟩ := hrel
            have q0j := q0.below hB q0.lt
            have c0 := hO.c
            have cO := hO.lt
            have k0j := q0j.c
            have q0l := q0j.lt
            have hml := hm.lt
            by_cases hit : i < n2
            · obtain ⟨⟨rd, rf, rt, rs⟩, hr⟩ : ∃ r, Hid (R[i]? = some r) := ⟨R[i]'(by have := HL2.out; omega), by simp [Hid]⟩
              have hCw := HC.out.below (hbw.trans (hB.mono hbw.size)) (Nat.le_refl _)
              have HCw := Lib.hid hCw
              obtain ⟨b2, off2, hA2, hb2, e0, e1, e2, e3⟩ := rd_rep hCw.r2 hr.out
              dsimp only at e0 e1 e2 e3
              clear hCw
              subst hA2
              have hmem := List.mem_of_getElem? hr.out
              have hst := Lib.hid (wrongL_take B k (lo + j) R i _ hr.out)
              cases hd : ((rd : Int) == (k : Int))
              · have hs2 : Hid (wrongL B k (lo + j) (R.take (i + 1)) = wrongL B k (lo + j) (R.take i)) := by
                  show _ = _
                  rw [hst.out, show decide (({ d := rd, f := rf, t := rt, s := rs } : Rep).d = (k : Int)) = false by simpa using hd]; rfl
                go_wp2_with fail
                go_roundg (n2 - (i + 1))
                case measure => omega
                case rel => exact ⟨i + 1, m, by omega, by go_num, by rw [hs2.out]; exact (hm.below (b := wo.heap.size + 1) (B := wr.heap.size) (by (repeat' (first | (with_reducible exact Below.refl _ _) | (with_reducible assumption) | (with_reducible refine Below.drew ?_) | (with_reducible refine below_drewN ?_ _) | (with_reducible refine Below.setCell ?_ ?_ _) | (with_reducible refine Below.alloc ?_ ?_ _) | (refine Below.trans ?_ (Below.mono (by with_reducible assumption) ?_)) | omega | (exact Below.size (by with_reducible assumption)) | (simp; done) | (simp; omega)))) hml), by omega, by (repeat' (first | (with_reducible assumption) | (with_reducible exact Own.mk (by with_reducible assumption) (by with_reducible assumption) (by with_reducible assumption)) | (with_reducible refine Own.new' _ _ (by first | rfl | (simp; done)) rfl) | (with_reducible refine Own.drew ?_) | (with_reducible refine Own.drewN ?_ _) | (with_reducible refine Own.alloc ?_ _) | (with_reducible refine Own.setOther ?_ ?_ _) | (refine Own.below ?_ (by with_reducible assumption) ?_) | omega | (simp; done) | (simp; omega))), by (repeat' (first | (with_reducible exact Below.refl _ _) | (with_reducible assumption) | (with_reducible refine Below.drew ?_) | (with_reducible refine below_drewN ?_ _) | (with_reducible refine Below.setCell ?_ ?_ _) | (with_reducible refine Below.alloc ?_ ?_ _) | (refine Below.trans ?_ (Below.mono (by with_reducible assumption) ?_)) | omega | (exact Below.size (by with_reducible assumption)) | (simp; done) | (simp; omega)))⟩
              · have hop : 1 ≤ lo + j ∧ lo + j ≤ 60 := by omega
                have hx0 : Below wr.heap.size wr (wr.alloc (.cells #[.int .i64 rd, .int .i64 rf, .int .i64 rt, .int .i64 rs] 58)) := by (repeat' (first | (with_reducible exact Below.refl _ _) | (with_reducible assumption) | (with_reducible refine Below.drew ?_) | (with_reducible refine below_drewN ?_ _) | (with_reducible refine Below.setCell ?_ ?_ _) | (with_reducible refine Below.alloc ?_ ?_ _) | (refine Below.trans ?_ (Below.mono (by with_reducible assumption) ?_)) | omega | (exact Below.size (by with_reducible assumption)) | (simp; done) | (simp; omega)))
                have hCx := Lib.hid (HCw.out.below hx0 (Nat.le_refl _))
                have hde : Hid (decide (rd = (k : Int)) = true) := by show _ = _; simpa using hd
                cases hright : rightB B ⟨rd, rf, rt, rs⟩ (lo + j)
                · have hs2 : Hid (wrongL B k (lo + j) (R.take (i + 1)) = wrongL B k (lo + j) (R.take i) + 1) := by
                    show _ = _
                    rw [hst.out, show decide (({ d := rd, f := rf, t := rt, s := rs } : Rep).d = (k : Int)) = true from hde.out, hright]; rfl
                  have HR := Lib.hid hright
                  clear hright
                  go_wp2_with fail
                  refine (isRight80 _ _ _ _ _ _ _ _ _ cw ⟨rd, rf, rt, rs⟩ (lo + j) B D R _ hCx.out hV hop hmem).mono ?_
                  rw [HR.out]
                  rintro e w2 ⟨rfl, hb2⟩
                  have hbx : Below wr.heap.size wr w2 := hx0.trans (hb2.mono hx0.size)
                  have hm2 := hm.below (b := wo.heap.size + 1) hbx hml
                  have hO2 := hO.below hbx cO
                  have hB2 : Below wo.heap.size wo w2 := by (repeat' (first | (with_reducible exact Below.refl _ _) | (with_reducible assumption) | (with_reducible refine Below.drew ?_) | (with_reducible refine below_drewN ?_ _) | (with_reducible refine Below.setCell ?_ ?_ _) | (with_reducible refine Below.alloc ?_ ?_ _) | (refine Below.trans ?_ (Below.mono (by with_reducible assumption) ?_)) | omega | (exact Below.size (by with_reducible assumption)) | (simp; done) | (simp; omega)))
                  have HX := Lib.hid (WalkArith.wf_i64 (n := lo + j) (by omega))
                  have hwl := wrongL_le B k (lo + j) (R.take i)
                  have hwt : (R.take i).length ≤ i := List.length_take_le _ _
                  have HW := Lib.hid (WalkArith.wf_i64 (n := ((wrongL B k (lo + j) (R.take i) : Nat) : Int) + 1) (by omega))
                  have hget := upd_get (partF B R k lo j) (lo + j) (wrongL B k (lo + j) (R.take i) : Nat)
                  clear hm hO hB hb2 hbx hx0 c0 k0j q0j hd e0 e1 e2 e3
                  generalize hvv : wrongL B k (lo + j) (R.take i) = vv at *
                  have HV' := Lib.hid hvv
                  clear hvv
                  go_wp2_with (first | (at_lookup; go_must (refine wp_getI _ rfl _ _ 106 rfl Tryd.underlying106 (wo.heap.size + 1) m _ rfl hm2 (lo + j) rfl HX.out ?_)) | (at_mapUpdate; go_must (refine wp_putI _ rfl _ _ _ 106 rfl Tryd.underlying106 (wo.heap.size + 1) m _ rfl hm2 (by omega) (lo + j) ((vv : Int) + 1) rfl rfl HX.out HW.out ?_; intro w3 hm3 hg3; have hB3 : Below wo.heap.size wo w3 := hB2.grown hg3 hB2.size (fun k e => by cases e; omega); have hO3 : Own w3 wo.heap.size [.int .i64 lo, .int .i64 hi] := hO2.below ((Below.refl (wo.heap.size + 1) w2).grown hg3 (Nat.le_of_lt hm2.lt) (fun k e => by cases e; omega)) (by omega); rw [upd_upd] at hm3; clear hg3)))
                  go_roundg (n2 - (i + 1))
                  case measure => omega
                  case rel => exact ⟨i + 1, m + 1, by omega, by go_num, by rw [hs2.out]; exact hm3, by omega, hO3, hB3⟩
                · have hs2 : Hid (wrongL B k (lo + j) (R.take (i + 1)) = wrongL B k (lo + j) (R.take i)) := by
                    show _ = _
                    rw [hst.out, hright, Bool.not_true, Bool.and_false]; rfl
                  have HR := Lib.hid hright
                  clear hright
                  go_wp2_with fail
                  refine (isRight80 _ _ _ _ _ _ _ _ _ cw ⟨rd, rf, rt, rs⟩ (lo + j) B D R _ hCx.out hV hop hmem).mono ?_
                  rw [HR.out]
                  rintro e w2 ⟨rfl, hb2⟩
                  have hbx : Below wr.heap.size wr w2 := hx0.trans (hb2.mono hx0.size)
                  have hm2 := hm.below (b := wo.heap.size + 1) hbx hml
                  have hO2 := hO.below hbx cO
                  have hB2 : Below wo.heap.size wo w2 := by (repeat' (first | (with_reducible exact Below.refl _ _) | (with_reducible assumption) | (with_reducible refine Below.drew ?_) | (with_reducible refine below_drewN ?_ _) | (with_reducible refine Below.setCell ?_ ?_ _) | (with_reducible refine Below.alloc ?_ ?_ _) | (refine Below.trans ?_ (Below.mono (by with_reducible assumption) ?_)) | omega | (exact Below.size (by with_reducible assumption)) | (simp; done) | (simp; omega)))
                  clear hm hO hB hb2 hbx hx0 c0 k0j q0j hd e0 e1 e2 e3
                  go_wp2_with fail
                  go_roundg (n2 - (i + 1))
                  case measure => omega
                  case rel => exact ⟨i + 1, m, by omega, by go_num, by rw [hs2.out]; exact hm2, by omega, hO2, hB2⟩
            · have hin : Hid (i = R.length) := by have := HL2.out; show _ = _; omega
              rw [hin.out, List.take_length] at hm
              have hm3 : MapI wr (wo.heap.size + 1) m (partF B R k lo (j + 1)) := hm.cast (partF_done B R k lo j)
              clear hm
              go_wp2_with fail
              go_roundg ((hi - lo + 1).toNat - (j + 1))
              case measure => omega
              case rel => exact ⟨j + 1, m, by omega, by rw [show lo + ((j + 1 : Nat) : Int) = lo + (j : Int) + 1 by omega], hm3, by omega, hO, hB⟩
        · have hm3 : MapI wr (wo.heap.size + 1) 1000 (pairF B R k (lo, hi)) := (hm.cast (partF_all B R k (lo, hi) j (by omega))).mono (by omega)
          have hgj := hg.below hB (Nat.le_refl _)
          have hpj := hpw.below hB (Nat.le_refl _)
          have hBw : Below w.heap.size w wr := by (repeat' (first | (with_reducible exact Below.refl _ _) | (with_reducible assumption) | (with_reducible refine Below.drew ?_) | (with_reducible refine below_drewN ?_ _) | (with_reducible refine Below.setCell ?_ ?_ _) | (with_reducible refine Below.alloc ?_ ?_ _) | (refine Below.trans ?_ (Below.mono (by with_reducible assumption) ?_)) | omega | (exact Below.size (by with_reducible assumption)) | (simp; done) | (simp; omega)))
          have hwz : w.heap.size + 2 ≤ wr.heap.size := by omega
          have k1j := q1j.c
          have f1j := q1j.f
          have hlb : (bs.map mrow).length = k := by rw [List.length_map]; exact hbl
          go_wp2_with (at_builtin; go_must (refine wpList_append_own _ rfl _ _ 103 rfl (w.heap.size + 2) 106 i0 (.map none) 1 8 Tryd.underlying103 hi0 hi1 hi2 hi3 rfl (by decide) _ _ _ rfl (hgj.2.alloc _) ⟨wr.heap.size, 0, none⟩ 1 1 [.map (some (wo.heap.size + 1))] rfl rfl (cell_one_new _ _ _) (by intro u hu; simp at hu; subst hu; rfl) (by unfold maxLen; omega) (by omega) (by simp; omega) ?_; intro v' w5 hown' hgrow hnil; have hbA : Below (w.heap.size + 2) wr w5 := ((Below.refl _ wr).alloc hwz _).grown hgrow (by simp; omega) (fun i hi => (hgj.2.lt i hi).1); have p0 := q0j.below hbA (by omega); have p1 := q1j.below hbA (by omega); have p0c := p0.c; have p1c := p1.c; have p1f := p1.f; have p1l := p1.lt; have hg2 : Gro w5 (w.heap.size + 2) 106 1 v' (bs.map mrow ++ [mrow (wo.heap.size + 1)]) := Gro.grown hgj rfl hown'; have hp2 : PairsW w5 B D R bs := (fun i x hx => (hpj i x hx).imp fun s h => ⟨h.1, map_kept (h.2.kept (World.grownBy_alloc wr _ none) (by simp)) (hgj.2.alloc _) hgrow⟩); have hm5 : MapI w5 (wo.heap.size + 1) 1000 (pairF B R k (lo, hi)) := map_kept (hm3.kept (World.grownBy_alloc wr _ none) (by simp)) (hgj.2.alloc _) hgrow; clear hown' hgrow hnil; obtain ⟨PA', pc', hv', _⟩ := hg2.out; subst hv'))
          simp only [List.length_append, List.length_map, List.length_singleton, hbl] at hg2
          go_roundg (n1 - (k + 1))
          case measure => omega
          case rel =>
            refine ⟨k + 1, .slice PA' (k + 1) pc', bs ++ [wo.heap.size + 1], by omega, by go_num, p0.setOther (by simp) _, p1.set 4 (by simp) _, ?_, by simp [hbl], ?_, ((hBw.trans (hbA.mono (by omega))).setCell (by simp) _)⟩
            · rw [List.map_append]
              exact hg2.setCell (by simp) _
            · intro i x hx
              by_cases hil : i < bs.length
              · rw [List.getElem?_append_left hil] at hx
                obtain ⟨s, h1, h2⟩ := hp2 i x hx
                exact ⟨s, h1, h2.setCell (map_ne_own h2 p1) _⟩
              · rw [List.getElem?_append_right (by omega)] at hx
                have hik : i - bs.length = 0 := by
                  have := (List.getElem?_eq_some_iff.1 hx).1
                  simp at this; omega
                rw [hik] at hx
                obtain rfl : wo.heap.size + 1 = x := by simpa using hx
                obtain rfl : i = k := by omega
                exact ⟨(lo, hi), hs.out, hm5.setCell (map_ne_own hm5 p1) _⟩
    · obtain ⟨PA, pc, rfl, hrd⟩ := hg.out
      go_wp2_with fail
      go_ret
      have e : k = n1 := by omega
      subst e
      exact ⟨w.heap.size + 1, by omega, rfl, ⟨PA, pc, bs, by simpa [hbl] using q1, hrd, hbl, hpw⟩, hbw⟩

end Go.Proofs.YtibkgnnpmidgfaaDoor
