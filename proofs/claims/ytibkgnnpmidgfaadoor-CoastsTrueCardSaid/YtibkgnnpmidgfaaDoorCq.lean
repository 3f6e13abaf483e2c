/- Walks: openings, Openings of the program. -/
import Derived.Test.YtibkgnnpmidgfaaDoorCp
namespace Go.Proofs.YtibkgnnpmidgfaaDoor
open Go.RowKit Go.Maps

theorem MapI.run_put {w : World} {b n : Nat} {f : Int → Option Int} (h : MapI w b n f) (t : TypeId) (ht : Tryd.prog.underlying t = some (.map 3 3)) (hn : n < 1000000) (k u : Int) (hk : (Lit.int .i64 k).wf = true) (hu : (Lit.int .i64 u).wf = true) :
    ∃ w', (Instr.mapUpdate t (.map (some b)) (.int .i64 k) (.int .i64 u)).run Tryd.prog w = .ok () w' ∧ MapI w' b (n + 1) (upd f k u) ∧ w.grownBy w' (some b) := by
  obtain ⟨D, h1, h2⟩ := h
  obtain ⟨w', e, h3, h4⟩ := h1.update key3 ht (by unfold maxLen; omega) (keyOf_int_mk Tryd.underlying3 hk) (plainElem_int Tryd.underlying3 hu)
  exact ⟨w', e, ⟨_, h3, holds_put h2 h1.isMap hk⟩, h4⟩
/-- One pair of dividers with an opening. -/
def oneF (d : Nat) (x : Int) : Int → Option Int := upd (fun _ => none) d x
def canB (cw : Int) (B D : List Pt) (R : List Rep) (d : Nat) (x : Int) : Bool := decide ((totF B D R (oneF d x) D.length : Int) ≤ cw)
def opsU (cw : Int) (B D : List Pt) (R : List Rep) (d : Nat) (lo : Int) : Nat → List Int
  | 0 => []
  | j + 1 => if canB cw B D R d (lo + j) = true then opsU cw B D R d lo j ++ [lo + j] else opsU cw B D R d lo j
theorem opsU_succ (cw : Int) (B D : List Pt) (R : List Rep) (d : Nat) (lo : Int) (j : Nat) : opsU cw B D R d lo (j + 1) = if canB cw B D R d (lo + j) = true then opsU cw B D R d lo j ++ [lo + j] else opsU cw B D R d lo j := rfl
/-- The openings of a pair of dividers in a truth. -/
def opsD (cw : Int) (B D : List Pt) (R : List Rep) (d : Nat) : List Int := opsU cw B D R d (sAt D d).1 ((sAt D d).2 - (sAt D d).1 + 1).toNat
theorem opsU_len (cw : Int) (B D : List Pt) (R : List Rep) (d : Nat) (lo : Int) : ∀ j, (opsU cw B D R d lo j).length ≤ j
  | 0 => Nat.le_refl _
  | j + 1 => by
    have := opsU_len cw B D R d lo j
    rw [opsU_succ]; split <;> simp <;> omega
theorem oneF_some {d : Nat} {x : Int} {y c : Int} (h : oneF d x y = some c) : y = d ∧ c = x := by
  unfold oneF upd at h
  split at h
  · simp at h; exact ⟨by assumption, h.symm⟩
  · cases h

set_option maxRecDepth 100000 in
set_option maxHeartbeats 4000000 in
theorem openings72 (cb : Nat) (A0 A1 A2 : Option Addr) (n0 n1 n2 c0 c1 c2 : Nat) (cw : Int) (d : Nat) (B D : List Pt) (R : List Rep) (w : World) (hC : RdC w A0 A1 A2 n0 n1 n2 B D R) (hc : Chart w cb A0 A1 A2 n0 n1 n2 c0 c1 c2 cw B D R) (hV : Hid (Val cw B D R)) (hd : d < n1) :
    Calls Tryd.prog 72 #[.pointer (some ⟨cb, 0, none⟩), .int .i64 d] w fun e w' => ∃ (A : Option Addr) (cap : Nat), e = .returned (.slice A (opsD cw B D R d).length cap) ∧ RdI w' A (opsD cw B D R d) ∧ Below w.heap.size w w' := by
  obtain ⟨i0, hi0, hi1, hi2, hi3⟩ := info_parts Tryd.info3
  have hmm := @run_makeMap Tryd.prog
  have HL1 := Lib.hid hC.h1
  have hn1 : n1 ≤ 4 := by have := hV.out.d; have := HL1.out; omega
  have hR := hV.out.r
  obtain ⟨⟨lo, hi⟩, hs⟩ : ∃ s, Hid (D[d]? = some s) := ⟨D[d]'(by have := HL1.out; omega), by simp [Hid]⟩
  have hsa : Hid (sAt D d = (lo, hi)) := by show _ = _; unfold sAt; rw [List.getD_eq_getElem?_getD, hs.out]; rfl
  have hds := hV.out.ds _ (List.mem_of_getElem? hs.out)
  dsimp only at hds
  obtain ⟨d1, d2, d3⟩ := hds
  obtain ⟨PA, pc, bs, h1, h2, h3, h4⟩ := hc.ex
  obtain ⟨b, off, rfl, hb, e0, e1⟩ := rd_pt hC.r1 hs.out
  dsimp only at e0 e1
  have HCH := Lib.hid hc
  have H1 := Lib.hid h1
  clear h2 h3 h4 hc hC
  obtain ⟨l1, k1, f1⟩ := h1
  go_enter Tryd.func72, Tryd.ntmps72
  go_wp2_with fail
  go_loopg [5, 6] ((hi - lo + 1).toNat) (fun K o y wr => ∃ j : Nat, K + j = (hi - lo + 1).toNat ∧ y = .int .i64 (lo + j) ∧ Gro wr w.heap.size 3 1 o ((opsU cw B D R d lo j).map irow) ∧ Below w.heap.size w wr)
  case atStart => exact ⟨0, rfl, by simp, Gro.nil _ _ _ _, Below.refl _ _⟩
  case round =>
    obtain ⟨j, hj, rfl, hg, hbw⟩ := hrel
    have q1 := H1.out.below hbw l1
    obtain ⟨l2, k2, f2⟩ := q1
    have g0 : wr.cell? ⟨b, off + d * 2, none⟩ = some (.int .i64 lo) := (hbw.cell (p := ⟨b, off + d * 2, none⟩) hb).trans e0
    have g1 : wr.cell? ⟨b, off + d * 2 + 1, none⟩ = some (.int .i64 hi) := (hbw.cell (p := ⟨b, off + d * 2 + 1, none⟩) hb).trans e1
    have hzr : w.heap.size ≤ wr.heap.size := hbw.size
    by_cases hjt : lo + j ≤ hi
    · have hwx : (Lit.int .i64 (lo + j)).wf = true := WalkArith.wf_i64 (by omega)
      have hwd : (Lit.int .i64 (d : Int)).wf = true := WalkArith.wf_i64 (by omega)
      obtain ⟨w3, hrun, hm3, hg3⟩ := MapI.run_put (MapI.made wr) 99 Tryd.underlying99 (by omega) d (lo + j) hwd hwx
      have hb3 : Below wr.heap.size wr w3 := ((Below.refl _ wr).alloc (Nat.le_refl _) _).grown hg3 (by simp) (fun k e => by cases e; exact Nat.le_refl _)
      have HM := Lib.hid hm3
      have hB3 : Below w.heap.size w w3 := by (repeat' (first | (with_reducible exact Below.refl _ _) | (with_reducible assumption) | (with_reducible refine Below.drew ?_) | (with_reducible refine below_drewN ?_ _) | (with_reducible refine Below.setCell ?_ ?_ _) | (with_reducible refine Below.alloc ?_ ?_ _) | (refine Below.trans ?_ (Below.mono (by with_reducible assumption) ?_)) | omega | (exact Below.size (by with_reducible assumption)) | (simp; done) | (simp; omega)))
      have hgw := hg.below hb3 (Nat.le_refl _)
      have hll : ((opsU cw B D R d lo j).map irow).length = (opsU cw B D R d lo j).length := List.length_map _
      have hlen := opsU_len cw B D R d lo j
      clear hwx hwd hm3 hg3 hb3 hg
      cases hcan : canB cw B D R d (lo + j)
      · have hst : Hid (opsU cw B D R d lo (j + 1) = opsU cw B D R d lo j) := by show _ = _; rw [opsU_succ, hcan]; rfl
        have HCN : Hid (decide ((totF B D R (oneF d (lo + j)) n1 : Int) ≤ cw) = false) := by show _ = _; rw [← hcan, HL1.out]; rfl
        clear hcan
        go_wp2_with fail
        refine (can73 cb _ _ _ _ _ _ _ _ _ cw B D R wr.heap.size 1 (oneF d (lo + j)) w3 (HCH.out.below hB3 (Nat.le_refl _)) HM.out (by omega) hn1 hR (fun x c h => ?_)).mono ?_
        · obtain ⟨rfl, rfl⟩ := oneF_some h
          rw [Int.toNat_natCast, hsa.out]
          dsimp only
          omega
        rw [HCN.out]
        rintro e w4 ⟨rfl, hb4⟩
        have hg4 := hgw.below hb4 (Nat.le_refl _)
        have hB4 : Below w.heap.size w w4 := by (repeat' (first | (with_reducible exact Below.refl _ _) | (with_reducible assumption) | (with_reducible refine Below.drew ?_) | (with_reducible refine below_drewN ?_ _) | (with_reducible refine Below.setCell ?_ ?_ _) | (with_reducible refine Below.alloc ?_ ?_ _) | (refine Below.trans ?_ (Below.mono (by with_reducible assumption) ?_)) | omega | (exact Below.size (by with_reducible assumption)) | (simp; done) | (simp; omega)))
        clear hb4 hrun
        go_wp2
        go_roundg ((hi - lo + 1).toNat - (j + 1))
        case measure => omega
        case rel => exact ⟨j + 1, by omega, by rw [show lo + ((j + 1 : Nat) : Int) = lo + (j : Int) + 1 by omega], by rw [hst.out]; exact hg4, hB4⟩
      · have hst : Hid (opsU cw B D R d lo (j + 1) = opsU cw B D R d lo j ++ [lo + j]) := by show _ = _; rw [opsU_succ, hcan]; rfl
        have HCN : Hid (decide ((totF B D R (oneF d (lo + j)) n1 : Int) ≤ cw) = true) := by show _ = _; rw [← hcan, HL1.out]; rfl
        clear hcan
        go_wp2_with fail
        refine (can73 cb _ _ _ _ _ _ _ _ _ cw B D R wr.heap.size 1 (oneF d (lo + j)) w3 (HCH.out.below hB3 (Nat.le_refl _)) HM.out (by omega) hn1 hR (fun x c h => ?_)).mono ?_
        · obtain ⟨rfl, rfl⟩ := oneF_some h
          rw [Int.toNat_natCast, hsa.out]
          dsimp only
          omega
        rw [HCN.out]
        rintro e w4 ⟨rfl, hb4⟩
        have hg4 := hgw.below hb4 (Nat.le_refl _)
        have hB4 : Below w.heap.size w w4 := by (repeat' (first | (with_reducible exact Below.refl _ _) | (with_reducible assumption) | (with_reducible refine Below.drew ?_) | (with_reducible refine below_drewN ?_ _) | (with_reducible refine Below.setCell ?_ ?_ _) | (with_reducible refine Below.alloc ?_ ?_ _) | (refine Below.trans ?_ (Below.mono (by with_reducible assumption) ?_)) | omega | (exact Below.size (by with_reducible assumption)) | (simp; done) | (simp; omega)))
        have hz4 : w.heap.size ≤ w4.heap.size := hB4.size
        clear hb4 hrun
        go_wp2_with (at_builtin; go_must (refine wpList_append_own _ rfl _ _ 46 rfl w.heap.size 3 i0 (.int .i64 0) 1 8 Tryd.underlying46 hi0 hi1 hi2 hi3 rfl (by decide) _ _ _ rfl (hg4.2.alloc _) ⟨w4.heap.size, 0, none⟩ 1 1 [.int .i64 (lo + j)] rfl rfl (cell_one_new _ _ _) (by intro u hu; simp at hu; subst hu; rfl) (by unfold maxLen; omega) (by omega) (by simp; omega) ?_; intro v' w5 hown' hgrow hnil; have hbA : Below w.heap.size w4 w5 := ((Below.refl _ w4).alloc hz4 _).grown hgrow (by simp; omega) (fun i hi => (hg4.2.lt i hi).1); have hg5 : Gro w5 w.heap.size 3 1 v' ((opsU cw B D R d lo j).map irow ++ [irow (lo + j)]) := Gro.grown hg4 rfl hown'; clear hown' hgrow hnil))
        go_roundg ((hi - lo + 1).toNat - (j + 1))
        case measure => omega
        case rel => exact ⟨j + 1, by omega, by rw [show lo + ((j + 1 : Nat) : Int) = lo + (j : Int) + 1 by omega], by rw [hst.out, List.map_append]; exact hg5, by (repeat' (first | (with_reducible exact Below.refl _ _) | (with_reducible assumption) | (with_reducible refine Below.drew ?_) | (with_reducible refine below_drewN ?_ _) | (with_reducible refine Below.setCell ?_ ?_ _) | (with_reducible refine Below.alloc ?_ ?_ _) | (refine Below.trans ?_ (Below.mono (by with_reducible assumption) ?_)) | omega | (exact Below.size (by with_reducible assumption)) | (simp; done) | (simp; omega)))⟩
    · have e : Hid (opsD cw B D R d = opsU cw B D R d lo j) := by
        show _ = _
        unfold opsD
        rw [hsa.out]
        show opsU cw B D R d lo (hi - lo + 1).toNat = _
        rw [show (hi - lo + 1).toNat = j by omega]
      obtain ⟨A', cap', rfl, hrd⟩ := hg.out
      go_wp2
      go_ret
      refine ⟨A', ⟨cap', ?_⟩, ?_, hbw⟩
      · rw [e.out]; rfl
      · rw [e.out]; exact hrd

/-- A pair of dividers is asked for. -/
def isDv (D : List Pt) (d : Int) : Bool := btw d 0 ((D.length : Int) - 1)
def opgL (cw : Int) (B D : List Pt) (R : List Rep) (d : Int) : List Int := if opE cw B D R (isDv D d) = 0 then opsD cw B D R d.toNat else []
theorem opE_true {cw : Int} {B D : List Pt} {R : List Rep} {v : Bool} (h : opE cw B D R v = 0) : v = true ∧ chkB cw B D R = true := by
  refine ask_zero ?_
  unfold opE at h
  false_or_by_contra
  rename_i h'
  rw [if_neg h'] at h
  exact h' h

set_option maxRecDepth 100000 in
set_option maxHeartbeats 4000000 in
theorem openings28 (A0 A1 A2 : Option Addr) (n0 n1 n2 c0 c1 c2 : Nat) (cw : Int) (d : Int) (B D : List Pt) (R : List Rep) (w : World) (hC : RdC w A0 A1 A2 n0 n1 n2 B D R) :
    Calls Tryd.prog 28 #[.agg #[.slice A0 n0 c0, .slice A1 n1 c1, .slice A2 n2 c2, .int .i64 cw], .int .i64 d] w fun e w' => ∃ (A : Option Addr) (cap : Nat), e = .returned (.tuple #[.slice A (opgL cw B D R d).length cap, .int .i64 (opE cw B D R (isDv D d))]) ∧ RdI w' A (opgL cw B D R d) ∧ Below w.heap.size w w' := by
  have HC := Lib.hid hC
  have HL1 := Lib.hid hC.h1
  have hl1 := hC.l1
  clear hC
  have hdv : Hid (btw d 0 ((n1 : Int) - 1) = isDv D d) := by show _ = _; unfold isDv; rw [HL1.out]
  have o0 : Own (w.alloc (.cells #[.slice A0 n0 c0, .slice A1 n1 c1, .slice A2 n2 c2, .int .i64 cw] 26)) w.heap.size [.slice A0 n0 c0, .slice A1 n1 c1, .slice A2 n2 c2, .int .i64 cw] := Own.new' _ _ rfl rfl
  have oB : Below w.heap.size w (w.alloc (.cells #[.slice A0 n0 c0, .slice A1 n1 c1, .slice A2 n2 c2, .int .i64 cw] 26)) := by (repeat' (first | (with_reducible exact Below.refl _ _) | (with_reducible assumption) | (with_reducible refine Below.drew ?_) | (with_reducible refine below_drewN ?_ _) | (with_reducible refine Below.setCell ?_ ?_ _) | (with_reducible refine Below.alloc ?_ ?_ _) | (refine Below.trans ?_ (Below.mono (by with_reducible assumption) ?_)) | omega | (exact Below.size (by with_reducible assumption)) | (simp; done) | (simp; omega)))
  by_cases hE : opE cw B D R (isDv D d) = 0
  · obtain ⟨hv, hchk⟩ := opE_true hE
    have hV := Lib.hid (val_of hchk)
    have hvv := btw_iff.1 hv
    obtain ⟨d, rfl⟩ := Int.eq_ofNat_of_zero_le hvv.1
    have hd : d < n1 := by have := HL1.out; omega
    have hLe : Hid (opgL cw B D R d = opsD cw B D R d) := by show _ = _; unfold opgL; rw [if_pos hE]; rfl
    have hEe : Hid (opE cw B D R (isDv D d) = 0) := hE
    rw [hv] at hE hdv
    have HE := Lib.hid hE
    clear hE hchk hvv hv
    go_enter Tryd.func28, Tryd.ntmps28
    go_wp2
    go_region_with ((first | (go_at_call 71; refine (cbB hdv.out (isDivider71 _ _ _ _ _ _ _ _ _ _ _ _ hl1)).mono ?_; rintro e w1 ⟨rfl, hb1⟩; have hz1 := hb1.size; (try simp at hz1); have hc1 := fun i => (bcell hb1).1 w.heap.size i (by first | omega | (simp; done) | (simp; omega))) | (go_at_call 70; refine (open70_ok A0 A1 A2 n0 n1 n2 c0 c1 c2 cw true B D R _ (HC.out.below (b := w.heap.size) (by (repeat' (first | (with_reducible exact Below.refl _ _) | (with_reducible assumption) | (with_reducible refine Below.drew ?_) | (with_reducible refine below_drewN ?_ _) | (with_reducible refine Below.setCell ?_ ?_ _) | (with_reducible refine Below.alloc ?_ ?_ _) | (refine Below.trans ?_ (Below.mono (by with_reducible assumption) ?_)) | omega | (exact Below.size (by with_reducible assumption)) | (simp; done) | (simp; omega)))) (Nat.le_refl _)) HE.out).mono ?_; rintro e w2 ⟨cb, hcb, rfl, hch, hb2⟩)))
    all_goals
      have hB2 : Below w.heap.size w w2 := by (repeat' (first | (with_reducible exact Below.refl _ _) | (with_reducible assumption) | (with_reducible refine Below.drew ?_) | (with_reducible refine below_drewN ?_ _) | (with_reducible refine Below.setCell ?_ ?_ _) | (with_reducible refine Below.alloc ?_ ?_ _) | (refine Below.trans ?_ (Below.mono (by with_reducible assumption) ?_)) | omega | (exact Below.size (by with_reducible assumption)) | (simp; done) | (simp; omega)))
      clear hb2 hb1 hc1
      go_wp2_with fail
      refine (openings72 cb A0 A1 A2 n0 n1 n2 c0 c1 c2 cw d B D R _ (HC.out.below hB2 (Nat.le_refl _)) hch hV hd).mono ?_
      rintro e w3 ⟨A', cap', rfl, hr, hb3⟩
      go_wp2
      go_ret2
      exact ⟨A', cap', by rw [hEe.out, hLe.out]; rfl, by rw [hLe.out]; exact hr, by (repeat' (first | (with_reducible exact Below.refl _ _) | (with_reducible assumption) | (with_reducible refine Below.drew ?_) | (with_reducible refine below_drewN ?_ _) | (with_reducible refine Below.setCell ?_ ?_ _) | (with_reducible refine Below.alloc ?_ ?_ _) | (refine Below.trans ?_ (Below.mono (by with_reducible assumption) ?_)) | omega | (exact Below.size (by with_reducible assumption)) | (simp; done) | (simp; omega)))⟩
  · have hLe : Hid (opgL cw B D R d = []) := by show _ = _; unfold opgL; rw [if_neg hE]
    obtain ⟨v, hv⟩ : ∃ v, isDv D d = v := ⟨_, rfl⟩
    rw [hv] at hE hdv
    have hEe : Hid (opE cw B D R (isDv D d) = opE cw B D R v) := by show _ = _; rw [hv]
    obtain ⟨E, hEE⟩ : ∃ E, E = opE cw B D R v := ⟨_, rfl⟩
    have HE := Lib.hid hE
    rw [← hEE] at hE hEe
    have hne : (E != 0) = true := by simpa using hE
    have HEE := Lib.hid hEE
    have hx0 := Aft.cell o0
    have hop : ∀ x : Aft (w.alloc (.cells #[.slice A0 n0 c0, .slice A1 n1 c1, .slice A2 n2 c2, .int .i64 cw] 26)), Calls Tryd.prog 70 #[.agg #[.slice A0 n0 c0, .slice A1 n1 c1, .slice A2 n2 c2, .int .i64 cw], .bool v] x.w (fun e w' => e = .returned (.tuple #[.pointer none, .int .i64 E]) ∧ Below x.w.heap.size x.w w') := fun x => by
      rw [HEE.out]
      exact open70_bad A0 A1 A2 n0 n1 n2 c0 c1 c2 cw v B D R x.w (HC.out.below (oB.trans (x.h.mono oB.size)) (Nat.le_refl _)) HE.out
    have HOP := Lib.hid hop
    clear hE hEE hop hv
    go_enter Tryd.func28, Tryd.ntmps28
    go_wp2
    refine wp_region_aft (by kernel_rfl) (by kernel_rfl) ?_; (repeat (go_big_quiet_step ((first | (go_at_call 71; exact aft_of (cbB hdv.out (isDivider71 _ _ _ _ _ _ _ _ _ _ _ _ hl1))) | (go_at_call 70; exact aft_of (HOP.out _)))))); refine wpQuiet_nil ?_; rintro w1 ⟨⟨_, hb1⟩, rfl⟩
    go_wp2
    go_ret2
    exact ⟨none, 0, by rw [hEe.out, hLe.out]; rfl, by rw [hLe.out]; exact RdI.nil _ _, by (repeat' (first | (with_reducible exact Below.refl _ _) | (with_reducible assumption) | (with_reducible refine Below.drew ?_) | (with_reducible refine below_drewN ?_ _) | (with_reducible refine Below.setCell ?_ ?_ _) | (with_reducible refine Below.alloc ?_ ?_ _) | (refine Below.trans ?_ (Below.mono (by with_reducible assumption) ?_)) | omega | (exact Below.size (by with_reducible assumption)) | (simp; done) | (simp; omega)))⟩

end Go.Proofs.YtibkgnnpmidgfaaDoor
