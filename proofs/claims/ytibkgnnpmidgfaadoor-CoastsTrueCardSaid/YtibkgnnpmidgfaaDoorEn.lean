/- Walks: CoastsTrue of the program. -/
import Derived.Test.YtibkgnnpmidgfaaDoorFb
import Derived.Test.YtibkgnnpmidgfaaDoorDa
namespace Go.Proofs.YtibkgnnpmidgfaaDoor
open Go.RowKit

theorem strL_len8 {cw : Int} {B D : List Pt} {R : List Rep} : (strL cw B D R).length ≤ 8 := by
  unfold strL
  split
  · rename_i h
    have := (val_of (opE_true h).2).r
    exact Nat.le_trans (pickN_len _ _) this
  · simp
theorem opgL_len60' {cw : Int} {B D : List Pt} {R : List Rep} (d : Int) : (opgL cw B D R d).length ≤ 60 := by
  unfold opgL
  split
  · rename_i h
    obtain ⟨h1, h2⟩ := opE_true h
    unfold isDv at h1
    have h3 := btw_iff.1 h1
    exact opsD_len (val_of h2) (by omega)
  · simp
/-- What is told of a truth. -/
structure TruF (cw : Int) (B D : List Pt) (R : List Rep) (l : List Int) : Prop where
  op : ∀ v, v = true → opE cw B D R v = 0
  len : l.length = D.length
  few : fewV B D R ≤ wrongsL B l R
  ops : ∀ i : Nat, i < D.length → l.getD i 0 ∈ opgL cw B D R i
  str : ∀ g ∈ strL cw B D R, ∃ (i : Nat) (r : Rep), g = (i : Int) ∧ R[i]? = some r ∧ rightB B r (l.getD r.d.toNat 0) = false
  lon : ∀ a b : Nat, a < D.length → b < D.length → (lonN cw B D R a b = 1 ∧ longB B (l.getD a 0) (l.getD b 0) = true) ∨ (lonN cw B D R a b = 2 ∧ longB B (l.getD a 0) (l.getD b 0) = false) ∨ lonN cw B D R a b = 3
theorem tru_facts {cw : Int} {B D : List Pt} {R : List Rep} (hc : chkE cw B D R = 0) {l : List Int} (h : Tru cw B D R l) : TruF cw B D R l := by
  have hV := val_of (chk_ok hc)
  have hop : opE cw B D R true = 0 := by
    rw [opE_iff hc, if_neg]
    have := few_least (B := B) (R := R) h.1
    have := h.2
    omega
  have hops : ∀ i : Nat, i < D.length → l.getD i 0 ∈ opgL cw B D R i := by
    intro i hi
    have hd : isDv D i = true := by unfold isDv; rw [btw_iff]; omega
    unfold opgL
    rw [hd, if_pos hop, Int.toNat_natCast]
    exact (ops_truth hV hi).2 ⟨l, h, rfl⟩
  refine ⟨fun v hv => by rw [hv]; exact hop, h.1.len, by rw [wrongs_tot hV]; exact few_least h.1, hops, fun g hg => ?_, fun a b ha hb => ?_⟩
  · unfold strL at hg
    rw [if_pos hop] at hg
    obtain ⟨i, h1, h2, rfl⟩ := mem_pickN.1 hg
    obtain ⟨r, hr⟩ : ∃ r, R[i]? = some r := ⟨R[i], List.getElem?_eq_getElem h1⟩
    refine ⟨i, r, rfl, hr, ?_⟩
    rw [strQ_at hr] at h2
    have hv := hV.rs r (List.mem_of_getElem? hr)
    unfold strR at h2
    rw [Bool.not_eq_true', List.any_eq_false] at h2
    have := h2 _ ((ops_truth hV (d := r.d.toNat) (by omega)).2 ⟨l, h, rfl⟩)
    exact Bool.not_eq_true _ ▸ this
  · have hd2 : isDv2 D a b = true := by
      unfold isDv2 isDv
      rw [btw_iff.2 (by omega), btw_iff.2 (by omega)]; rfl
    have hl : lonN cw B D R a b = lonV cw B D R a b := by unfold lonN; rw [hd2, if_pos hop]; rfl
    have hm := mem_tru.2 h
    rw [hl, lon_verd hV ha hb]
    by_cases h1 : lonC B a b (truL cw B D R) = (truL cw B D R).length
    · rw [if_pos h1]
      left
      unfold lonC at h1
      exact ⟨rfl, List.length_filter_eq_length_iff.1 h1 l hm⟩
    · rw [if_neg h1]
      by_cases h2 : lonC B a b (truL cw B D R) = 0
      · rw [if_pos h2]
        right; left
        unfold lonC at h2
        rw [List.length_eq_zero_iff, List.filter_eq_nil_iff] at h2
        have := h2 l hm
        unfold lonB at this
        exact ⟨rfl, Bool.not_eq_true _ ▸ this⟩
      · rw [if_neg h2]; right; right; rfl

set_option maxRecDepth 100000 in
set_option maxHeartbeats 8000000 in
theorem true12 (A0 A1 A2 : Option Addr) (n0 n1 n2 c0 c1 c2 : Nat) (cw : Int) (A : Option Addr) (n c : Nat) (l : List Int) (p q : Int) (B D : List Pt) (R : List Rep) (w : World) (hC : RdC w A0 A1 A2 n0 n1 n2 B D R) (hl : RdI w A l) (hn : n = l.length) (hnl : n ≤ 140737488355328) (hT : Tab w) :
    Calls Tryd.prog 12 #[.agg #[.slice A0 n0 c0, .slice A1 n1 c1, .slice A2 n2 c2, .int .i64 cw], .slice A n c, .agg #[.int .i64 p, .int .i64 q]] w fun e w' => e = .returned (.bool true) ∧ Below w.heap.size w w' := by
  have HC := Lib.hid hC
  have HT := Lib.hid hT
  have HX := Lib.hid hl
  have HN := Lib.hid hn
  have HL1 := Lib.hid hC.h1
  have HL2 := Lib.hid hC.h2
  have hl1 := hC.l1
  clear hC hT hl hn
  have o0 : Own ((w.alloc (.cells #[.slice A0 n0 c0, .slice A1 n1 c1, .slice A2 n2 c2, .int .i64 cw] 26)).alloc (.cells #[.int .i64 p, .int .i64 q] 55)) w.heap.size [.slice A0 n0 c0, .slice A1 n1 c1, .slice A2 n2 c2, .int .i64 cw] := (Own.new' _ _ rfl rfl).alloc _
  have o1 : Own ((w.alloc (.cells #[.slice A0 n0 c0, .slice A1 n1 c1, .slice A2 n2 c2, .int .i64 cw] 26)).alloc (.cells #[.int .i64 p, .int .i64 q] 55)) (w.heap.size + 1) [.int .i64 p, .int .i64 q] := Own.new' _ _ (by simp) rfl
  have oB : Below w.heap.size w ((w.alloc (.cells #[.slice A0 n0 c0, .slice A1 n1 c1, .slice A2 n2 c2, .int .i64 cw] 26)).alloc (.cells #[.int .i64 p, .int .i64 q] 55)) := by (repeat' (first | (with_reducible exact Below.refl _ _) | (with_reducible assumption) | (with_reducible refine Below.drew ?_) | (with_reducible refine below_drewN ?_ _) | (with_reducible refine Below.setCell ?_ ?_ _) | (with_reducible refine Below.alloc ?_ ?_ _) | (refine Below.trans ?_ (Below.mono (by with_reducible assumption) ?_)) | omega | (exact Below.size (by with_reducible assumption)) | (simp; done) | (simp; omega)))
  go_enter Tryd.func12, Tryd.ntmps12
  go_wp2_with fail
  refine (ready19 A0 A1 A2 n0 n1 n2 c0 c1 c2 cw B D R _ (HC.out.below oB (Nat.le_refl _))).mono ?_
  rintro e w1 ⟨b, rfl, hrdy, hb1⟩
  have s0 := o0.below hb1 o0.lt
  have s1 := o1.below hb1 o1.lt
  have hB1 : Below w.heap.size w w1 := by (repeat' (first | (with_reducible exact Below.refl _ _) | (with_reducible assumption) | (with_reducible refine Below.drew ?_) | (with_reducible refine below_drewN ?_ _) | (with_reducible refine Below.setCell ?_ ?_ _) | (with_reducible refine Below.alloc ?_ ?_ _) | (refine Below.trans ?_ (Below.mono (by with_reducible assumption) ?_)) | omega | (exact Below.size (by with_reducible assumption)) | (simp; done) | (simp; omega)))
  clear o0 o1 oB hb1
  obtain ⟨l0, k0, f0⟩ := s0
  have s0 := Own.mk l0 k0 f0
  cases b
  · (go_wp2_with fail; refine (works21 _ (HT.out.below hB1 (Nat.le_refl _))).mono ?_; rintro e w9 ⟨rfl, hb9⟩; go_wp2; go_ret; exact ⟨rfl, by (repeat' (first | (with_reducible exact Below.refl _ _) | (with_reducible assumption) | (with_reducible refine Below.drew ?_) | (with_reducible refine below_drewN ?_ _) | (with_reducible refine Below.setCell ?_ ?_ _) | (with_reducible refine Below.alloc ?_ ?_ _) | (refine Below.trans ?_ (Below.mono (by with_reducible assumption) ?_)) | omega | (exact Below.size (by with_reducible assumption)) | (simp; done) | (simp; omega)))⟩)
  · have H := Lib.hid (hrdy rfl)
    clear hrdy
    have hV := Lib.hid (val_of (chk_ok H.out))
    by_cases hn40 : 40 < n
    · (go_wp2_with fail; refine (works21 _ (HT.out.below hB1 (Nat.le_refl _))).mono ?_; rintro e w9 ⟨rfl, hb9⟩; go_wp2; go_ret; exact ⟨rfl, by (repeat' (first | (with_reducible exact Below.refl _ _) | (with_reducible assumption) | (with_reducible refine Below.drew ?_) | (with_reducible refine below_drewN ?_ _) | (with_reducible refine Below.setCell ?_ ?_ _) | (with_reducible refine Below.alloc ?_ ?_ _) | (refine Below.trans ?_ (Below.mono (by with_reducible assumption) ?_)) | omega | (exact Below.size (by with_reducible assumption)) | (simp; done) | (simp; omega)))⟩)
    · have HIT := isTruth48 A0 A1 A2 n0 n1 n2 c0 c1 c2 cw A c l B D R w1 (HC.out.below hB1 (Nat.le_refl _)) hV (HX.out.below hB1 (Nat.le_refl _)) (by have := HN.out; omega)
      rw [← HN.out] at HIT
      have HIT := Lib.hid HIT
      have HTI := Lib.hid (truB_iff hV.out (l := l))
      obtain ⟨tb, htb⟩ : ∃ x, truB cw B D R l = x := ⟨_, rfl⟩
      rw [htb] at HIT HTI
      clear htb
      go_wp2_with fail
      refine HIT.out.mono ?_
      rintro e w2 ⟨rfl, hb2⟩
      replace s0 := s0.below hb2 s0.lt
      replace s1 := s1.below hb2 s1.lt
      have hB2 := hB1.trans (hb2.mono hB1.size)
      clear hb2 hB1 l0 k0 f0
      obtain ⟨l0, k0, f0⟩ := s0
      have s0 := Own.mk l0 k0 f0
      cases tb
      · (go_wp2_with fail; refine (works21 _ (HT.out.below hB2 (Nat.le_refl _))).mono ?_; rintro e w9 ⟨rfl, hb9⟩; go_wp2; go_ret; exact ⟨rfl, by (repeat' (first | (with_reducible exact Below.refl _ _) | (with_reducible assumption) | (with_reducible refine Below.drew ?_) | (with_reducible refine below_drewN ?_ _) | (with_reducible refine Below.setCell ?_ ?_ _) | (with_reducible refine Below.alloc ?_ ?_ _) | (refine Below.trans ?_ (Below.mono (by with_reducible assumption) ?_)) | omega | (exact Below.size (by with_reducible assumption)) | (simp; done) | (simp; omega)))⟩)
      · have HTR := HTI.out.1 rfl
        have HF := Lib.hid (tru_facts H.out HTR)
        have HO : Hid (Opn D l) := HTR.1
        have hnD : n1 = n := by rw [HN.out, HL1.out]; exact HF.out.len.symm
        have hn1 : n1 ≤ 4 := by have := hV.out.d; have := HL1.out; omega
        have hn2 : n2 ≤ 8 := by have := hV.out.r; have := HL2.out; omega
        subst hnD
        clear HTR HIT HTI
        go_wp2
        go_loopg [7] n1 (fun K y wr => ∃ k : Nat, K + k = n1 ∧ y = .int .i64 k ∧ Own wr w.heap.size [.slice A0 n0 c0, .slice A1 n1 c1, .slice A2 n2 c2, .int .i64 cw] ∧ Own wr (w.heap.size + 1) [.int .i64 p, .int .i64 q] ∧ Below w.heap.size w wr)
        case atStart => exact ⟨0, by omega, rfl, s0, s1, hB2⟩
        case round =>
          clear s0 s1 l0 k0 f0 hB2
          obtain ⟨wo, rfl⟩ : ∃ wo : World, wo = wr := ⟨_, rfl⟩
          obtain ⟨k, hk, rfl, s0, s1, hbw⟩ := hrel
          obtain ⟨l0, k0, f0⟩ := s0
          have s0 := Own.mk l0 k0 f0
          by_cases hkn : k < n1
          · have hkD : k < D.length := by have := HL1.out; omega
            have hin := HF.out.ops k hkD
            have hE : Hid (opE cw B D R (isDv D k) = 0) := HF.out.op _ (by unfold isDv; rw [btw_iff]; omega)
            obtain ⟨x, hx⟩ : ∃ x, l.getD k 0 = x := ⟨_, rfl⟩
            have hat := getD_at (show k < l.length by have := HN.out; omega)
            rw [hx] at hat hin
            have HIN := Lib.hid (decide_eq_true hin)
            have hgl := opgL_len60' (R := R) (cw := cw) (B := B) (D := D) k
            obtain ⟨gs, hgs⟩ : ∃ x, opgL cw B D R k = x := ⟨_, rfl⟩
            have HGS := Lib.hid hgs
            rw [hgs] at HIN hgl
            obtain ⟨b9, o9, rfl, hb9, g9⟩ := (HX.out.below hbw (Nat.le_refl _)).elem hat
            clear hin hx hat hgs
            go_wp2_with fail
            refine (openings28 A0 A1 A2 n0 n1 n2 c0 c1 c2 cw k B D R _ (HC.out.below hbw (Nat.le_refl _))).mono ?_
            rw [HGS.out, hE.out]
            rintro e w3 ⟨A3, c3, rfl, hr3, hb3⟩
            have g9' := ((bcell hb3).1 b9 (o9 + k) hb9).trans g9
            replace s0 := s0.below hb3 s0.lt
            replace s1 := s1.below hb3 s1.lt
            have hB3 := hbw.trans (hb3.mono hbw.size)
            have HR3 := Lib.hid hr3
            clear hb3 hbw l0 k0 f0 g9 hr3
            go_wp2_with (first | (go_at_call 26; refine (cbP HIN.out (in26 A3 gs.length c3 gs x _ HR3.out rfl (by omega))).mono ?_; rintro e w4 ⟨rfl, rfl⟩) | fail)
            go_roundg (n1 - (k + 1))
            case measure => omega
            case rel => exact ⟨k + 1, by omega, by go_num, s0, s1, hB3⟩
          · go_wp2_with fail
            refine (strange40 A0 A1 A2 n0 n1 n2 c0 c1 c2 cw B D R _ (HC.out.below hbw (Nat.le_refl _))).mono ?_
            have hE0 : Hid (opE cw B D R true = 0) := HF.out.op true rfl
            have HSTR := Lib.hid HF.out.str
            have hgl := strL_len8 (R := R) (cw := cw) (B := B) (D := D)
            obtain ⟨gs, hgs⟩ : ∃ x, strL cw B D R = x := ⟨_, rfl⟩
            rw [hgs] at HSTR hgl
            rw [hgs, hE0.out]
            rintro e w3 ⟨A3, c3, rfl, hr3, hb3⟩
            have HR3 := Lib.hid hr3
            replace s0 := s0.below hb3 s0.lt
            replace s1 := s1.below hb3 s1.lt
            have hB3 := hbw.trans (hb3.mono hbw.size)
            clear hb3 hbw l0 k0 f0 hr3 hgs
            obtain ⟨l0, k0, f0⟩ := s0
            have s0 := Own.mk l0 k0 f0
            have hN : Hid (fewN cw B D R = fewV B D R ∧ fewE cw B D R = 0) := by show _ ∧ _; unfold fewN fewE; rw [if_pos H.out]; exact ⟨rfl, H.out⟩
            have hfw := HF.out.few
            obtain ⟨F, hFe⟩ : ∃ x, fewV B D R = x := ⟨_, rfl⟩
            obtain ⟨W, hWe⟩ : ∃ x, wrongsL B l R = x := ⟨_, rfl⟩
            have HWE := Lib.hid hWe
            rw [hFe] at hN hfw
            rw [hWe] at hfw
            clear hFe hWe
            go_wp2_with fail
            refine (fewest33 A0 A1 A2 n0 n1 n2 c0 c1 c2 cw B D R _ (HC.out.below hB3 (Nat.le_refl _))).mono ?_
            rw [hN.out.1, hN.out.2]
            rintro e w4 ⟨rfl, hb4⟩
            replace s0 := s0.below hb4 s0.lt
            replace s1 := s1.below hb4 s1.lt
            have hB4 := hB3.trans (hb4.mono hB3.size)
            replace HR3 := Lib.hid (HR3.out.below hb4 (Nat.le_refl _))
            clear hb4 hB3 l0 k0 f0
            obtain ⟨l0, k0, f0⟩ := s0
            have s0 := Own.mk l0 k0 f0
            have HWR := wrongs49 A0 A1 A2 n0 n1 n2 c0 c1 c2 cw A c l B D R w4 (HC.out.below hB4 (Nat.le_refl _)) hV (HX.out.below hB4 (Nat.le_refl _)) HO
            rw [← HN.out, HWE.out] at HWR
            have HWR := Lib.hid HWR
            go_wp2_with fail
            refine HWR.out.mono ?_
            rintro e w5 ⟨rfl, hb5⟩
            replace s0 := s0.below hb5 s0.lt
            replace s1 := s1.below hb5 s1.lt
            have hB5 := hB4.trans (hb5.mono hB4.size)
            replace HR3 := Lib.hid (HR3.out.below hb5 (Nat.le_refl _))
            clear hb5 hB4 l0 k0 f0 HWR
            obtain ⟨l0, k0, f0⟩ := s0
            have s0 := Own.mk l0 k0 f0
            have HRG := Lib.hid HR3.out
            go_wp2
            go_loopg [14] gs.length (fun K y wr => ∃ j : Nat, K + j = gs.length ∧ y = .int .i64 j ∧ Own wr w.heap.size [.slice A0 n0 c0, .slice A1 n1 c1, .slice A2 n2 c2, .int .i64 cw] ∧ Own wr (w.heap.size + 1) [.int .i64 p, .int .i64 q] ∧ Below w.heap.size w wr ∧ Below w5.heap.size w5 wr)
            case atStart => exact ⟨0, by omega, rfl, s0, s1, hB5, Below.refl _ _⟩
            case round =>
              clear s0 s1 l0 k0 f0 hB5
              obtain ⟨wi, rfl⟩ : ∃ wi : World, wi = wr := ⟨_, rfl⟩
              obtain ⟨j, hj, rfl, s0, s1, hbw, hbv⟩ := hrel
              obtain ⟨l0, k0, f0⟩ := s0
              have s0 := Own.mk l0 k0 f0
              by_cases hjl : j < gs.length
              · obtain ⟨g, hg⟩ : ∃ g, Hid (gs[j]? = some g) := ⟨gs[j]'hjl, by simp [Hid]⟩
                obtain ⟨i, r, rfl, hri, hrr⟩ := HSTR.out g (List.mem_of_getElem? hg.out)
                have HRI := Lib.hid hri
                have hrm := List.mem_of_getElem? hri
                have hin2 : i < n2 := by have := (List.getElem?_eq_some_iff.1 hri).1; have := HL2.out; omega
                obtain ⟨v1, v2, v3, v4, v5, v6, v7⟩ := hV.out.rs r hrm
                obtain ⟨d, f, t, s⟩ := r
                dsimp only at v1 v2 hrr
                obtain ⟨d, rfl⟩ := Int.eq_ofNat_of_zero_le v1
                rw [Int.toNat_natCast] at hrr
                have hdD : d < D.length := by omega
                have hdn : d < n1 := by have := HL1.out; omega
                obtain ⟨b, off, rfl, hb, e0, e1, e2, e3⟩ := rd_rep (HC.out.below hbw (Nat.le_refl _)).r2 hri
                dsimp only at e0 e1 e2 e3
                obtain ⟨b3, o3, rfl, hb3, g3⟩ := (HRG.out.below hbv (Nat.le_refl _)).elem hg.out
                have hxb := opn_bounds hV.out HO.out hdD
                obtain ⟨x, hx⟩ : ∃ x, l.getD d 0 = x := ⟨_, rfl⟩
                have hat := getD_at (show d < l.length by have := HN.out; omega)
                rw [hx] at hat hrr hxb
                obtain ⟨b9, o9, rfl, hb9, g9⟩ := (HX.out.below hbw (Nat.le_refl _)).elem hat
                have hx0 := Aft.cell s0
                have hx1 := fun s : Aft wi => (Aft.old s hb _).trans e0
                have hx2 := fun s : Aft wi => (Aft.old s hb _).trans e1
                have hx3 := fun s : Aft wi => (Aft.old s hb _).trans e2
                have hx4 := fun s : Aft wi => (Aft.old s hb _).trans e3
                have hx5 := fun s : Aft wi => (Aft.old s hb3 _).trans g3
                have hx6 := fun s : Aft wi => (Aft.old s hb9 _).trans g9
                have HR := fun s' : Aft wi => isRight50 A0 A1 (some ⟨b, off, none⟩) n0 n1 n2 c0 c1 c2 cw ⟨d, f, t, s⟩ x B D R s'.w ((HC.out.below hbw (Nat.le_refl _)).below s'.h (Nat.le_refl _)) hV hxb hrm
                dsimp only at HR
                rw [hrr] at HR
                have HR := Lib.hid HR
                have hq1 : decide ((i : Int) < 0) = false := by simp
                have hq2 : decide (((n2 : Nat) : Int) ≤ (i : Int)) = false := by simp; omega
                have hq3 : decide (n2 ≤ i) = false := by simp; omega
                have hq4 : ¬ n2 ≤ i := by omega
                clear e0 e1 e2 e3 g3 g9 hat hx hrm hri hrr v2 v3 v4 v5 v6 v7
                go_wp2
                refine wp_region_aft (by kernel_rfl) (by kernel_rfl) ?_; (repeat (go_big_quiet_step ((go_at_call 50; exact aft_of (HR.out _))))); refine wpQuiet_nil ?_; rintro w7 ⟨⟨_, hb7⟩, rfl⟩
                replace s0 := s0.below hb7 s0.lt
                replace s1 := s1.below hb7 s1.lt
                have hB7 := hbw.trans (hb7.mono hbw.size)
                have hV7 := hbv.trans (hb7.mono hbv.size)
                clear hx0 hx1 hx2 hx3 hx4 hx5 hx6 hb7
                go_wp2
                go_roundg (gs.length - (j + 1))
                case measure => omega
                case rel => exact ⟨j + 1, by omega, by go_num, s0, s1, hB7, hV7⟩
              · obtain ⟨l1, k1, f1⟩ := s1
                have s1 := Own.mk l1 k1 f1
                go_wp2_with fail
                refine (isDivider32 _ _ _ _ _ _ _ _ _ _ _ _ hl1).mono ?_
                cases hpd : btw p 0 ((n1 : Int) - 1)
                · rintro e w6 ⟨rfl, hb6⟩
                  have hB6 := hbw.trans (hb6.mono hbw.size)
                  clear hpd hb6
                  (go_wp2_with fail; refine (works21 _ (HT.out.below hB6 (Nat.le_refl _))).mono ?_; rintro e w9 ⟨rfl, hb9⟩; go_wp2; go_ret; exact ⟨rfl, by (repeat' (first | (with_reducible exact Below.refl _ _) | (with_reducible assumption) | (with_reducible refine Below.drew ?_) | (with_reducible refine below_drewN ?_ _) | (with_reducible refine Below.setCell ?_ ?_ _) | (with_reducible refine Below.alloc ?_ ?_ _) | (refine Below.trans ?_ (Below.mono (by with_reducible assumption) ?_)) | omega | (exact Below.size (by with_reducible assumption)) | (simp; done) | (simp; omega)))⟩)
                · rintro e w6 ⟨rfl, hb6⟩
                  have hpb := btw_iff.1 hpd
                  replace s0 := s0.below hb6 s0.lt
                  replace s1 := s1.below hb6 s1.lt
                  have hB6 := hbw.trans (hb6.mono hbw.size)
                  clear hpd hb6 hbw hbv l0 k0 f0 l1 k1 f1
                  obtain ⟨l0, k0, f0⟩ := s0
                  have s0 := Own.mk l0 k0 f0
                  obtain ⟨l1, k1, f1⟩ := s1
                  have s1 := Own.mk l1 k1 f1
                  go_wp2_with fail
                  refine (isDivider32 _ _ _ _ _ _ _ _ _ _ _ _ hl1).mono ?_
                  cases hqd : btw q 0 ((n1 : Int) - 1)
                  · rintro e w7 ⟨rfl, hb7⟩
                    have hB7 := hB6.trans (hb7.mono hB6.size)
                    clear hqd hb7
                    (go_wp2_with fail; refine (works21 _ (HT.out.below hB7 (Nat.le_refl _))).mono ?_; rintro e w9 ⟨rfl, hb9⟩; go_wp2; go_ret; exact ⟨rfl, by (repeat' (first | (with_reducible exact Below.refl _ _) | (with_reducible assumption) | (with_reducible refine Below.drew ?_) | (with_reducible refine below_drewN ?_ _) | (with_reducible refine Below.setCell ?_ ?_ _) | (with_reducible refine Below.alloc ?_ ?_ _) | (refine Below.trans ?_ (Below.mono (by with_reducible assumption) ?_)) | omega | (exact Below.size (by with_reducible assumption)) | (simp; done) | (simp; omega)))⟩)
                  · rintro e w7 ⟨rfl, hb7⟩
                    have hqb := btw_iff.1 hqd
                    replace s0 := s0.below hb7 s0.lt
                    replace s1 := s1.below hb7 s1.lt
                    have hB7 := hB6.trans (hb7.mono hB6.size)
                    clear hqd hb7 hB6 l0 k0 f0 l1 k1 f1
                    obtain ⟨p, rfl⟩ := Int.eq_ofNat_of_zero_le hpb.1
                    obtain ⟨q, rfl⟩ := Int.eq_ofNat_of_zero_le hqb.1
                    have hpn : p < n1 := by omega
                    have hqn : q < n1 := by omega
                    have hpD : p < D.length := by have := HL1.out; omega
                    have hqD : q < D.length := by have := HL1.out; omega
                    clear hpb hqb
                    obtain ⟨l0, k0, f0⟩ := s0
                    have s0 := Own.mk l0 k0 f0
                    obtain ⟨l1, k1, f1⟩ := s1
                    have s1 := Own.mk l1 k1 f1
                    have hE2 : Hid (opE cw B D R (isDv2 D p q) = 0) := HF.out.op _ (by unfold isDv2 isDv; rw [btw_iff.2 (by omega), btw_iff.2 (by omega)]; rfl)
                    have hlon := HF.out.lon p q hpD hqD
                    have hxb := opn_bounds hV.out HO.out hpD
                    have hyb := opn_bounds hV.out HO.out hqD
                    have hat := getD_at (show p < l.length by have := HN.out; omega)
                    have hbt := getD_at (show q < l.length by have := HN.out; omega)
                    obtain ⟨x, hx⟩ : ∃ x, l.getD p 0 = x := ⟨_, rfl⟩
                    obtain ⟨y, hy⟩ : ∃ x, l.getD q 0 = x := ⟨_, rfl⟩
                    obtain ⟨N, hNe⟩ : ∃ x, lonN cw B D R p q = x := ⟨_, rfl⟩
                    have HNE := Lib.hid hNe
                    rw [hx, hy, hNe] at hlon
                    rw [hx] at hat hxb
                    rw [hy] at hbt hyb
                    have HAT := Lib.hid hat
                    have HBT := Lib.hid hbt
                    have HLON := Lib.hid hlon
                    clear hx hy hNe hat hbt hlon
                    go_wp2_with fail
                    refine (longer29 A0 A1 A2 n0 n1 n2 c0 c1 c2 cw p q B D R _ (HC.out.below hB7 (Nat.le_refl _)) (HT.out.below hB7 (Nat.le_refl _))).mono ?_
                    rw [HNE.out, hE2.out]
                    rintro e w8 ⟨rfl, hb8⟩
                    replace s0 := s0.below hb8 s0.lt
                    replace s1 := s1.below hb8 s1.lt
                    have hB8 := hB7.trans (hb8.mono hB7.size)
                    clear hb8 hB7 l0 k0 f0 l1 k1 f1
                    obtain ⟨b9, o9, rfl, hb9, g9⟩ := (HX.out.below hB8 (Nat.le_refl _)).elem HAT.out
                    obtain ⟨b10, o10, hbb, hb10, g10⟩ := (HX.out.below hB8 (Nat.le_refl _)).elem HBT.out
                    cases hbb
                    go_wp2
                    have hd9 : w8.drew.cell? ⟨b9, o9 + p, none⟩ = some (.int .i64 x) := g9
                    have hd10 : w8.drew.cell? ⟨b9, o9 + q, none⟩ = some (.int .i64 y) := g10
                    refine rg_start (fun w' => Own w' w.heap.size [.slice A0 n0 c0, .slice A1 n1 c1, .slice A2 n2 c2, .int .i64 cw] ∧ Own w' (w.heap.size + 1) [.int .i64 p, .int .i64 q] ∧ w'.cell? ⟨b9, o9 + p, none⟩ = some (.int .i64 x) ∧ w'.cell? ⟨b9, o9 + q, none⟩ = some (.int .i64 y)) 13 (by kernel_rfl) rfl ?_
                    refine rg_take (fuel := 2) [0, 1, 2, 3, 4, 5, 6, 7, 8, 9, 10] (by kernel_rfl) (by intro _ _ d _ _ h; cases d <;> exact h) rfl (by kernel_rfl) (by kernel_rfl) ⟨s0.drew, s1.drew, hd9, hd10⟩ ?_
                    simp only [pickL, pick1, List.cons_append, List.nil_append]
                    iterate 11 (refine wpTake_cons (v := ?_) (Or.inl ⟨by rfl, ?_⟩) ?_; rotate_left; (intro w' hSw; have y0 : w'.cell? ⟨w.heap.size, 0, none⟩ = some (.slice A0 n0 c0) := hSw.1.c 0; have y1 : w'.cell? ⟨w.heap.size, 1, none⟩ = some (.slice A1 n1 c1) := hSw.1.c 1; have y2 : w'.cell? ⟨w.heap.size, 2, none⟩ = some (.slice A2 n2 c2) := hSw.1.c 2; have y3 : w'.cell? ⟨w.heap.size, 3, none⟩ = some (.int .i64 cw) := hSw.1.c 3; have z0 : w'.cell? ⟨w.heap.size + 1, 0, none⟩ = some (.int .i64 p) := hSw.2.1.c 0; have z1 : w'.cell? ⟨w.heap.size + 1, 1, none⟩ = some (.int .i64 q) := hSw.2.1.c 1; have z2 := hSw.2.2.1; have z3 := hSw.2.2.2; clear hSw; go_simp; (try with_reducible rfl)); (try simp only [Act.put, List.setIfInBounds_toArray, List.set_cons_zero, List.set_cons_succ]))
                    refine wpTake_nil ?_
                    have r0 := s0.drew
                    have r1 := s1.drew
                    have hBw := hB8.drew
                    clear s0 s1 hB8 g9 g10
                    refine rg_one (fuel := 1) 11 rfl (by kernel_rfl) (by kernel_rfl) ?_
                    simp only [pick1, wpHead]
                    intro K hK
                    rw [if_pos (by rfl)]
                    go_simp
                    refine (isLonger51 A0 A1 A2 n0 n1 n2 c0 c1 c2 cw x y B D R _ (HC.out.below hBw (Nat.le_refl _)) hV hxb hyb).mono ?_
                    obtain ⟨lb, hlb⟩ : ∃ v, longB B x y = v := ⟨_, rfl⟩
                    rw [hlb] at HLON
                    rw [hlb]
                    clear hlb
                    rintro e w10 ⟨rfl, hb11⟩
                    have hd9' := ((bcell hb11).1 b9 (o9 + p) hb9).trans hd9
                    have hd10' := ((bcell hb11).1 b9 (o9 + q) hb9).trans hd10
                    replace r0 := r0.below hb11 r0.lt
                    replace r1 := r1.below hb11 r1.lt
                    replace hBw := hBw.trans (hb11.mono hBw.size)
                    clear hb11 hd9 hd10
                    go_wp2_with fail
                    refine hK.out _ _ ⟨r0, r1, hd9', hd10'⟩ ?_
                    clear hK
                    (try simp only [Act.put, List.setIfInBounds_toArray, List.set_cons_zero, List.set_cons_succ])
                    refine rg_one (fuel := 0) 12 rfl (by kernel_rfl) (by kernel_rfl) ?_
                    simp only [pick1, wpHead]
                    intro K hK
                    rw [if_pos (by rfl)]
                    go_simp
                    refine hK.out _ _ ⟨r0, r1, hd9', hd10'⟩ ?_
                    clear hK
                    (try simp only [Act.put, List.setIfInBounds_toArray, List.set_cons_zero, List.set_cons_succ])
                    refine rg_done (by kernel_rfl) ?_
                    rcases HLON.out with ⟨rfl, rfl⟩ | ⟨rfl, rfl⟩ | rfl
                    · (go_wp2_with fail; refine (works21 _ (HT.out.below hBw (Nat.le_refl _))).mono ?_; rintro e w9 ⟨rfl, hb9⟩; go_wp2; go_ret; exact ⟨rfl, by (repeat' (first | (with_reducible exact Below.refl _ _) | (with_reducible assumption) | (with_reducible refine Below.drew ?_) | (with_reducible refine below_drewN ?_ _) | (with_reducible refine Below.setCell ?_ ?_ _) | (with_reducible refine Below.alloc ?_ ?_ _) | (refine Below.trans ?_ (Below.mono (by with_reducible assumption) ?_)) | omega | (exact Below.size (by with_reducible assumption)) | (simp; done) | (simp; omega)))⟩)
                    · (go_wp2_with fail; refine (works21 _ (HT.out.below hBw (Nat.le_refl _))).mono ?_; rintro e w9 ⟨rfl, hb9⟩; go_wp2; go_ret; exact ⟨rfl, by (repeat' (first | (with_reducible exact Below.refl _ _) | (with_reducible assumption) | (with_reducible refine Below.drew ?_) | (with_reducible refine below_drewN ?_ _) | (with_reducible refine Below.setCell ?_ ?_ _) | (with_reducible refine Below.alloc ?_ ?_ _) | (refine Below.trans ?_ (Below.mono (by with_reducible assumption) ?_)) | omega | (exact Below.size (by with_reducible assumption)) | (simp; done) | (simp; omega)))⟩)
                    · (go_wp2_with fail; refine (works21 _ (HT.out.below hBw (Nat.le_refl _))).mono ?_; rintro e w9 ⟨rfl, hb9⟩; go_wp2; go_ret; exact ⟨rfl, by (repeat' (first | (with_reducible exact Below.refl _ _) | (with_reducible assumption) | (with_reducible refine Below.drew ?_) | (with_reducible refine below_drewN ?_ _) | (with_reducible refine Below.setCell ?_ ?_ _) | (with_reducible refine Below.alloc ?_ ?_ _) | (refine Below.trans ?_ (Below.mono (by with_reducible assumption) ?_)) | omega | (exact Below.size (by with_reducible assumption)) | (simp; done) | (simp; omega)))⟩)

theorem true12x (A0 A1 A2 : Option Addr) (n0 n1 n2 c0 c1 c2 : Nat) (cw : Int) (A : Option Addr) (n c : Nat) (l : List Int) (p q : Int) (B D : List Pt) (R : List Rep) (w : World) (hC : RdC w A0 A1 A2 n0 n1 n2 B D R) (hT : Tab w) (hl : RdI w A l) (hn : n = l.length) (hnl : n ≤ 140737488355328) :
    Calls Tryd.prog 12 #[.agg #[.slice A0 n0 c0, .slice A1 n1 c1, .slice A2 n2 c2, .int .i64 cw], .slice A n c, .agg #[.int .i64 p, .int .i64 q]] w fun e w' => e = .returned (.bool true) ∧ Below w.heap.size w w' := true12 A0 A1 A2 n0 n1 n2 c0 c1 c2 cw A n c l p q B D R w hC hl hn hnl hT
end Go.Proofs.YtibkgnnpmidgfaaDoor
