/- Walks: Walk of the program. -/
import Derived.Test.YtibkgnnpmidgfaaDoorDg
namespace Go.Proofs.YtibkgnnpmidgfaaDoor
open Go.RowKit

/-- A walk, told from its end: from t down to l. -/
structure Down (B : List Pt) (o : Int) (f t : Nat) (us : List Nat) (l : Nat) : Prop where
  a : us[0]? = some t
  z : us[us.length - 1]? = some l
  s : ∀ i x y, us[i]? = some x → us[i + 1]? = some y → y < x ∧ reachB (atB B y) (atB B x) o = true
  m : ∀ x ∈ us, f ≤ x ∧ x ≤ t
theorem Down.one (B : List Pt) (o : Int) {f t : Nat} (h : f ≤ t) : Down B o f t [t] t :=
  ⟨rfl, rfl, fun i x y _ h2 => by simp at h2, fun x hx => by simp at hx; omega⟩
theorem Down.more {B : List Pt} {o : Int} {f t : Nat} {us : List Nat} {l b : Nat} (h : Down B o f t us l) (h1 : b < l) (h2 : reachB (atB B b) (atB B l) o = true) (h3 : f ≤ b) : Down B o f t (us ++ [b]) b := by
  have h0 : 0 < us.length := (List.getElem?_eq_some_iff.1 h.a).1
  have hl := h.m l (List.mem_of_getElem? h.z)
  refine ⟨by rw [List.getElem?_append_left h0]; exact h.a, by simp, fun i x y hx hy => ?_, fun x hx => ?_⟩
  · by_cases e : i + 1 < us.length
    · rw [List.getElem?_append_left (by omega)] at hx
      rw [List.getElem?_append_left e] at hy
      exact h.s i x y hx hy
    · have hi : i + 1 = us.length := by
        have := (List.getElem?_eq_some_iff.1 hy).1
        simp at this; omega
      rw [List.getElem?_append_left (by omega)] at hx
      rw [hi] at hy
      simp at hy
      subst hy
      have := h.z
      rw [← hi, Nat.add_sub_cancel, hx] at this
      cases this
      exact ⟨h1, h2⟩
  · rcases List.mem_append.1 hx with h' | h'
    · exact h.m x h'
    · simp at h'; omega
/-- A walk from bend f to bend t. -/
structure IsW (B : List Pt) (o : Int) (f t : Nat) (ws : List Nat) : Prop where
  a : ws[0]? = some f
  z : ws[ws.length - 1]? = some t
  s : ∀ i x y, ws[i]? = some x → ws[i + 1]? = some y → x < y ∧ y ≤ t
  w : okWalk B o ws = true
theorem Down.up {B : List Pt} {o : Int} {f t : Nat} {us : List Nat} (h : Down B o f t us f) : IsW B o f t us.reverse := by
  have h0 : 0 < us.length := (List.getElem?_eq_some_iff.1 h.a).1
  have key : ∀ i x y, us.reverse[i]? = some x → us.reverse[i + 1]? = some y → x < y ∧ reachB (atB B x) (atB B y) o = true := by
    intro i x y hx hy
    have h1 := (List.getElem?_eq_some_iff.1 hy).1
    rw [List.length_reverse] at h1
    rw [List.getElem?_reverse (by omega)] at hx hy
    exact h.s (us.length - 1 - (i + 1)) y x hy (by rw [show us.length - 1 - (i + 1) + 1 = us.length - 1 - i by omega]; exact hx)
  refine ⟨by rw [List.getElem?_reverse h0, Nat.sub_zero]; exact h.z, by rw [List.length_reverse, List.getElem?_reverse (by omega), show us.length - 1 - (us.length - 1) = 0 by omega]; exact h.a, fun i x y hx hy => ⟨(key i x y hx hy).1, (h.m y (List.mem_reverse.1 (List.mem_of_getElem? hy))).2⟩, ?_⟩
  unfold okWalk
  rw [List.all_eq_true]
  intro i hi
  have hi' := List.mem_range.1 hi
  obtain ⟨x, hx⟩ : ∃ x, us.reverse[i]? = some x := ⟨_, List.getElem?_eq_getElem (by omega)⟩
  obtain ⟨y, hy⟩ : ∃ y, us.reverse[i + 1]? = some y := ⟨_, List.getElem?_eq_getElem (by omega)⟩
  unfold stepB
  rw [getD_of hx, getD_of hy, reachB_comm]
  exact (key i x y hx hy).2
theorem Gro.one (w : World) (e : TypeId) (v : Value) : Gro (w.alloc (.cells #[v] e)) w.heap.size e 1 (.slice (some ⟨w.heap.size, 0, none⟩) 1 1) [[v]] :=
  ⟨by simp, by simp, Or.inr ⟨w.heap.size, 1, #[v], rfl, Nat.le_refl _, (MapKept.heap_alloc w _).1, Nat.le_refl _, by unfold maxLen; omega, rfl, rfl⟩⟩
theorem walkB_pred {B : List Pt} {o : Int} {f q l : Nat} (h : walkB B o f (q + 1) l = true) : ∃ b, f ≤ b ∧ b < l ∧ reachB (atB B b) (atB B l) o = true ∧ walkB B o f q b = true := by
  simp only [walkB, List.any_eq_true, List.mem_range, Bool.and_eq_true, decide_eq_true_eq] at h
  obtain ⟨b, hb, ⟨hf, hr⟩, hw⟩ := h
  exact ⟨b, hf, hb, hr, hw⟩

set_option maxRecDepth 100000 in
set_option maxHeartbeats 8000000 in
theorem walk43 (A0 A1 A2 : Option Addr) (n0 n1 n2 c0 c1 c2 : Nat) (cw : Int) (o : Int) (f t : Nat) (B D : List Pt) (R : List Rep) (w : World) (hC : RdC w A0 A1 A2 n0 n1 n2 B D R) (hT : Tab w) (hchk : chkE cw B D R = 0) (hb : btw o 1 60 = true) (hft : f < t) (htn : t < n0) (hz : mk B o f t ≠ 0) :
    Calls Tryd.prog 43 #[.agg #[.slice A0 n0 c0, .slice A1 n1 c1, .slice A2 n2 c2, .int .i64 cw], .int .i64 o, .int .i64 f, .int .i64 t] w fun e w' => ∃ (A : Option Addr) (cap : Nat) (ws : List Nat), e = .returned (.tuple #[.slice A ws.length cap, .int .i64 0]) ∧ RdI w' A (natI ws) ∧ IsW B o f t ws ∧ ws.length = lowN (mk B o f t) + 1 ∧ Below w.heap.size w w' := by
  obtain ⟨i0, hi0, hi1, hi2, hi3⟩ := info_parts Tryd.info3
  have HC := Lib.hid hC
  have HT := Lib.hid hT
  have hn0 := hC.l0
  have HL := Lib.hid hC.h0
  clear hC hT
  have o0 : Own (w.alloc (.cells #[.slice A0 n0 c0, .slice A1 n1 c1, .slice A2 n2 c2, .int .i64 cw] 26)) w.heap.size [.slice A0 n0 c0, .slice A1 n1 c1, .slice A2 n2 c2, .int .i64 cw] := Own.new' _ _ rfl rfl
  have oB : Below w.heap.size w (w.alloc (.cells #[.slice A0 n0 c0, .slice A1 n1 c1, .slice A2 n2 c2, .int .i64 cw] 26)) := by (repeat' (first | (with_reducible exact Below.refl _ _) | (with_reducible assumption) | (with_reducible refine Below.drew ?_) | (with_reducible refine below_drewN ?_ _) | (with_reducible refine Below.setCell ?_ ?_ _) | (with_reducible refine Below.alloc ?_ ?_ _) | (refine Below.trans ?_ (Below.mono (by with_reducible assumption) ?_)) | omega | (exact Below.size (by with_reducible assumption)) | (simp; done) | (simp; omega)))
  have hx0 := Aft.cell o0
  have hask : ∀ (v : Bool) (x : Aft (w.alloc (.cells #[.slice A0 n0 c0, .slice A1 n1 c1, .slice A2 n2 c2, .int .i64 cw] 26))), Calls Tryd.prog 61 #[.agg #[.slice A0 n0 c0, .slice A1 n1 c1, .slice A2 n2 c2, .int .i64 cw], .bool v] x.w (fun e w' => e = .returned (.int .i64 (askE cw B D R v)) ∧ Below x.w.heap.size x.w w') :=
    fun v x => ask61 A0 A1 A2 n0 n1 n2 c0 c1 c2 cw v B D R x.w (HC.out.below (oB.trans (x.h.mono oB.size)) (Nat.le_refl _))
  have HA := Lib.hid hask
  clear hask
  have hV := Lib.hid (val_of (chk_ok hchk))
  have hbo := btw_iff.1 hb
  have HE : Hid (askE cw B D R true = 0) := by show _ = _; rw [ask_ok hchk, if_pos rfl]
  have HB := Lib.hid hb
  have HP := Lib.hid (plB_iff.2 (by omega) : plB n0 f t = true)
  have hn : n0 ≤ 12 := by have := hV.out.b2; have := HL.out; omega
  have hm := mk_lt13 B o f t (by omega)
  have HLB := Lib.hid (lowN_bit hz hm)
  have hll := lowN_le hm
  clear hb hchk
  go_enter Tryd.func43, Tryd.ntmps43
  go_wp2
  refine wp_region_aft (by kernel_rfl) (by kernel_rfl) ?_; (repeat (go_big_quiet_step ((first | (go_at_call 64; exact aft_same (cbP HB.out (isOpening64 _ _))) | (go_at_call 62; exact aft_of (cbB HP.out (arePlaces62 _ _ _ _ _ _ _ _ _ _ _ _ _ hn0 (by omega) (by omega)))) | (go_at_call 61; exact aft_of (ciB HE.out (HA.out _ _))))))); refine wpQuiet_nil ?_; rintro w1 ⟨⟨_, hb1⟩, rfl⟩
  have hB1 : Below w.heap.size w w1 := by (repeat' (first | (with_reducible exact Below.refl _ _) | (with_reducible assumption) | (with_reducible refine Below.drew ?_) | (with_reducible refine below_drewN ?_ _) | (with_reducible refine Below.setCell ?_ ?_ _) | (with_reducible refine Below.alloc ?_ ?_ _) | (refine Below.trans ?_ (Below.mono (by with_reducible assumption) ?_)) | omega | (exact Below.size (by with_reducible assumption)) | (simp; done) | (simp; omega)))
  have r0 := o0.below hb1 o0.lt
  obtain ⟨l1, k1, f1⟩ := r0
  have q1 := Own.mk l1 k1 f1
  clear hx0 o0 oB hb1
  go_wp2_with fail
  refine (counts65 A0 A1 A2 n0 n1 n2 c0 c1 c2 cw B D R o f _ (HC.out.below hB1 (Nat.le_refl _)) hV.out.pts (by omega) hn (by omega)).mono ?_
  rintro e w2 ⟨b, cap, hge, rfl, ho2, hb2⟩
  have k2 := (ho2.c t).trans (masks_uv B o f n0 t htn)
  have q2 := q1.below hb2 q1.lt
  have hB2 : Below w.heap.size w w2 := by (repeat' (first | (with_reducible exact Below.refl _ _) | (with_reducible assumption) | (with_reducible refine Below.drew ?_) | (with_reducible refine below_drewN ?_ _) | (with_reducible refine Below.setCell ?_ ?_ _) | (with_reducible refine Below.alloc ?_ ?_ _) | (refine Below.trans ?_ (Below.mono (by with_reducible assumption) ?_)) | omega | (exact Below.size (by with_reducible assumption)) | (simp; done) | (simp; omega)))
  have hzb : (((mk B o f t : Nat) : Int) == 0) = false := by simp; omega
  clear hB1 hb2 q1 l1 k1 f1 hz
  have g2 := Gro.one w2 3 (.int .i64 t)
  have hBa : Below w2.heap.size w2 (w2.alloc (.cells #[.int .i64 t] 3)) := by (repeat' (first | (with_reducible exact Below.refl _ _) | (with_reducible assumption) | (with_reducible refine Below.drew ?_) | (with_reducible refine below_drewN ?_ _) | (with_reducible refine Below.setCell ?_ ?_ _) | (with_reducible refine Below.alloc ?_ ?_ _) | (refine Below.trans ?_ (Below.mono (by with_reducible assumption) ?_)) | omega | (exact Below.size (by with_reducible assumption)) | (simp; done) | (simp; omega)))
  have k3 := ((bcell hBa).1 b t ho2.lt).trans k2
  go_wp2_with (first | (go_at_call 66; refine (least66 _ _ hm ((HT.out.below hB2 (Nat.le_refl _)).below hBa (Nat.le_refl _))).mono ?_; rintro e w3 ⟨rfl, rfl⟩) | fail)
  have hM2 := ho2.below hBa ho2.lt
  have q3 := q2.below hBa q2.lt
  have hB3 : Below w.heap.size w (w2.alloc (.cells #[.int .i64 t] 3)) := by (repeat' (first | (with_reducible exact Below.refl _ _) | (with_reducible assumption) | (with_reducible refine Below.drew ?_) | (with_reducible refine below_drewN ?_ _) | (with_reducible refine Below.setCell ?_ ?_ _) | (with_reducible refine Below.alloc ?_ ?_ _) | (refine Below.trans ?_ (Below.mono (by with_reducible assumption) ?_)) | omega | (exact Below.size (by with_reducible assumption)) | (simp; done) | (simp; omega)))
  have hzt : w.heap.size < w2.heap.size := q2.lt
  have hzm : b < w2.heap.size := ho2.lt
  have hwt : walkB B o f (lowN (mk B o f t)) t = true := by rw [← mk_bit]; exact HLB.out.1
  have HWT := Lib.hid hwt
  clear k3 k2 hwt q2 HT hM2
  have hM2 := fun i (hi : i < n0) => (show (w2.alloc (.cells #[.int .i64 t] 3)).cell? ⟨b, i, none⟩ = some (.int .u64 (mk B o f i)) from ((bcell hBa).1 b i hzm).trans ((ho2.c i).trans (masks_uv B o f n0 i hi)))
  clear ho2
  obtain ⟨L, hL⟩ : ∃ L, lowN (mk B o f t) = L := ⟨_, rfl⟩
  rw [hL] at hll HWT
  have HLL := Lib.hid hL
  clear hL HLB
  go_loopg [12, 13] L (fun K v y wr => ∃ (q : Nat) (us : List Nat) (l : Nat), K = q ∧ q ≤ L ∧ y = .int .i64 ((q : Int) - 1) ∧ Hid (Down B o f t us l) ∧ Hid (us.length = L - q + 1) ∧ Hid (walkB B o f q l = true) ∧ Gro wr w2.heap.size 3 1 v ((natI us).map irow) ∧ Below w.heap.size w wr ∧ Below w2.heap.size (w2.alloc (.cells #[.int .i64 t] 3)) wr)
  case atStart => exact ⟨L, [t], t, rfl, Nat.le_refl _, (by rw [HLL.out]), Down.one B o (by omega), by simp [Hid], HWT, g2, hB3, Below.refl _ _⟩
  case round =>
    obtain ⟨q, us, l, hKq, hqL, rfl, hD, hul, hW, hg, hbw, hbv⟩ := hrel
    obtain ⟨A5, cap5, rfl, hrd⟩ := hg.out
    have HRD := Lib.hid hrd
    have hlm : ((natI us).map irow).length = us.length := by rw [List.length_map]; unfold natI; rw [List.length_map]
    rw [hlm]
    rw [hlm] at hg
    have hzr : w2.heap.size + 1 ≤ wr.heap.size := by have := hbv.size; simpa using this
    have hmk : ∀ i, i < n0 → wr.cell? ⟨b, i, none⟩ = some (.int .u64 (mk B o f i)) := fun i hi => ((bcell hbv).1 b i hzm).trans (hM2 i hi)
    have HMK := Lib.hid hmk
    have hu13 : us.length ≤ 13 := by have := hul.out; omega
    clear hmk hrd
    cases q with
    | zero =>
      have hWo := hW.out
      simp [walkB] at hWo
      subst hWo
      go_wp2_with fail
      refine (reverse82 _ w2.heap.size _ (natI us) hg (by unfold natI; rw [List.length_map]; have := hul.out; omega) (by unfold natI; rw [List.length_map]; omega)).mono ?_
      rintro e w4 ⟨rfl, ⟨A6, cap6, hv6, hr6⟩, hb4⟩
      obtain ⟨rfl, hxx, rfl⟩ : A5 = A6 ∧ us.length = (natI us).length ∧ cap5 = cap6 := by simpa using hv6
      clear hxx hv6
      have hB4 : Below w.heap.size w w4 := hbw.trans (hb4.mono (by omega))
      have hnr : (natI us).reverse = natI us.reverse := by unfold natI; rw [List.map_reverse]
      go_wp2
      go_ret2
      refine ⟨A5, cap5, us.reverse, ?_, by rw [← hnr]; exact hr6, hD.out.up, by rw [List.length_reverse, hul.out, HLL.out]; omega, hB4⟩
      rw [List.length_reverse]; rfl
    | succ q =>
      have hqe : (((q + 1 : Nat) : Int) - 1) = (q : Int) := by omega
      rw [hqe]
      have hDl := hD.out.m l (List.mem_of_getElem? hD.out.z)
      have hus0 : 0 < us.length := (List.getElem?_eq_some_iff.1 hD.out.a).1
      obtain ⟨b5, o5, rfl, hl5, g5⟩ := RdI.elem (xs := natI us) HRD.out (natI_at hD.out.z)
      have HS := Lib.hid (fun (h : ∀ z, f ≤ z → z < l → (walkB B o f q z && reachB (atB B z) (atB B l) o) = false) => (by
        obtain ⟨z, h1, h2, h3, h4⟩ := walkB_pred hW.out
        have h5 := h z h1 h2
        rw [h3, h4] at h5
        exact absurd h5 (by decide) : False))
      go_wp2
      go_loopg [12, 15] (l - f) (fun K v y wi => ∃ x : Nat, K + x = l ∧ f ≤ x ∧ y = .int .i64 x ∧ v = .slice (some ⟨b5, o5, none⟩) us.length cap5 ∧ Hid (∀ z, f ≤ z → z < x → (walkB B o f q z && reachB (atB B z) (atB B l) o) = false) ∧ Gro wi w2.heap.size 3 1 (.slice (some ⟨b5, o5, none⟩) us.length cap5) ((natI us).map irow) ∧ Below w.heap.size w wi ∧ Below w2.heap.size (w2.alloc (.cells #[.int .i64 t] 3)) wi)
      case atStart => exact ⟨f, by omega, Nat.le_refl _, rfl, rfl, (fun z h1 h2 => by omega), hg, hbw, hbv⟩
      case round =>
        clear hg hbw hbv g5 hl5 HMK HRD
        obtain ⟨x, hx, hfx, rfl, rfl, hno, hg, hbw, hbv⟩ := hrel
        obtain ⟨wo, rfl⟩ : ∃ wo : World, wo = wr := ⟨_, rfl⟩
        by_cases hlt : x < l
        · have p0 := q3.below hbv hzt
          have hmx : wo.cell? ⟨b, x, none⟩ = some (.int .u64 (mk B o f x)) := ((bcell hbv).1 b x hzm).trans (hM2 x (by omega))
          have hbl : b < wo.heap.size := by have := hbv.size; simp at this; omega
          have hbt := bit_test (mk B o f x) q (mk_lt13 B o f x (by omega))
          obtain ⟨⟨gx, gy⟩, hg1⟩ : ∃ g, Hid (B[x]? = some g) := ⟨B[x]'(by have := HL.out; omega), by simp [Hid]⟩
          obtain ⟨⟨kx, ky⟩, hg2⟩ : ∃ g, Hid (B[l]? = some g) := ⟨B[l]'(by have := HL.out; omega), by simp [Hid]⟩
          have ha1 := Lib.hid (atB_of hg1.out)
          have ha2 := Lib.hid (atB_of hg2.out)
          obtain ⟨⟨y1, y2⟩, y3, y4⟩ := hV.out.pts _ _ hg1.out
          obtain ⟨⟨z1, z2⟩, z3, z4⟩ := hV.out.pts _ _ hg2.out
          dsimp only at y1 y2 y3 y4 z1 z2 z3 z4
          obtain ⟨b0, off, rfl, hb0, hc0, hc1⟩ := rd_pt (HC.out.below hbw (Nat.le_refl _)).r0 hg1.out
          obtain ⟨b1, off1, hbb, hb1, hd0, hd1⟩ := rd_pt (HC.out.below hbw (Nat.le_refl _)).r0 hg2.out
          obtain ⟨rfl, rfl⟩ : b0 = b1 ∧ off = off1 := by simpa using hbb
          dsimp only at hc0 hc1 hd0 hd1
          have hx0 := Aft.cell p0
          have hx1 := fun s : Aft wo => (Aft.old s hb0 _).trans hc0
          have hx2 := fun s : Aft wo => (Aft.old s hb0 _).trans hc1
          have hx3 := fun s : Aft wo => (Aft.old s hb0 _).trans hd0
          have hx4 := fun s : Aft wo => (Aft.old s hb0 _).trans hd1
          have hx5 := fun s : Aft wo => (Aft.old s hbl _).trans hmx
          have hq64 : (q : Int) ≤ 64 := by omega
          clear hbb hc0 hc1 hd0 hd1 hmx
          cases hbit : (mk B o f x).testBit q
          · rw [hbit] at hbt
            have hno2 : Hid (∀ z, f ≤ z → z < x + 1 → (walkB B o f q z && reachB (atB B z) (atB B l) o) = false) := fun z h1 h2 => (by
              by_cases e : z = x
              · subst e; rw [← mk_bit, hbit]; rfl
              · exact hno.out z h1 (by omega))
            clear hbit
            go_wp2
            refine wp_region_aft (by kernel_rfl) (by kernel_rfl) ?_; (repeat (go_big_quiet_step (fail))); refine wpQuiet_nil ?_; rintro w5 ⟨⟨_, hb5⟩, rfl⟩
            have hg5 := hg.below hb5 (Nat.le_refl _)
            have hB5 : Below w.heap.size w w5 := hbw.trans (hb5.mono hbw.size)
            have hV5 := hbv.trans (hb5.mono (by have := hbv.size; simp at this; omega))
            clear hx0 hx1 hx2 hx3 hx4 hx5 hb5 hg hbw hbv p0
            go_wp2
            go_roundg (l - (x + 1))
            case measure => omega
            case rel => exact ⟨x + 1, by omega, by omega, by go_num, rfl, hno2, hg5, hB5, hV5⟩
          · rw [hbit] at hbt
            cases hr : reachB (gx, gy) (kx, ky) o
            · have hno2 : Hid (∀ z, f ≤ z → z < x + 1 → (walkB B o f q z && reachB (atB B z) (atB B l) o) = false) := fun z h1 h2 => (by
                by_cases e : z = x
                · subst e; rw [ha1.out, ha2.out, hr, Bool.and_false]
                · exact hno.out z h1 (by omega))
              clear hbit
              go_wp2
              refine wp_region_aft (by kernel_rfl) (by kernel_rfl) ?_; (repeat (go_big_quiet_step ((go_at_call 81; exact aft_of (reaches81v hr _ ⟨y1, y2⟩ ⟨y3, y4⟩ ⟨z1, z2⟩ ⟨z3, z4⟩ ⟨by omega, by omega⟩))))); refine wpQuiet_nil ?_; rintro w5 ⟨⟨_, hb5⟩, rfl⟩
              have hg5 := hg.below hb5 (Nat.le_refl _)
              have hB5 : Below w.heap.size w w5 := hbw.trans (hb5.mono hbw.size)
              have hV5 := hbv.trans (hb5.mono (by have := hbv.size; simp at this; omega))
              clear hx0 hx1 hx2 hx3 hx4 hx5 hb5 hg hbw hbv p0
              go_wp2
              go_roundg (l - (x + 1))
              case measure => omega
              case rel => exact ⟨x + 1, by omega, by omega, by go_num, rfl, hno2, hg5, hB5, hV5⟩
            · have hwx : Hid (walkB B o f q x = true) := by show _ = _; rw [← mk_bit]; exact hbit
              have hDx := Lib.hid (hD.out.more hlt (by rw [ha1.out, ha2.out]; exact hr) hfx)
              have hux : Hid ((us ++ [x]).length = L - q + 1) := by show _ = _; rw [List.length_append, hul.out, List.length_singleton]; omega
              have hnx : natI (us ++ [x]) = natI us ++ [(x : Int)] := by unfold natI; rw [List.map_append]; rfl
              have HNX := Lib.hid hnx
              clear hbit hnx
              go_wp2
              refine wp_region_aft (by kernel_rfl) (by kernel_rfl) ?_; (repeat (go_big_quiet_step ((go_at_call 81; exact aft_of (reaches81v hr _ ⟨y1, y2⟩ ⟨y3, y4⟩ ⟨z1, z2⟩ ⟨z3, z4⟩ ⟨by omega, by omega⟩))))); refine wpQuiet_nil ?_; rintro w5 ⟨⟨_, hb5⟩, rfl⟩
              have hg5 := hg.below hb5 (Nat.le_refl _)
              have hB5 : Below w.heap.size w w5 := hbw.trans (hb5.mono hbw.size)
              have hV5 := hbv.trans (hb5.mono (by have := hbv.size; simp at this; omega))
              have hz5 : w2.heap.size ≤ w5.heap.size := by have := hV5.size; simp at this; omega
              clear hx0 hx1 hx2 hx3 hx4 hx5 hb5 hg hbw hbv p0
              have ho5 := hg5.2
              rw [hlm] at ho5
              go_wp2_with (at_builtin; go_must (refine wpList_append_own _ rfl _ _ 46 rfl w2.heap.size 3 i0 (.int .i64 0) 1 8 Tryd.underlying46 hi0 hi1 hi2 hi3 rfl (by decide) (.slice (some ⟨b5, o5, none⟩) us.length cap5) us.length ((natI us).map irow).flatten rfl (ho5.alloc _) ⟨w5.heap.size, 0, none⟩ 1 1 [.int .i64 (x : Int)] rfl rfl (cell_one_new _ _ _) (by intro u hu; simp at hu; subst hu; rfl) (by unfold maxLen; omega) (by omega) (by simp; omega) ?_; intro v' w8 hown' hgrow hnil; have hbA : Below w2.heap.size w5 w8 := ((Below.refl _ w5).alloc hz5 _).grown hgrow (by simp; omega) (fun i hi => (ho5.lt i hi).1); have hg8 : Gro w8 w2.heap.size 3 1 v' ((natI us).map irow ++ [irow (x : Int)]) := Gro.grown hg5 rfl (by rw [hlm]; exact hown'); clear hown' hgrow hnil))
              go_roundg q
              case measure => omega
              case rel => exact ⟨q, us ++ [x], x, rfl, by omega, rfl, hDx, hux, hwx, (by rw [HNX.out, List.map_append]; exact hg8), hB5.trans (hbA.mono (by omega)), hV5.trans hbA⟩
        · exact (HS.out (fun z h1 h2 => hno.out z h1 (by omega))).elim

end Go.Proofs.YtibkgnnpmidgfaaDoor
