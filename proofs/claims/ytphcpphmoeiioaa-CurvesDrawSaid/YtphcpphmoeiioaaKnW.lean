/- Walks: known of the reference: all truths. -/
import Derived.Test.YtphcpphmoeiioaaAlW
import Derived.Maps.AppendAt
namespace Go.Proofs.Ytphcpphmoeiioaa
open Go.RowKit Go.Maps

theorem Truth.congr {c : Cv} {h g : Nat → Int} (k : Truth c h) (e : ∀ i, i ≤ c.long → g i = h i) : Truth c g :=
  ⟨⟨fun i hi => by rw [e i hi]; exact k.1.1 i hi, fun i hi => by rw [e i (by omega), e (i + 1) (by omega)]; exact k.1.2 i hi⟩, by rw [wUp_congr e]; exact k.2⟩
theorem fnL_map {h : Nat → Int} {n i : Nat} (hi : i < n) : fnL ((List.range n).map h) i = h i := by
  have h1 : ((List.range n).map h)[i]? = some (fnL ((List.range n).map h) i) := fnL_at (by simpa using hi)
  rw [List.getElem?_map, List.getElem?_range hi] at h1
  exact (Option.some.inj h1).symm
section
variable {L sl rl rh wg : Int} {ks : List Kn}
def okW (L wg : Int) (ks : List Kn) (l : List Int) : Bool := decide ((wUp ks (fnL l) L.toNat : Int) ≤ wg)
/-- All truths. -/
noncomputable def truL (L sl rl rh wg : Int) (ks : List Kn) : List (List Int) := (allF L.toNat sl rl rh (L.toNat + 2) []).filter (okW L wg ks)
theorem mem_truL {l : List Int} : l ∈ truL L sl rl rh wg ks ↔ l.length = L.toNat + 1 ∧ Truth (cvOf L sl rl rh wg ks) (fnL l) := by
  unfold truL okW
  rw [List.mem_filter, mem_allF (by simp) (by simp), decide_eq_true_eq]
  constructor
  · rintro ⟨⟨_, h1, h2⟩, h3⟩
    exact ⟨h1, (soL_ok h1).1 h2, h3⟩
  · rintro ⟨h1, h2, h3⟩
    exact ⟨⟨⟨l, by simp⟩, h1, (soL_ok h1).2 h2⟩, h3⟩
/-- Each truth stands in it. -/
theorem truL_has {h : Nat → Int} (k : Truth (cvOf L sl rl rh wg ks) h) : (List.range (L.toNat + 1)).map h ∈ truL L sl rl rh wg ks ∧ ∀ i, i ≤ L.toNat → fnL ((List.range (L.toNat + 1)).map h) i = h i := by
  have e : ∀ i, i ≤ L.toNat → fnL ((List.range (L.toNat + 1)).map h) i = h i := fun i hi => fnL_map (by omega)
  exact ⟨mem_truL.2 ⟨by simp, k.congr e⟩, e⟩
theorem truL_nil : truL L sl rl rh wg ks = [] ↔ ¬ ∃ h, Truth (cvOf L sl rl rh wg ks) h := by
  constructor
  · rintro e ⟨h, k⟩
    have := (truL_has k).1
    rw [e] at this; cases this
  · intro h
    cases e : truL L sl rl rh wg ks with
    | nil => rfl
    | cons l ls => exact absurd ⟨_, (mem_truL.1 (show l ∈ truL L sl rl rh wg ks by rw [e]; exact List.mem_cons_self ..)).2⟩ h
def KnR (L sl rl rh wg : Int) (ks : List Kn) (is : Bool) (ls : List (List Int)) (er : Int) : Prop :=
  OpenR L sl rl rh wg ks is er ∧ (er = 0 → ls = truL L sl rl rh wg ks) ∧ (er ≠ 0 → ls = [])
theorem hasT_none {c : Cv} : HasT c (fun _ => none) ↔ ∃ h, Truth c h := ⟨fun ⟨h, k, _⟩ => ⟨h, k⟩, fun ⟨h, k⟩ => ⟨h, k, fun _ _ _ hn => nomatch hn⟩⟩
end
set_option maxRecDepth 100000 in
set_option maxHeartbeats 8000000 in
theorem known54 (L sl rl rh wg : Int) (A0 : Option Addr) (n0 c0 : Nat) (ks : List Kn) (is : Bool) (w : World) (hA : Rd 3 w A0 (ks.map krow)) (hn : Hid (n0 = ks.length)) (hlen : n0 ≤ 9223372036854775807) (hfar : Hid (farB L sl rl rh wg ks = false)) :
    Calls Try.prog 54 #[.agg #[.int .i64 L, .int .i64 sl, .int .i64 rl, .int .i64 rh, .slice A0 n0 c0, .int .i64 wg], .bool is] w fun e w' => ∃ (A : Option Addr) (c : Nat) (ls : List (List Int)) (er : Int), e = .returned (.tuple #[.slice A ls.length c, .int .i64 er]) ∧ RdLL w' A ls ∧ Hid (KnR L sl rl rh wg ks is ls er) ∧ ls.length ≤ 1500 ∧ Below w.heap.size w w' := by
  obtain ⟨j0, hj0, hj1, hj2, hj3⟩ := info_parts info44
  have HA := Lib.hid hA
  clear hA
  have o0 : Own (w.alloc (.cells #[.int .i64 L, .int .i64 sl, .int .i64 rl, .int .i64 rh, .slice A0 n0 c0, .int .i64 wg] 26)) w.heap.size [.int .i64 L, .int .i64 sl, .int .i64 rl, .int .i64 rh, .slice A0 n0 c0, .int .i64 wg] := Own.new' _ _ rfl rfl
  have oB : Below w.heap.size w (w.alloc (.cells #[.int .i64 L, .int .i64 sl, .int .i64 rl, .int .i64 rh, .slice A0 n0 c0, .int .i64 wg] 26)) := by (repeat' (first | (with_reducible exact Below.refl _ _) | (with_reducible assumption) | (with_reducible refine Below.drew ?_) | (with_reducible refine below_drewN ?_ _) | (with_reducible refine Below.setCell ?_ ?_ _) | (with_reducible refine Below.alloc ?_ ?_ _) | (refine Below.trans ?_ (Below.mono (by with_reducible assumption) ?_)) | omega | (exact Below.size (by with_reducible assumption)) | (simp; done) | (simp; omega)))
  go_enter Try.func54, Try.ntmps54
  go_wp2_with fail
  refine (check38 L sl rl rh wg A0 n0 c0 ks _ (HA.out.below oB (Nat.le_refl _)) hn hlen).mono ?_
  cases hc : chkV L sl rl rh wg ks
  · have HN : Hid (KnR L sl rl rh wg ks is [] 70) := Lib.hid ⟨Or.inl ⟨hc, rfl⟩, fun h => by omega, fun _ => rfl⟩
    have e70 : chkE L sl rl rh wg ks = 70 := by simp [chkE, hc]
    rw [e70]
    clear hc e70
    rintro e w1 ⟨rfl, hb1⟩
    have hB1 := Lib.hid (show Below w.heap.size w w1 by (repeat' (first | (with_reducible exact Below.refl _ _) | (with_reducible assumption) | (with_reducible refine Below.drew ?_) | (with_reducible refine below_drewN ?_ _) | (with_reducible refine Below.setCell ?_ ?_ _) | (with_reducible refine Below.alloc ?_ ?_ _) | (refine Below.trans ?_ (Below.mono (by with_reducible assumption) ?_)) | omega | (exact Below.size (by with_reducible assumption)) | (simp; done) | (simp; omega))))
    clear hb1 oB o0
    go_wp2
    go_ret2
    exact ⟨none, 0, [], 70, rfl, ⟨[], Rd.nil _ _ _, InLs.nil _⟩, HN, by simp, hB1.out⟩
  have e0 : chkE L sl rl rh wg ks = 0 := by simp [chkE, hc]
  rw [e0]
  have HC := Lib.hid hc
  clear e0 hc
  cases is
  · have HN : Hid (KnR L sl rl rh wg ks false [] 1) := Lib.hid ⟨Or.inr (Or.inl ⟨HC.out, rfl, rfl⟩), fun h => by omega, fun _ => rfl⟩
    rintro e w1 ⟨rfl, hb1⟩
    have hB1 := Lib.hid (show Below w.heap.size w w1 by (repeat' (first | (with_reducible exact Below.refl _ _) | (with_reducible assumption) | (with_reducible refine Below.drew ?_) | (with_reducible refine below_drewN ?_ _) | (with_reducible refine Below.setCell ?_ ?_ _) | (with_reducible refine Below.alloc ?_ ?_ _) | (refine Below.trans ?_ (Below.mono (by with_reducible assumption) ?_)) | omega | (exact Below.size (by with_reducible assumption)) | (simp; done) | (simp; omega))))
    clear hb1 oB o0
    go_wp2
    go_ret2
    exact ⟨none, 0, [], 1, rfl, ⟨[], Rd.nil _ _ _, InLs.nil _⟩, HN, by simp, hB1.out⟩
  have hV := Lib.hid (cvV_of HC.out)
  have hbd := Lib.hid (far_rows HC.out hfar.out)
  have hl1 := hV.out.l1
  have hl2 := hV.out.l2
  rintro e w1 ⟨rfl, hb1⟩
  have q0 := o0.below hb1 o0.lt
  have hB1 : Below w.heap.size w w1 := by (repeat' (first | (with_reducible exact Below.refl _ _) | (with_reducible assumption) | (with_reducible refine Below.drew ?_) | (with_reducible refine below_drewN ?_ _) | (with_reducible refine Below.setCell ?_ ?_ _) | (with_reducible refine Below.alloc ?_ ?_ _) | (refine Below.trans ?_ (Below.mono (by with_reducible assumption) ?_)) | omega | (exact Below.size (by with_reducible assumption)) | (simp; done) | (simp; omega)))
  clear o0 oB hb1
  obtain ⟨l0, k0, f0⟩ := q0
  have q0 := Own.mk l0 k0 f0
  go_wp2_with fail
  refine (all74 L sl rl rh wg (.slice A0 n0 c0) ⟨hl1, hl2⟩ ⟨hV.out.s1, hV.out.s2⟩ ⟨hV.out.r1, hV.out.r0, hV.out.r2⟩ hbd (L.toNat + 2) [] none 0 _ (by simp) (by simp) (by omega) (RdI.nil _ _) (fun a ha => by cases ha)).mono ?_
  have hlen2 : (allF L.toNat sl rl rh (L.toNat + 2) []).length ≤ 1500 := Nat.le_trans (allF_bd hV.out.s1 hV.out.r0) hbd.out
  have HTL : Hid ((allF L.toNat sl rl rh (L.toNat + 2) []).filter (okW L wg ks) = truL L sl rl rh wg ks) := Lib.hid rfl
  have HMEM : Hid (∀ l ∈ allF L.toNat sl rl rh (L.toNat + 2) [], l.length = L.toNat + 1) := Lib.hid fun l hl => ((mem_allF (by simp) (by simp)).1 hl).2.1
  generalize allF L.toNat sl rl rh (L.toNat + 2) [] = ls at *
  rintro e w2 ⟨A2', c2', rfl, hll, hb2⟩
  have p0 := q0.below hb2 q0.lt
  have hB2 : Below w.heap.size w w2 := by (repeat' (first | (with_reducible exact Below.refl _ _) | (with_reducible assumption) | (with_reducible refine Below.drew ?_) | (with_reducible refine below_drewN ?_ _) | (with_reducible refine Below.setCell ?_ ?_ _) | (with_reducible refine Below.alloc ?_ ?_ _) | (refine Below.trans ?_ (Below.mono (by with_reducible assumption) ?_)) | omega | (exact Below.size (by with_reducible assumption)) | (simp; done) | (simp; omega)))
  have HLL := Lib.hid hll
  have hw2 : w.heap.size < w2.heap.size := p0.lt
  clear hll hb2 q0 l0 k0 f0 hB1
  obtain ⟨l0, k0, f0⟩ := p0
  have p0 := Own.mk l0 k0 f0
  go_wp2
  go_loopg [7, 9] ls.length (fun K v y wr => ∃ (k : Nat) (xs : List Sl), K + k = ls.length ∧ y = .int .i64 k ∧ Own wr w.heap.size [.int .i64 L, .int .i64 sl, .int .i64 rl, .int .i64 rh, .slice A0 n0 c0, .int .i64 wg] ∧ Gro wr w2.heap.size 44 1 v (xs.map slrow) ∧ InLs wr xs ((ls.take k).filter (okW L wg ks)) ∧ Below w.heap.size w wr ∧ Below w2.heap.size w2 wr)
  case atStart => exact ⟨0, [], by omega, rfl, p0, Gro.nil _ _ _ _, (by simpa using InLs.nil _), hB2, Below.refl _ _⟩
  case round =>
    clear p0 l0 k0 f0 hB2
    obtain ⟨wo, rfl⟩ : ∃ wo : World, wo = wr := ⟨_, rfl⟩
    obtain ⟨k, xs, hk, rfl, q0, hg, hin, hbw, hbv⟩ := hrel
    obtain ⟨PA, pc, rfl, hrd⟩ := hg.out
    have hxl := Lib.hid hin.len
    rw [List.length_map]
    rw [List.length_map] at hg
    have hxk : xs.length ≤ k := by
      rw [hxl.out]
      exact Nat.le_trans (List.length_filter_le _ _) (by rw [List.length_take]; omega)
    obtain ⟨l0, k0, f0⟩ := q0
    have q0 := Own.mk l0 k0 f0
    have hzi := hbv.size
    by_cases hkn : k < ls.length
    · obtain ⟨l, hl⟩ : ∃ l, Hid (ls[k]? = some l) := ⟨ls[k]'hkn, by simp [Hid]⟩
      have hol := HMEM.out l (List.mem_of_getElem? hl.out)
      obtain ⟨b, off, A', c', rfl, hbl, hcell, hrl, hty⟩ := (HLL.out.below hbv (Nat.le_refl _)).elemT hl.out
      have HTF2 := Lib.hid (take_filter (p := okW L wg ks) hl.out)
      have HRL := Lib.hid hrl
      have HTY := Lib.hid hty
      have HXL : ((xs.map slrow).length : Nat) ≤ 1500 := by rw [List.length_map]; omega
      have hx0 := Aft.cell q0
      have hx1 := fun s : Aft wo => (Aft.old s hbl _).trans hcell
      have HR := Lib.hid (fun s' : Aft wo => wrongs47 L sl rl rh wg A0 n0 c0 ks A' l.length c' l s'.w ((HA.out.below hbw (Nat.le_refl _)).below s'.h (Nat.le_refl _)) hn hV (hrl.below s'.h (Nat.le_refl _)) (Lib.hid rfl) (by omega))
      have HG := Lib.hid hg
      have HIN := Lib.hid hin
      have hll9 : l.length ≤ 13 := by omega
      clear hrl hty hrd hol hg hin
      cases hq : okW L wg ks l
      · have hqd : decide ((wUp ks (fnL l) L.toNat : Int) ≤ wg) = false := hq
        rw [hq] at HTF2
        clear hq
        generalize wUp ks (fnL l) L.toNat = wu at *
        go_wp2
        refine wp_region_aft (by kernel_rfl) (by kernel_rfl) ?_; (repeat (go_big_quiet_step ((go_at_call 47; exact aft_of (HR.out _))))); refine wpQuiet_nil ?_; rintro w11 ⟨⟨_, hb11⟩, rfl⟩
        have r0 := q0.below hb11 q0.lt
        have hB11 : Below w.heap.size w w11 := by (repeat' (first | (with_reducible exact Below.refl _ _) | (with_reducible assumption) | (with_reducible refine Below.drew ?_) | (with_reducible refine below_drewN ?_ _) | (with_reducible refine Below.setCell ?_ ?_ _) | (with_reducible refine Below.alloc ?_ ?_ _) | (refine Below.trans ?_ (Below.mono (by with_reducible assumption) ?_)) | omega | (exact Below.size (by with_reducible assumption)) | (simp; done) | (simp; omega)))
        have hV11 := hbv.trans (hb11.mono hzi)
        have g11 := HG.out.below hb11 (Nat.le_refl _)
        have i11 := HIN.out.below hb11 (Nat.le_refl _)
        clear hx0 hx1 hqd
        go_wp2
        go_roundg (ls.length - (k + 1))
        case measure => omega
        case rel => exact ⟨k + 1, xs, by omega, by go_num, r0, g11, (by rw [HTF2.out, if_neg (by simp), List.append_nil]; exact i11), hB11, hV11⟩
      · have hqd : decide ((wUp ks (fnL l) L.toNat : Int) ≤ wg) = true := hq
        rw [hq] at HTF2
        clear hq
        generalize wUp ks (fnL l) L.toNat = wu at *
        go_wp2
        refine wp_region_aft (by kernel_rfl) (by kernel_rfl) ?_; (repeat (go_big_quiet_step ((go_at_call 47; exact aft_of (HR.out _))))); refine wpQuiet_nil ?_; rintro w11 ⟨⟨_, hb11⟩, rfl⟩
        have r0 := q0.below hb11 q0.lt
        have hB11 : Below w.heap.size w w11 := by (repeat' (first | (with_reducible exact Below.refl _ _) | (with_reducible assumption) | (with_reducible refine Below.drew ?_) | (with_reducible refine below_drewN ?_ _) | (with_reducible refine Below.setCell ?_ ?_ _) | (with_reducible refine Below.alloc ?_ ?_ _) | (refine Below.trans ?_ (Below.mono (by with_reducible assumption) ?_)) | omega | (exact Below.size (by with_reducible assumption)) | (simp; done) | (simp; omega)))
        have hV11 := hbv.trans (hb11.mono hzi)
        have g11 := HG.out.below hb11 (Nat.le_refl _)
        have i11 := HIN.out.below hb11 (Nat.le_refl _)
        have hcell' := ((bcell hb11).1 b (off + k) hbl).trans hcell
        have hr11 := HRL.out.below hb11 (Nat.le_refl _)
        have ht11 := HTY.out.below hb11 (Nat.le_refl _)
        have hz11 : w2.heap.size ≤ w11.heap.size := hV11.size
        have HI := Lib.hid (i11.append (InLs.one (c := c') rfl hr11 ht11))
        clear hx0 hx1 hb11 hcell hr11 ht11 i11 q0 l0 k0 f0 hbw hbv hqd
        go_wp2_with (at_builtin; go_must (refine wpList_append_own _ rfl _ _ 77 rfl w2.heap.size 44 j0 (.slice none 0 0) 1 24 Try.underlying77 hj0 hj1 hj2 hj3 rfl (by decide) _ _ _ rfl (g11.2.alloc _) ⟨w11.heap.size, 0, none⟩ 1 1 [.slice A' l.length c'] rfl rfl (cell_one_new _ _ _) (by intro u hu; simp at hu; subst hu; rfl) (by unfold maxLen; omega) (by omega) (by simp; omega) ?_; intro v' w12 hown' hgrow hnil; have hbA : Below w2.heap.size w11 w12 := ((Below.refl _ w11).alloc hz11 _).grown hgrow (by simp; omega) (fun i hi => (g11.2.lt i hi).1); have g12 : Gro w12 w2.heap.size 44 1 v' (xs.map slrow ++ [slrow (A', l.length, c')]) := Gro.grown g11 rfl hown'; have i12 := (HI.out.below ((Below.refl w11.heap.size w11).alloc (Nat.le_refl _) (.cells #[.slice A' l.length c'] 44)) (Nat.le_refl _)).keptBy hgrow (g11.alloc _) (by decide); clear hown' hgrow hnil))
        go_roundg (ls.length - (k + 1))
        case measure => omega
        case rel => exact ⟨k + 1, xs ++ [(A', l.length, c')], by omega, by go_num, r0.below hbA hw2, (by rw [List.map_append]; exact g12), (by rw [HTF2.out]; exact i12), hB11.trans (hbA.mono (by omega)), hV11.trans hbA⟩
    · have hkk : ls.length = k := by omega
      have HT : Hid ((ls.take k).filter (okW L wg ks) = truL L sl rl rh wg ks) := by show _ = _; rw [List.take_of_length_le (by omega)]; exact HTL.out
      rw [HT.out] at hin hxl
      obtain ⟨PA', pc', hv', hll⟩ := hg.rdLL hin
      have HLX := Lib.hid hll
      clear hll hin hg hrd
      by_cases hz : xs.length = 0
      · have hnil : truL L sl rl rh wg ks = [] := List.eq_nil_of_length_eq_zero (by rw [← hxl.out]; exact hz)
        have HN : Hid (KnR L sl rl rh wg ks true [] 3) := Lib.hid ⟨Or.inr (Or.inr (Or.inl ⟨HC.out, rfl, rfl, fun h => truL_nil.1 hnil (hasT_none.1 h)⟩)), fun h => by omega, fun _ => rfl⟩
        have hzb : ((xs.length : Int) == 0) = true := by rw [hz]; rfl
        have HB := Lib.hid hbw
        clear hz hnil hv'
        go_wp2
        go_ret2
        exact ⟨none, 0, [], 3, rfl, ⟨[], Rd.nil _ _ _, InLs.nil _⟩, HN, by simp, HB.out⟩
      · have hnn : truL L sl rl rh wg ks ≠ [] := fun h => hz (by rw [hxl.out, h]; rfl)
        have HN : Hid (KnR L sl rl rh wg ks true (truL L sl rl rh wg ks) 0) := Lib.hid ⟨Or.inr (Or.inr (Or.inr ⟨HC.out, rfl, rfl, hasT_none.2 (Classical.byContradiction fun h => hnn (truL_nil.2 h))⟩)), fun _ => rfl, fun h => absurd rfl h⟩
        have hzb : ((xs.length : Int) == 0) = false := by rw [beq_eq_false_iff_ne]; omega
        have HVV := Lib.hid hv'
        have HB := Lib.hid hbw
        have hx15 : (truL L sl rl rh wg ks).length ≤ 1500 := by rw [← hxl.out]; omega
        have HX := Lib.hid hx15
        clear hz hnn hv' hx15
        go_wp2
        go_ret2
        refine ⟨PA', pc', truL L sl rl rh wg ks, 0, ?_, HLX.out, HN, HX.out, HB.out⟩
        rw [← HVV.out]; rfl
end Go.Proofs.Ytphcpphmoeiioaa
