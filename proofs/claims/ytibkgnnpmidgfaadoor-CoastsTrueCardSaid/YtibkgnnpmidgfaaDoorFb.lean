/- Walks: Strange of the program; Strange, Longer of the reference. -/
import Derived.Test.YtibkgnnpmidgfaaDoorFa
namespace Go.Proofs.YtibkgnnpmidgfaaDoor
open Go.RowKit Go.Maps

/-- The numbers less than k that are so. -/
def pickN (q : Nat → Bool) (k : Nat) : List Int := ((List.range k).filter q).map Int.ofNat
theorem pickN_succ (q : Nat → Bool) (k : Nat) : pickN q (k + 1) = if q k = true then pickN q k ++ [(k : Int)] else pickN q k := by
  unfold pickN
  rw [List.range_succ, List.filter_append, List.map_append, filter_one]
  split <;> simp
theorem pickN_len (q : Nat → Bool) (k : Nat) : (pickN q k).length ≤ k := by
  unfold pickN
  rw [List.length_map]
  exact Nat.le_trans (List.length_filter_le _ _) (by simp)
theorem mem_pickN {q : Nat → Bool} {k : Nat} {x : Int} : x ∈ pickN q k ↔ ∃ i : Nat, i < k ∧ q i = true ∧ x = i := by
  unfold pickN
  simp only [List.mem_map, List.mem_filter, List.mem_range]
  constructor
  · rintro ⟨i, ⟨h1, h2⟩, rfl⟩; exact ⟨i, h1, h2, rfl⟩
  · rintro ⟨i, h1, h2, rfl⟩; exact ⟨i, ⟨h1, h2⟩, rfl⟩
/-- No opening of its dividers has this report right. -/
def strR (cw : Int) (B D : List Pt) (R : List Rep) (r : Rep) : Bool := !((opsD cw B D R r.d.toNat).any fun x => rightB B r x)
def strQ (cw : Int) (B D : List Pt) (R : List Rep) (i : Nat) : Bool := match R[i]? with
  | some r => strR cw B D R r
  | none => false
theorem strQ_at {cw : Int} {B D : List Pt} {R : List Rep} {i : Nat} {r : Rep} (h : R[i]? = some r) : strQ cw B D R i = strR cw B D R r := by unfold strQ; rw [h]
def strL (cw : Int) (B D : List Pt) (R : List Rep) : List Int := if opE cw B D R true = 0 then pickN (strQ cw B D R) R.length else []
theorem strR_yes {cw : Int} {B D : List Pt} {R : List Rep} {r : Rep} {x : Int} (hx : x ∈ opsD cw B D R r.d.toNat) (h : rightB B r x = true) : strR cw B D R r = false := by
  unfold strR
  rw [Bool.not_eq_false', List.any_eq_true]
  exact ⟨x, hx, h⟩
theorem strR_no {cw : Int} {B D : List Pt} {R : List Rep} {r : Rep} (h : ∀ x ∈ opsD cw B D R r.d.toNat, rightB B r x = false) : strR cw B D R r = true := by
  unfold strR
  rw [Bool.not_eq_true', List.any_eq_false]
  intro x hx
  rw [h x hx]; simp

set_option maxRecDepth 100000 in
set_option maxHeartbeats 8000000 in
theorem strange40 (A0 A1 A2 : Option Addr) (n0 n1 n2 c0 c1 c2 : Nat) (cw : Int) (B D : List Pt) (R : List Rep) (w : World) (hC : RdC w A0 A1 A2 n0 n1 n2 B D R) :
    Calls Tryd.prog 40 #[.agg #[.slice A0 n0 c0, .slice A1 n1 c1, .slice A2 n2 c2, .int .i64 cw]] w fun e w' => ∃ (A : Option Addr) (cap : Nat), e = .returned (.tuple #[.slice A (strL cw B D R).length cap, .int .i64 (opE cw B D R true)]) ∧ RdI w' A (strL cw B D R) ∧ Below w.heap.size w w' := by
  obtain ⟨i0, hi0, hi1, hi2, hi3⟩ := info_parts Tryd.info3
  have HC := Lib.hid hC
  have HL1 := Lib.hid hC.h1
  have HL2 := Lib.hid hC.h2
  clear hC
  have o0 : Own (w.alloc (.cells #[.slice A0 n0 c0, .slice A1 n1 c1, .slice A2 n2 c2, .int .i64 cw] 26)) w.heap.size [.slice A0 n0 c0, .slice A1 n1 c1, .slice A2 n2 c2, .int .i64 cw] := Own.new' _ _ rfl rfl
  have oB : Below w.heap.size w (w.alloc (.cells #[.slice A0 n0 c0, .slice A1 n1 c1, .slice A2 n2 c2, .int .i64 cw] 26)) := by (repeat' (first | (with_reducible exact Below.refl _ _) | (with_reducible assumption) | (with_reducible refine Below.drew ?_) | (with_reducible refine below_drewN ?_ _) | (with_reducible refine Below.setCell ?_ ?_ _) | (with_reducible refine Below.alloc ?_ ?_ _) | (refine Below.trans ?_ (Below.mono (by with_reducible assumption) ?_)) | omega | (exact Below.size (by with_reducible assumption)) | (simp; done) | (simp; omega)))
  go_enter Tryd.func40, Tryd.ntmps40
  by_cases hE : opE cw B D R true = 0
  · obtain ⟨_, hchk⟩ := opE_true hE
    have hV := Lib.hid (val_of hchk)
    have HE := Lib.hid hE
    have hn2 : n2 ≤ 8 := by have := hV.out.r; have := HL2.out; omega
    have HSL : Hid (strL cw B D R = pickN (strQ cw B D R) n2) := by show _ = _; unfold strL; rw [if_pos hE, HL2.out]
    clear hE hchk
    go_wp2
    go_step3
    go_wp2_with fail
    refine (open70_ok A0 A1 A2 n0 n1 n2 c0 c1 c2 cw true B D R _ (HC.out.below oB (Nat.le_refl _)) HE.out).mono ?_
    rintro e w3 ⟨cb, hcb, rfl, hch, hb3⟩
    have q0 := o0.below hb3 o0.lt
    have hB3 : Below w.heap.size w w3 := by (repeat' (first | (with_reducible exact Below.refl _ _) | (with_reducible assumption) | (with_reducible refine Below.drew ?_) | (with_reducible refine below_drewN ?_ _) | (with_reducible refine Below.setCell ?_ ?_ _) | (with_reducible refine Below.alloc ?_ ?_ _) | (refine Below.trans ?_ (Below.mono (by with_reducible assumption) ?_)) | omega | (exact Below.size (by with_reducible assumption)) | (simp; done) | (simp; omega)))
    have HCH := Lib.hid hch
    have hw3 : w.heap.size < w3.heap.size := q0.lt
    clear o0 oB hb3 hch hcb
    obtain ⟨l0, k0, f0⟩ := q0
    have q0 := Own.mk l0 k0 f0
    go_wp2
    go_step3
    go_wp2
    go_loopg [6, 22] n2 (fun K x y wr => ∃ k : Nat, K + k = n2 ∧ y = .int .i64 k ∧ Own wr w.heap.size [.slice A0 n0 c0, .slice A1 n1 c1, .slice A2 n2 c2, .int .i64 cw] ∧ Gro wr w3.heap.size 3 1 x ((pickN (strQ cw B D R) k).map irow) ∧ Below w.heap.size w wr ∧ Below w3.heap.size w3 wr)
    case atStart => exact ⟨0, by omega, rfl, q0, (by simpa [pickN] using Gro.nil _ _ _ _), hB3, Below.refl _ _⟩
    case round =>
      clear q0 l0 k0 f0 hB3
      obtain ⟨wo, rfl⟩ : ∃ wo : World, wo = wr := ⟨_, rfl⟩
      obtain ⟨k, hk, rfl, q0, hg, hbw, hbv⟩ := hrel
      obtain ⟨PA, pc, rfl, hrd⟩ := hg.out
      rw [List.length_map]
      rw [List.length_map] at hg
      obtain ⟨l0, k0, f0⟩ := q0
      have q0 := Own.mk l0 k0 f0
      have hzo := hbv.size
      by_cases hkn : k < n2
      · obtain ⟨r, hr⟩ : ∃ r, Hid (R[k]? = some r) := ⟨R[k]'(by have := HL2.out; omega), by simp [Hid]⟩
        have hrm := List.mem_of_getElem? hr.out
        have HRM := Lib.hid hrm
        obtain ⟨v1, v2, v3, v4, v5, v6, v7⟩ := hV.out.rs r hrm
        have HSQ := Lib.hid (strQ_at (cw := cw) (B := B) (D := D) hr.out)
        have HPS := Lib.hid (pickN_succ (strQ cw B D R) k)
        obtain ⟨d, f, t, s⟩ := r
        dsimp only at v1 v2
        obtain ⟨d, rfl⟩ := Int.eq_ofNat_of_zero_le v1
        obtain ⟨b, off, rfl, hb, e0, e1, e2, e3⟩ := rd_rep (HC.out.below hbw (Nat.le_refl _)).r2 hr.out
        dsimp only at e0 e1 e2 e3
        have t8 := OwnT.new wo #[.int .i64 d, .int .i64 f, .int .i64 t, .int .i64 s] 58
        have oo := t8.own
        have qa := q0.alloc (.cells #[.int .i64 d, .int .i64 f, .int .i64 t, .int .i64 s] 58)
        have hba := (Below.refl wo.heap.size wo).alloc (Nat.le_refl _) (.cells #[.int .i64 d, .int .i64 f, .int .i64 t, .int .i64 s] 58)
        have hBa := hbw.trans (hba.mono hbw.size)
        have hVa := hbv.trans (hba.mono hzo)
        have ga := hg.below hba (Nat.le_refl _)
        have GA := Lib.hid ga
        clear hrd hrm v3 v4 v5 v6 v7 t8 ga hg
        go_wp2_with fail
        refine (openings72 cb A0 A1 (some ⟨b, off, none⟩) n0 n1 n2 c0 c1 c2 cw d B D R _ (HC.out.below hBa (Nat.le_refl _)) (HCH.out.below hVa (Nat.le_refl _)) hV (by have := HL1.out; omega)).mono ?_
        rintro e w5 ⟨A5, c5, rfl, hr5, hb5⟩
        have hxl := opsD_len (R := R) (cw := cw) hV.out (d := d) (by omega)
        have HMEM : Hid (∀ x, x ∈ opsD cw B D R d → 1 ≤ x ∧ x ≤ 60) := fun x hx => by
          have h1 := mem_opsD.1 hx
          have h2 := sAt_val hV.out (d := d) (by omega)
          omega
        have HYES : Hid (∀ x, x ∈ opsD cw B D R d → rightB B ⟨d, f, t, s⟩ x = true → strR cw B D R ⟨d, f, t, s⟩ = false) := fun x hx h => strR_yes (r := ⟨d, f, t, s⟩) hx h
        have HNO : Hid ((∀ x ∈ opsD cw B D R d, rightB B ⟨d, f, t, s⟩ x = false) → strR cw B D R ⟨d, f, t, s⟩ = true) := fun h => strR_no (r := ⟨d, f, t, s⟩) h
        obtain ⟨xs, hxs⟩ : ∃ x, opsD cw B D R d = x := ⟨_, rfl⟩
        rw [hxs] at hr5 hxl HMEM HYES HNO ⊢
        have HR5 := Lib.hid hr5
        have qb := qa.below hb5 qa.lt
        have ob := oo.below hb5 oo.lt
        have gb := GA.out.below hb5 (Nat.le_refl _)
        have hB5 := hBa.trans (hb5.mono hBa.size)
        have hV5 := hVa.trans (hb5.mono hVa.size)
        clear hxs hr5 hb5 qa oo GA hba hBa hVa q0 l0 k0 f0 hbw hbv e0 e1 e2 e3 hb
        obtain ⟨l0, k0, f0⟩ := qb
        have q0 := Own.mk l0 k0 f0
        obtain ⟨l8, k8, f8⟩ := ob
        have o8 := Own.mk l8 k8 f8
        go_wp2
        go_loopg [32] xs.length (fun K y wr => ∃ j : Nat, K + j = xs.length ∧ y = .int .i64 j ∧ Hid (∀ x ∈ xs.take j, rightB B ⟨d, f, t, s⟩ x = false) ∧ Own wr w.heap.size [.slice A0 n0 c0, .slice A1 n1 c1, .slice (some ⟨b, off, none⟩) n2 c2, .int .i64 cw] ∧ Own wr wo.heap.size [.int .i64 d, .int .i64 f, .int .i64 t, .int .i64 s] ∧ Gro wr w3.heap.size 3 1 (.slice PA (pickN (strQ cw B D R) k).length pc) ((pickN (strQ cw B D R) k).map irow) ∧ Below w.heap.size w wr ∧ Below w3.heap.size w3 wr ∧ Below w5.heap.size w5 wr)
        case atStart => exact ⟨0, by omega, rfl, (by intro l h; simp at h), q0, o8, gb, hB5, hV5, Below.refl _ _⟩
        case round =>
          clear q0 l0 k0 f0 o8 l8 k8 f8 gb hB5 hV5
          obtain ⟨wi, rfl⟩ : ∃ wi : World, wi = wr := ⟨_, rfl⟩
          obtain ⟨j, hj, rfl, hno, q0, o8, hg, hbw, hbv, hbx⟩ := hrel
          obtain ⟨l0, k0, f0⟩ := q0
          have q0 := Own.mk l0 k0 f0
          obtain ⟨l8, k8, f8⟩ := o8
          have o8 := Own.mk l8 k8 f8
          have hzi := hbv.size
          by_cases hjl : j < xs.length
          · obtain ⟨x, hx⟩ : ∃ x, Hid (xs[j]? = some x) := ⟨xs[j]'hjl, by simp [Hid]⟩
            have hxm := List.mem_of_getElem? hx.out
            have hxb := HMEM.out x hxm
            obtain ⟨b9, o9, rfl, hb9, g9⟩ := (HR5.out.below hbx (Nat.le_refl _)).elem hx.out
            have HRC := isRight80 A0 A1 (some ⟨b, off, none⟩) n0 n1 n2 c0 c1 c2 cw ⟨d, f, t, s⟩ x B D R wi (HC.out.below hbw (Nat.le_refl _)) hV hxb HRM.out
            dsimp only at HRC
            cases hq : rightB B ⟨d, f, t, s⟩ x
            · rw [hq] at HRC
              have HRC := Lib.hid HRC
              have HQ := Lib.hid hq
              clear hq hxm
              go_wp2_with fail
              refine HRC.out.mono ?_
              rintro e w7 ⟨rfl, hb7⟩
              have p0 := q0.below hb7 q0.lt
              have p8 := o8.below hb7 o8.lt
              have g7 := hg.below hb7 (Nat.le_refl _)
              have hB7 := hbw.trans (hb7.mono hbw.size)
              have hV7 := hbv.trans (hb7.mono hzi)
              have hX7 := hbx.trans (hb7.mono hbx.size)
              clear hb7
              go_wp2
              go_roundg (xs.length - (j + 1))
              case measure => omega
              case rel => exact ⟨j + 1, by omega, by go_num, (by
                intro y hy
                rw [take_snoc hx.out] at hy
                rcases List.mem_append.1 hy with h | h
                · exact hno.out y h
                · rw [List.mem_singleton.1 h]; exact HQ.out), p0, p8, g7, hB7, hV7, hX7⟩
            · have HS : Hid (pickN (strQ cw B D R) (k + 1) = pickN (strQ cw B D R) k) := by show _ = _; rw [HPS.out, HSQ.out, HYES.out x hxm hq]; rfl
              rw [hq] at HRC
              have HRC := Lib.hid HRC
              clear hq hxm
              go_wp2_with fail
              refine HRC.out.mono ?_
              rintro e w7 ⟨rfl, hb7⟩
              have p0 := q0.below hb7 q0.lt
              have g7 := hg.below hb7 (Nat.le_refl _)
              have hB7 := hbw.trans (hb7.mono hbw.size)
              have hV7 := hbv.trans (hb7.mono hzi)
              clear hb7
              go_wp2
              go_roundg (n2 - (k + 1))
              case measure => omega
              case rel => exact ⟨k + 1, by omega, by go_num, p0, (by rw [HS.out]; exact g7), hB7, hV7⟩
          · have HS : Hid (pickN (strQ cw B D R) (k + 1) = pickN (strQ cw B D R) k ++ [(k : Int)]) := by
              show _ = _
              rw [HPS.out, HSQ.out, HNO.out (fun y hy => hno.out y (by rw [List.take_of_length_le (by omega)]; exact hy)), if_pos rfl]
            have hcl : ((pickN (strQ cw B D R) k).map irow).length ≤ 8 := by rw [List.length_map]; have := pickN_len (strQ cw B D R) k; omega
            go_wp2_with (at_builtin; go_must (refine wpList_append_own _ rfl _ _ 46 rfl w3.heap.size 3 i0 (.int .i64 0) 1 8 Tryd.underlying46 hi0 hi1 hi2 hi3 rfl (by decide) _ _ _ rfl (hg.2.alloc _) ⟨wi.heap.size, 0, none⟩ 1 1 [.int .i64 (k : Int)] rfl rfl (cell_one_new _ _ _) (by intro u hu; simp at hu; subst hu; rfl) (by unfold maxLen; omega) (by omega) (by simp; omega) ?_; intro v' w8 hown' hgrow hnil; have hbA : Below w3.heap.size wi w8 := ((Below.refl _ wi).alloc hzi _).grown hgrow (by simp; omega) (fun i hi => (hg.2.lt i hi).1); have hg8 : Gro w8 w3.heap.size 3 1 v' ((pickN (strQ cw B D R) k).map irow ++ [irow (k : Int)]) := Gro.grown hg rfl hown'; clear hown' hgrow hnil))
            go_roundg (n2 - (k + 1))
            case measure => omega
            case rel => exact ⟨k + 1, by omega, by go_num, q0.below hbA hw3, (by rw [HS.out, List.map_append]; exact hg8), hbw.trans (hbA.mono (by omega)), hbv.trans hbA⟩
      · have hkn : n2 = k := by omega
        rw [hkn] at HSL
        go_wp2
        (try rw [Exit.noGoto_ret])
        go_ret2
        rw [HSL.out, HE.out]
        exact ⟨PA, pc, rfl, hrd, hbw⟩
  · have HSL : Hid (strL cw B D R = []) := by show _ = _; unfold strL; rw [if_neg hE]
    have HOP := open70_bad A0 A1 A2 n0 n1 n2 c0 c1 c2 cw true B D R (w.alloc (.cells #[.slice A0 n0 c0, .slice A1 n1 c1, .slice A2 n2 c2, .int .i64 cw] 26)) (HC.out.below oB (Nat.le_refl _)) hE
    obtain ⟨E, hEE⟩ : ∃ E, opE cw B D R true = E := ⟨_, rfl⟩
    rw [hEE] at HOP hE
    have HE := Lib.hid hEE
    have HOP := Lib.hid HOP
    have hne : (E == 0) = false := by simp [hE]
    clear hEE
    go_wp2
    go_step3
    go_wp2_with fail
    refine HOP.out.mono ?_
    rintro e w3 ⟨rfl, hb3⟩
    have hB3 : Below w.heap.size w w3 := by (repeat' (first | (with_reducible exact Below.refl _ _) | (with_reducible assumption) | (with_reducible refine Below.drew ?_) | (with_reducible refine below_drewN ?_ _) | (with_reducible refine Below.setCell ?_ ?_ _) | (with_reducible refine Below.alloc ?_ ?_ _) | (refine Below.trans ?_ (Below.mono (by with_reducible assumption) ?_)) | omega | (exact Below.size (by with_reducible assumption)) | (simp; done) | (simp; omega)))
    go_wp2
    (try rw [Exit.noGoto_ret])
    go_ret2
    rw [HSL.out, HE.out]
    exact ⟨none, 0, rfl, RdI.nil _ _, hB3⟩

end Go.Proofs.YtibkgnnpmidgfaaDoor
namespace Go.Proofs.YtibkgnnpmidgfaaDoor
open Go.RowKit

/-- Some of these choices has this report right. -/
def anyR (B : List Pt) (ts : List (List Int)) (r : Rep) : Bool := ts.any fun l => rightB B r (l.getD r.d.toNat 0)
theorem anyR_snoc (B : List Pt) (ts : List (List Int)) (l : List Int) (r : Rep) : anyR B (ts ++ [l]) r = (anyR B ts r || rightB B r (l.getD r.d.toNat 0)) := by
  unfold anyR; rw [List.any_append]; simp
theorem anyR_str {cw : Int} {B D : List Pt} {R : List Rep} (hV : Val cw B D R) {r : Rep} (hd : r.d.toNat < D.length) : (!anyR B (truL cw B D R) r) = strR cw B D R r := by
  unfold anyR strR
  congr 1
  rw [Bool.eq_iff_iff]
  simp only [List.any_eq_true]
  constructor
  · rintro ⟨l, h1, h2⟩
    exact ⟨_, (ops_truth hV hd).2 ⟨l, mem_tru.1 h1, rfl⟩, h2⟩
  · rintro ⟨x, h1, h2⟩
    obtain ⟨l, h3, rfl⟩ := (ops_truth hV hd).1 h1
    exact ⟨l, mem_tru.2 h3, h2⟩

set_option maxRecDepth 100000 in
set_option maxHeartbeats 8000000 in
theorem strange41 (A0 A1 A2 : Option Addr) (n0 n1 n2 c0 c1 c2 : Nat) (cw : Int) (B D : List Pt) (R : List Rep) (w : World) (hC : RdC w A0 A1 A2 n0 n1 n2 B D R) :
    Calls Tryd.prog 41 #[.agg #[.slice A0 n0 c0, .slice A1 n1 c1, .slice A2 n2 c2, .int .i64 cw]] w fun e w' => ∃ (A : Option Addr) (cap : Nat), e = .returned (.tuple #[.slice A (strL cw B D R).length cap, .int .i64 (opE cw B D R true)]) ∧ RdI w' A (strL cw B D R) ∧ Below w.heap.size w w' := by
  obtain ⟨i0, hi0, hi1, hi2, hi3⟩ := info_parts Tryd.info3
  have HC := Lib.hid hC
  have HL1 := Lib.hid hC.h1
  have HL2 := Lib.hid hC.h2
  clear hC
  have o0 : Own (w.alloc (.cells #[.slice A0 n0 c0, .slice A1 n1 c1, .slice A2 n2 c2, .int .i64 cw] 26)) w.heap.size [.slice A0 n0 c0, .slice A1 n1 c1, .slice A2 n2 c2, .int .i64 cw] := Own.new' _ _ rfl rfl
  have oB : Below w.heap.size w (w.alloc (.cells #[.slice A0 n0 c0, .slice A1 n1 c1, .slice A2 n2 c2, .int .i64 cw] 26)) := by (repeat' (first | (with_reducible exact Below.refl _ _) | (with_reducible assumption) | (with_reducible refine Below.drew ?_) | (with_reducible refine below_drewN ?_ _) | (with_reducible refine Below.setCell ?_ ?_ _) | (with_reducible refine Below.alloc ?_ ?_ _) | (refine Below.trans ?_ (Below.mono (by with_reducible assumption) ?_)) | omega | (exact Below.size (by with_reducible assumption)) | (simp; done) | (simp; omega)))
  obtain ⟨E, hE⟩ : ∃ x, opE cw B D R true = x := ⟨_, rfl⟩
  obtain ⟨ts, hts⟩ : ∃ x, knoL cw B D R true = x := ⟨_, rfl⟩
  have HE := Lib.hid hE
  have HTS := Lib.hid hts
  clear hE hts
  go_enter Tryd.func41, Tryd.ntmps41
  go_wp2_with fail
  refine (known78 A0 A1 A2 n0 n1 n2 c0 c1 c2 cw true B D R _ (HC.out.below oB (Nat.le_refl _))).mono ?_
  rw [HE.out, HTS.out]
  rintro e w2 ⟨A2', c2', rfl, hll, hb2⟩
  have r0 := o0.below hb2 o0.lt
  have hBw : Below w.heap.size w w2 := by (repeat' (first | (with_reducible exact Below.refl _ _) | (with_reducible assumption) | (with_reducible refine Below.drew ?_) | (with_reducible refine below_drewN ?_ _) | (with_reducible refine Below.setCell ?_ ?_ _) | (with_reducible refine Below.alloc ?_ ?_ _) | (refine Below.trans ?_ (Below.mono (by with_reducible assumption) ?_)) | omega | (exact Below.size (by with_reducible assumption)) | (simp; done) | (simp; omega)))
  have HLL := Lib.hid hll
  clear hll hb2 o0 oB
  obtain ⟨l0, k0, f0⟩ := r0
  have r0 := Own.mk l0 k0 f0
  by_cases hz : E = 0
  · subst hz
    obtain ⟨_, hchk⟩ := opE_true HE.out
    have hV := Lib.hid (val_of hchk)
    have hn2 : n2 ≤ 8 := by have := hV.out.r; have := HL2.out; omega
    have HTR : Hid (ts = truL cw B D R) := by show _ = _; rw [← HTS.out]; unfold knoL; rw [if_pos HE.out]
    have HSL : Hid (strL cw B D R = pickN (strQ cw B D R) n2) := by show _ = _; unfold strL; rw [if_pos HE.out, HL2.out]
    have HOPN : Hid (∀ l ∈ ts, Opn D l) := fun l hl => by rw [HTR.out] at hl; exact (mem_tru.1 hl).1
    have hlen : ts.length ≤ 777600000 := by
      rw [HTR.out]
      unfold truL
      exact Nat.le_trans (List.length_filter_le _ _) (Nat.le_trans (all_pow (wid_le hV.out)) (Nat.le_trans (Nat.pow_le_pow_right (by decide) (show D.length + 1 ≤ 5 by have := hV.out.d; omega)) (by decide)))
    have hww : w.heap.size < w2.heap.size := r0.lt
    clear hchk
    go_wp2
    go_loopg [6, 7] n2 (fun K x y wr => ∃ k : Nat, K + k = n2 ∧ y = .int .i64 k ∧ Own wr w.heap.size [.slice A0 n0 c0, .slice A1 n1 c1, .slice A2 n2 c2, .int .i64 cw] ∧ Gro wr w2.heap.size 3 1 x ((pickN (strQ cw B D R) k).map irow) ∧ Below w.heap.size w wr ∧ Below w2.heap.size w2 wr)
    case atStart => exact ⟨0, by omega, rfl, r0, (by simpa [pickN] using Gro.nil _ _ _ _), hBw, Below.refl _ _⟩
    case round =>
      clear r0 l0 k0 f0 hBw
      obtain ⟨wo, rfl⟩ : ∃ wo : World, wo = wr := ⟨_, rfl⟩
      obtain ⟨k, hk, rfl, q0, hg, hbw, hbv⟩ := hrel
      obtain ⟨PA, pc, rfl, hrd⟩ := hg.out
      rw [List.length_map]
      rw [List.length_map] at hg
      obtain ⟨l0, k0, f0⟩ := q0
      have q0 := Own.mk l0 k0 f0
      by_cases hkn : k < n2
      · obtain ⟨r, hr⟩ : ∃ r, Hid (R[k]? = some r) := ⟨R[k]'(by have := HL2.out; omega), by simp [Hid]⟩
        have hrm := List.mem_of_getElem? hr.out
        have HRM := Lib.hid hrm
        obtain ⟨v1, v2, v3, v4, v5, v6, v7⟩ := hV.out.rs r hrm
        have HSQ := Lib.hid (strQ_at (cw := cw) (B := B) (D := D) hr.out)
        have HPS := Lib.hid (pickN_succ (strQ cw B D R) k)
        have HAS := Lib.hid (anyR_str hV.out (r := r) (by omega))
        have HAN := Lib.hid (fun (us : List (List Int)) (l : List Int) => anyR_snoc B us l r)
        obtain ⟨d, f, t, s⟩ := r
        dsimp only at v1 v2
        obtain ⟨d, rfl⟩ := Int.eq_ofNat_of_zero_le v1
        obtain ⟨b, off, rfl, hb, e0, e1, e2, e3⟩ := rd_rep (HC.out.below hbw (Nat.le_refl _)).r2 hr.out
        dsimp only at e0 e1 e2 e3
        clear hrd hrm v3 v4 v5 v6 v7
        go_wp2
        go_loopg [8, 9] ts.length (fun K x y wr => ∃ j : Nat, K + j = ts.length ∧ y = .int .i64 j ∧ x = .bool (anyR B (ts.take j) ⟨d, f, t, s⟩) ∧ Own wr w.heap.size [.slice A0 n0 c0, .slice A1 n1 c1, .slice (some ⟨b, off, none⟩) n2 c2, .int .i64 cw] ∧ Gro wr w2.heap.size 3 1 (.slice PA (pickN (strQ cw B D R) k).length pc) ((pickN (strQ cw B D R) k).map irow) ∧ Below w.heap.size w wr ∧ Below w2.heap.size w2 wr)
        case atStart => exact ⟨0, by omega, rfl, rfl, q0, hg, hbw, hbv⟩
        case round =>
          clear q0 l0 k0 f0 hg hbw hbv e0 e1 e2 e3 hb
          obtain ⟨wi, rfl⟩ : ∃ wi : World, wi = wr := ⟨_, rfl⟩
          obtain ⟨j, hj, rfl, rfl, q0, hg, hbw, hbv⟩ := hrel
          obtain ⟨l0, k0, f0⟩ := q0
          have q0 := Own.mk l0 k0 f0
          have hzi := hbv.size
          obtain ⟨any, hany⟩ : ∃ x, anyR B (ts.take j) ⟨d, f, t, s⟩ = x := ⟨_, rfl⟩
          have HANY := Lib.hid hany
          rw [hany]
          clear hany
          by_cases hjl : j < ts.length
          · obtain ⟨l, hl⟩ : ∃ l, Hid (ts[j]? = some l) := ⟨ts[j]'hjl, by simp [Hid]⟩
            have HNX := HAN.out (ts.take j) l
            rw [HANY.out, ← take_snoc hl.out] at HNX
            cases any
            · have hO := HOPN.out l (List.mem_of_getElem? hl.out)
              have hll := hO.len
              obtain ⟨b7, off7, A', c', rfl, hbl, hcell, hrl⟩ := (HLL.out.below hbv (Nat.le_refl _)).elem hl.out
              obtain ⟨x, hx⟩ : ∃ x, l.getD d 0 = x := ⟨_, rfl⟩
              have hat := getD_at (show d < l.length by omega)
              have hxb := opn_bounds hV.out hO (i := d) (by omega)
              rw [hx] at hat hxb
              obtain ⟨b9, o9, rfl, hb9, g9⟩ := hrl.elem hat
              have hdl : d < l.length := by omega
              have hl4 : l.length ≤ 4 := by have := hV.out.d; omega
              obtain ⟨b, off, hbb, hb, e0, e1, e2, e3⟩ := rd_rep (HC.out.below hbw (Nat.le_refl _)).r2 hr.out
              cases hbb
              dsimp only at e0 e1 e2 e3
              simp only [Int.toNat_natCast, Bool.false_or] at HNX
              rw [hx] at HNX
              have HNX := Lib.hid HNX
              have hx0 := Aft.cell q0
              have hx1 := fun s : Aft wi => (Aft.old s hb _).trans e0
              have hx2 := fun s : Aft wi => (Aft.old s hb _).trans e1
              have hx3 := fun s : Aft wi => (Aft.old s hb _).trans e2
              have hx4 := fun s : Aft wi => (Aft.old s hb _).trans e3
              have hx5 := fun s : Aft wi => (Aft.old s hbl _).trans hcell
              have hx6 := fun s : Aft wi => (Aft.old s hb9 _).trans g9
              have HR := Lib.hid (fun s' : Aft wi => isRight50 A0 A1 (some ⟨b, off, none⟩) n0 n1 n2 c0 c1 c2 cw ⟨d, f, t, s⟩ x B D R s'.w ((HC.out.below hbw (Nat.le_refl _)).below s'.h (Nat.le_refl _)) hV hxb HRM.out)
              dsimp only at HR
              obtain ⟨q, hq⟩ : ∃ q, rightB B ⟨d, f, t, s⟩ x = q := ⟨_, rfl⟩
              rw [hq] at HR HNX
              clear e0 e1 e2 e3 hcell g9 hat hx hrl hO hll hq
              go_wp2
              refine wp_region_aft (by kernel_rfl) (by kernel_rfl) ?_; (repeat (go_big_quiet_step ((go_at_call 50; exact aft_of (HR.out _))))); refine wpQuiet_nil ?_; rintro w7 ⟨⟨_, hb7⟩, rfl⟩
              have p0 := q0.below hb7 q0.lt
              have g7 := hg.below hb7 (Nat.le_refl _)
              have hB7 := hbw.trans (hb7.mono hbw.size)
              have hV7 := hbv.trans (hb7.mono hzi)
              clear hx0 hx1 hx2 hx3 hx4 hx5 hx6 hb7
              go_wp2
              go_roundg (ts.length - (j + 1))
              case measure => omega
              case rel => exact ⟨j + 1, by omega, by go_num, (by rw [HNX.out]), p0, g7, hB7, hV7⟩
            · rw [Bool.true_or] at HNX
              have HNX := Lib.hid HNX
              have hx0 := Aft.cell q0
              go_wp2
              refine wp_region_aft (by kernel_rfl) (by kernel_rfl) ?_; (repeat (go_big_quiet_step (fail))); refine wpQuiet_nil ?_; rintro w7 ⟨⟨_, hb7⟩, rfl⟩
              have p0 := q0.below hb7 q0.lt
              have g7 := hg.below hb7 (Nat.le_refl _)
              have hB7 := hbw.trans (hb7.mono hbw.size)
              have hV7 := hbv.trans (hb7.mono hzi)
              clear hx0 hb7
              go_wp2
              go_roundg (ts.length - (j + 1))
              case measure => omega
              case rel => exact ⟨j + 1, by omega, by go_num, (by rw [HNX.out]), p0, g7, hB7, hV7⟩
          · have hfin : (!any) = strR cw B D R ⟨d, f, t, s⟩ := by
              rw [← HAS.out, ← HTR.out, ← HANY.out, List.take_of_length_le (by omega)]
            cases any
            · have HS : Hid (pickN (strQ cw B D R) (k + 1) = pickN (strQ cw B D R) k ++ [(k : Int)]) := by
                show _ = _
                rw [HPS.out, HSQ.out, ← hfin]; rfl
              have hcl : ((pickN (strQ cw B D R) k).map irow).length ≤ 8 := by rw [List.length_map]; have := pickN_len (strQ cw B D R) k; omega
              clear hfin
              go_wp2_with (at_builtin; go_must (refine wpList_append_own _ rfl _ _ 46 rfl w2.heap.size 3 i0 (.int .i64 0) 1 8 Tryd.underlying46 hi0 hi1 hi2 hi3 rfl (by decide) _ _ _ rfl (hg.2.alloc _) ⟨wi.heap.size, 0, none⟩ 1 1 [.int .i64 (k : Int)] rfl rfl (cell_one_new _ _ _) (by intro u hu; simp at hu; subst hu; rfl) (by unfold maxLen; omega) (by omega) (by simp; omega) ?_; intro v' w8 hown' hgrow hnil; have hbA : Below w2.heap.size wi w8 := ((Below.refl _ wi).alloc hzi _).grown hgrow (by simp; omega) (fun i hi => (hg.2.lt i hi).1); have hg8 : Gro w8 w2.heap.size 3 1 v' ((pickN (strQ cw B D R) k).map irow ++ [irow (k : Int)]) := Gro.grown hg rfl hown'; clear hown' hgrow hnil))
              go_roundg (n2 - (k + 1))
              case measure => omega
              case rel => exact ⟨k + 1, by omega, by go_num, q0.below hbA hww, (by rw [HS.out, List.map_append]; exact hg8), hbw.trans (hbA.mono (by omega)), hbv.trans hbA⟩
            · have HS : Hid (pickN (strQ cw B D R) (k + 1) = pickN (strQ cw B D R) k) := by
                show _ = _
                rw [HPS.out, HSQ.out, ← hfin]; rfl
              clear hfin
              go_wp2
              go_roundg (n2 - (k + 1))
              case measure => omega
              case rel => exact ⟨k + 1, by omega, by go_num, q0, (by rw [HS.out]; exact hg), hbw, hbv⟩
      · have hkn : n2 = k := by omega
        rw [hkn] at HSL
        go_wp2
        go_ret2
        rw [HSL.out, HE.out]
        exact ⟨PA, pc, rfl, hrd, hbw⟩
  · have hne : (E == 0) = false := by simp [hz]
    have HSL : Hid (strL cw B D R = []) := by show _ = _; unfold strL; rw [HE.out, if_neg hz]
    go_wp2
    go_ret2
    rw [HSL.out, HE.out]
    exact ⟨none, 0, rfl, RdI.nil _ _, hBw⟩

end Go.Proofs.YtibkgnnpmidgfaaDoor
namespace Go.Proofs.YtibkgnnpmidgfaaDoor
open Go.RowKit

theorem cnt2_zero {p : Int → Int → Bool} {ys : List Int} : ∀ {xs : List Int}, cnt2 p xs ys = 0 ↔ ∀ x ∈ xs, ∀ y ∈ ys, p x y = false
  | [] => by simp [cnt2]
  | x :: xs => by
    have ih := cnt2_zero (p := p) (ys := ys) (xs := xs)
    have h1 : cnt2 p (x :: xs) ys = cnt1 p x ys + cnt2 p xs ys := by unfold cnt2; rw [List.map_cons, List.sum_cons]
    have h2 : cnt1 p x ys = 0 ↔ ∀ y ∈ ys, p x y = false := by
      unfold cnt1
      rw [List.length_eq_zero_iff, List.filter_eq_nil_iff]
      constructor
      · intro h y hy; exact Bool.not_eq_true _ ▸ h y hy
      · intro h y hy; rw [h y hy]; simp
    rw [h1]
    constructor
    · intro h z hz
      rcases List.mem_cons.1 hz with rfl | hz
      · exact h2.1 (by omega)
      · exact ih.1 (by omega) z hz
    · intro h
      have := h2.2 (h x (List.mem_cons_self ..))
      have := ih.2 (fun z hz => h z (List.mem_cons_of_mem _ hz))
      omega
def lonB (B : List Pt) (a b : Nat) (l : List Int) : Bool := longB B (l.getD a 0) (l.getD b 0)
def lonC (B : List Pt) (a b : Nat) (ts : List (List Int)) : Nat := (ts.filter (lonB B a b)).length
theorem lonC_snoc (B : List Pt) (a b : Nat) (ts : List (List Int)) (l : List Int) : lonC B a b (ts ++ [l]) = lonC B a b ts + if lonB B a b l = true then 1 else 0 := by
  unfold lonC
  rw [List.filter_append, List.length_append, filter_one]
  split <;> simp
theorem lonC_le (B : List Pt) (a b : Nat) (ts : List (List Int)) : lonC B a b ts ≤ ts.length := List.length_filter_le _ _
theorem lon_verd {cw : Int} {B D : List Pt} {R : List Rep} (hV : Val cw B D R) {a b : Nat} (ha : a < D.length) (hb : b < D.length) :
    lonV cw B D R a b = if lonC B a b (truL cw B D R) = (truL cw B D R).length then 1 else if lonC B a b (truL cw B D R) = 0 then 2 else 3 := by
  have hn : cnt2 (noP cw B D R a b) (opsD cw B D R a) (opsD cw B D R b) = 0 ↔ lonC B a b (truL cw B D R) = (truL cw B D R).length := by
    rw [cnt2_zero]
    unfold lonC
    rw [List.length_filter_eq_length_iff]
    constructor
    · intro h l hl
      obtain ⟨h1, h2, h3⟩ := (two_truth hV ha hb).2 ⟨l, mem_tru.1 hl, rfl, rfl⟩
      have := h _ h1 _ h2
      unfold noP at this
      rw [h3, Bool.true_and, Bool.not_eq_false'] at this
      exact this
    · intro h x hx y hy
      unfold noP
      cases ho : okT cw B D R a b x y
      · rfl
      · obtain ⟨l, h1, rfl, rfl⟩ := (two_truth hV ha hb).1 ⟨hx, hy, ho⟩
        have := h l (mem_tru.2 h1)
        unfold lonB at this
        rw [this]; rfl
  have hs : cnt2 (soP cw B D R a b) (opsD cw B D R a) (opsD cw B D R b) = 0 ↔ lonC B a b (truL cw B D R) = 0 := by
    rw [cnt2_zero]
    unfold lonC
    rw [List.length_eq_zero_iff, List.filter_eq_nil_iff]
    constructor
    · intro h l hl hlb
      obtain ⟨h1, h2, h3⟩ := (two_truth hV ha hb).2 ⟨l, mem_tru.1 hl, rfl, rfl⟩
      have := h _ h1 _ h2
      unfold soP at this
      unfold lonB at hlb
      rw [h3, hlb] at this
      cases this
    · intro h x hx y hy
      unfold soP
      cases ho : okT cw B D R a b x y
      · rfl
      · obtain ⟨l, h1, rfl, rfl⟩ := (two_truth hV ha hb).1 ⟨hx, hy, ho⟩
        have := h l (mem_tru.2 h1)
        unfold lonB at this
        rw [Bool.not_eq_true] at this
        rw [this]; rfl
  unfold lonV verd
  by_cases h1 : lonC B a b (truL cw B D R) = (truL cw B D R).length
  · rw [if_pos (hn.2 h1), if_pos h1]
  · rw [if_neg (fun h => h1 (hn.1 h)), if_neg h1]
    by_cases h2 : lonC B a b (truL cw B D R) = 0
    · rw [if_pos (hs.2 h2), if_pos h2]
    · rw [if_neg (fun h => h2 (hs.1 h)), if_neg h2]

set_option maxRecDepth 100000 in
set_option maxHeartbeats 8000000 in
theorem longer42 (A0 A1 A2 : Option Addr) (n0 n1 n2 c0 c1 c2 : Nat) (cw : Int) (a b : Int) (B D : List Pt) (R : List Rep) (w : World) (hC : RdC w A0 A1 A2 n0 n1 n2 B D R) :
    Calls Tryd.prog 42 #[.agg #[.slice A0 n0 c0, .slice A1 n1 c1, .slice A2 n2 c2, .int .i64 cw], .int .i64 a, .int .i64 b] w fun e w' => e = .returned (.tuple #[.int .i64 (lonN cw B D R a b), .int .i64 (opE cw B D R (isDv2 D a b))]) ∧ Below w.heap.size w w' := by
  have HC := Lib.hid hC
  have HL1 := Lib.hid hC.h1
  have hl1 := hC.l1
  clear hC
  have hda : Hid (btw a 0 ((n1 : Int) - 1) = isDv D a) := by show _ = _; unfold isDv; rw [HL1.out]
  have hdb : Hid (btw b 0 ((n1 : Int) - 1) = isDv D b) := by show _ = _; unfold isDv; rw [HL1.out]
  have o0 : Own (w.alloc (.cells #[.slice A0 n0 c0, .slice A1 n1 c1, .slice A2 n2 c2, .int .i64 cw] 26)) w.heap.size [.slice A0 n0 c0, .slice A1 n1 c1, .slice A2 n2 c2, .int .i64 cw] := Own.new' _ _ rfl rfl
  have oB : Below w.heap.size w (w.alloc (.cells #[.slice A0 n0 c0, .slice A1 n1 c1, .slice A2 n2 c2, .int .i64 cw] 26)) := by (repeat' (first | (with_reducible exact Below.refl _ _) | (with_reducible assumption) | (with_reducible refine Below.drew ?_) | (with_reducible refine below_drewN ?_ _) | (with_reducible refine Below.setCell ?_ ?_ _) | (with_reducible refine Below.alloc ?_ ?_ _) | (refine Below.trans ?_ (Below.mono (by with_reducible assumption) ?_)) | omega | (exact Below.size (by with_reducible assumption)) | (simp; done) | (simp; omega)))
  have HIV : Hid (isDv2 D a b = (isDv D a && isDv D b)) := rfl
  obtain ⟨va, hva⟩ : ∃ v, isDv D a = v := ⟨_, rfl⟩
  obtain ⟨vb, hvb⟩ : ∃ v, isDv D b = v := ⟨_, rfl⟩
  rw [hva] at hda HIV
  rw [hvb] at hdb HIV
  have HVA := Lib.hid hva
  have HVB := Lib.hid hvb
  clear hva hvb
  go_enter Tryd.func42, Tryd.ntmps42
  go_wp2
  refine rg_start (fun w' => Own w' w.heap.size [.slice A0 n0 c0, .slice A1 n1 c1, .slice A2 n2 c2, .int .i64 cw]) 15 (by kernel_rfl) rfl ?_
  refine rg_take (fuel := 12) [0, 1, 2] (by kernel_rfl) (by intro _ _ d _ _ h; cases d <;> exact h) rfl (by kernel_rfl) (by kernel_rfl) o0.drew ?_
  simp only [pickL, pick1, List.cons_append, List.nil_append]
  iterate 3 (refine wpTake_cons (v := ?_) (Or.inl ⟨by rfl, ?_⟩) ?_; rotate_left; (intro w' hSw; have y0 : w'.cell? ⟨w.heap.size, 0, none⟩ = some (.slice A0 n0 c0) := hSw.c 0; have y1 : w'.cell? ⟨w.heap.size, 1, none⟩ = some (.slice A1 n1 c1) := hSw.c 1; have y2 : w'.cell? ⟨w.heap.size, 2, none⟩ = some (.slice A2 n2 c2) := hSw.c 2; have y3 : w'.cell? ⟨w.heap.size, 3, none⟩ = some (.int .i64 cw) := hSw.c 3; clear hSw; go_simp; (try with_reducible rfl)); (try simp only [Act.put, List.setIfInBounds_toArray, List.set_cons_zero, List.set_cons_succ]))
  refine wpTake_nil ?_
  have r0 := o0.drew
  have hBw := oB.drew
  clear o0 oB
  generalize World.drew _ = W at r0 hBw ⊢
  refine rg_one (fuel := 11) 3 rfl (by kernel_rfl) (by kernel_rfl) ?_
  simp only [pick1, wpHead]
  intro K hK
  rw [if_pos (by rfl)]
  go_simp
  refine (cbB hda.out (isDivider32 _ _ _ _ _ _ _ _ _ _ _ _ hl1)).mono ?_
  rintro e w1 ⟨rfl, hb1⟩
  replace r0 := r0.below hb1 r0.lt
  replace hBw := hBw.trans (hb1.mono hBw.size)
  clear hb1
  go_wp2_with fail
  refine hK.out _ _ r0 ?_
  clear hK
  (try simp only [Act.put, List.setIfInBounds_toArray, List.set_cons_zero, List.set_cons_succ])
  cases va
  · rw [Bool.false_and] at HIV
    obtain ⟨E, hE⟩ : ∃ E, opE cw B D R false = E := ⟨_, rfl⟩
    have HE := Lib.hid hE
    obtain ⟨ts, hts⟩ : ∃ x, knoL cw B D R false = x := ⟨_, rfl⟩
    have HTS := Lib.hid hts
    clear hE hts
    refine rg_take (fuel := 8) [4, 5, 6] (by kernel_rfl) (by intro _ _ d _ _ h; cases d <;> exact h) rfl (by kernel_rfl) (by kernel_rfl) r0 ?_
    simp only [pickL, pick1, List.cons_append, List.nil_append]
    (refine wpTake_cons (v := ?_) (Or.inl ⟨by rfl, ?_⟩) ?_; rotate_left; (intro w' hSw; clear hSw; go_simp; (try with_reducible rfl)); (try simp only [Act.put, List.setIfInBounds_toArray, List.set_cons_zero, List.set_cons_succ]))
    (refine wpTake_cons (v := undef) (Or.inr ⟨by rfl, rfl⟩) ?_; (try simp only [Act.put, List.setIfInBounds_toArray, List.set_cons_zero, List.set_cons_succ]))
    (refine wpTake_cons (v := undef) (Or.inr ⟨by rfl, rfl⟩) ?_; (try simp only [Act.put, List.setIfInBounds_toArray, List.set_cons_zero, List.set_cons_succ]))
    refine wpTake_nil ?_
    refine rg_one (fuel := 7) 7 rfl (by kernel_rfl) (by kernel_rfl) ?_
    simp only [pick1, wpHead]
    intro K hK
    rw [if_neg (by simp [Region.wanted, yielded])]
    refine hK.out _ _ r0 ?_
    clear hK
    (try simp only [Act.put, List.setIfInBounds_toArray, List.set_cons_zero, List.set_cons_succ])
    refine rg_take (fuel := 6) [8] (by kernel_rfl) (by intro _ _ d _ _ h; cases d <;> exact h) rfl (by kernel_rfl) (by kernel_rfl) r0 ?_
    simp only [pickL, pick1, List.cons_append, List.nil_append]
    (refine wpTake_cons (v := ?_) (Or.inl ⟨by rfl, ?_⟩) ?_; rotate_left; (intro w' hSw; clear hSw; go_simp; (try with_reducible rfl)); (try simp only [Act.put, List.setIfInBounds_toArray, List.set_cons_zero, List.set_cons_succ]))
    refine wpTake_nil ?_
    refine rg_one (fuel := 5) 9 rfl (by kernel_rfl) (by kernel_rfl) ?_
    simp only [pick1, wpHead]
    intro K hK
    rw [if_pos (by rfl)]
    go_simp
    refine (known78 A0 A1 A2 n0 n1 n2 c0 c1 c2 cw false B D R _ (HC.out.below hBw (Nat.le_refl _))).mono ?_
    rw [HE.out, HTS.out]
    rintro e w2 ⟨A2', c2', rfl, hll, hb2⟩
    replace r0 := r0.below hb2 r0.lt
    replace hBw := hBw.trans (hb2.mono hBw.size)
    clear hb2
    go_wp2_with fail
    refine hK.out _ _ r0 ?_
    clear hK
    (try simp only [Act.put, List.setIfInBounds_toArray, List.set_cons_zero, List.set_cons_succ])
    refine rg_take (fuel := 2) [10, 11, 12] (by kernel_rfl) (by intro _ _ d _ _ h; cases d <;> exact h) rfl (by kernel_rfl) (by kernel_rfl) r0 ?_
    simp only [pickL, pick1, List.cons_append, List.nil_append]
    (refine wpTake_cons (v := ?_) (Or.inl ⟨by rfl, ?_⟩) ?_; rotate_left; (intro w' hSw; clear hSw; go_simp; (try with_reducible rfl)); (try simp only [Act.put, List.setIfInBounds_toArray, List.set_cons_zero, List.set_cons_succ]))
    (refine wpTake_cons (v := ?_) (Or.inl ⟨by rfl, ?_⟩) ?_; rotate_left; (intro w' hSw; clear hSw; go_simp; (try with_reducible rfl)); (try simp only [Act.put, List.setIfInBounds_toArray, List.set_cons_zero, List.set_cons_succ]))
    (refine wpTake_cons (v := ?_) (Or.inl ⟨by rfl, ?_⟩) ?_; rotate_left; (intro w' hSw; clear hSw; go_simp; (try with_reducible rfl)); (try simp only [Act.put, List.setIfInBounds_toArray, List.set_cons_zero, List.set_cons_succ]))
    refine wpTake_nil ?_
    refine rg_one (fuel := 1) 13 rfl (by kernel_rfl) (by kernel_rfl) ?_
    simp only [pick1, wpHead]
    intro K hK
    rw [if_pos (by rfl)]
    go_simp
    refine hK.out _ _ r0 ?_
    clear hK
    (try simp only [Act.put, List.setIfInBounds_toArray, List.set_cons_zero, List.set_cons_succ])
    refine rg_one (fuel := 0) 14 rfl (by kernel_rfl) (by kernel_rfl) ?_
    simp only [pick1, wpHead]
    intro K hK
    rw [if_pos (by rfl)]
    go_simp
    refine hK.out _ _ r0 ?_
    clear hK
    (try simp only [Act.put, List.setIfInBounds_toArray, List.set_cons_zero, List.set_cons_succ])
    refine rg_done (by kernel_rfl) ?_
    have hz : ¬ E = 0 := fun h => (by have := (opE_true (HE.out.trans h)).1; cases this)
    have hne : (E == 0) = false := by simp [hz]
    have HN : Hid (lonN cw B D R a b = 0) := by show _ = _; unfold lonN; rw [HIV.out, HE.out, if_neg hz]
    clear hll
    go_wp2
    go_ret2
    rw [HN.out, HIV.out, HE.out]
    exact ⟨rfl, hBw⟩
  · rw [Bool.true_and] at HIV
    obtain ⟨E, hE⟩ : ∃ E, opE cw B D R vb = E := ⟨_, rfl⟩
    have HE := Lib.hid hE
    obtain ⟨ts, hts⟩ : ∃ x, knoL cw B D R vb = x := ⟨_, rfl⟩
    have HTS := Lib.hid hts
    clear hE hts
    refine rg_take (fuel := 8) [4, 5, 6] (by kernel_rfl) (by intro _ _ d _ _ h; cases d <;> exact h) rfl (by kernel_rfl) (by kernel_rfl) r0 ?_
    simp only [pickL, pick1, List.cons_append, List.nil_append]
    (refine wpTake_cons (v := ?_) (Or.inl ⟨by rfl, ?_⟩) ?_; rotate_left; (intro w' hSw; clear hSw; go_simp; (try with_reducible rfl)); (try simp only [Act.put, List.setIfInBounds_toArray, List.set_cons_zero, List.set_cons_succ]))
    (refine wpTake_cons (v := ?_) (Or.inl ⟨by rfl, ?_⟩) ?_; rotate_left; (intro w' hSw; have y0 : w'.cell? ⟨w.heap.size, 0, none⟩ = some (.slice A0 n0 c0) := hSw.c 0; have y1 : w'.cell? ⟨w.heap.size, 1, none⟩ = some (.slice A1 n1 c1) := hSw.c 1; have y2 : w'.cell? ⟨w.heap.size, 2, none⟩ = some (.slice A2 n2 c2) := hSw.c 2; have y3 : w'.cell? ⟨w.heap.size, 3, none⟩ = some (.int .i64 cw) := hSw.c 3; clear hSw; go_simp; (try with_reducible rfl)); (try simp only [Act.put, List.setIfInBounds_toArray, List.set_cons_zero, List.set_cons_succ]))
    (refine wpTake_cons (v := ?_) (Or.inl ⟨by rfl, ?_⟩) ?_; rotate_left; (intro w' hSw; clear hSw; go_simp; (try with_reducible rfl)); (try simp only [Act.put, List.setIfInBounds_toArray, List.set_cons_zero, List.set_cons_succ]))
    refine wpTake_nil ?_
    refine rg_one (fuel := 7) 7 rfl (by kernel_rfl) (by kernel_rfl) ?_
    simp only [pick1, wpHead]
    intro K hK
    rw [if_pos (by rfl)]
    go_simp
    refine (cbB hdb.out (isDivider32 _ _ _ _ _ _ _ _ _ _ _ _ hl1)).mono ?_
    rintro e w2 ⟨rfl, hb2⟩
    replace r0 := r0.below hb2 r0.lt
    replace hBw := hBw.trans (hb2.mono hBw.size)
    clear hb2
    go_wp2_with fail
    refine hK.out _ _ r0 ?_
    clear hK
    (try simp only [Act.put, List.setIfInBounds_toArray, List.set_cons_zero, List.set_cons_succ])
    refine rg_take (fuel := 6) [8] (by kernel_rfl) (by intro _ _ d _ _ h; cases d <;> exact h) rfl (by kernel_rfl) (by kernel_rfl) r0 ?_
    simp only [pickL, pick1, List.cons_append, List.nil_append]
    (refine wpTake_cons (v := ?_) (Or.inl ⟨by rfl, ?_⟩) ?_; rotate_left; (intro w' hSw; clear hSw; go_simp; (try with_reducible rfl)); (try simp only [Act.put, List.setIfInBounds_toArray, List.set_cons_zero, List.set_cons_succ]))
    refine wpTake_nil ?_
    refine rg_one (fuel := 5) 9 rfl (by kernel_rfl) (by kernel_rfl) ?_
    simp only [pick1, wpHead]
    intro K hK
    rw [if_pos (by rfl)]
    go_simp
    refine (known78 A0 A1 A2 n0 n1 n2 c0 c1 c2 cw vb B D R _ (HC.out.below hBw (Nat.le_refl _))).mono ?_
    rw [HE.out, HTS.out]
    rintro e w2 ⟨A2', c2', rfl, hll, hb2⟩
    replace r0 := r0.below hb2 r0.lt
    replace hBw := hBw.trans (hb2.mono hBw.size)
    clear hb2
    go_wp2_with fail
    refine hK.out _ _ r0 ?_
    clear hK
    (try simp only [Act.put, List.setIfInBounds_toArray, List.set_cons_zero, List.set_cons_succ])
    refine rg_take (fuel := 2) [10, 11, 12] (by kernel_rfl) (by intro _ _ d _ _ h; cases d <;> exact h) rfl (by kernel_rfl) (by kernel_rfl) r0 ?_
    simp only [pickL, pick1, List.cons_append, List.nil_append]
    (refine wpTake_cons (v := ?_) (Or.inl ⟨by rfl, ?_⟩) ?_; rotate_left; (intro w' hSw; clear hSw; go_simp; (try with_reducible rfl)); (try simp only [Act.put, List.setIfInBounds_toArray, List.set_cons_zero, List.set_cons_succ]))
    (refine wpTake_cons (v := ?_) (Or.inl ⟨by rfl, ?_⟩) ?_; rotate_left; (intro w' hSw; clear hSw; go_simp; (try with_reducible rfl)); (try simp only [Act.put, List.setIfInBounds_toArray, List.set_cons_zero, List.set_cons_succ]))
    (refine wpTake_cons (v := ?_) (Or.inl ⟨by rfl, ?_⟩) ?_; rotate_left; (intro w' hSw; clear hSw; go_simp; (try with_reducible rfl)); (try simp only [Act.put, List.setIfInBounds_toArray, List.set_cons_zero, List.set_cons_succ]))
    refine wpTake_nil ?_
    refine rg_one (fuel := 1) 13 rfl (by kernel_rfl) (by kernel_rfl) ?_
    simp only [pick1, wpHead]
    intro K hK
    rw [if_pos (by rfl)]
    go_simp
    refine hK.out _ _ r0 ?_
    clear hK
    (try simp only [Act.put, List.setIfInBounds_toArray, List.set_cons_zero, List.set_cons_succ])
    refine rg_one (fuel := 0) 14 rfl (by kernel_rfl) (by kernel_rfl) ?_
    simp only [pick1, wpHead]
    intro K hK
    rw [if_pos (by rfl)]
    go_simp
    refine hK.out _ _ r0 ?_
    clear hK
    (try simp only [Act.put, List.setIfInBounds_toArray, List.set_cons_zero, List.set_cons_succ])
    refine rg_done (by kernel_rfl) ?_
    by_cases hz : E = 0
    · subst hz
      obtain ⟨hvt, hchk⟩ := opE_true HE.out
      have hV := Lib.hid (val_of hchk)
      subst hvt
      have hvv := HVA.out
      unfold isDv at hvv
      have hdd := btw_iff.1 hvv
      have hvv2 := HVB.out
      unfold isDv at hvv2
      have hdd2 := btw_iff.1 hvv2
      obtain ⟨a, rfl⟩ := Int.eq_ofNat_of_zero_le hdd.1
      obtain ⟨b, rfl⟩ := Int.eq_ofNat_of_zero_le hdd2.1
      have haD : a < D.length := by omega
      have hbD : b < D.length := by omega
      have HTR : Hid (ts = truL cw B D R) := by show _ = _; rw [← HTS.out]; unfold knoL; rw [if_pos HE.out]
      have HLV : Hid (lonN cw B D R a b = if lonC B a b ts = ts.length then 1 else if lonC B a b ts = 0 then 2 else 3) := by
        show _ = _
        rw [HTR.out, ← lon_verd hV.out haD hbD]
        unfold lonN
        rw [HIV.out, if_pos HE.out]; rfl
      have hlen : ts.length ≤ 777600000 := by
        rw [HTR.out]
        unfold truL
        exact Nat.le_trans (List.length_filter_le _ _) (Nat.le_trans (all_pow (wid_le hV.out)) (Nat.le_trans (Nat.pow_le_pow_right (by decide) (show D.length + 1 ≤ 5 by have := hV.out.d; omega)) (by decide)))
      have HOPN : Hid (∀ l ∈ ts, Opn D l) := fun l hl => by rw [HTR.out] at hl; exact (mem_tru.1 hl).1
      have hD4 := hV.out.d
      have HLL := Lib.hid hll
      clear hvv hdd hvv2 hdd2 hchk hll hda hdb
      obtain ⟨l0, k0, f0⟩ := r0
      have r0 := Own.mk l0 k0 f0
      go_wp2
      go_loopg [10, 11] ts.length (fun K x y wr => ∃ (j m : Nat), K + j = ts.length ∧ y = .int .i64 j ∧ x = .int .i64 m ∧ Hid (lonC B a b (ts.take j) = m) ∧ Own wr w.heap.size [.slice A0 n0 c0, .slice A1 n1 c1, .slice A2 n2 c2, .int .i64 cw] ∧ Below w.heap.size w wr ∧ Below w2.heap.size w2 wr)
      case atStart => exact ⟨0, 0, by omega, rfl, rfl, rfl, r0, hBw, Below.refl _ _⟩
      case round =>
        clear r0 l0 k0 f0 hBw
        obtain ⟨wi, rfl⟩ : ∃ wi : World, wi = wr := ⟨_, rfl⟩
        obtain ⟨j, m, hj, rfl, rfl, hm, q0, hbw, hbv⟩ := hrel
        have hml : m ≤ ts.length := by
          rw [← hm.out]
          exact Nat.le_trans (lonC_le _ _ _ _) (by rw [List.length_take]; omega)
        obtain ⟨l0, k0, f0⟩ := q0
        have q0 := Own.mk l0 k0 f0
        have hzi := hbv.size
        by_cases hjl : j < ts.length
        · obtain ⟨l, hl⟩ : ∃ l, Hid (ts[j]? = some l) := ⟨ts[j]'hjl, by simp [Hid]⟩
          have hO := HOPN.out l (List.mem_of_getElem? hl.out)
          have hll := hO.len
          obtain ⟨b7, off7, A', c', rfl, hbl, hcell, hrl⟩ := (HLL.out.below hbv (Nat.le_refl _)).elem hl.out
          obtain ⟨x, hx⟩ : ∃ x, l.getD a 0 = x := ⟨_, rfl⟩
          obtain ⟨y, hy⟩ : ∃ x, l.getD b 0 = x := ⟨_, rfl⟩
          have hat := getD_at (show a < l.length by omega)
          have hbt := getD_at (show b < l.length by omega)
          have hxb := opn_bounds hV.out hO haD
          have hyb := opn_bounds hV.out hO hbD
          have HNX := lonC_snoc B a b (ts.take j) l
          rw [← take_snoc hl.out, hm.out] at HNX
          unfold lonB at HNX
          rw [hx] at hat hxb HNX
          rw [hy] at hbt hyb HNX
          obtain ⟨b9, o9, rfl, hb9, g9⟩ := hrl.elem hat
          obtain ⟨b8, o8, hbb, hb8, g8⟩ := hrl.elem hbt
          cases hbb
          have hal : a < l.length := by omega
          have hbl2 : b < l.length := by omega
          have hl4 : l.length ≤ 4 := by omega
          have hx0 := Aft.cell q0
          have hx5 := fun s : Aft wi => (Aft.old s hbl _).trans hcell
          have hx6 := fun s : Aft wi => (Aft.old s hb9 _).trans g9
          have hx7 := fun s : Aft wi => (Aft.old s hb9 _).trans g8
          have HR := Lib.hid (fun s' : Aft wi => isLonger51 A0 A1 A2 n0 n1 n2 c0 c1 c2 cw x y B D R s'.w ((HC.out.below hbw (Nat.le_refl _)).below s'.h (Nat.le_refl _)) hV hxb hyb)
          obtain ⟨q, hq⟩ : ∃ q, longB B x y = q := ⟨_, rfl⟩
          rw [hq] at HR HNX
          have HNX := Lib.hid HNX
          clear hcell g9 g8 hat hbt hx hy hrl hO hll hq
          cases q
          · go_wp2
            refine wp_region_aft (by kernel_rfl) (by kernel_rfl) ?_; (repeat (go_big_quiet_step ((go_at_call 51; exact aft_of (HR.out _))))); refine wpQuiet_nil ?_; rintro w7 ⟨⟨_, hb7⟩, rfl⟩
            have p0 := q0.below hb7 q0.lt
            have hB7 := hbw.trans (hb7.mono hbw.size)
            have hV7 := hbv.trans (hb7.mono hzi)
            clear hx0 hx5 hx6 hx7 hb7
            go_wp2
            go_roundg (ts.length - (j + 1))
            case measure => omega
            case rel => exact ⟨j + 1, m, by omega, by go_num, rfl, HNX.out, p0, hB7, hV7⟩
          · go_wp2
            refine wp_region_aft (by kernel_rfl) (by kernel_rfl) ?_; (repeat (go_big_quiet_step ((go_at_call 51; exact aft_of (HR.out _))))); refine wpQuiet_nil ?_; rintro w7 ⟨⟨_, hb7⟩, rfl⟩
            have p0 := q0.below hb7 q0.lt
            have hB7 := hbw.trans (hb7.mono hbw.size)
            have hV7 := hbv.trans (hb7.mono hzi)
            clear hx0 hx5 hx6 hx7 hb7
            go_wp2
            go_roundg (ts.length - (j + 1))
            case measure => omega
            case rel => exact ⟨j + 1, m + 1, by omega, by go_num, by go_num, HNX.out, p0, hB7, hV7⟩
        · have hm' : lonC B a b ts = m := by have := hm.out; rwa [List.take_of_length_le (by omega)] at this
          rw [hm'] at HLV
          clear hm'
          by_cases h1 : m = ts.length
          · rw [if_pos h1] at HLV
            have hq1 : ((m : Int) == ((ts.length : Nat) : Int)) = true := by simp [h1]
            clear h1
            go_wp2
            go_ret2
            rw [HLV.out, HIV.out, HE.out]
            exact ⟨rfl, hbw⟩
          · rw [if_neg h1] at HLV
            have hq1 : ((m : Int) == ((ts.length : Nat) : Int)) = false := by rw [beq_eq_false_iff_ne]; omega
            by_cases h2 : m = 0
            · rw [if_pos h2] at HLV
              have hq2 : ((m : Int) == 0) = true := by simp [h2]
              clear h1 h2
              go_wp2
              go_ret2
              rw [HLV.out, HIV.out, HE.out]
              exact ⟨rfl, hbw⟩
            · rw [if_neg h2] at HLV
              have hq2 : ((m : Int) == 0) = false := by rw [beq_eq_false_iff_ne]; omega
              clear h1 h2
              go_wp2
              go_ret2
              rw [HLV.out, HIV.out, HE.out]
              exact ⟨rfl, hbw⟩
    · have hne : (E == 0) = false := by simp [hz]
      have HN : Hid (lonN cw B D R a b = 0) := by show _ = _; unfold lonN; rw [HIV.out, HE.out, if_neg hz]
      clear hll
      go_wp2
      go_ret2
      rw [HN.out, HIV.out, HE.out]
      exact ⟨rfl, hBw⟩

end Go.Proofs.YtibkgnnpmidgfaaDoor
