/- Walks: can: are openings of some pairs of dividers in a truth? -/
import Derived.Test.YtibkgnnpmidgfaaDoorCk
namespace Go.Proofs.YtibkgnnpmidgfaaDoor
open Go.RowKit Go.Maps

/-- How many reports are wrong at the least, with these openings of some of the first k pairs of dividers. -/
def totF (B D : List Pt) (R : List Rep) (f : Int → Option Int) : Nat → Nat
  | 0 => 0
  | k + 1 => totF B D R f k + match f k with
    | some x => wrongD B R k x
    | none => minW B R k (sAt D k)
def visF (B : List Pt) (R : List Rep) (f : Int → Option Int) (left : Int → Bool) : Nat → Nat
  | 0 => 0
  | k + 1 => visF B R f left k + match f k with
    | some x => if left k = true then 0 else wrongD B R k x
    | none => 0
theorem totF_succ (B D : List Pt) (R : List Rep) (f : Int → Option Int) (k : Nat) : totF B D R f (k + 1) = totF B D R f k + match f k with
    | some x => wrongD B R k x
    | none => minW B R k (sAt D k) := rfl
theorem visF_succ (B : List Pt) (R : List Rep) (f : Int → Option Int) (left : Int → Bool) (k : Nat) : visF B R f left (k + 1) = visF B R f left k + match f k with
    | some x => if left k = true then 0 else wrongD B R k x
    | none => 0 := rfl
theorem visF_start (B : List Pt) (R : List Rep) (f : Int → Option Int) : ∀ k, visF B R f (fun x => (f x).isSome) k = 0
  | 0 => rfl
  | k + 1 => by
    rw [visF_succ, visF_start B R f k]
    cases h : f k <;> simp
theorem visF_miss (B : List Pt) (R : List Rep) (f : Int → Option Int) (left : Int → Bool) (x : Int) : ∀ k : Nat, (k : Int) ≤ x → visF B R f (fun z => left z && !decide (z = x)) k = visF B R f left k
  | 0, _ => rfl
  | k + 1, h => by
    rw [visF_succ, visF_succ, visF_miss B R f left x k (by omega)]
    have : decide ((k : Int) = x) = false := by simp; omega
    simp [this]
theorem visF_step (B : List Pt) (R : List Rep) (f : Int → Option Int) (left : Int → Bool) (d : Nat) (c : Int) (hl : left d = true) (hf : f d = some c) : ∀ k : Nat, d < k → visF B R f (fun z => left z && !decide (z = (d : Int))) k = visF B R f left k + wrongD B R d c
  | 0, h => by omega
  | k + 1, h => by
    rw [visF_succ, visF_succ]
    by_cases e : d = k
    · subst e
      rw [visF_miss B R f left d d (Int.le_refl _), hf]
      simp [hl]
    · rw [visF_step B R f left d c hl hf k (by omega)]
      have : decide ((k : Int) = d) = false := by simp; omega
      simp only [this, Bool.not_false, Bool.and_true]
      omega
theorem wrongD_le (B : List Pt) (R : List Rep) (i : Nat) (x : Int) : wrongD B R i x ≤ R.length := wrongL_le B i x R
theorem visF_le (B : List Pt) (R : List Rep) (f : Int → Option Int) (left : Int → Bool) : ∀ k, visF B R f left k ≤ R.length * k
  | 0 => Nat.zero_le _
  | k + 1 => by
    rw [visF_succ, Nat.mul_succ]
    have := visF_le B R f left k
    have h2 := fun x => wrongD_le B R k x
    split
    · rename_i x _; have := h2 x; split <;> omega
    · omega
theorem tot_of (B D : List Pt) (R : List Rep) (f : Int → Option Int) (left : Int → Bool) (bl : List Int) (hl : ∀ x, left x = false) (hb : ∀ i, i ∈ bl ↔ (f i).isSome = true ∧ left i = false) : ∀ k, totF B D R f k = visF B R f left k + fewS B D R bl k
  | 0 => rfl
  | k + 1 => by
    rw [totF_succ, visF_succ, fewS_succ, tot_of B D R f left bl hl hb k]
    cases h : f k with
    | some x =>
      have : (k : Int) ∈ bl := (hb k).2 ⟨by rw [h]; rfl, hl _⟩
      rw [if_pos this]
      simp only [hl]
      simp; omega
    | none =>
      have : (k : Int) ∉ bl := fun h' => by have := ((hb k).1 h').1; rw [h] at this; cases this
      rw [if_neg this]
      simp only; omega

set_option maxRecDepth 100000 in
set_option maxHeartbeats 1000000 in
theorem can73 (cb : Nat) (A0 A1 A2 : Option Addr) (n0 n1 n2 c0 c1 c2 : Nat) (cw : Int) (B D : List Pt) (R : List Rep) (mb n : Nat) (f : Int → Option Int) (w : World) (hc : Chart w cb A0 A1 A2 n0 n1 n2 c0 c1 c2 cw B D R) (hm : MapI w mb n f) (hn : n ≤ 100) (hn1 : n1 ≤ 4) (hR : R.length ≤ 8)
    (hf : Hid (∀ x c, f x = some c → 0 ≤ x ∧ x < n1 ∧ (sAt D x.toNat).1 ≤ c ∧ c ≤ (sAt D x.toNat).2)) :
    Calls Tryd.prog 73 #[.pointer (some ⟨cb, 0, none⟩), .map (some mb)] w fun e w' => e = .returned (.bool (decide ((totF B D R f n1 : Int) ≤ cw))) ∧ Below w.heap.size w w' := by
  obtain ⟨i0, hi0, hi1, hi2, hi3⟩ := info_parts Tryd.info3
  have HC := Lib.hid hc
  obtain ⟨PA, pc, bs, h1, h2, h3, h4⟩ := hc.ex
  have H2 := Lib.hid h2
  have H4 := Lib.hid h4
  have H3 := Lib.hid h3
  have H1 := Lib.hid h1
  have hmb := hm.lt
  clear h2 h4 h3 hc
  obtain ⟨l1, k1, f1⟩ := h1
  go_enter Tryd.func73, Tryd.ntmps73
  go_wp2_with (at_range; refine wp_rangeI _ rfl _ 99 rfl Tryd.underlying99 mb n f rfl hm ?_; intro w0 cnt hrg hb0 hs0 hcn)
  go_frame
  go_loopg [5, 6] cnt (fun K v o wr => ∃ (left : Int → Bool) (bl : List Int), RngI wr mb w.heap.size n f left K ∧ v = .int .i64 (visF B R f left n1 : Nat) ∧ Gro wr w.heap.size 3 1 o (bl.map irow) ∧ bl.length + K ≤ n ∧ Hid (∀ i, i ∈ bl ↔ (f i).isSome = true ∧ left i = false) ∧ Below w.heap.size w wr)
  case atStart => exact ⟨_, [], hrg, by rw [visF_start]; rfl, Gro.nil _ _ _ _, by simpa using hcn, fun i => ⟨(fun h => by cases h), (fun ⟨h1, h2⟩ => by have h3 : (f i).isSome = false := h2; rw [h1] at h3; cases h3)⟩, hb0⟩
  case round =>
    clear hrg hb0 hs0 hm hcn
    obtain ⟨left, bl, hrg, rfl, hg, hbl, hin, hbw⟩ := hrel
    have hvl := visF_le B R f left n1
    have hvl2 : R.length * n1 ≤ 8 * 4 := Nat.mul_le_mul hR hn1
    go_wp2_with (at_next; refine wp_nextI _ rfl _ rfl mb w.heap.size n f left _ rfl hrg ?_ ?_)
    · intro hc0 hl0
      have hfin := Lib.hid (tot_of B D R f left bl hl0 hin.out n1)
      have hfl := fewS_le B D R bl n1
      obtain ⟨A', cap', rfl, hrd⟩ := hg.out
      have hll : (bl.map irow).length = bl.length := List.length_map _
      have hcall : ∀ x : Aft wr, Calls Tryd.prog 76 #[.pointer (some ⟨cb, 0, none⟩),   .slice A' bl.length cap'] x.w (fun e w' => e = .returned (.int .i64 (fewS B D R bl n1 : Nat)) ∧ Below x.w.heap.size x.w w') := fun x =>
        fewest76 cb A0 A1 A2 n0 n1 n2 c0 c1 c2 cw B D R A' bl bl.length cap' x.w (HC.out.below (hbw.trans (x.h.mono hbw.size)) (Nat.le_refl _)) (RdI.below hrd x.h (Nat.le_refl _)) rfl (by omega) hn1
      have hown := (H1.out.below hbw l1)
      have hx0 := Aft.cell hown
      have hsum : IntKind.i64.wrap ((visF B R f left n1 : Nat) + (fewS B D R bl n1 : Nat) : Int) = (visF B R f left n1 : Nat) + (fewS B D R bl n1 : Nat) := IntWalk.i64_in _ (by omega)
      clear hg hrd hrg
      go_wp2
      refine wp_region_aft (by kernel_rfl) (by kernel_rfl) ?_; (repeat (go_big_quiet_step ((go_at_call 76; exact aft_of (hcall _))))); refine wpQuiet_nil ?_; rintro w5 ⟨⟨_, hb5⟩, rfl⟩
      go_wp2
      go_ret
      refine ⟨ret_bool ?_, by (repeat' (first | (with_reducible exact Below.refl _ _) | (with_reducible assumption) | (with_reducible refine Below.drew ?_) | (with_reducible refine below_drewN ?_ _) | (with_reducible refine Below.setCell ?_ ?_ _) | (with_reducible refine Below.alloc ?_ ?_ _) | (refine Below.trans ?_ (Below.mono (by with_reducible assumption) ?_)) | omega | (exact Below.size (by with_reducible assumption)) | (simp; done) | (simp; omega)))⟩
      rw [hfin.out]
      push_cast
      rfl
    · intro x c w1 cnt1 hwx hwc hlx hfx hrg1 hlt hg1 hs1 hen
      obtain ⟨hx0, hx1, hx2, hx3⟩ := hf.out x c hfx
      obtain ⟨d, rfl⟩ := Int.eq_ofNat_of_zero_le hx0
      rw [Int.toNat_natCast] at hx2 hx3
      obtain ⟨b, hb⟩ : ∃ b, Hid (bs[d]? = some b) := ⟨bs[d]'(by have := H3.out; omega), by simp [Hid]⟩
      obtain ⟨s, hs, hm0⟩ := H4.out d b hb.out
      have hsd : sAt D d = s := by unfold sAt; rw [List.getD_eq_getElem?_getD, hs]; rfl
      rw [hsd] at hx2 hx3
      have hB1 : Below w.heap.size w w1 := hbw.grown hg1 hbw.size (fun k e => by cases e; exact Nat.le_refl _)
      have HM := Lib.hid (hm0.below hB1 hm0.lt)
      have hpf : Hid ((pairF B R d s c).getD 0 = (wrongD B R d c : Int)) := by show _ = _; unfold pairF; rw [if_pos ⟨hx2, hx3⟩]; rfl
      have hst := Lib.hid (visF_step B R f left d c hlx hfx n1 (by omega))
      have hwd := wrongD_le B R d c
      have hg1' : Gro w1 w.heap.size 3 1 u6 (bl.map irow) := ⟨hg.1, row_kept_rng hrg hg.2 hg1⟩
      have hin2 : Hid (∀ i, i ∈ bl ++ [(d : Int)] ↔ (f i).isSome = true ∧ (left i && !decide (i = (d : Int))) = false) := by
        intro i
        rw [List.mem_append, List.mem_singleton, hin.out i]
        by_cases e : i = (d : Int)
        · subst e; simp [hfx]
        · simp [e]
      have hll : (bl.map irow).length = bl.length := List.length_map _
      have HF := Lib.hid hfx
      have HL := Lib.hid hlx
      obtain ⟨c9, off9, rfl, hcl, hcc⟩ := rd_map (Rd.below H2.out hB1 (Nat.le_refl _)) hb.out
      have ho1 := H1.out.below hB1 l1
      have c1' := ho1.c
      have HWC := Lib.hid hwc
      have hz1 : w.heap.size ≤ w1.heap.size := hB1.size
      clear hfx hlx hbw hrg hg hg1 hs hs1 hm0 hsd hwc
      have hsum : IntKind.i64.wrap ((visF B R f left n1 : Nat) + (wrongD B R d c : Nat) : Int) = (visF B R f left n1 : Nat) + (wrongD B R d c : Nat) := IntWalk.i64_in _ (by omega)
      have hpf2 := hpf.out
      go_wp2_with (first | (at_lookup; go_must (refine wp_getI _ rfl _ _ 106 rfl Tryd.underlying106 b 1000 _ rfl HM.out c rfl HWC.out ?_; rw [hpf2]; clear hpf2)) | (at_builtin; go_must (refine wpList_append_own _ rfl _ _ 46 rfl w.heap.size 3 i0 (.int .i64 0) 1 8 Tryd.underlying46 hi0 hi1 hi2 hi3 rfl (by decide) _ _ _ rfl (hg1'.2.alloc _) ⟨w1.heap.size, 0, none⟩ 1 1 [.int .i64 d] rfl rfl (cell_one_new _ _ _) (by intro u hu; simp at hu; subst hu; rfl) (by unfold maxLen; omega) (by omega) (by simp; omega) ?_; intro v' w5 hown' hgrow hnil; have hbA : Below w.heap.size w1 w5 := ((Below.refl _ w1).alloc hz1 _).grown hgrow (by simp; omega) (fun i hi => (hg1'.2.lt i hi).1); have hg2 : Gro w5 w.heap.size 3 1 v' (bl.map irow ++ [irow d]) := Gro.grown hg1' rfl hown'; have hrg2 := rng_kept_row (hrg1.kept (World.grownBy_alloc w1 _ none) (by simp) (by simp)) (hg1'.2.alloc _) hgrow; clear hown' hgrow hnil)))
      go_roundg cnt1
      case measure => omega
      case rel =>
        refine ⟨_, bl ++ [(d : Int)], hrg2, ?_, by rw [List.map_append]; exact hg2, by simp; omega, hin2, by (repeat' (first | (with_reducible exact Below.refl _ _) | (with_reducible assumption) | (with_reducible refine Below.drew ?_) | (with_reducible refine below_drewN ?_ _) | (with_reducible refine Below.setCell ?_ ?_ _) | (with_reducible refine Below.alloc ?_ ?_ _) | (refine Below.trans ?_ (Below.mono (by with_reducible assumption) ?_)) | omega | (exact Below.size (by with_reducible assumption)) | (simp; done) | (simp; omega)))⟩
        rw [hst.out]; rfl

end Go.Proofs.YtibkgnnpmidgfaaDoor
