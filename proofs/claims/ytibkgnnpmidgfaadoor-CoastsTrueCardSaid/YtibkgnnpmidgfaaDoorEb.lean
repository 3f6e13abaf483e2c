/- Walks: in, IsRight, Counts, Opening, Length, IsLonger of the reference. -/
import Derived.Test.YtibkgnnpmidgfaaDoorEa
import Derived.Test.YtibkgnnpmidgfaaDoorDa
import Derived.Test.YtibkgnnpmidgfaaDoorCn
import Derived.Test.YtibkgnnpmidgfaaDoorDi
import Derived.Test.YtibkgnnpmidgfaaDoorCr
namespace Go.Proofs.YtibkgnnpmidgfaaDoor
open Go.RowKit

theorem low_head {m : Nat} (h : m ≠ 0) (hm : m < 8192) : (bitsL m)[0]? = some (lowN m : Int) := by
  obtain ⟨h1, h2⟩ := lowN_bit h hm
  have hmem : (lowN m : Int) ∈ bitsL m := mem_bitsL.2 ⟨lowN m, by have := lowN_le hm; omega, h1, rfl⟩
  obtain ⟨a, ha⟩ : ∃ a, (bitsL m)[0]? = some a := by
    cases hb : bitsL m with
    | nil => rw [hb] at hmem; cases hmem
    | cons a r => exact ⟨a, rfl⟩
  have h3 := head_le (bitsL_sorted m) ha hmem
  obtain ⟨k, _, h4, rfl⟩ := mem_bitsL.1 (List.mem_of_getElem? ha)
  have : lowN m ≤ k := by
    false_or_by_contra
    rename_i hlt
    rw [h2 k (by omega)] at h4
    cases h4
  rw [ha, show k = lowN m by omega]

set_option maxRecDepth 100000 in
set_option maxHeartbeats 2000000 in
theorem in90 (A : Option Addr) (n c : Nat) (xs : List Int) (x : Int) (w : World) (hx : RdI w A xs) (hn : n = xs.length) (hl : n ≤ 140737488355328) :
    Calls Tryd.prog 90 #[.slice A n c, .int .i64 x] w fun e w' => e = .returned (.bool (decide (x ∈ xs))) ∧ w = w' := by
  have HX := Lib.hid hx
  have HN := Lib.hid hn
  clear hx hn
  go_enter Tryd.func90, Tryd.ntmps90
  go_wp2
  go_loopg [5] n (fun K i wr => ∃ k : Nat, K + k = n ∧ i = .int .i64 k ∧ w = wr ∧ Hid (x ∉ xs.take k))
  case atStart => exact ⟨0, rfl, rfl, rfl, by simp [Hid]⟩
  case round =>
    obtain ⟨k, hk, rfl, rfl, ht⟩ := hrel
    by_cases hlt : k < n
    · obtain ⟨y, hy⟩ : ∃ y, Hid (xs[k]? = some y) := ⟨xs[k]'(by have := HN.out; omega), by simp [Hid]⟩
      obtain ⟨b, o, rfl, hb, hc⟩ := HX.out.elem hy.out
      by_cases hxy : y = x
      · have hd : Hid (decide (x ∈ xs) = true) := decide_eq_true (by rw [← hxy]; exact List.mem_of_getElem? hy.out)
        have heq : (y == x) = true := by simpa using hxy
        go_wp2
        go_ret
        exact ⟨ret_bool hd.out.symm, rfl⟩
      · have heq : (y == x) = false := by simpa using hxy
        go_wp2
        go_roundg (n - (k + 1))
        case measure => omega
        case rel => exact ⟨k + 1, by omega, by go_num, rfl, (by
          show _ ∉ _
          rw [take_snoc hy.out]
          simp only [List.mem_append, List.mem_singleton, not_or]
          exact ⟨ht.out, fun e => hxy e.symm⟩)⟩
    · have hd : Hid (decide (x ∈ xs) = false) := decide_eq_false (by have := ht.out; rw [List.take_of_length_le (by have := HN.out; omega)] at this; exact this)
      go_wp2
      go_ret
      exact ⟨ret_bool hd.out.symm, rfl⟩

theorem right_mem {B : List Pt} {r : Rep} {o : Int} (h1 : 1 ≤ r.s) (h2 : r.s ≤ 12) : decide (r.s ∈ bitsL (mk B o r.f.toNat r.t.toNat)) = rightB B r o := by
  unfold rightB
  rw [Bool.eq_iff_iff, decide_eq_true_eq, mem_bitsL]
  constructor
  · rintro ⟨k, h3, h4, h5⟩
    rw [h5, Int.toNat_natCast]; exact h4
  · intro h
    exact ⟨r.s.toNat, by omega, h, by omega⟩

set_option maxRecDepth 100000 in
set_option maxHeartbeats 8000000 in
theorem isRight50 (A0 A1 A2 : Option Addr) (n0 n1 n2 c0 c1 c2 : Nat) (cw : Int) (r : Rep) (o : Int) (B D : List Pt) (R : List Rep) (w : World) (hC : RdC w A0 A1 A2 n0 n1 n2 B D R) (hV : Hid (Val cw B D R)) (ho : 1 ≤ o ∧ o ≤ 60) (hr : r ∈ R) :
    Calls Tryd.prog 50 #[.agg #[.slice A0 n0 c0, .slice A1 n1 c1, .slice A2 n2 c2, .int .i64 cw], .agg #[.int .i64 r.d, .int .i64 r.f, .int .i64 r.t, .int .i64 r.s], .int .i64 o] w fun e w' => e = .returned (.bool (rightB B r o)) ∧ Below w.heap.size w w' := by
  have HC := Lib.hid hC
  have HL := Lib.hid hC.h0
  clear hC
  obtain ⟨v1, v2, v3, v4, v5, v6, v7⟩ := hV.out.rs r hr
  rw [← HL.out] at v5
  obtain ⟨d, f, t, s⟩ := r
  dsimp only at v1 v2 v3 v4 v5 v6 v7 ⊢
  obtain ⟨f, rfl⟩ := Int.eq_ofNat_of_zero_le v3
  obtain ⟨t, rfl⟩ := Int.eq_ofNat_of_zero_le (show 0 ≤ t by omega)
  have o0 : Own ((w.alloc (.cells #[.slice A0 n0 c0, .slice A1 n1 c1, .slice A2 n2 c2, .int .i64 cw] 26)).alloc (.cells #[.int .i64 d, .int .i64 f, .int .i64 t, .int .i64 s] 58)) w.heap.size [.slice A0 n0 c0, .slice A1 n1 c1, .slice A2 n2 c2, .int .i64 cw] := (Own.new' _ _ rfl rfl).alloc _
  have o1 : Own ((w.alloc (.cells #[.slice A0 n0 c0, .slice A1 n1 c1, .slice A2 n2 c2, .int .i64 cw] 26)).alloc (.cells #[.int .i64 d, .int .i64 f, .int .i64 t, .int .i64 s] 58)) (w.heap.size + 1) [.int .i64 d, .int .i64 f, .int .i64 t, .int .i64 s] := Own.new' _ _ (by simp) rfl
  have oB : Below w.heap.size w ((w.alloc (.cells #[.slice A0 n0 c0, .slice A1 n1 c1, .slice A2 n2 c2, .int .i64 cw] 26)).alloc (.cells #[.int .i64 d, .int .i64 f, .int .i64 t, .int .i64 s] 58)) := by (repeat' (first | (with_reducible exact Below.refl _ _) | (with_reducible assumption) | (with_reducible refine Below.drew ?_) | (with_reducible refine below_drewN ?_ _) | (with_reducible refine Below.setCell ?_ ?_ _) | (with_reducible refine Below.alloc ?_ ?_ _) | (refine Below.trans ?_ (Below.mono (by with_reducible assumption) ?_)) | omega | (exact Below.size (by with_reducible assumption)) | (simp; done) | (simp; omega)))
  have HRM : Hid (decide (s ∈ bitsL (mk B o f t)) = rightB B ⟨d, f, t, s⟩ o) := right_mem (r := ⟨d, f, t, s⟩) v6 v7
  clear hr
  go_enter Tryd.func50, Tryd.ntmps50
  go_wp2
  replace o0 := o0.drew
  replace o1 := o1.drew
  replace oB := oB.drew
  refine rg_start (fun w' => Own w' w.heap.size [.slice A0 n0 c0, .slice A1 n1 c1, .slice A2 n2 c2, .int .i64 cw] ∧ Own w' (w.heap.size + 1) [.int .i64 d, .int .i64 f, .int .i64 t, .int .i64 s]) 11 (by kernel_rfl) rfl ?_
  refine rg_take (fuel := 3) [0, 1, 2, 3, 4, 5, 7, 8] (by kernel_rfl) (by intro _ _ d _ _ h; cases d <;> exact h) rfl (by kernel_rfl) (by kernel_rfl) ⟨o0, o1⟩ ?_
  simp only [pickL, pick1, List.cons_append, List.nil_append]
  iterate 8 (refine wpTake_cons (v := ?_) (Or.inl ⟨by rfl, ?_⟩) ?_; rotate_left; (intro w' hSw; have y0 : w'.cell? ⟨w.heap.size, 0, none⟩ = some (.slice A0 n0 c0) := hSw.1.c 0; have y1 : w'.cell? ⟨w.heap.size, 1, none⟩ = some (.slice A1 n1 c1) := hSw.1.c 1; have y2 : w'.cell? ⟨w.heap.size, 2, none⟩ = some (.slice A2 n2 c2) := hSw.1.c 2; have y3 : w'.cell? ⟨w.heap.size, 3, none⟩ = some (.int .i64 cw) := hSw.1.c 3; have z1 : w'.cell? ⟨w.heap.size + 1, 1, none⟩ = some (.int .i64 f) := hSw.2.c 1; have z2 : w'.cell? ⟨w.heap.size + 1, 2, none⟩ = some (.int .i64 t) := hSw.2.c 2; have z3 : w'.cell? ⟨w.heap.size + 1, 3, none⟩ = some (.int .i64 s) := hSw.2.c 3; clear hSw; go_simp; (try with_reducible rfl)); (try simp only [Act.put, List.setIfInBounds_toArray, List.set_cons_zero, List.set_cons_succ]))
  refine wpTake_nil ?_
  generalize World.drew _ = W at o0 o1 oB ⊢
  refine rg_one (fuel := 2) 6 rfl (by kernel_rfl) (by kernel_rfl) ?_
  simp only [pick1, wpHead]
  intro K hK
  rw [if_pos (by rfl)]
  go_simp
  refine (counts88 A0 A1 A2 n0 n1 n2 c0 c1 c2 cw o f t B D R W (HC.out.below oB (Nat.le_refl _)) hV ho (by omega) (by omega)).mono ?_
  rintro e w1 ⟨A1', c1', rfl, hr1, hb1⟩
  have q0 := o0.below hb1 o0.lt
  have q1 := o1.below hb1 o1.lt
  have hB1 : Below w.heap.size w w1 := oB.trans (hb1.mono oB.size)
  have hl1 := bitsL_len (mk B o f t)
  go_wp2_with fail
  refine hK.out _ _ ⟨q0, q1⟩ ?_
  clear hK
  (try simp only [Act.put, List.setIfInBounds_toArray, List.set_cons_zero, List.set_cons_succ])
  refine rg_one (fuel := 1) 9 rfl (by kernel_rfl) (by kernel_rfl) ?_
  simp only [pick1, wpHead]
  intro K hK
  rw [if_pos (by rfl)]
  go_simp
  refine (in90 A1' _ c1' (bitsL (mk B o f t)) s w1 hr1 rfl (by omega)).mono ?_
  rw [HRM.out]
  rintro e w2 ⟨rfl, rfl⟩
  go_wp2_with fail
  refine hK.out _ _ ⟨q0, q1⟩ ?_
  clear hK
  (try simp only [Act.put, List.setIfInBounds_toArray, List.set_cons_zero, List.set_cons_succ])
  refine rg_one (fuel := 0) 10 rfl (by kernel_rfl) (by kernel_rfl) ?_
  simp only [pick1, wpHead]
  intro K hK
  rw [if_pos (by rfl)]
  go_simp
  refine hK.out _ _ ⟨q0, q1⟩ ?_
  clear hK
  (try simp only [Act.put, List.setIfInBounds_toArray, List.set_cons_zero, List.set_cons_succ])
  refine rg_done (by kernel_rfl) ?_
  go_wp2
  go_ret
  exact ⟨rfl, hB1⟩

end Go.Proofs.YtibkgnnpmidgfaaDoor
namespace Go.Proofs.YtibkgnnpmidgfaaDoor
open Go.RowKit

/-- What is asked of a coast is asked rightly, or not. -/
theorem askE_cases (cw : Int) (B D : List Pt) (R : List Rep) (v : Bool) : (chkE cw B D R = 100 ∧ askE cw B D R v = 100) ∨ (chkE cw B D R = 0 ∧ v = false ∧ askE cw B D R v = 1) ∨ (chkE cw B D R = 0 ∧ v = true ∧ askE cw B D R v = 0) := by
  rcases chkE_cases cw B D R with h | h
  · cases v
    · exact Or.inr (Or.inl ⟨h, rfl, by rw [ask_ok h]; rfl⟩)
    · exact Or.inr (Or.inr ⟨h, rfl, by rw [ask_ok h]; rfl⟩)
  · exact Or.inl ⟨h, ask_bad h⟩

set_option maxRecDepth 100000 in
set_option maxHeartbeats 8000000 in
theorem counts45 (A0 A1 A2 : Option Addr) (n0 n1 n2 c0 c1 c2 : Nat) (cw : Int) (o f t : Int) (B D : List Pt) (R : List Rep) (w : World) (hC : RdC w A0 A1 A2 n0 n1 n2 B D R) :
    Calls Tryd.prog 45 #[.agg #[.slice A0 n0 c0, .slice A1 n1 c1, .slice A2 n2 c2, .int .i64 cw], .int .i64 o, .int .i64 f, .int .i64 t] w fun e w' => ∃ (A : Option Addr) (cap : Nat), e = .returned (.tuple #[.slice A (cntL cw B D R o f t).length cap, .int .i64 (cntE cw B D R o f t)]) ∧ RdI w' A (cntL cw B D R o f t) ∧ Below w.heap.size w w' := by
  have HC := Lib.hid hC
  have HL := Lib.hid hC.h0
  clear hC
  have o0 : Own (w.alloc (.cells #[.slice A0 n0 c0, .slice A1 n1 c1, .slice A2 n2 c2, .int .i64 cw] 26)) w.heap.size [.slice A0 n0 c0, .slice A1 n1 c1, .slice A2 n2 c2, .int .i64 cw] := Own.new' _ _ rfl rfl
  have oB : Below w.heap.size w (w.alloc (.cells #[.slice A0 n0 c0, .slice A1 n1 c1, .slice A2 n2 c2, .int .i64 cw] 26)) := by (repeat' (first | (with_reducible exact Below.refl _ _) | (with_reducible assumption) | (with_reducible refine Below.drew ?_) | (with_reducible refine below_drewN ?_ _) | (with_reducible refine Below.setCell ?_ ?_ _) | (with_reducible refine Below.alloc ?_ ?_ _) | (refine Below.trans ?_ (Below.mono (by with_reducible assumption) ?_)) | omega | (exact Below.size (by with_reducible assumption)) | (simp; done) | (simp; omega)))
  have hav : Hid (askC B o f t = (btw o 1 60 && plB n0 f t)) := by show _ = _; rw [HL.out]; rfl
  go_enter Tryd.func45, Tryd.ntmps45
  go_wp2_with fail
  refine (check14 A0 A1 A2 n0 n1 n2 c0 c1 c2 cw B D R _ (HC.out.below oB (Nat.le_refl _))).mono ?_
  rcases askE_cases cw B D R (askC B o f t) with ⟨hc, ha⟩ | ⟨hc, hv, ha⟩ | ⟨hc, hv, ha⟩
  · have HN : Hid (cntL cw B D R o f t = [] ∧ cntE cw B D R o f t = 100) := by
      show _ ∧ _
      unfold cntL cntE
      rw [if_neg (by omega), if_neg (by omega)]
      exact ⟨rfl, ha⟩
    rw [hc]
    clear hc ha
    rintro e w1 ⟨rfl, hb1⟩
    have hB1 : Below w.heap.size w w1 := by (repeat' (first | (with_reducible exact Below.refl _ _) | (with_reducible assumption) | (with_reducible refine Below.drew ?_) | (with_reducible refine below_drewN ?_ _) | (with_reducible refine Below.setCell ?_ ?_ _) | (with_reducible refine Below.alloc ?_ ?_ _) | (refine Below.trans ?_ (Below.mono (by with_reducible assumption) ?_)) | omega | (exact Below.size (by with_reducible assumption)) | (simp; done) | (simp; omega)))
    go_wp2
    go_ret2
    refine ⟨none, 0, ?_, ?_, hB1⟩
    · rw [HN.out.1, HN.out.2]; rfl
    · rw [HN.out.1]; exact RdI.nil _ _
  · have HN : Hid (cntL cw B D R o f t = [] ∧ cntE cw B D R o f t = 1) := by
      show _ ∧ _
      unfold cntL cntE
      rw [if_neg (by omega), if_neg (by omega)]
      exact ⟨rfl, ha⟩
    rw [hc]
    rw [hav.out] at hv
    clear hc ha
    rintro e w1 ⟨rfl, hb1⟩
    have q0 := o0.below hb1 o0.lt
    have hB1 : Below w.heap.size w w1 := by (repeat' (first | (with_reducible exact Below.refl _ _) | (with_reducible assumption) | (with_reducible refine Below.drew ?_) | (with_reducible refine below_drewN ?_ _) | (with_reducible refine Below.setCell ?_ ?_ _) | (with_reducible refine Below.alloc ?_ ?_ _) | (refine Below.trans ?_ (Below.mono (by with_reducible assumption) ?_)) | omega | (exact Below.size (by with_reducible assumption)) | (simp; done) | (simp; omega)))
    clear o0 oB hb1
    obtain ⟨l0, k0, f0⟩ := q0
    cases hb : btw o 1 60
    · have HB := Lib.hid hb
      clear hb hv
      go_wp2_with (first | (go_at_call 20; refine (cbP HB.out (isOpening20 _ _)).mono ?_; rintro e w2 ⟨rfl, rfl⟩) | fail)
      go_ret2
      refine ⟨none, 0, ?_, ?_, hB1⟩
      · rw [HN.out.1, HN.out.2]; rfl
      · rw [HN.out.1]; exact RdI.nil _ _
    · have HB := Lib.hid hb
      rw [hb, Bool.true_and] at hv
      have HP := Lib.hid hv
      clear hb hv
      go_wp2_with (first | (go_at_call 20; refine (cbP HB.out (isOpening20 _ _)).mono ?_; rintro e w2 ⟨rfl, rfl⟩) | fail)
      refine (cbB HP.out (areBends15 _ _ _ _ _ _ _ _ _ _ _ _ _)).mono ?_
      rintro e w2 ⟨rfl, hb2⟩
      have hB2 : Below w.heap.size w w2 := by (repeat' (first | (with_reducible exact Below.refl _ _) | (with_reducible assumption) | (with_reducible refine Below.drew ?_) | (with_reducible refine below_drewN ?_ _) | (with_reducible refine Below.setCell ?_ ?_ _) | (with_reducible refine Below.alloc ?_ ?_ _) | (refine Below.trans ?_ (Below.mono (by with_reducible assumption) ?_)) | omega | (exact Below.size (by with_reducible assumption)) | (simp; done) | (simp; omega)))
      clear hb2
      go_wp2
      go_ret2
      refine ⟨none, 0, ?_, ?_, hB2⟩
      · rw [HN.out.1, HN.out.2]; rfl
      · rw [HN.out.1]; exact RdI.nil _ _
  · have hV := Lib.hid (val_of (chk_ok hc))
    rw [hav.out] at hv
    simp only [Bool.and_eq_true] at hv
    obtain ⟨hb, hp⟩ := hv
    obtain ⟨p1, p2, p3⟩ := plB_iff.1 hp
    obtain ⟨f, rfl⟩ := Int.eq_ofNat_of_zero_le p1
    obtain ⟨t, rfl⟩ := Int.eq_ofNat_of_zero_le (show 0 ≤ t by omega)
    have HB := Lib.hid hb
    have HP := Lib.hid hp
    have hbo := btw_iff.1 hb
    have ht12 : t < 12 := by have := hV.out.b2; have := HL.out; omega
    have HNL : Hid (cntL cw B D R o f t = bitsL (mk B o f t)) := by show _ = _; unfold cntL; rw [if_pos ha]; rfl
    have HNE : Hid (cntE cw B D R o f t = if mk B o f t = 0 then 3 else 0) := by show _ = _; unfold cntE; rw [if_pos ha]; rfl
    have HNIL := Lib.hid (bitsL_nil (B := B) (o := o) (f := f) ht12)
    rw [hc]
    clear hc ha hb hp
    rintro e w1 ⟨rfl, hb1⟩
    have q0 := o0.below hb1 o0.lt
    have hB1 : Below w.heap.size w w1 := by (repeat' (first | (with_reducible exact Below.refl _ _) | (with_reducible assumption) | (with_reducible refine Below.drew ?_) | (with_reducible refine below_drewN ?_ _) | (with_reducible refine Below.setCell ?_ ?_ _) | (with_reducible refine Below.alloc ?_ ?_ _) | (refine Below.trans ?_ (Below.mono (by with_reducible assumption) ?_)) | omega | (exact Below.size (by with_reducible assumption)) | (simp; done) | (simp; omega)))
    clear o0 oB hb1
    obtain ⟨l0, k0, f0⟩ := q0
    have q0 := Own.mk l0 k0 f0
    go_wp2_with (first | (go_at_call 20; refine (cbP HB.out (isOpening20 _ _)).mono ?_; rintro e w2 ⟨rfl, rfl⟩) | fail)
    refine (cbB HP.out (areBends15 _ _ _ _ _ _ _ _ _ _ _ _ _)).mono ?_
    rintro e w2 ⟨rfl, hb2⟩
    have q2 := q0.below hb2 q0.lt
    have hB2 : Below w.heap.size w w2 := by (repeat' (first | (with_reducible exact Below.refl _ _) | (with_reducible assumption) | (with_reducible refine Below.drew ?_) | (with_reducible refine below_drewN ?_ _) | (with_reducible refine Below.setCell ?_ ?_ _) | (with_reducible refine Below.alloc ?_ ?_ _) | (refine Below.trans ?_ (Below.mono (by with_reducible assumption) ?_)) | omega | (exact Below.size (by with_reducible assumption)) | (simp; done) | (simp; omega)))
    clear q0 l0 k0 f0 hB1 hb2
    obtain ⟨l0, k0, f0⟩ := q2
    go_wp2_with fail
    refine (counts88 A0 A1 A2 n0 n1 n2 c0 c1 c2 cw o f t B D R _ (HC.out.below hB2 (Nat.le_refl _)) hV hbo (by omega) (by omega)).mono ?_
    rintro e w3 ⟨A3, cap3, rfl, hr3, hb3⟩
    have hB3 : Below w.heap.size w w3 := by (repeat' (first | (with_reducible exact Below.refl _ _) | (with_reducible assumption) | (with_reducible refine Below.drew ?_) | (with_reducible refine below_drewN ?_ _) | (with_reducible refine Below.setCell ?_ ?_ _) | (with_reducible refine Below.alloc ?_ ?_ _) | (refine Below.trans ?_ (Below.mono (by with_reducible assumption) ?_)) | omega | (exact Below.size (by with_reducible assumption)) | (simp; done) | (simp; omega)))
    have HR3 := Lib.hid hr3
    clear hr3 hb3
    by_cases hz : mk B o f t = 0
    · have hnil := HNIL.out.2 hz
      have HN : Hid (cntL cw B D R o f t = [] ∧ cntE cw B D R o f t = 3) := by show _ ∧ _; rw [HNL.out, HNE.out, if_pos hz]; exact ⟨hnil, rfl⟩
      rw [hnil]
      clear hz hnil
      go_wp2
      go_ret2
      refine ⟨none, 0, ?_, ?_, hB3⟩
      · rw [HN.out.1, HN.out.2]; rfl
      · rw [HN.out.1]; exact RdI.nil _ _
    · have hpos : 0 < (bitsL (mk B o f t)).length := List.length_pos_iff.2 fun e => hz (HNIL.out.1 e)
      have hne : (((bitsL (mk B o f t)).length : Int) == 0) = false := by simp; intro e; rw [e] at hpos; simp at hpos
      have HN : Hid (cntL cw B D R o f t = bitsL (mk B o f t) ∧ cntE cw B D R o f t = 0) := by show _ ∧ _; rw [HNL.out, HNE.out, if_neg hz]; exact ⟨rfl, rfl⟩
      obtain ⟨ls, hls⟩ : ∃ x, bitsL (mk B o f t) = x := ⟨_, rfl⟩
      rw [hls] at hne HN HR3 ⊢
      clear hz hpos hls
      go_wp2
      go_ret2
      refine ⟨A3, cap3, ?_, ?_, hB3⟩
      · rw [HN.out.1, HN.out.2]; rfl
      · rw [HN.out.1]; exact HR3.out

end Go.Proofs.YtibkgnnpmidgfaaDoor
namespace Go.Proofs.YtibkgnnpmidgfaaDoor
open Go.RowKit

theorem low_pos {B : List Pt} {o : Int} {f t : Nat} (h : mk B o f t ≠ 0) (hm : mk B o f t < 8192) (hft : f < t) : 1 ≤ lowN (mk B o f t) := by
  have h1 := (lowN_bit h hm).1
  cases hl : lowN (mk B o f t) with
  | zero =>
    rw [hl, mk_bit] at h1
    simp [walkB] at h1
    omega
  | succ k => omega

set_option maxRecDepth 100000 in
set_option maxHeartbeats 8000000 in
theorem opening46 (A0 A1 A2 : Option Addr) (n0 n1 n2 c0 c1 c2 : Nat) (cw : Int) (f t many : Int) (B D : List Pt) (R : List Rep) (w : World) (hC : RdC w A0 A1 A2 n0 n1 n2 B D R) :
    Calls Tryd.prog 46 #[.agg #[.slice A0 n0 c0, .slice A1 n1 c1, .slice A2 n2 c2, .int .i64 cw], .int .i64 f, .int .i64 t, .int .i64 many] w fun e w' => e = .returned (.tuple #[.int .i64 (opnN cw B D R f t many), .int .i64 (opnE cw B D R f t many)]) ∧ Below w.heap.size w w' := by
  have HC := Lib.hid hC
  have HL := Lib.hid hC.h0
  clear hC
  have o0 : Own (w.alloc (.cells #[.slice A0 n0 c0, .slice A1 n1 c1, .slice A2 n2 c2, .int .i64 cw] 26)) w.heap.size [.slice A0 n0 c0, .slice A1 n1 c1, .slice A2 n2 c2, .int .i64 cw] := Own.new' _ _ rfl rfl
  have oB : Below w.heap.size w (w.alloc (.cells #[.slice A0 n0 c0, .slice A1 n1 c1, .slice A2 n2 c2, .int .i64 cw] 26)) := by (repeat' (first | (with_reducible exact Below.refl _ _) | (with_reducible assumption) | (with_reducible refine Below.drew ?_) | (with_reducible refine below_drewN ?_ _) | (with_reducible refine Below.setCell ?_ ?_ _) | (with_reducible refine Below.alloc ?_ ?_ _) | (refine Below.trans ?_ (Below.mono (by with_reducible assumption) ?_)) | omega | (exact Below.size (by with_reducible assumption)) | (simp; done) | (simp; omega)))
  have hav : Hid (askO B f t many = (plB n0 f t && btw many 1 12)) := by show _ = _; rw [HL.out]; rfl
  go_enter Tryd.func46, Tryd.ntmps46
  go_wp2_with fail
  refine (check14 A0 A1 A2 n0 n1 n2 c0 c1 c2 cw B D R _ (HC.out.below oB (Nat.le_refl _))).mono ?_
  rcases askE_cases cw B D R (askO B f t many) with ⟨hc, ha⟩ | ⟨hc, hv, ha⟩ | ⟨hc, hv, ha⟩
  · have HN : Hid (opnN cw B D R f t many = 0 ∧ opnE cw B D R f t many = 100) := by
      show _ ∧ _
      unfold opnN opnE
      rw [if_neg (by omega), if_neg (by omega)]
      exact ⟨rfl, ha⟩
    rw [hc]
    clear hc ha
    rintro e w1 ⟨rfl, hb1⟩
    have hB1 : Below w.heap.size w w1 := by (repeat' (first | (with_reducible exact Below.refl _ _) | (with_reducible assumption) | (with_reducible refine Below.drew ?_) | (with_reducible refine below_drewN ?_ _) | (with_reducible refine Below.setCell ?_ ?_ _) | (with_reducible refine Below.alloc ?_ ?_ _) | (refine Below.trans ?_ (Below.mono (by with_reducible assumption) ?_)) | omega | (exact Below.size (by with_reducible assumption)) | (simp; done) | (simp; omega)))
    go_wp2
    go_ret2
    exact ⟨by rw [HN.out.1, HN.out.2]; rfl, hB1⟩
  · have HN : Hid (opnN cw B D R f t many = 0 ∧ opnE cw B D R f t many = 1) := by
      show _ ∧ _
      unfold opnN opnE
      rw [if_neg (by omega), if_neg (by omega)]
      exact ⟨rfl, ha⟩
    rw [hc]
    rw [hav.out] at hv
    clear hc ha
    rintro e w1 ⟨rfl, hb1⟩
    have q0 := o0.below hb1 o0.lt
    have hB1 : Below w.heap.size w w1 := by (repeat' (first | (with_reducible exact Below.refl _ _) | (with_reducible assumption) | (with_reducible refine Below.drew ?_) | (with_reducible refine below_drewN ?_ _) | (with_reducible refine Below.setCell ?_ ?_ _) | (with_reducible refine Below.alloc ?_ ?_ _) | (refine Below.trans ?_ (Below.mono (by with_reducible assumption) ?_)) | omega | (exact Below.size (by with_reducible assumption)) | (simp; done) | (simp; omega)))
    clear o0 oB hb1
    obtain ⟨l0, k0, f0⟩ := q0
    cases hp : plB n0 f t
    · have HP := Lib.hid hp
      clear hp hv
      go_wp2_with fail
      refine (cbB HP.out (areBends15 _ _ _ _ _ _ _ _ _ _ _ _ _)).mono ?_
      rintro e w2 ⟨rfl, hb2⟩
      have hB2 : Below w.heap.size w w2 := by (repeat' (first | (with_reducible exact Below.refl _ _) | (with_reducible assumption) | (with_reducible refine Below.drew ?_) | (with_reducible refine below_drewN ?_ _) | (with_reducible refine Below.setCell ?_ ?_ _) | (with_reducible refine Below.alloc ?_ ?_ _) | (refine Below.trans ?_ (Below.mono (by with_reducible assumption) ?_)) | omega | (exact Below.size (by with_reducible assumption)) | (simp; done) | (simp; omega)))
      clear hb2
      go_wp2
      go_ret2
      exact ⟨by rw [HN.out.1, HN.out.2]; rfl, hB2⟩
    · have HP := Lib.hid hp
      rw [hp, Bool.true_and] at hv
      have HB := Lib.hid hv
      clear hp hv
      go_wp2_with fail
      refine (cbB HP.out (areBends15 _ _ _ _ _ _ _ _ _ _ _ _ _)).mono ?_
      rintro e w2 ⟨rfl, hb2⟩
      have hB2 : Below w.heap.size w w2 := by (repeat' (first | (with_reducible exact Below.refl _ _) | (with_reducible assumption) | (with_reducible refine Below.drew ?_) | (with_reducible refine below_drewN ?_ _) | (with_reducible refine Below.setCell ?_ ?_ _) | (with_reducible refine Below.alloc ?_ ?_ _) | (refine Below.trans ?_ (Below.mono (by with_reducible assumption) ?_)) | omega | (exact Below.size (by with_reducible assumption)) | (simp; done) | (simp; omega)))
      clear hb2
      go_wp2_with (first | (go_at_call 52; refine (cbP HB.out (within52 _ _ _ _)).mono ?_; rintro e w3 ⟨rfl, rfl⟩) | fail)
      go_ret2
      exact ⟨by rw [HN.out.1, HN.out.2]; rfl, hB2⟩
  · have hV := Lib.hid (val_of (chk_ok hc))
    rw [hav.out] at hv
    simp only [Bool.and_eq_true] at hv
    obtain ⟨hp, hb⟩ := hv
    obtain ⟨p1, p2, p3⟩ := plB_iff.1 hp
    obtain ⟨f, rfl⟩ := Int.eq_ofNat_of_zero_le p1
    obtain ⟨t, rfl⟩ := Int.eq_ofNat_of_zero_le (show 0 ≤ t by omega)
    have HB := Lib.hid hb
    have HP := Lib.hid hp
    have hbo := btw_iff.1 hb
    have ht12 : t < 12 := by have := hV.out.b2; have := HL.out; omega
    have hNe : Hid (opnN cw B D R f t many = match opnS B f t many with | some i => (i + 1 : Nat) | none => 0) := by show _ = _; unfold opnN; rw [if_pos ha]; rfl
    have hEe : Hid (opnE cw B D R f t many = match opnS B f t many with | some _ => 0 | none => 3) := by show _ = _; unfold opnE; rw [if_pos ha]; rfl
    rw [hc]
    clear hc ha hb hp
    rintro e w1 ⟨rfl, hb1⟩
    have q0 := o0.below hb1 o0.lt
    have hB1 : Below w.heap.size w w1 := by (repeat' (first | (with_reducible exact Below.refl _ _) | (with_reducible assumption) | (with_reducible refine Below.drew ?_) | (with_reducible refine below_drewN ?_ _) | (with_reducible refine Below.setCell ?_ ?_ _) | (with_reducible refine Below.alloc ?_ ?_ _) | (refine Below.trans ?_ (Below.mono (by with_reducible assumption) ?_)) | omega | (exact Below.size (by with_reducible assumption)) | (simp; done) | (simp; omega)))
    clear o0 oB hb1
    obtain ⟨l0, k0, f0⟩ := q0
    have q0 := Own.mk l0 k0 f0
    go_wp2_with fail
    refine (cbB HP.out (areBends15 _ _ _ _ _ _ _ _ _ _ _ _ _)).mono ?_
    rintro e w2 ⟨rfl, hb2⟩
    have q2 := q0.below hb2 q0.lt
    have hB2 : Below w.heap.size w w2 := by (repeat' (first | (with_reducible exact Below.refl _ _) | (with_reducible assumption) | (with_reducible refine Below.drew ?_) | (with_reducible refine below_drewN ?_ _) | (with_reducible refine Below.setCell ?_ ?_ _) | (with_reducible refine Below.alloc ?_ ?_ _) | (refine Below.trans ?_ (Below.mono (by with_reducible assumption) ?_)) | omega | (exact Below.size (by with_reducible assumption)) | (simp; done) | (simp; omega)))
    clear q0 l0 k0 f0 hB1 hb2
    go_wp2_with (first | (go_at_call 52; refine (cbP HB.out (within52 _ _ _ _)).mono ?_; rintro e w3 ⟨rfl, rfl⟩) | fail)
    go_loopg [11] 60 (fun K y wr => ∃ k : Nat, K + k = 60 ∧ y = .int .i64 ((k + 1 : Nat) : Int) ∧ Hid (∀ i, i < k → btw (lowN (mk B (i + 1 : Nat) f t)) 1 many = false) ∧ Own wr w.heap.size [.slice A0 n0 c0, .slice A1 n1 c1, .slice A2 n2 c2, .int .i64 cw] ∧ Below w.heap.size w wr)
    case atStart => exact ⟨0, rfl, rfl, fun i h => by omega, q2, hB2⟩
    case round =>
      clear q2 hB2
      obtain ⟨wo, rfl⟩ : ∃ wo : World, wo = wr := ⟨_, rfl⟩
      obtain ⟨k, hk, rfl, hno, q0, hbw⟩ := hrel
      obtain ⟨l0, k0, f0⟩ := q0
      have q0 := Own.mk l0 k0 f0
      by_cases hlt : k < 60
      · obtain ⟨q, hq⟩ : ∃ q : Nat, q = k + 1 := ⟨_, rfl⟩
        have HQ := Lib.hid hq
        rw [← hq]
        have hq1 : q ≤ 60 := by omega
        have hq2 : 1 ≤ q := by omega
        clear hq
        have hm := mk_lt13 B q f t (by omega)
        go_wp2_with fail
        refine (counts88 A0 A1 A2 n0 n1 n2 c0 c1 c2 cw q f t B D R _ (HC.out.below hbw (Nat.le_refl _)) hV (by omega) (by omega) (by omega)).mono ?_
        rintro e w3 ⟨A3, cap3, rfl, hr3, hb3⟩
        have hB3 : Below w.heap.size w w3 := by (repeat' (first | (with_reducible exact Below.refl _ _) | (with_reducible assumption) | (with_reducible refine Below.drew ?_) | (with_reducible refine below_drewN ?_ _) | (with_reducible refine Below.setCell ?_ ?_ _) | (with_reducible refine Below.alloc ?_ ?_ _) | (refine Below.trans ?_ (Below.mono (by with_reducible assumption) ?_)) | omega | (exact Below.size (by with_reducible assumption)) | (simp; done) | (simp; omega)))
        have q3 := q0.below hb3 q0.lt
        have HNIL := Lib.hid (bitsL_nil (B := B) (o := (q : Int)) (f := f) ht12)
        by_cases hz : mk B q f t = 0
        · have hnil := HNIL.out.2 hz
          have hno2 : Hid (btw (lowN (mk B (k + 1 : Nat) f t)) 1 many = false) := by show _ = _; rw [← HQ.out, hz]; rfl
          rw [hnil]
          clear hz hnil q0 l0 k0 f0 hb3 hbw hr3
          go_wp2
          go_roundg (60 - (k + 1))
          case measure => omega
          case rel =>
            refine ⟨k + 1, by omega, by rw [HQ.out]; rfl, fun i hi => ?_, q3, hB3⟩
            by_cases e : i = k
            · subst e; exact hno2.out
            · exact hno.out i (by omega)
        · have hpos : 0 < (bitsL (mk B q f t)).length := List.length_pos_iff.2 fun e => hz (HNIL.out.1 e)
          have hhd := low_head hz hm
          have hlp := low_pos hz hm (show f < t by omega)
          obtain ⟨b, off, rfl, hbl, hcell⟩ := hr3.elem hhd
          rw [Nat.add_zero] at hcell
          have hll := bitsL_len (mk B q f t)
          obtain ⟨ls, hls⟩ : ∃ x, bitsL (mk B q f t) = x := ⟨_, rfl⟩
          obtain ⟨lw, hlw⟩ : ∃ x, lowN (mk B q f t) = x := ⟨_, rfl⟩
          have HLW := Lib.hid hlw
          rw [hlw] at hcell hlp
          rw [hls] at hpos hll ⊢
          clear hz hhd hls hlw hr3 q0 l0 k0 f0 hb3 hbw
          by_cases hle : (lw : Int) ≤ many
          · have HF : Hid (opnS B f t many = some k) := find_at hlt hno.out (by rw [← HQ.out, HLW.out]; exact btw_iff.2 ⟨by omega, hle⟩)
            go_wp2
            go_ret2
            exact ⟨by rw [hEe.out, hNe.out, HF.out, HQ.out]; rfl, hB3⟩
          · have hno2 : Hid (btw (lowN (mk B (k + 1 : Nat) f t)) 1 many = false) := by show _ = _; rw [← HQ.out, HLW.out]; rw [btw_no]; omega
            go_wp2
            go_roundg (60 - (k + 1))
            case measure => omega
            case rel =>
              refine ⟨k + 1, by omega, by rw [HQ.out]; rfl, fun i hi => ?_, q3, hB3⟩
              by_cases e : i = k
              · subst e; exact hno2.out
              · exact hno.out i (by omega)
      · have HF : Hid (opnS B f t many = none) := find_none (fun i hi => hno.out i (by omega))
        go_wp2
        go_ret2
        exact ⟨by rw [hEe.out, hNe.out, HF.out]; rfl, hbw⟩

/-- The length of the whole coast, as the reference tells it; -1: there is none. -/
def lenR (B : List Pt) (o : Int) : Int := if mk B o 0 (B.length - 1) = 0 then -1 else lowN (mk B o 0 (B.length - 1)) * o
theorem lenR_V {B : List Pt} {o : Int} (ho : 1 ≤ o) (h2 : 2 ≤ B.length) (h12 : B.length ≤ 12) : (lenR B o = -1 ∧ lenV B o = 0) ∨ (lenR B o = lenV B o ∧ 1 ≤ lenV B o) := by
  unfold lenR lenV
  by_cases h : mk B o 0 (B.length - 1) = 0
  · rw [if_pos h, h]; left; exact ⟨rfl, by rw [lowN_zero]; simp⟩
  · rw [if_neg h]
    right
    have h1 := low_pos h (mk_lt13 B o 0 (B.length - 1) (by omega)) (by omega)
    refine ⟨Int.mul_comm _ _, ?_⟩
    have : (1 : Int) * 1 ≤ o * (lowN (mk B o 0 (B.length - 1)) : Int) := Int.mul_le_mul ho (by omega) (by decide) (by omega)
    omega

set_option maxRecDepth 100000 in
set_option maxHeartbeats 8000000 in
theorem length89 (A0 A1 A2 : Option Addr) (n0 n1 n2 c0 c1 c2 : Nat) (cw : Int) (o : Int) (B D : List Pt) (R : List Rep) (w : World) (hC : RdC w A0 A1 A2 n0 n1 n2 B D R) (hV : Hid (Val cw B D R)) (ho : 1 ≤ o ∧ o ≤ 60) :
    Calls Tryd.prog 89 #[.agg #[.slice A0 n0 c0, .slice A1 n1 c1, .slice A2 n2 c2, .int .i64 cw], .int .i64 o] w fun e w' => e = .returned (.int .i64 (lenR B o)) ∧ Below w.heap.size w w' := by
  have HC := Lib.hid hC
  have HL := Lib.hid hC.h0
  clear hC
  have hn : 2 ≤ n0 ∧ n0 ≤ 12 := by have := hV.out.b1; have := hV.out.b2; have := HL.out; omega
  have o0 : Own (w.alloc (.cells #[.slice A0 n0 c0, .slice A1 n1 c1, .slice A2 n2 c2, .int .i64 cw] 26)) w.heap.size [.slice A0 n0 c0, .slice A1 n1 c1, .slice A2 n2 c2, .int .i64 cw] := Own.new' _ _ rfl rfl
  have oB : Below w.heap.size w (w.alloc (.cells #[.slice A0 n0 c0, .slice A1 n1 c1, .slice A2 n2 c2, .int .i64 cw] 26)) := by (repeat' (first | (with_reducible exact Below.refl _ _) | (with_reducible assumption) | (with_reducible refine Below.drew ?_) | (with_reducible refine below_drewN ?_ _) | (with_reducible refine Below.setCell ?_ ?_ _) | (with_reducible refine Below.alloc ?_ ?_ _) | (refine Below.trans ?_ (Below.mono (by with_reducible assumption) ?_)) | omega | (exact Below.size (by with_reducible assumption)) | (simp; done) | (simp; omega)))
  have HLR : Hid (lenR B o = if mk B o 0 (n0 - 1) = 0 then -1 else lowN (mk B o 0 (n0 - 1)) * o) := by show _ = _; rw [HL.out]; rfl
  have hm := mk_lt13 B o 0 (n0 - 1) (by omega)
  have HNIL := Lib.hid (bitsL_nil (B := B) (o := o) (f := 0) (show n0 - 1 < 12 by omega))
  have hcc := counts88 A0 A1 A2 n0 n1 n2 c0 c1 c2 cw o 0 (n0 - 1) B D R (w.alloc (.cells #[.slice A0 n0 c0, .slice A1 n1 c1, .slice A2 n2 c2, .int .i64 cw] 26)) (HC.out.below oB (Nat.le_refl _)) hV ho (by omega) (by omega)
  rw [show ((n0 - 1 : Nat) : Int) = (n0 : Int) - 1 by omega] at hcc
  have HCC := Lib.hid hcc
  clear hcc
  go_enter Tryd.func89, Tryd.ntmps89
  go_wp2_with fail
  refine HCC.out.mono ?_
  rintro e w3 ⟨A3, cap3, rfl, hr3, hb3⟩
  have hB3 : Below w.heap.size w w3 := by (repeat' (first | (with_reducible exact Below.refl _ _) | (with_reducible assumption) | (with_reducible refine Below.drew ?_) | (with_reducible refine below_drewN ?_ _) | (with_reducible refine Below.setCell ?_ ?_ _) | (with_reducible refine Below.alloc ?_ ?_ _) | (refine Below.trans ?_ (Below.mono (by with_reducible assumption) ?_)) | omega | (exact Below.size (by with_reducible assumption)) | (simp; done) | (simp; omega)))
  by_cases hz : mk B o 0 (n0 - 1) = 0
  · have hnil := HNIL.out.2 hz
    rw [if_pos hz] at HLR
    rw [hnil]
    clear hz hnil hb3 hr3
    go_wp2
    go_ret
    exact ⟨by rw [HLR.out]; rfl, hB3⟩
  · have hpos : 0 < (bitsL (mk B o 0 (n0 - 1))).length := List.length_pos_iff.2 fun e => hz (HNIL.out.1 e)
    have hhd := low_head hz hm
    have hlw := lowN_le hm
    rw [if_neg hz] at HLR
    obtain ⟨b, off, rfl, hbl, hcell⟩ := hr3.elem hhd
    rw [Nat.add_zero] at hcell
    have hll := bitsL_len (mk B o 0 (n0 - 1))
    obtain ⟨ls, hls⟩ : ∃ x, bitsL (mk B o 0 (n0 - 1)) = x := ⟨_, rfl⟩
    obtain ⟨lw, hlw'⟩ : ∃ x, lowN (mk B o 0 (n0 - 1)) = x := ⟨_, rfl⟩
    rw [hlw'] at hcell HLR hlw
    rw [hls] at hpos hll ⊢
    have hmul : 0 ≤ (lw : Int) * o ∧ (lw : Int) * o ≤ 12 * 60 := ⟨Int.mul_nonneg (by omega) (by omega), Int.mul_le_mul (by omega) (by omega) (by omega) (by omega)⟩
    have hwr : IntKind.i64.wrap ((lw : Int) * o) = (lw : Int) * o := IntWalk.i64_in _ (by omega)
    have hne : ((ls.length : Int) == 0) = false := by simp; intro e; rw [e] at hpos; simp at hpos
    clear hz hhd hls hlw' hr3 hb3 hm
    go_wp2
    go_ret
    exact ⟨by rw [HLR.out]; rfl, hB3⟩

end Go.Proofs.YtibkgnnpmidgfaaDoor
namespace Go.Proofs.YtibkgnnpmidgfaaDoor
open Go.RowKit

/-- One opening gives a greater length than another one. -/
def longR (B : List Pt) (a b : Int) : Bool := decide (0 ≤ lenR B b) && decide (lenR B b < lenR B a)
theorem longR_B {B : List Pt} {a b : Int} (ha : 1 ≤ a) (hb : 1 ≤ b) (h2 : 2 ≤ B.length) (h12 : B.length ≤ 12) : longR B a b = longB B a b := by
  unfold longR longB
  rcases lenR_V ha h2 h12 with ⟨h3, h4⟩ | ⟨h3, h4⟩ <;> rcases lenR_V hb h2 h12 with ⟨h5, h6⟩ | ⟨h5, h6⟩
  · rw [h3, h4, h5, h6]; rfl
  · rw [h3, h4, h5, decide_eq_false (show ¬ lenV B b < -1 by omega), decide_eq_false (show ¬ lenV B b < 0 by omega), Bool.and_false, Bool.false_and]
  · rw [h3, h5, h6]; simp
  · rw [h3, h5, decide_eq_true (show 0 ≤ lenV B b by omega), decide_eq_true (show 0 < lenV B b by omega), Bool.true_and, Bool.and_true]

set_option maxRecDepth 100000 in
set_option maxHeartbeats 8000000 in
theorem isLonger51 (A0 A1 A2 : Option Addr) (n0 n1 n2 c0 c1 c2 : Nat) (cw : Int) (a b : Int) (B D : List Pt) (R : List Rep) (w : World) (hC : RdC w A0 A1 A2 n0 n1 n2 B D R) (hV : Hid (Val cw B D R)) (ha : 1 ≤ a ∧ a ≤ 60) (hb : 1 ≤ b ∧ b ≤ 60) :
    Calls Tryd.prog 51 #[.agg #[.slice A0 n0 c0, .slice A1 n1 c1, .slice A2 n2 c2, .int .i64 cw], .int .i64 a, .int .i64 b] w fun e w' => e = .returned (.bool (longB B a b)) ∧ Below w.heap.size w w' := by
  have HC := Lib.hid hC
  clear hC
  have o0 : Own (w.alloc (.cells #[.slice A0 n0 c0, .slice A1 n1 c1, .slice A2 n2 c2, .int .i64 cw] 26)) w.heap.size [.slice A0 n0 c0, .slice A1 n1 c1, .slice A2 n2 c2, .int .i64 cw] := Own.new' _ _ rfl rfl
  have oB : Below w.heap.size w (w.alloc (.cells #[.slice A0 n0 c0, .slice A1 n1 c1, .slice A2 n2 c2, .int .i64 cw] 26)) := by (repeat' (first | (with_reducible exact Below.refl _ _) | (with_reducible assumption) | (with_reducible refine Below.drew ?_) | (with_reducible refine below_drewN ?_ _) | (with_reducible refine Below.setCell ?_ ?_ _) | (with_reducible refine Below.alloc ?_ ?_ _) | (refine Below.trans ?_ (Below.mono (by with_reducible assumption) ?_)) | omega | (exact Below.size (by with_reducible assumption)) | (simp; done) | (simp; omega)))
  have HA := Lib.hid (fun (x : World) (h : RdC x A0 A1 A2 n0 n1 n2 B D R) => length89 A0 A1 A2 n0 n1 n2 c0 c1 c2 cw a B D R x h hV ha)
  have HB := Lib.hid (fun (x : World) (h : RdC x A0 A1 A2 n0 n1 n2 B D R) => length89 A0 A1 A2 n0 n1 n2 c0 c1 c2 cw b B D R x h hV hb)
  have HR : Hid (longB B a b = (decide (0 ≤ lenR B b) && decide (lenR B b < lenR B a))) := (longR_B ha.1 hb.1 hV.out.b1 hV.out.b2).symm
  obtain ⟨x, hx⟩ : ∃ x, lenR B a = x := ⟨_, rfl⟩
  obtain ⟨y, hy⟩ : ∃ y, lenR B b = y := ⟨_, rfl⟩
  rw [hx] at HA HR
  rw [hy] at HB HR
  clear hx hy
  go_enter Tryd.func51, Tryd.ntmps51
  go_wp2
  replace o0 := o0.drew
  replace oB := oB.drew
  refine rg_start (fun w' => Own w' w.heap.size [.slice A0 n0 c0, .slice A1 n1 c1, .slice A2 n2 c2, .int .i64 cw]) 8 (by kernel_rfl) rfl ?_
  refine rg_take (fuel := 4) [0, 1, 3, 4] (by kernel_rfl) (by intro _ _ d _ _ h; cases d <;> exact h) rfl (by kernel_rfl) (by kernel_rfl) o0 ?_
  simp only [pickL, pick1, List.cons_append, List.nil_append]
  iterate 4 (refine wpTake_cons (v := ?_) (Or.inl ⟨by rfl, ?_⟩) ?_; rotate_left; (intro w' hSw; have y0 : w'.cell? ⟨w.heap.size, 0, none⟩ = some (.slice A0 n0 c0) := hSw.c 0; have y1 : w'.cell? ⟨w.heap.size, 1, none⟩ = some (.slice A1 n1 c1) := hSw.c 1; have y2 : w'.cell? ⟨w.heap.size, 2, none⟩ = some (.slice A2 n2 c2) := hSw.c 2; have y3 : w'.cell? ⟨w.heap.size, 3, none⟩ = some (.int .i64 cw) := hSw.c 3; clear hSw; go_simp; (try with_reducible rfl)); (try simp only [Act.put, List.setIfInBounds_toArray, List.set_cons_zero, List.set_cons_succ]))
  refine wpTake_nil ?_
  have q0 := o0
  have hBw := oB
  clear o0 oB
  generalize World.drew _ = W at q0 hBw ⊢
  refine rg_one (fuel := 3) 2 rfl (by kernel_rfl) (by kernel_rfl) ?_
  simp only [pick1, wpHead]
  intro K hK
  rw [if_pos (by rfl)]
  go_simp
  refine (HA.out W (HC.out.below hBw (Nat.le_refl _))).mono ?_
  rintro e w1 ⟨rfl, hb1⟩
  replace q0 := q0.below hb1 q0.lt
  replace hBw := hBw.trans (hb1.mono hBw.size)
  clear hb1
  go_wp2_with fail
  refine hK.out _ _ q0 ?_
  clear hK
  (try simp only [Act.put, List.setIfInBounds_toArray, List.set_cons_zero, List.set_cons_succ])
  refine rg_one (fuel := 2) 5 rfl (by kernel_rfl) (by kernel_rfl) ?_
  simp only [pick1, wpHead]
  intro K hK
  rw [if_pos (by rfl)]
  go_simp
  refine (HB.out w1 (HC.out.below hBw (Nat.le_refl _))).mono ?_
  rintro e w2 ⟨rfl, hb2⟩
  replace q0 := q0.below hb2 q0.lt
  replace hBw := hBw.trans (hb2.mono hBw.size)
  clear hb2
  go_wp2_with fail
  refine hK.out _ _ q0 ?_
  clear hK
  (try simp only [Act.put, List.setIfInBounds_toArray, List.set_cons_zero, List.set_cons_succ])
  refine rg_one (fuel := 1) 6 rfl (by kernel_rfl) (by kernel_rfl) ?_
  simp only [pick1, wpHead]
  intro K hK
  rw [if_pos (by rfl)]
  go_simp
  refine hK.out _ _ q0 ?_
  clear hK
  (try simp only [Act.put, List.setIfInBounds_toArray, List.set_cons_zero, List.set_cons_succ])
  refine rg_one (fuel := 0) 7 rfl (by kernel_rfl) (by kernel_rfl) ?_
  simp only [pick1, wpHead]
  intro K hK
  rw [if_pos (by rfl)]
  go_simp
  refine hK.out _ _ q0 ?_
  clear hK
  (try simp only [Act.put, List.setIfInBounds_toArray, List.set_cons_zero, List.set_cons_succ])
  refine rg_done (by kernel_rfl) ?_
  have hB1 := hBw
  clear hBw q0
  by_cases h0 : 0 ≤ y
  · have HRR : Hid (longB B a b = decide (y < x)) := by show _ = _; rw [HR.out, decide_eq_true h0, Bool.true_and]
    go_wp2
    go_ret
    exact ⟨ret_bool HRR.out.symm, hB1⟩
  · have HRR : Hid (longB B a b = false) := by show _ = _; rw [HR.out, decide_eq_false h0, Bool.false_and]
    go_wp2
    go_ret
    exact ⟨ret_bool HRR.out.symm, hB1⟩


set_option maxRecDepth 100000 in
set_option maxHeartbeats 8000000 in
theorem length47 (A0 A1 A2 : Option Addr) (n0 n1 n2 c0 c1 c2 : Nat) (cw : Int) (o : Int) (B D : List Pt) (R : List Rep) (w : World) (hC : RdC w A0 A1 A2 n0 n1 n2 B D R) :
    Calls Tryd.prog 47 #[.agg #[.slice A0 n0 c0, .slice A1 n1 c1, .slice A2 n2 c2, .int .i64 cw], .int .i64 o] w fun e w' => e = .returned (.tuple #[.int .i64 (lngN cw B D R o), .int .i64 (lngE cw B D R o)]) ∧ Below w.heap.size w w' := by
  have HC := Lib.hid hC
  clear hC
  have o0 : Own (w.alloc (.cells #[.slice A0 n0 c0, .slice A1 n1 c1, .slice A2 n2 c2, .int .i64 cw] 26)) w.heap.size [.slice A0 n0 c0, .slice A1 n1 c1, .slice A2 n2 c2, .int .i64 cw] := Own.new' _ _ rfl rfl
  have oB : Below w.heap.size w (w.alloc (.cells #[.slice A0 n0 c0, .slice A1 n1 c1, .slice A2 n2 c2, .int .i64 cw] 26)) := by (repeat' (first | (with_reducible exact Below.refl _ _) | (with_reducible assumption) | (with_reducible refine Below.drew ?_) | (with_reducible refine below_drewN ?_ _) | (with_reducible refine Below.setCell ?_ ?_ _) | (with_reducible refine Below.alloc ?_ ?_ _) | (refine Below.trans ?_ (Below.mono (by with_reducible assumption) ?_)) | omega | (exact Below.size (by with_reducible assumption)) | (simp; done) | (simp; omega)))
  go_enter Tryd.func47, Tryd.ntmps47
  go_wp2_with fail
  refine (check14 A0 A1 A2 n0 n1 n2 c0 c1 c2 cw B D R _ (HC.out.below oB (Nat.le_refl _))).mono ?_
  rcases askE_cases cw B D R (btw o 1 60) with ⟨hc, ha⟩ | ⟨hc, hv, ha⟩ | ⟨hc, hv, ha⟩
  · have HN : Hid (lngN cw B D R o = 0 ∧ lngE cw B D R o = 100) := by
      show _ ∧ _
      unfold lngN lngE
      rw [if_neg (by omega), if_neg (by omega)]
      exact ⟨rfl, ha⟩
    rw [hc]
    clear hc ha
    rintro e w1 ⟨rfl, hb1⟩
    have hB1 : Below w.heap.size w w1 := by (repeat' (first | (with_reducible exact Below.refl _ _) | (with_reducible assumption) | (with_reducible refine Below.drew ?_) | (with_reducible refine below_drewN ?_ _) | (with_reducible refine Below.setCell ?_ ?_ _) | (with_reducible refine Below.alloc ?_ ?_ _) | (refine Below.trans ?_ (Below.mono (by with_reducible assumption) ?_)) | omega | (exact Below.size (by with_reducible assumption)) | (simp; done) | (simp; omega)))
    go_wp2
    go_ret2
    exact ⟨by rw [HN.out.1, HN.out.2]; rfl, hB1⟩
  · have HN : Hid (lngN cw B D R o = 0 ∧ lngE cw B D R o = 1) := by
      show _ ∧ _
      unfold lngN lngE
      rw [if_neg (by omega), if_neg (by omega)]
      exact ⟨rfl, ha⟩
    have HB := Lib.hid hv
    rw [hc]
    clear hc ha hv
    rintro e w1 ⟨rfl, hb1⟩
    have hB1 : Below w.heap.size w w1 := by (repeat' (first | (with_reducible exact Below.refl _ _) | (with_reducible assumption) | (with_reducible refine Below.drew ?_) | (with_reducible refine below_drewN ?_ _) | (with_reducible refine Below.setCell ?_ ?_ _) | (with_reducible refine Below.alloc ?_ ?_ _) | (refine Below.trans ?_ (Below.mono (by with_reducible assumption) ?_)) | omega | (exact Below.size (by with_reducible assumption)) | (simp; done) | (simp; omega)))
    clear hb1
    go_wp2_with (first | (go_at_call 20; refine (cbP HB.out (isOpening20 _ _)).mono ?_; rintro e w2 ⟨rfl, rfl⟩) | fail)
    go_ret2
    exact ⟨by rw [HN.out.1, HN.out.2]; rfl, hB1⟩
  · have hV := Lib.hid (val_of (chk_ok hc))
    have HB := Lib.hid hv
    have hbo := btw_iff.1 hv
    have HN : Hid (lngN cw B D R o = lenV B o ∧ lngE cw B D R o = if lenV B o = 0 then 3 else 0) := by
      show _ ∧ _
      unfold lngN lngE
      rw [if_pos ha, if_pos ha]
      exact ⟨rfl, rfl⟩
    have hcase := lenR_V (B := B) hbo.1 hV.out.b1 hV.out.b2
    rw [hc]
    clear hc ha hv
    rintro e w1 ⟨rfl, hb1⟩
    have q0 := o0.below hb1 o0.lt
    have hB1 : Below w.heap.size w w1 := by (repeat' (first | (with_reducible exact Below.refl _ _) | (with_reducible assumption) | (with_reducible refine Below.drew ?_) | (with_reducible refine below_drewN ?_ _) | (with_reducible refine Below.setCell ?_ ?_ _) | (with_reducible refine Below.alloc ?_ ?_ _) | (refine Below.trans ?_ (Below.mono (by with_reducible assumption) ?_)) | omega | (exact Below.size (by with_reducible assumption)) | (simp; done) | (simp; omega)))
    clear o0 oB hb1
    obtain ⟨l0, k0, f0⟩ := q0
    go_wp2_with (first | (go_at_call 20; refine (cbP HB.out (isOpening20 _ _)).mono ?_; rintro e w2 ⟨rfl, rfl⟩) | fail)
    refine (length89 A0 A1 A2 n0 n1 n2 c0 c1 c2 cw o B D R _ (HC.out.below hB1 (Nat.le_refl _)) hV hbo).mono ?_
    rintro e w2 ⟨rfl, hb2⟩
    have hB2 : Below w.heap.size w w2 := by (repeat' (first | (with_reducible exact Below.refl _ _) | (with_reducible assumption) | (with_reducible refine Below.drew ?_) | (with_reducible refine below_drewN ?_ _) | (with_reducible refine Below.setCell ?_ ?_ _) | (with_reducible refine Below.alloc ?_ ?_ _) | (refine Below.trans ?_ (Below.mono (by with_reducible assumption) ?_)) | omega | (exact Below.size (by with_reducible assumption)) | (simp; done) | (simp; omega)))
    clear hb2
    rcases hcase with ⟨h3, h4⟩ | ⟨h3, h4⟩
    · have HM : Hid (lngN cw B D R o = 0 ∧ lngE cw B D R o = 3) := by show _ ∧ _; rw [HN.out.1, HN.out.2, h4]; exact ⟨rfl, rfl⟩
      rw [h3]
      clear h3 h4
      go_wp2
      go_ret2
      exact ⟨by rw [HM.out.1, HM.out.2]; rfl, hB2⟩
    · obtain ⟨x, hx⟩ : ∃ x, lenV B o = x := ⟨_, rfl⟩
      rw [hx] at h3 h4 HN
      rw [if_neg (by omega)] at HN
      rw [h3]
      clear h3 hx
      go_wp2
      go_ret2
      exact ⟨by rw [HN.out.1, HN.out.2]; rfl, hB2⟩

end Go.Proofs.YtibkgnnpmidgfaaDoor
