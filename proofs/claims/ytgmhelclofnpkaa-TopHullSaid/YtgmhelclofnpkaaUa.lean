/- Walks of the leaf functions of the sheets: numbers, spans, controls. -/
import Derived.Test.YtgmhelclofnpkaaKa
import Derived.Test.YtgmhelclofnpkaaKc
import Derived.Test.YtgmhelclofnpkaaUp
namespace Go.Proofs.Ytgmhelclofnpkaa
open Go.RowKit

def ctrow (c : Ct) : List Value := [.int .i64 c.w, .int .i64 c.t, .int .i64 c.r, .int .i64 c.o]
theorem rd_ct {w : World} {A : Option Addr} {cs : List Ct} (h : Rd 4 w A (cs.map ctrow)) {i : Nat} {c : Ct} (hi : cs[i]? = some c) :
    ∃ b off, A = some ⟨b, off, none⟩ ∧ b < w.heap.size ∧ w.cell? ⟨b, off + i * 4, none⟩ = some (.int .i64 c.w) ∧ w.cell? ⟨b, off + i * 4 + 1, none⟩ = some (.int .i64 c.t) ∧ w.cell? ⟨b, off + i * 4 + 2, none⟩ = some (.int .i64 c.r) ∧ w.cell? ⟨b, off + i * 4 + 3, none⟩ = some (.int .i64 c.o) := by
  obtain ⟨b, off, e, hb, hc⟩ := Rd.elem h (i := i) (r := ctrow c) (by simp [hi])
  exact ⟨b, off, e, hb, hc 0 _ rfl, hc 1 _ rfl, hc 2 _ rfl, hc 3 _ rfl⟩
set_option maxHeartbeats 400000 in
theorem swithinW (n lo hi : Int) (w : World) :
    Calls Try.prog 131 #[.int .i64 n, .int .i64 lo, .int .i64 hi] w fun e w' => e = .returned (.bool (btw n lo hi)) ∧ w = w' := by
  go_enter Try.func131, Try.ntmps131
  go_wp2
  all_goals go_ret
  · exact ⟨ret_bool (btw_t ‹_›).symm, rfl⟩
  · exact ⟨ret_bool (btw_f ‹_›).symm, rfl⟩
set_option maxHeartbeats 400000 in
theorem isWayW (n : Int) (w : World) :
    Calls Try.prog 133 #[.int .i64 n] w fun e w' => e = .returned (.bool (decide (n = 1) || decide (n = 2))) ∧ w = w' := by
  go_enter Try.func133, Try.ntmps133
  go_wp2
  all_goals go_ret
  all_goals exact ⟨ret_bool (by (first | rfl | (rw [Bool.eq_iff_iff]; simp; done) | (rw [Bool.eq_iff_iff]; simp; omega))), rfl⟩
set_option maxHeartbeats 1000000 in
theorem scheck1 (lo hi : Int) (w : World) :
    Calls Try.prog 130 #[.agg #[.int .i64 lo, .int .i64 hi]] w fun e w' => e = .returned (.bool (!Sh.okSp lo hi)) ∧ Below w.heap.size w w' := by
  cases h : btw lo 900 hi
  · have h2 : Sh.okSp lo hi = false := by unfold Sh.okSp; rw [h]; rfl
    rw [h2]
    have H := Lib.hid h
    clear h h2
    go_enter Try.func130, Try.ntmps130
    go_wp2_with fail
    refine (swithinW _ _ _ _).mono ?_
    rw [H.out]
    rintro e w1 ⟨rfl, rfl⟩
    go_wp2
    go_ret
    exact ⟨rfl, by (repeat' (first | (with_reducible exact Below.refl _ _) | (with_reducible assumption) | (with_reducible refine Below.drew ?_) | (with_reducible refine below_drewN ?_ _) | (with_reducible refine Below.setCell ?_ ?_ _) | (with_reducible refine Below.alloc ?_ ?_ _) | (refine Below.trans ?_ (Below.mono (by with_reducible assumption) ?_)) | omega | (exact Below.size (by with_reducible assumption)) | (simp; done) | (simp; omega)))⟩
  · have h2 : Sh.okSp lo hi = decide (hi ≤ 1100) := by unfold Sh.okSp; rw [h]; rfl
    rw [h2]
    have H := Lib.hid h
    clear h h2
    go_enter Try.func130, Try.ntmps130
    go_wp2_with fail
    refine (swithinW _ _ _ _).mono ?_
    rw [H.out]
    rintro e w1 ⟨rfl, rfl⟩
    go_wp2
    go_ret
    exact ⟨ret_bool (by (first | rfl | (rw [Bool.eq_iff_iff]; simp; done) | (rw [Bool.eq_iff_iff]; simp; omega))), by (repeat' (first | (with_reducible exact Below.refl _ _) | (with_reducible assumption) | (with_reducible refine Below.drew ?_) | (with_reducible refine below_drewN ?_ _) | (with_reducible refine Below.setCell ?_ ?_ _) | (with_reducible refine Below.alloc ?_ ?_ _) | (refine Below.trans ?_ (Below.mono (by with_reducible assumption) ?_)) | omega | (exact Below.size (by with_reducible assumption)) | (simp; done) | (simp; omega)))⟩
theorem cPBx {P : Program} {f : FuncId} {args : Array Value} {w : World} {x y : Bool} (h : x = y) (k : Calls P f args w fun e w' => e = .returned (.bool x) ∧ w = w') : Calls P f args w fun e w' => e = .returned (.bool y) ∧ w = w' := by subst h; exact k
set_option maxHeartbeats 2000000 in
theorem scheck2C (a t r o : Int) (b0 b1 b2 b3 : Bool) (h0 : (decide (a = 1) || decide (a = 2)) = b0) (h1 : btw t 1 9999 = b1) (h2 : btw r 0 9999 = b2) (h3 : btw o 0 9999 = b3) (w : World) :
    Calls Try.prog 132 #[.agg #[.int .i64 a, .int .i64 t, .int .i64 r, .int .i64 o]] w fun e w' => e = .returned (.bool (!(b0 && (b1 && (b2 && b3))))) ∧ Below w.heap.size w w' := by
  have H0 := Lib.hid h0
  have H1 := Lib.hid h1
  have H2 := Lib.hid h2
  have H3 := Lib.hid h3
  clear h0 h1 h2 h3
  cases b0
  · go_enter Try.func132, Try.ntmps132
    go_wp2_with fail
    refine (cPBx H0.out (isWayW _ _)).mono ?_
    rintro e w1 ⟨rfl, rfl⟩
    go_wp2
    go_ret
    exact ⟨rfl, by (repeat' (first | (with_reducible exact Below.refl _ _) | (with_reducible assumption) | (with_reducible refine Below.drew ?_) | (with_reducible refine below_drewN ?_ _) | (with_reducible refine Below.setCell ?_ ?_ _) | (with_reducible refine Below.alloc ?_ ?_ _) | (refine Below.trans ?_ (Below.mono (by with_reducible assumption) ?_)) | omega | (exact Below.size (by with_reducible assumption)) | (simp; done) | (simp; omega)))⟩
  · cases b1
    · go_enter Try.func132, Try.ntmps132
      go_wp2_with fail
      refine (cPBx H0.out (isWayW _ _)).mono ?_
      rintro e w1 ⟨rfl, rfl⟩
      go_wp2_with fail
      refine (cPBx H1.out (swithinW _ _ _ _)).mono ?_
      rintro e w1 ⟨rfl, rfl⟩
      go_wp2
      go_ret
      exact ⟨rfl, by (repeat' (first | (with_reducible exact Below.refl _ _) | (with_reducible assumption) | (with_reducible refine Below.drew ?_) | (with_reducible refine below_drewN ?_ _) | (with_reducible refine Below.setCell ?_ ?_ _) | (with_reducible refine Below.alloc ?_ ?_ _) | (refine Below.trans ?_ (Below.mono (by with_reducible assumption) ?_)) | omega | (exact Below.size (by with_reducible assumption)) | (simp; done) | (simp; omega)))⟩
    · cases b2
      · go_enter Try.func132, Try.ntmps132
        go_wp2_with fail
        refine (cPBx H0.out (isWayW _ _)).mono ?_
        rintro e w1 ⟨rfl, rfl⟩
        go_wp2_with fail
        refine (cPBx H1.out (swithinW _ _ _ _)).mono ?_
        rintro e w1 ⟨rfl, rfl⟩
        go_wp2_with fail
        refine (cPBx H2.out (swithinW _ _ _ _)).mono ?_
        rintro e w1 ⟨rfl, rfl⟩
        go_wp2
        go_ret
        exact ⟨rfl, by (repeat' (first | (with_reducible exact Below.refl _ _) | (with_reducible assumption) | (with_reducible refine Below.drew ?_) | (with_reducible refine below_drewN ?_ _) | (with_reducible refine Below.setCell ?_ ?_ _) | (with_reducible refine Below.alloc ?_ ?_ _) | (refine Below.trans ?_ (Below.mono (by with_reducible assumption) ?_)) | omega | (exact Below.size (by with_reducible assumption)) | (simp; done) | (simp; omega)))⟩
      · go_enter Try.func132, Try.ntmps132
        go_wp2_with fail
        refine (cPBx H0.out (isWayW _ _)).mono ?_
        rintro e w1 ⟨rfl, rfl⟩
        go_wp2_with fail
        refine (cPBx H1.out (swithinW _ _ _ _)).mono ?_
        rintro e w1 ⟨rfl, rfl⟩
        go_wp2_with fail
        refine (cPBx H2.out (swithinW _ _ _ _)).mono ?_
        rintro e w1 ⟨rfl, rfl⟩
        go_wp2_with fail
        refine (cPBx H3.out (swithinW _ _ _ _)).mono ?_
        rintro e w1 ⟨rfl, rfl⟩
        go_wp2
        go_ret
        exact ⟨ret_bool (by (first | rfl | (rw [Bool.eq_iff_iff]; simp; done) | (rw [Bool.eq_iff_iff]; simp; omega))), by (repeat' (first | (with_reducible exact Below.refl _ _) | (with_reducible assumption) | (with_reducible refine Below.drew ?_) | (with_reducible refine below_drewN ?_ _) | (with_reducible refine Below.setCell ?_ ?_ _) | (with_reducible refine Below.alloc ?_ ?_ _) | (refine Below.trans ?_ (Below.mono (by with_reducible assumption) ?_)) | omega | (exact Below.size (by with_reducible assumption)) | (simp; done) | (simp; omega)))⟩
theorem scheck2 (a t r o : Int) (w : World) : Calls Try.prog 132 #[.agg #[.int .i64 a, .int .i64 t, .int .i64 r, .int .i64 o]] w fun e w' => e = .returned (.bool (!Sh.okCt ⟨a, t, r, o⟩)) ∧ Below w.heap.size w w' := scheck2C a t r o _ _ _ _ rfl rfl rfl rfl w
set_option maxHeartbeats 1000000 in
theorem ifCt (A : Option Addr) (ps : List Ct) (n cap : Nat) (w : World) (hA : Rd 4 w A (ps.map ctrow)) (hn : Hid (n = ps.length)) (hlen : n ≤ 9223372036854775807) :
    Calls Try.prog 151 #[.slice A n cap, .func (.func 132) #[] #[]] w fun e w' => ∃ q : Int, Hid (decide (0 ≤ q) = !ps.all Sh.okCt) ∧ e = .returned (.int .i64 q) ∧ Below w.heap.size w w' := by
  have HA := Lib.hid hA
  clear hA
  go_enter Try.func151, Try.ntmps151
  go_wp2
  go_loopw [8] (fun i wr => ∃ k : Nat, k ≤ n ∧ i = .int .i64 k ∧ Hid ((ps.take k).all Sh.okCt = true) ∧ Below w.heap.size w wr) (fun i _ => n - (intOf i).toNat)
  case atStart => exact ⟨0, Nat.zero_le _, rfl, by simp [Hid], Below.refl _ _⟩
  case round =>
    obtain ⟨k, hk, rfl, hno, hbw⟩ := hrel
    by_cases hlt : k < n
    · obtain ⟨g, hg⟩ : ∃ g, Hid (ps[k]? = some g) := ⟨ps[k]'(by have := hn.out; omega), by simp [Hid]⟩
      obtain ⟨b, off, rfl, hb, hc0, hc1, hc2, hc3⟩ := rd_ct (HA.out.below hbw (Nat.le_refl _)) hg.out
      go_wp2_with fail
      refine (scheck2 g.w g.t g.r g.o _).mono ?_
      cases hs : Sh.okCt ⟨g.w, g.t, g.r, g.o⟩
      · rintro e w1 ⟨rfl, hb1⟩
        have hs' := Lib.hid hs
        clear hs
        go_wp2
        go_ret
        refine ⟨(k : Int), ?_, rfl, by (repeat' (first | (with_reducible exact Below.refl _ _) | (with_reducible assumption) | (with_reducible refine Below.drew ?_) | (with_reducible refine below_drewN ?_ _) | (with_reducible refine Below.setCell ?_ ?_ _) | (with_reducible refine Below.alloc ?_ ?_ _) | (refine Below.trans ?_ (Below.mono (by with_reducible assumption) ?_)) | omega | (exact Below.size (by with_reducible assumption)) | (simp; done) | (simp; omega)))⟩
        show decide ((0 : Int) ≤ k) = !ps.all _
        rw [decide_eq_true (by omega)]
        have h2 : ps.all Sh.okCt = false := List.all_eq_false.2 ⟨g, List.mem_of_getElem? hg.out, by
          show ¬ Sh.okCt ⟨g.w, g.t, g.r, g.o⟩ = true
          rw [hs'.out]; simp⟩
        rw [h2]; rfl
      · rintro e w1 ⟨rfl, hb1⟩
        have hs' := Lib.hid hs
        clear hs
        go_wp2
        go_roundw
        case rel =>
          refine ⟨k + 1, by omega, by go_num, ?_, by (repeat' (first | (with_reducible exact Below.refl _ _) | (with_reducible assumption) | (with_reducible refine Below.drew ?_) | (with_reducible refine below_drewN ?_ _) | (with_reducible refine Below.setCell ?_ ?_ _) | (with_reducible refine Below.alloc ?_ ?_ _) | (refine Below.trans ?_ (Below.mono (by with_reducible assumption) ?_)) | omega | (exact Below.size (by with_reducible assumption)) | (simp; done) | (simp; omega)))⟩
          show (ps.take (k + 1)).all _ = true
          rw [take_snoc hg.out, List.all_append, hno.out]
          simp only [List.all_cons, List.all_nil, Bool.and_true, Bool.true_and]
          exact hs'.out
        case measure => simp only [intOf]; omega
    · go_wp2
      go_ret
      refine ⟨-1, ?_, rfl, hbw⟩
      show decide ((0 : Int) ≤ -1) = !ps.all _
      have h := hno.out
      rw [List.take_of_length_le (by have := hn.out; omega)] at h
      rw [h]; rfl
set_option maxHeartbeats 1000000 in
theorem cfCt (A : Option Addr) (ps : List Ct) (n cap : Nat) (w : World) (hA : Rd 4 w A (ps.map ctrow)) (hn : Hid (n = ps.length)) (hlen : n ≤ 9223372036854775807) :
    Calls Try.prog 134 #[.slice A n cap, .func (.func 132) #[] #[]] w fun e w' => e = .returned (.bool (!ps.all Sh.okCt)) ∧ Below w.heap.size w w' := by
  have HA := Lib.hid hA
  clear hA
  go_enter Try.func134, Try.ntmps134
  go_wp2_with fail
  refine (ifCt A ps n cap w HA.out hn hlen).mono ?_
  rintro e w1 ⟨q, hq, rfl, hb1⟩
  go_wp2
  go_ret
  exact ⟨ret_bool hq.out, hb1⟩
set_option maxHeartbeats 1000000 in
theorem fofW (a l n : Int) (w : World) :
    Calls Try.prog 163 #[.agg #[.int .i64 a, .int .i64 l], .int .i64 n] w fun e w' => e = .returned (.int .i64 (Sh.fac (a, l) n)) ∧ Below w.heap.size w w' := by
  unfold Sh.fac
  by_cases h : n = 1
  · subst h
    go_enter Try.func163, Try.ntmps163
    go_wp2
    go_ret
    exact ⟨rfl, by (repeat' (first | (with_reducible exact Below.refl _ _) | (with_reducible assumption) | (with_reducible refine Below.drew ?_) | (with_reducible refine below_drewN ?_ _) | (with_reducible refine Below.setCell ?_ ?_ _) | (with_reducible refine Below.alloc ?_ ?_ _) | (refine Below.trans ?_ (Below.mono (by with_reducible assumption) ?_)) | omega | (exact Below.size (by with_reducible assumption)) | (simp; done) | (simp; omega)))⟩
  · rw [if_neg h]
    go_enter Try.func163, Try.ntmps163
    go_wp2
    go_ret
    exact ⟨rfl, by (repeat' (first | (with_reducible exact Below.refl _ _) | (with_reducible assumption) | (with_reducible refine Below.drew ?_) | (with_reducible refine below_drewN ?_ _) | (with_reducible refine Below.setCell ?_ ?_ _) | (with_reducible refine Below.alloc ?_ ?_ _) | (refine Below.trans ?_ (Below.mono (by with_reducible assumption) ?_)) | omega | (exact Below.size (by with_reducible assumption)) | (simp; done) | (simp; omega)))⟩
section
attribute [local go_sem ↓] mn2_run mx2_run
set_option maxHeartbeats 2000000 in
theorem isRightW (a l : Int) (c : Ct) (w : World) (ha : 0 ≤ a ∧ a ≤ 1100) (hl : 0 ≤ l ∧ l ≤ 1100) (hc : Sh.okCt c = true) :
    Calls Try.prog 145 #[.agg #[.int .i64 a, .int .i64 l], .agg #[.int .i64 c.w, .int .i64 c.t, .int .i64 c.r, .int .i64 c.o]] w fun e w' => e = .returned (.bool (Sh.isR (a, l) c)) ∧ Below w.heap.size w w' := by
  obtain ⟨h1, h2, h3, h4⟩ := Sh.okCt_iff.1 hc
  obtain ⟨f, hf⟩ : ∃ f, Sh.fac (a, l) c.w = f := ⟨_, rfl⟩
  have hfb : 0 ≤ f ∧ f ≤ 1100 := by rw [← hf]; unfold Sh.fac; split <;> assumption
  have hF := fun w => cIB hf (fofW a l c.w w)
  have hprod := Pl.mul_bd (a := c.t) (b := f) (A := 9999) (B := 1100) (by omega) (by omega)
  have hm1 : IntKind.i64.wrap (c.t * f) = c.t * f := IntWalk.i64_in _ (by omega)
  have hm2 : IntKind.i64.wrap (1000 * c.r) = 1000 * c.r := IntWalk.i64_in _ (by omega)
  have hm3 : IntKind.i64.wrap (c.t * f - 1000 * c.r) = c.t * f - 1000 * c.r := IntWalk.i64_in _ (by omega)
  have hm4 : IntKind.i64.wrap (-(c.t * f - 1000 * c.r)) = -(c.t * f - 1000 * c.r) := IntWalk.i64_in _ (by omega)
  have hm5 : IntKind.i64.wrap (1000 * c.o) = 1000 * c.o := IntWalk.i64_in _ (by omega)
  have hres : Sh.isR (a, l) c = decide (max (c.t * f - 1000 * c.r) (-(c.t * f - 1000 * c.r)) ≤ 1000 * c.o) := by unfold Sh.isR; rw [hf]
  rw [hres]
  obtain ⟨p, hp⟩ : ∃ p, c.t * f = p := ⟨_, rfl⟩
  have o0 : Own ((w.alloc (.cells #[.int .i64 a, .int .i64 l] 112)).alloc (.cells #[.int .i64 c.w, .int .i64 c.t, .int .i64 c.r, .int .i64 c.o] 93)) w.heap.size [.int .i64 a, .int .i64 l] := (Own.new' _ _ (by simp) rfl).alloc _
  have o1 : Own ((w.alloc (.cells #[.int .i64 a, .int .i64 l] 112)).alloc (.cells #[.int .i64 c.w, .int .i64 c.t, .int .i64 c.r, .int .i64 c.o] 93)) (w.heap.size + 1) [.int .i64 c.w, .int .i64 c.t, .int .i64 c.r, .int .i64 c.o] := Own.new' _ _ (by simp) rfl
  have hx0 := Aft.cell o0
  have hx1 := Aft.cell o1
  have HF := Lib.hid hF
  clear hF o0 o1 hf hres hc h1 h2 h3 h4 hfb hprod hp
  go_enter Try.func145, Try.ntmps145
  go_wp2
  refine wp_region_aft (by kernel_rfl) (by kernel_rfl) ?_; (repeat (go_big_quiet_step ((go_at_call 163; with_reducible exact aft_of (HF.out _))))); refine wpQuiet_nil ?_; rintro w1 ⟨⟨_, hb1⟩, rfl⟩
  have hc1 := fun o => (bcell hb1).1 (w.heap.size + 1) o (by simp)
  clear hx0 hx1
  go_wp2
  go_ret
  exact ⟨rfl, by (repeat' (first | (with_reducible exact Below.refl _ _) | (with_reducible assumption) | (with_reducible refine Below.drew ?_) | (with_reducible refine below_drewN ?_ _) | (with_reducible refine Below.setCell ?_ ?_ _) | (with_reducible refine Below.alloc ?_ ?_ _) | (refine Below.trans ?_ (Below.mono (by with_reducible assumption) ?_)) | omega | (exact Below.size (by with_reducible assumption)) | (simp; done) | (simp; omega)))⟩
end
end Go.Proofs.Ytgmhelclofnpkaa
