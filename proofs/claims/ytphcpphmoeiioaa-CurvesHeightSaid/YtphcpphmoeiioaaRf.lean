/- Walks: functions of the reference on a row of heights. -/
import Derived.Test.YtphcpphmoeiioaaWW
namespace Go.Proofs.Ytphcpphmoeiioaa
open Go.RowKit Go.Maps

/-- A row of heights as a function. -/
def fnL (l : List Int) : Nat → Int := fun i => l.getD i 0
theorem fnL_at {l : List Int} {i : Nat} (h : i < l.length) : l[i]? = some (fnL l i) := by
  unfold fnL
  rw [List.getElem?_eq_getElem h]
  simp [List.getD, h]
theorem sUp_far (h : Nat → Int) (a b : Int) : ∀ k : Nat, (k : Int) ≤ a → sUp h a b k = 0
  | 0, _ => rfl
  | k + 1, e => by
    show sUp h a b k + _ = 0
    rw [sUp_far h a b k (by omega), if_neg (by omega)]; rfl
theorem sUp_unit (h : Nat → Int) (i : Nat) : ∀ k : Nat, i < k → sUp h i ((i : Int) + 1) k = h i + h (i + 1)
  | 0, e => by omega
  | k + 1, e => by
    show sUp h i ((i : Int) + 1) k + _ = _
    by_cases e1 : i < k
    · rw [sUp_unit h i k e1, if_neg (by omega)]; omega
    · obtain rfl : i = k := by omega
      rw [sUp_far h _ _ i (by omega), if_pos (by omega)]; omega
theorem sUp_step (h : Nat → Int) (a : Int) (i k : Nat) (ha : a ≤ i) (hk : i < k) : sUp h a ((i : Int) + 1) k = sUp h a i k + (h i + h (i + 1)) := by
  rw [sUp_add h ha (by omega) k, sUp_unit h i k hk]
set_option maxHeartbeats 1000000 in
theorem size86 (n : Int) (w : World) (h : -1000 ≤ n ∧ n ≤ 1000) : Calls Try.prog 86 #[.int .i64 n] w fun e w' => e = .returned (.int .i64 (max n (-n))) ∧ w = w' := by
  go_enter Try.func86, Try.ntmps86
  by_cases h0 : n < 0
  · have e : max n (-n) = -n := by omega
    rw [e]
    go_wp2
    all_goals go_ret
    all_goals exact ⟨by first | rfl | (congr; omega), rfl⟩
  · have e : max n (-n) = n := by omega
    rw [e]
    go_wp2
    all_goals go_ret
    all_goals exact ⟨by first | rfl | (congr; omega), rfl⟩
set_option maxHeartbeats 1000000 in
theorem holds45 (lo hi n : Int) (w : World) (h : lo ≤ n ∧ n ≤ hi) : Calls Try.prog 45 #[.agg #[.int .i64 lo, .int .i64 hi], .int .i64 n] w fun e w' => e = .returned (.bool true) ∧ Below w.heap.size w w' := by
  go_enter Try.func45, Try.ntmps45
  have h1 := h.1
  have h2 := h.2
  clear h
  go_wp2
  all_goals go_ret
  all_goals exact ⟨ret_bool (by simp_all), by (repeat' (first | (with_reducible exact Below.refl _ _) | (with_reducible assumption) | (with_reducible refine Below.drew ?_) | (with_reducible refine below_drewN ?_ _) | (with_reducible refine Below.setCell ?_ ?_ _) | (with_reducible refine Below.alloc ?_ ?_ _) | (refine Below.trans ?_ (Below.mono (by with_reducible assumption) ?_)) | omega | (exact Below.size (by with_reducible assumption)) | (simp; done) | (simp; omega)))⟩
set_option maxRecDepth 100000 in
set_option maxHeartbeats 4000000 in
theorem sum46 (A : Option Addr) (n cap : Nat) (l : List Int) (a b : Nat) (w : World) (hA : RdI w A l) (hn : Hid (n = l.length)) (hl : n ≤ 40) (hab : a ≤ b) (hb : b < n) (hv : Hid (∀ x ∈ l, -100 ≤ x ∧ x ≤ 100)) :
    Calls Try.prog 46 #[.slice A n cap, .int .i64 a, .int .i64 b] w fun e w' => e = .returned (.int .i64 (sUp (fnL l) a b n)) ∧ Below w.heap.size w w' := by
  have HA := Lib.hid hA
  clear hA
  go_enter Try.func46, Try.ntmps46
  go_wp2
  go_loopg [7, 8] (b - a) (fun K v y wr => ∃ (i : Nat) (s : Int), K + i = b ∧ a ≤ i ∧ y = .int .i64 i ∧ v = .int .i64 s ∧ Hid (s = sUp (fnL l) a i n) ∧ (-200 * ((i : Int) - a) ≤ s ∧ s ≤ 200 * ((i : Int) - a)) ∧ Below w.heap.size w wr)
  case atStart => exact ⟨a, 0, by omega, Nat.le_refl _, rfl, rfl, Lib.hid (by rw [sUp_same]), by omega, by (repeat' (first | (with_reducible exact Below.refl _ _) | (with_reducible assumption) | (with_reducible refine Below.drew ?_) | (with_reducible refine below_drewN ?_ _) | (with_reducible refine Below.setCell ?_ ?_ _) | (with_reducible refine Below.alloc ?_ ?_ _) | (refine Below.trans ?_ (Below.mono (by with_reducible assumption) ?_)) | omega | (exact Below.size (by with_reducible assumption)) | (simp; done) | (simp; omega)))⟩
  case round =>
    obtain ⟨i, s, hK, hi, rfl, rfl, hs, hsb, hbw⟩ := hrel
    by_cases hlt : i < b
    · have e0 := Lib.hid (fnL_at (l := l) (i := i) (by have := hn.out; omega))
      have e1 := Lib.hid (fnL_at (l := l) (i := i + 1) (by have := hn.out; omega))
      obtain ⟨b0, off, rfl, hb0, c0⟩ := (HA.out.below hbw (Nat.le_refl _)).elem e0.out
      obtain ⟨b1, off1, hA1, hb1, c1⟩ := (HA.out.below hbw (Nat.le_refl _)).elem e1.out
      cases hA1
      have v0 := hv.out _ (List.mem_of_getElem? e0.out)
      have v1 := hv.out _ (List.mem_of_getElem? e1.out)
      have hst := Lib.hid (sUp_step (fnL l) a i n (by omega) (by omega))
      have c1' : wr.cell? ⟨b0, off + i + 1, none⟩ = some (.int .i64 (fnL l (i + 1))) := by rw [← c1]; congr 2
      generalize hx0 : fnL l i = x0 at *
      generalize hx1 : fnL l (i + 1) = x1 at *
      clear e0 e1 hx0 hx1
      have hy0 := fun x : Aft wr => (Aft.old x hb0 _).trans c0
      have hy1 := fun x : Aft wr => (Aft.old x hb0 _).trans c1'
      have hy2 := fun x : Aft wr => (Aft.old x hb0 _).trans c1
      have hw1 := IntWalk.i64_in (x0 + x1) (by omega)
      have hw2 := IntWalk.i64_in (s + (x0 + x1)) (by omega)
      have hw3 := IntWalk.i64_in ((i : Int) + 1) (by omega)
      have y0 : i + 1 < n := by omega
      have y1 : (i : Int) + 1 < (n : Int) := by omega
      clear c0 c1 c1' HA
      go_wp2
      refine wp_region_aft (by kernel_rfl) (by kernel_rfl) ?_; (repeat (go_big_quiet_step (fail))); refine wpQuiet_nil ?_; rintro w5 ⟨⟨_, hb5⟩, rfl⟩
      have hB5 := hbw.trans (hb5.mono hbw.size)
      clear hy0 hy1 hy2 hw1 hw2 hw3 hb5 hbw
      go_wp2
      go_roundg (b - (i + 1))
      case measure => omega
      case rel => exact ⟨i + 1, s + (x0 + x1), by omega, by omega, by go_num, rfl, Lib.hid (by rw [hs.out]; have := hst.out; push_cast; omega), by push_cast; omega, hB5⟩
    · obtain rfl : i = b := by omega
      have e : Hid (sUp (fnL l) a i n = s) := Lib.hid hs.out.symm
      clear hs
      go_wp2
      go_ret
      exact ⟨by rw [e.out]; rfl, hbw⟩
end Go.Proofs.Ytphcpphmoeiioaa
namespace Go.Proofs.Ytphcpphmoeiioaa
open Go.RowKit Go.Maps

/-- Some height between both places is at least the level. -/
def HasL (l : List Int) (lv : Int) (a b : Nat) : Prop := ∃ i : Nat, a ≤ i ∧ i ≤ b ∧ lv ≤ fnL l i
set_option maxRecDepth 100000 in
set_option maxHeartbeats 4000000 in
theorem has48 (A : Option Addr) (n cap : Nat) (l : List Int) (lv : Int) (a b : Nat) (w : World) (hA : RdI w A l) (hn : Hid (n = l.length)) (hl : n ≤ 40) (hab : a ≤ b) (hb : b < n) :
    Calls Try.prog 48 #[.slice A n cap, .int .i64 lv, .int .i64 a, .int .i64 b] w fun e w' => ∃ v : Value, e = .returned v ∧ Hid ((v = .bool true ∧ HasL l lv a b) ∨ (v = .bool false ∧ ¬ HasL l lv a b)) ∧ Below w.heap.size w w' := by
  have HA := Lib.hid hA
  clear hA
  go_enter Try.func48, Try.ntmps48
  go_wp2
  go_loopg [9] (b + 1 - a) (fun K y wr => ∃ i : Nat, K + i = b + 1 ∧ a ≤ i ∧ y = .int .i64 i ∧ Hid (∀ j : Nat, a ≤ j → j < i → fnL l j < lv) ∧ Below w.heap.size w wr)
  case atStart => exact ⟨a, by omega, Nat.le_refl _, rfl, Lib.hid (fun j h1 h2 => by omega), by (repeat' (first | (with_reducible exact Below.refl _ _) | (with_reducible assumption) | (with_reducible refine Below.drew ?_) | (with_reducible refine below_drewN ?_ _) | (with_reducible refine Below.setCell ?_ ?_ _) | (with_reducible refine Below.alloc ?_ ?_ _) | (refine Below.trans ?_ (Below.mono (by with_reducible assumption) ?_)) | omega | (exact Below.size (by with_reducible assumption)) | (simp; done) | (simp; omega)))⟩
  case round =>
    obtain ⟨i, hK, hi, rfl, hno, hbw⟩ := hrel
    have HB := Lib.hid hbw
    by_cases hlt : i ≤ b
    · have e0 := Lib.hid (fnL_at (l := l) (i := i) (by have := hn.out; omega))
      obtain ⟨b0, off, rfl, hb0, c0⟩ := (HA.out.below hbw (Nat.le_refl _)).elem e0.out
      have y0 : i < n := by omega
      by_cases hx : lv ≤ fnL l i
      · have HT : Hid (HasL l lv a b) := Lib.hid ⟨i, hi, hlt, hx⟩
        clear hno e0
        generalize fnL l i = x at *
        go_wp2
        go_ret
        exact ⟨.bool true, rfl, Lib.hid (Or.inl ⟨rfl, HT.out⟩), HB.out⟩
      · have hno2 : Hid (∀ j : Nat, a ≤ j → j < i + 1 → fnL l j < lv) := Lib.hid fun j h1 h2 => by
          by_cases e : j < i
          · exact hno.out j h1 e
          · obtain rfl : j = i := by omega
            omega
        clear hno e0
        generalize hx9 : fnL l i = x at c0 hx
        clear hx9
        go_wp2
        go_roundg (b + 1 - (i + 1))
        case measure => omega
        case rel => exact ⟨i + 1, by omega, by omega, by go_num, hno2, HB.out⟩
    · have HF : Hid (¬ HasL l lv a b) := Lib.hid fun ⟨j, h1, h2, h3⟩ => by have := hno.out j h1 (by omega); omega
      clear hno
      go_wp2
      go_ret
      exact ⟨.bool false, rfl, Lib.hid (Or.inr ⟨rfl, HF.out⟩), HB.out⟩
theorem within71w (n lo hi : Int) (w : World) : Calls Try.prog 71 #[.int .i64 n, .int .i64 lo, .int .i64 hi] w fun e w' => e = .returned (.bool (btw n lo hi)) ∧ Below w.heap.size w w' :=
  (within71 n lo hi w).mono fun _ _ ⟨h1, h2⟩ => ⟨h1, h2 ▸ Below.refl _ _⟩
theorem size86w (n : Int) (w : World) (h : -1000 ≤ n ∧ n ≤ 1000) : Calls Try.prog 86 #[.int .i64 n] w fun e w' => e = .returned (.int .i64 (max n (-n))) ∧ Below w.heap.size w w' :=
  (size86 n w h).mono fun _ _ ⟨h1, h2⟩ => ⟨h1, h2 ▸ Below.refl _ _⟩
theorem cp_snoc {ks : List Kn} {k : Nat} {g : Kn} (f : Kn → Bool) (h : ks[k]? = some g) : (ks.take (k + 1)).countP f = (ks.take k).countP f + if f g = true then 1 else 0 := by
  rw [take_snoc h, List.countP_append, List.countP_cons, List.countP_nil]; omega
theorem cp_le {ks : List Kn} {k : Nat} (f : Kn → Bool) : (ks.take k).countP f ≤ k := by
  have := List.countP_le_length (p := f) (l := ks.take k)
  simp at this; omega
theorem upK_in {k : Nat} {h : Nat → Int} {p : Nat} {lo hi : Int} (hp : p ≤ k) : upK k h ⟨p, lo, hi⟩ = !btw (h p) lo hi := by
  unfold upK
  rw [decide_eq_true (show (0 : Int) ≤ ((p : Nat) : Int) by omega), decide_eq_true (show ((p : Nat) : Int) ≤ (k : Int) by omega)]
  simp [btw]
set_option maxRecDepth 100000 in
set_option maxHeartbeats 4000000 in
theorem wrongs47 (L sl rl rh wg : Int) (A : Option Addr) (n cap : Nat) (ks : List Kn) (A2 : Option Addr) (n2 cap2 : Nat) (l : List Int) (w : World) (hA : Rd 3 w A (ks.map krow)) (hn : Hid (n = ks.length)) (hV : Hid (CvV L sl rl rh wg ks)) (hL : RdI w A2 l) (hn2 : Hid (n2 = l.length)) (hl : (n2 : Int) = L + 1) :
    Calls Try.prog 47 #[.agg #[.int .i64 L, .int .i64 sl, .int .i64 rl, .int .i64 rh, .slice A n cap, .int .i64 wg], .slice A2 n2 cap2] w fun e w' => e = .returned (.int .i64 (wUp ks (fnL l) L.toNat : Nat)) ∧ Below w.heap.size w w' := by
  have HA := Lib.hid hA
  have HL := Lib.hid hL
  have hl1 := hV.out.l1
  have hl2 := hV.out.l2
  have hk8 := hV.out.kl
  have hnk : n ≤ 8 := by have := hn.out; omega
  clear hk8
  rw [wUp_count]
  clear hA hL
  go_enter Try.func47, Try.ntmps47
  go_wp2
  go_loopg [5, 6] n (fun K v y wr => ∃ k : Nat, K + k = n ∧ y = .int .i64 k ∧ v = .int .i64 ((ks.take k).countP (upK L.toNat (fnL l)) : Nat) ∧ Hid (Own wr w.heap.size [.int .i64 L, .int .i64 sl, .int .i64 rl, .int .i64 rh, .slice A n cap, .int .i64 wg]) ∧ Hid (Below w.heap.size w wr))
  case atStart => exact ⟨0, rfl, rfl, rfl, Lib.hid (Own.new' _ _ rfl rfl), Lib.hid (by (repeat' (first | (with_reducible exact Below.refl _ _) | (with_reducible assumption) | (with_reducible refine Below.drew ?_) | (with_reducible refine below_drewN ?_ _) | (with_reducible refine Below.setCell ?_ ?_ _) | (with_reducible refine Below.alloc ?_ ?_ _) | (refine Below.trans ?_ (Below.mono (by with_reducible assumption) ?_)) | omega | (exact Below.size (by with_reducible assumption)) | (simp; done) | (simp; omega))))⟩
  case round =>
    obtain ⟨k, hk, rfl, rfl, hown, hbw⟩ := hrel
    obtain ⟨l0, k0, f0⟩ := hown.out
    have hw : (ks.take k).countP (upK L.toNat (fnL l)) ≤ k := cp_le _
    by_cases hlt : k < n
    · obtain ⟨g, hg⟩ : ∃ g, Hid (ks[k]? = some g) := ⟨ks[k]'(by have := hn.out; omega), by simp [Hid]⟩
      obtain ⟨⟨hp0, hpL⟩, hg1, hg2, hg3⟩ := hV.out.kn g (List.mem_of_getElem? hg.out)
      obtain ⟨b, off, rfl, hb, hc0, hc1, hc2⟩ := rd_kn (HA.out.below hbw.out (Nat.le_refl _)) hg.out
      have hs := Lib.hid (cp_snoc (upK L.toNat (fnL l)) hg.out)
      obtain ⟨pos, lo, hi⟩ := g
      dsimp only at hp0 hpL hg1 hg2 hg3 hc0 hc1 hc2
      obtain ⟨p, rfl⟩ : ∃ p : Nat, pos = (p : Int) := ⟨pos.toNat, by omega⟩
      have hup := Lib.hid (upK_in (h := fnL l) (lo := lo) (hi := hi) (show p ≤ L.toNat by omega))
      have e0 := Lib.hid (fnL_at (l := l) (i := p) (by have := hn2.out; omega))
      obtain ⟨b0, off0, rfl, hb0, d0⟩ := (HL.out.below hbw.out (Nat.le_refl _)).elem e0.out
      have hsz := hbw.out.size
      have y0 : p < n2 := by omega
      have y1 : (p : Int) < (n2 : Int) := by omega
      have hc71 : ∀ w, Calls Try.prog 71 #[.int .i64 (fnL l p), .int .i64 lo, .int .i64 hi] w fun e w' => e = .returned (.bool (btw (fnL l p) lo hi)) ∧ Below w.heap.size w w' := fun w => within71w _ _ _ w
      generalize hcn : (ks.take k).countP (upK L.toNat (fnL l)) = cn at *
      generalize hx : fnL l p = x at *
      have HX := Lib.hid hx
      clear hx e0 hcn hp0 hpL hg1 hg2 hg3
      cases hq : btw x lo hi
      · have hq' : Hid (((ks.take (k + 1)).countP (upK L.toNat (fnL l)) : Int) = (cn : Int) + 1) := by
          show _ = _
          rw [hs.out, hup.out, hq]; simp
        have hc71' := fun w => (by have := hc71 w; rwa [hq] at this : Calls Try.prog 71 #[.int .i64 x, .int .i64 lo, .int .i64 hi] w fun e w' => e = .returned (.bool false) ∧ Below w.heap.size w w')
        clear hc71 hq hs hup
        go_wp2
        refine wp_gen fun W hW => ?_
        have hB1 : Below wr.heap.size wr W := by rw [hW]; (repeat' (first | (with_reducible exact Below.refl _ _) | (with_reducible assumption) | (with_reducible refine Below.drew ?_) | (with_reducible refine below_drewN ?_ _) | (with_reducible refine Below.setCell ?_ ?_ _) | (with_reducible refine Below.alloc ?_ ?_ _) | (refine Below.trans ?_ (Below.mono (by with_reducible assumption) ?_)) | omega | (exact Below.size (by with_reducible assumption)) | (simp; done) | (simp; omega)))
        have ob : Own W wr.heap.size [.int .i64 p, .int .i64 lo, .int .i64 hi] := by rw [hW]; first | exact Own.new' _ _ rfl rfl | exact ((((Own.new' (w := wr) _ _ rfl rfl).set 0 (by simp) _).set 1 (by simp) _).set 2 (by simp) _)
        have hx0 := Aft.cell (W := W) ob
        have hx1 := Aft.cell (W := W) (hown.out.below hB1 l0)
        have hy0 := fun x : Aft W => (Aft.old x (by have := hB1.size; omega) _).trans (((bcell hB1).1 _ (off0 + p) hb0).trans d0)
        clear hW
        refine wp_region_aft (by kernel_rfl) (by kernel_rfl) ?_; (repeat (go_big_quiet_step ((go_at_call 71; exact aft_of (hc71' _))))); refine wpQuiet_nil ?_; rintro w6 ⟨⟨_, hb6⟩, rfl⟩
        have hB6 := Lib.hid (hbw.out.trans ((hB1.trans (hb6.mono hB1.size)).mono hsz))
        have ho6 := Lib.hid (hown.out.below (hB1.trans (hb6.mono hB1.size)) l0)
        clear hx0 hx1 hy0 ob hb6 hB1 l0 k0 f0 hc71' hc0 hc1 hc2 d0
        go_wp2
        go_roundg (n - (k + 1))
        case measure => omega
        case rel => exact ⟨k + 1, by omega, by go_num, by rw [hq'.out], ho6, hB6⟩
      · have hq' : Hid (((ks.take (k + 1)).countP (upK L.toNat (fnL l)) : Int) = (cn : Int)) := by
          show _ = _
          rw [hs.out, hup.out, hq]; simp
        have hc71' := fun w => (by have := hc71 w; rwa [hq] at this : Calls Try.prog 71 #[.int .i64 x, .int .i64 lo, .int .i64 hi] w fun e w' => e = .returned (.bool true) ∧ Below w.heap.size w w')
        clear hc71 hq hs hup
        go_wp2
        refine wp_gen fun W hW => ?_
        have hB1 : Below wr.heap.size wr W := by rw [hW]; (repeat' (first | (with_reducible exact Below.refl _ _) | (with_reducible assumption) | (with_reducible refine Below.drew ?_) | (with_reducible refine below_drewN ?_ _) | (with_reducible refine Below.setCell ?_ ?_ _) | (with_reducible refine Below.alloc ?_ ?_ _) | (refine Below.trans ?_ (Below.mono (by with_reducible assumption) ?_)) | omega | (exact Below.size (by with_reducible assumption)) | (simp; done) | (simp; omega)))
        have ob : Own W wr.heap.size [.int .i64 p, .int .i64 lo, .int .i64 hi] := by rw [hW]; first | exact Own.new' _ _ rfl rfl | exact ((((Own.new' (w := wr) _ _ rfl rfl).set 0 (by simp) _).set 1 (by simp) _).set 2 (by simp) _)
        have hx0 := Aft.cell (W := W) ob
        have hx1 := Aft.cell (W := W) (hown.out.below hB1 l0)
        have hy0 := fun x : Aft W => (Aft.old x (by have := hB1.size; omega) _).trans (((bcell hB1).1 _ (off0 + p) hb0).trans d0)
        clear hW
        refine wp_region_aft (by kernel_rfl) (by kernel_rfl) ?_; (repeat (go_big_quiet_step ((go_at_call 71; exact aft_of (hc71' _))))); refine wpQuiet_nil ?_; rintro w6 ⟨⟨_, hb6⟩, rfl⟩
        have hB6 := Lib.hid (hbw.out.trans ((hB1.trans (hb6.mono hB1.size)).mono hsz))
        have ho6 := Lib.hid (hown.out.below (hB1.trans (hb6.mono hB1.size)) l0)
        clear hx0 hx1 hy0 ob hb6 hB1 l0 k0 f0 hc71' hc0 hc1 hc2 d0
        go_wp2
        go_roundg (n - (k + 1))
        case measure => omega
        case rel => exact ⟨k + 1, by omega, by go_num, by rw [hq'.out], ho6, hB6⟩
    · obtain rfl : k = n := by omega
      have e1 : Hid ((ks.take k).countP (upK L.toNat (fnL l)) = ks.countP (upK L.toNat (fnL l))) := by
        show _ = _
        rw [List.take_of_length_le (by have := hn.out; omega)]
      generalize hcn : (ks.take k).countP (upK L.toNat (fnL l)) = cn at *
      clear hcn
      go_wp2
      go_ret
      exact ⟨by rw [← e1.out]; rfl, hbw.out⟩
end Go.Proofs.Ytphcpphmoeiioaa
namespace Go.Proofs.Ytphcpphmoeiioaa
open Go.RowKit Go.Maps

/-- Heights in the range, and not too steep. -/
def SoL (sl rl rh : Int) (l : List Int) : Prop := (∀ i, i < l.length → rl ≤ fnL l i ∧ fnL l i ≤ rh) ∧ ∀ i, i + 1 < l.length → fnL l i - sl ≤ fnL l (i + 1) ∧ fnL l (i + 1) ≤ fnL l i + sl
theorem soL_ok {L sl rl rh wg : Int} {ks : List Kn} {l : List Int} (hl : l.length = L.toNat + 1) : SoL sl rl rh l ↔ Ok (cvOf L sl rl rh wg ks) L.toNat (fnL l) :=
  ⟨fun h => ⟨fun i hi => h.1 i (by omega), fun i hi => h.2 i (by omega)⟩, fun h => ⟨fun i hi => h.1 i (by omega), fun i hi => h.2 i (by omega)⟩⟩
set_option maxRecDepth 100000 in
set_option maxHeartbeats 8000000 in
theorem isSo77 (L sl rl rh wg : Int) (S : Value) (A : Option Addr) (n cap : Nat) (l : List Int) (w : World) (hA : RdI w A l) (hn : Hid (n = l.length)) (hl : n ≤ 40) (h1 : -100 ≤ rl) (h2 : rh ≤ 100) (h3 : 0 ≤ sl) (h4 : sl ≤ 20) :
    Calls Try.prog 77 #[.agg #[.int .i64 L, .int .i64 sl, .int .i64 rl, .int .i64 rh, S, .int .i64 wg], .slice A n cap] w fun e w' => ∃ v : Value, e = .returned v ∧ Hid ((v = .bool true ∧ SoL sl rl rh l) ∨ (v = .bool false ∧ ¬ SoL sl rl rh l)) ∧ Below w.heap.size w w' := by
  have HA := Lib.hid hA
  clear hA
  go_enter Try.func77, Try.ntmps77
  go_wp2
  go_loopg [5] n (fun K y wr => ∃ i : Nat, K + i = n ∧ y = .int .i64 i ∧ Hid (∀ j, j < i → rl ≤ fnL l j ∧ fnL l j ≤ rh) ∧ Hid (∀ j, j + 1 < i → fnL l j - sl ≤ fnL l (j + 1) ∧ fnL l (j + 1) ≤ fnL l j + sl) ∧ Hid (Own wr w.heap.size [.int .i64 L, .int .i64 sl, .int .i64 rl, .int .i64 rh, S, .int .i64 wg]) ∧ Hid (Below w.heap.size w wr))
  case atStart => exact ⟨0, rfl, rfl, Lib.hid (fun j h => by omega), Lib.hid (fun j h => by omega), Lib.hid (Own.new' _ _ rfl rfl), Lib.hid (by (repeat' (first | (with_reducible exact Below.refl _ _) | (with_reducible assumption) | (with_reducible refine Below.drew ?_) | (with_reducible refine below_drewN ?_ _) | (with_reducible refine Below.setCell ?_ ?_ _) | (with_reducible refine Below.alloc ?_ ?_ _) | (refine Below.trans ?_ (Below.mono (by with_reducible assumption) ?_)) | omega | (exact Below.size (by with_reducible assumption)) | (simp; done) | (simp; omega))))⟩
  case round =>
    obtain ⟨i, hK, rfl, hr, hst, hown, hbw⟩ := hrel
    obtain ⟨l0, k0, f0⟩ := hown.out
    have hsz := hbw.out.size
    by_cases hlt : i < n
    · have e0 := Lib.hid (fnL_at (l := l) (i := i) (by have := hn.out; omega))
      obtain ⟨b0, off, rfl, hb0, c0⟩ := (HA.out.below hbw.out (Nat.le_refl _)).elem e0.out
      have y0 : (i : Int) < (n : Int) := by omega
      have hc71 : ∀ w, Calls Try.prog 71 #[.int .i64 (fnL l i), .int .i64 rl, .int .i64 rh] w fun e w' => e = .returned (.bool (btw (fnL l i) rl rh)) ∧ Below w.heap.size w w' := fun w => within71w _ _ _ w
      have hx0 := Aft.cell (W := wr) hown.out
      have hy0 := fun x : Aft wr => (Aft.old x hb0 _).trans c0
      cases hq : btw (fnL l i) rl rh
      · have HF : Hid (¬ SoL sl rl rh l) := Lib.hid fun h => by
          have := btw_iff.2 (h.1 i (by have := hn.out; omega))
          rw [hq] at this; cases this
        rw [hq] at hc71
        clear hq e0 c0 hr hst
        generalize fnL l i = x at *
        go_wp2
        refine wp_region_aft (by kernel_rfl) (by kernel_rfl) ?_; (repeat (go_big_quiet_step ((go_at_call 71; exact aft_of (hc71 _))))); refine wpQuiet_nil ?_; rintro w4 ⟨⟨_, hb4⟩, rfl⟩
        have hB4 := Lib.hid (hbw.out.trans (hb4.mono hsz))
        clear hx0 hy0 hb4 l0 k0 f0 hc71
        go_wp2
        go_ret
        exact ⟨.bool false, rfl, Lib.hid (Or.inr ⟨rfl, HF.out⟩), hB4.out⟩
      · have hxr := btw_iff.1 hq
        rw [hq] at hc71
        have hr2 : Hid (∀ j, j < i + 1 → rl ≤ fnL l j ∧ fnL l j ≤ rh) := Lib.hid fun j h => by
          by_cases e : j < i
          · exact hr.out j e
          · obtain rfl : j = i := by omega
            exact hxr
        rcases i with _ | j
        · have hst2 : Hid (∀ j, j + 1 < 0 + 1 → fnL l j - sl ≤ fnL l (j + 1) ∧ fnL l (j + 1) ≤ fnL l j + sl) := Lib.hid fun j h => by omega
          clear hq e0 c0 hr hst
          generalize fnL l 0 = x at *
          simp only [Nat.add_zero] at hy0
          go_wp2
          refine wp_region_aft (by kernel_rfl) (by kernel_rfl) ?_; (repeat (go_big_quiet_step ((go_at_call 71; exact aft_of (hc71 _))))); refine wpQuiet_nil ?_; rintro w4 ⟨⟨_, hb4⟩, rfl⟩
          have hB4 := Lib.hid (hbw.out.trans (hb4.mono hsz))
          have ho4 := Lib.hid (hown.out.below hb4 l0)
          clear hx0 hy0 hb4 l0 k0 f0 hc71
          go_wp2
          go_roundg (n - (0 + 1))
          case measure => omega
          case rel => exact ⟨0 + 1, by omega, by go_num, hr2, hst2, ho4, hB4⟩
        · have e1 := Lib.hid (fnL_at (l := l) (i := j) (by have := hn.out; omega))
          obtain ⟨b1, off1, hA1, hb1, c1⟩ := (HA.out.below hbw.out (Nat.le_refl _)).elem e1.out
          cases hA1
          have hyr := hr.out j (by omega)
          have hy1 := fun x : Aft wr => (Aft.old x hb0 _).trans c1
          have hw1 := IntWalk.i64_in (fnL l (j + 1) - fnL l j) (by omega)
          have hw2 := IntWalk.i64_in ((j : Int) + 1 - 1) (by omega)
          have hw3 : (j : Int) + 1 - 1 = (j : Int) := by omega
          have hw4 : (0 : Int) < (j : Int) + 1 := by omega
          by_cases hs : fnL l j - sl ≤ fnL l (j + 1) ∧ fnL l (j + 1) ≤ fnL l j + sl
          · have hst2 : Hid (∀ i, i + 1 < j + 1 + 1 → fnL l i - sl ≤ fnL l (i + 1) ∧ fnL l (i + 1) ≤ fnL l i + sl) := Lib.hid fun i h => by
              by_cases e : i + 1 < j + 1
              · exact hst.out i e
              · obtain rfl : i = j := by omega
                exact hs
            have hw5 : decide (sl < max (fnL l (j + 1) - fnL l j) (-(fnL l (j + 1) - fnL l j))) = false := decide_eq_false (by omega)
            clear hq e0 e1 c0 c1 hr hst
            generalize fnL l (j + 1) = x at *
            generalize fnL l j = y at *
            go_wp2
            refine wp_region_aft (by kernel_rfl) (by kernel_rfl) ?_; (repeat (go_big_quiet_step ((first | (go_at_call 71; exact aft_of (hc71 _)) | (go_at_call 86; refine aft_of (size86w _ _ ?_); omega))))); refine wpQuiet_nil ?_; rintro w4 ⟨⟨_, hb4⟩, rfl⟩
            have hB4 := Lib.hid (hbw.out.trans (hb4.mono hsz))
            have ho4 := Lib.hid (hown.out.below hb4 l0)
            clear hx0 hy0 hy1 hb4 l0 k0 f0 hc71 hw1 hw2 hw3 hw4 hw5
            go_wp2
            go_roundg (n - (j + 1 + 1))
            case measure => omega
            case rel => exact ⟨j + 1 + 1, by omega, by go_num, hr2, hst2, ho4, hB4⟩
          · have HF : Hid (¬ SoL sl rl rh l) := Lib.hid fun h => hs (h.2 j (by have := hn.out; omega))
            have hw5 : decide (sl < max (fnL l (j + 1) - fnL l j) (-(fnL l (j + 1) - fnL l j))) = true := decide_eq_true (by omega)
            clear hq e0 e1 c0 c1 hr hst hr2
            generalize fnL l (j + 1) = x at *
            generalize fnL l j = y at *
            clear hs
            go_wp2
            refine wp_region_aft (by kernel_rfl) (by kernel_rfl) ?_; (repeat (go_big_quiet_step ((first | (go_at_call 71; exact aft_of (hc71 _)) | (go_at_call 86; refine aft_of (size86w _ _ ?_); omega))))); refine wpQuiet_nil ?_; rintro w4 ⟨⟨_, hb4⟩, rfl⟩
            have hB4 := Lib.hid (hbw.out.trans (hb4.mono hsz))
            clear hx0 hy0 hy1 hb4 l0 k0 f0 hc71 hw1 hw2 hw3 hw4 hw5
            go_wp2
            go_ret
            exact ⟨.bool false, rfl, Lib.hid (Or.inr ⟨rfl, HF.out⟩), hB4.out⟩
    · have HT : Hid (SoL sl rl rh l) := Lib.hid ⟨fun j h => hr.out j (by have := hn.out; omega), fun j h => hst.out j (by have := hn.out; omega)⟩
      clear hr hst
      go_wp2
      go_ret
      exact ⟨.bool true, rfl, Lib.hid (Or.inl ⟨rfl, HT.out⟩), hbw.out⟩
set_option maxRecDepth 100000 in
set_option maxHeartbeats 8000000 in
theorem isTruth44 (L sl rl rh wg : Int) (A : Option Addr) (n cap : Nat) (ks : List Kn) (A2 : Option Addr) (n2 cap2 : Nat) (l : List Int) (w : World) (hA : Rd 3 w A (ks.map krow)) (hn : Hid (n = ks.length)) (hV : Hid (CvV L sl rl rh wg ks)) (hL : RdI w A2 l) (hn2 : Hid (n2 = l.length)) (hl40 : n2 ≤ 140737488355328) :
    Calls Try.prog 44 #[.agg #[.int .i64 L, .int .i64 sl, .int .i64 rl, .int .i64 rh, .slice A n cap, .int .i64 wg], .slice A2 n2 cap2] w fun e w' => ∃ v : Value, e = .returned v ∧ Hid ((v = .bool true ∧ (n2 : Int) = L + 1 ∧ Truth (cvOf L sl rl rh wg ks) (fnL l)) ∨ (v = .bool false ∧ ¬ ((n2 : Int) = L + 1 ∧ Truth (cvOf L sl rl rh wg ks) (fnL l)))) ∧ Below w.heap.size w w' := by
  have HA := Lib.hid hA
  have HL := Lib.hid hL
  have hl1 := hV.out.l1
  have hl2 := hV.out.l2
  have hk8 := hV.out.kl
  clear hA hL
  go_enter Try.func44, Try.ntmps44
  have hwl := IntWalk.i64_in (L + 1) (by omega)
  by_cases hlen : (n2 : Int) = L + 1
  · have hlen2 := Lib.hid hlen
    have hle : ((n2 : Int) == L + 1) = true := by simpa using hlen
    have hle2 : l.length = L.toNat + 1 := by have := hn2.out; omega
    have HLE := Lib.hid hle2
    have h13 : n2 ≤ 13 := by omega
    have hsk := Lib.hid (soL_ok (sl := sl) (rl := rl) (rh := rh) (wg := wg) (ks := ks) hle2)
    clear hlen hle2
    by_cases hso : SoL sl rl rh l
    · have HSO := Lib.hid hso
      by_cases hwg : (wUp ks (fnL l) L.toNat : Int) ≤ wg
      · have HT : Hid (Truth (cvOf L sl rl rh wg ks) (fnL l)) := Lib.hid ⟨hsk.out.1 hso, hwg⟩
        have hwd : decide (((wUp ks (fnL l) L.toNat : Nat) : Int) ≤ wg) = true := decide_eq_true hwg
        clear hso hsk hwg
        go_wp2
        refine wp_gen fun W hW => ?_
        have hB1 : Below w.heap.size w W := by rw [hW]; (repeat' (first | (with_reducible exact Below.refl _ _) | (with_reducible assumption) | (with_reducible refine Below.drew ?_) | (with_reducible refine below_drewN ?_ _) | (with_reducible refine Below.setCell ?_ ?_ _) | (with_reducible refine Below.alloc ?_ ?_ _) | (refine Below.trans ?_ (Below.mono (by with_reducible assumption) ?_)) | omega | (exact Below.size (by with_reducible assumption)) | (simp; done) | (simp; omega)))
        have ob : Own W w.heap.size [.int .i64 L, .int .i64 sl, .int .i64 rl, .int .i64 rh, .slice A n cap, .int .i64 wg] := by rw [hW]; exact Own.new' _ _ rfl rfl
        have hx0 := Aft.cell (W := W) ob
        have hc77 : ∀ x5 : Aft W, Calls Try.prog 77 #[.agg #[.int .i64 L, .int .i64 sl, .int .i64 rl, .int .i64 rh, .slice A n cap, .int .i64 wg], .slice A2 n2 cap2] x5.w fun e w' => e = .returned (.bool true) ∧ Below x5.w.heap.size x5.w w' := fun x5 => by
          refine (isSo77 L sl rl rh wg _ A2 n2 cap2 l _ (HL.out.below (hB1.trans (x5.h.mono hB1.size)) (Nat.le_refl _)) hn2 (by omega) hV.out.r1 hV.out.r2 hV.out.s1 hV.out.s2).mono ?_
          rintro e w' ⟨v, rfl, hv, hb⟩
          refine ⟨?_, hb⟩
          rcases hv.out with ⟨rfl, h⟩ | ⟨rfl, h⟩
          · rfl
          · exact absurd HSO.out h
        have hc47 : ∀ x5 : Aft W, Calls Try.prog 47 #[.agg #[.int .i64 L, .int .i64 sl, .int .i64 rl, .int .i64 rh, .slice A n cap, .int .i64 wg], .slice A2 n2 cap2] x5.w fun e w' => e = .returned (.int .i64 (wUp ks (fnL l) L.toNat : Nat)) ∧ Below x5.w.heap.size x5.w w' := fun x5 =>
          wrongs47 L sl rl rh wg A n cap ks A2 n2 cap2 l _ (HA.out.below (hB1.trans (x5.h.mono hB1.size)) (Nat.le_refl _)) hn hV (HL.out.below (hB1.trans (x5.h.mono hB1.size)) (Nat.le_refl _)) hn2 hlen2.out
        clear hW
        refine wp_region_aft (by kernel_rfl) (by kernel_rfl) ?_; (repeat (go_big_quiet_step ((first | (go_at_call 77; exact aft_of (hc77 _)) | (go_at_call 47; exact aft_of (hc47 _)) | fail)))); refine wpQuiet_nil ?_; rintro w1 ⟨⟨_, hb1⟩, rfl⟩
        have hB4 := Lib.hid (hB1.trans (hb1.mono hB1.size))
        clear hx0 ob hb1 hB1
        go_wp2
        go_ret
        exact ⟨.bool true, rfl, Lib.hid (Or.inl ⟨rfl, hlen2.out, HT.out⟩), hB4.out⟩
      · have HT : Hid (¬ Truth (cvOf L sl rl rh wg ks) (fnL l)) := Lib.hid fun h => hwg h.2
        have hwd : decide (((wUp ks (fnL l) L.toNat : Nat) : Int) ≤ wg) = false := decide_eq_false hwg
        clear hso hsk hwg
        go_wp2
        refine wp_gen fun W hW => ?_
        have hB1 : Below w.heap.size w W := by rw [hW]; (repeat' (first | (with_reducible exact Below.refl _ _) | (with_reducible assumption) | (with_reducible refine Below.drew ?_) | (with_reducible refine below_drewN ?_ _) | (with_reducible refine Below.setCell ?_ ?_ _) | (with_reducible refine Below.alloc ?_ ?_ _) | (refine Below.trans ?_ (Below.mono (by with_reducible assumption) ?_)) | omega | (exact Below.size (by with_reducible assumption)) | (simp; done) | (simp; omega)))
        have ob : Own W w.heap.size [.int .i64 L, .int .i64 sl, .int .i64 rl, .int .i64 rh, .slice A n cap, .int .i64 wg] := by rw [hW]; exact Own.new' _ _ rfl rfl
        have hx0 := Aft.cell (W := W) ob
        have hc77 : ∀ x5 : Aft W, Calls Try.prog 77 #[.agg #[.int .i64 L, .int .i64 sl, .int .i64 rl, .int .i64 rh, .slice A n cap, .int .i64 wg], .slice A2 n2 cap2] x5.w fun e w' => e = .returned (.bool true) ∧ Below x5.w.heap.size x5.w w' := fun x5 => by
          refine (isSo77 L sl rl rh wg _ A2 n2 cap2 l _ (HL.out.below (hB1.trans (x5.h.mono hB1.size)) (Nat.le_refl _)) hn2 (by omega) hV.out.r1 hV.out.r2 hV.out.s1 hV.out.s2).mono ?_
          rintro e w' ⟨v, rfl, hv, hb⟩
          refine ⟨?_, hb⟩
          rcases hv.out with ⟨rfl, h⟩ | ⟨rfl, h⟩
          · rfl
          · exact absurd HSO.out h
        have hc47 : ∀ x5 : Aft W, Calls Try.prog 47 #[.agg #[.int .i64 L, .int .i64 sl, .int .i64 rl, .int .i64 rh, .slice A n cap, .int .i64 wg], .slice A2 n2 cap2] x5.w fun e w' => e = .returned (.int .i64 (wUp ks (fnL l) L.toNat : Nat)) ∧ Below x5.w.heap.size x5.w w' := fun x5 =>
          wrongs47 L sl rl rh wg A n cap ks A2 n2 cap2 l _ (HA.out.below (hB1.trans (x5.h.mono hB1.size)) (Nat.le_refl _)) hn hV (HL.out.below (hB1.trans (x5.h.mono hB1.size)) (Nat.le_refl _)) hn2 hlen2.out
        clear hW
        refine wp_region_aft (by kernel_rfl) (by kernel_rfl) ?_; (repeat (go_big_quiet_step ((first | (go_at_call 77; exact aft_of (hc77 _)) | (go_at_call 47; exact aft_of (hc47 _)) | fail)))); refine wpQuiet_nil ?_; rintro w1 ⟨⟨_, hb1⟩, rfl⟩
        have hB4 := Lib.hid (hB1.trans (hb1.mono hB1.size))
        clear hx0 ob hb1 hB1
        go_wp2
        go_ret
        exact ⟨.bool false, rfl, Lib.hid (Or.inr ⟨rfl, fun h => HT.out h.2⟩), hB4.out⟩
    · have HSO := Lib.hid hso
      have HT : Hid (¬ Truth (cvOf L sl rl rh wg ks) (fnL l)) := Lib.hid fun h => hso (hsk.out.2 h.1)
      clear hso hsk
      go_wp2
      refine wp_gen fun W hW => ?_
      have hB1 : Below w.heap.size w W := by rw [hW]; (repeat' (first | (with_reducible exact Below.refl _ _) | (with_reducible assumption) | (with_reducible refine Below.drew ?_) | (with_reducible refine below_drewN ?_ _) | (with_reducible refine Below.setCell ?_ ?_ _) | (with_reducible refine Below.alloc ?_ ?_ _) | (refine Below.trans ?_ (Below.mono (by with_reducible assumption) ?_)) | omega | (exact Below.size (by with_reducible assumption)) | (simp; done) | (simp; omega)))
      have ob : Own W w.heap.size [.int .i64 L, .int .i64 sl, .int .i64 rl, .int .i64 rh, .slice A n cap, .int .i64 wg] := by rw [hW]; exact Own.new' _ _ rfl rfl
      have hx0 := Aft.cell (W := W) ob
      have hc77 : ∀ x5 : Aft W, Calls Try.prog 77 #[.agg #[.int .i64 L, .int .i64 sl, .int .i64 rl, .int .i64 rh, .slice A n cap, .int .i64 wg], .slice A2 n2 cap2] x5.w fun e w' => e = .returned (.bool false) ∧ Below x5.w.heap.size x5.w w' := fun x5 => by
        refine (isSo77 L sl rl rh wg _ A2 n2 cap2 l _ (HL.out.below (hB1.trans (x5.h.mono hB1.size)) (Nat.le_refl _)) hn2 (by omega) hV.out.r1 hV.out.r2 hV.out.s1 hV.out.s2).mono ?_
        rintro e w' ⟨v, rfl, hv, hb⟩
        refine ⟨?_, hb⟩
        rcases hv.out with ⟨rfl, h⟩ | ⟨rfl, h⟩
        · exact absurd h HSO.out
        · rfl
      clear hW
      refine wp_region_aft (by kernel_rfl) (by kernel_rfl) ?_; (repeat (go_big_quiet_step ((go_at_call 77; exact aft_of (hc77 _))))); refine wpQuiet_nil ?_; rintro w1 ⟨⟨_, hb1⟩, rfl⟩
      have hB4 := Lib.hid (hB1.trans (hb1.mono hB1.size))
      clear hx0 ob hb1 hB1
      go_wp2
      go_ret
      exact ⟨.bool false, rfl, Lib.hid (Or.inr ⟨rfl, fun h => HT.out h.2⟩), hB4.out⟩
  · have hle : ((n2 : Int) == L + 1) = false := by simpa using hlen
    have HN := Lib.hid hlen
    clear hlen
    go_wp2
    refine wp_gen fun W hW => ?_
    have hB1 : Below w.heap.size w W := by rw [hW]; (repeat' (first | (with_reducible exact Below.refl _ _) | (with_reducible assumption) | (with_reducible refine Below.drew ?_) | (with_reducible refine below_drewN ?_ _) | (with_reducible refine Below.setCell ?_ ?_ _) | (with_reducible refine Below.alloc ?_ ?_ _) | (refine Below.trans ?_ (Below.mono (by with_reducible assumption) ?_)) | omega | (exact Below.size (by with_reducible assumption)) | (simp; done) | (simp; omega)))
    have ob : Own W w.heap.size [.int .i64 L, .int .i64 sl, .int .i64 rl, .int .i64 rh, .slice A n cap, .int .i64 wg] := by rw [hW]; exact Own.new' _ _ rfl rfl
    have hx0 := Aft.cell (W := W) ob
    clear hW
    refine wp_region_aft (by kernel_rfl) (by kernel_rfl) ?_; (repeat (go_big_quiet_step (fail))); refine wpQuiet_nil ?_; rintro w1 ⟨⟨_, hb1⟩, rfl⟩
    have hB4 := Lib.hid (hB1.trans (hb1.mono hB1.size))
    clear hx0 ob hb1 hB1
    go_wp2
    go_ret
    exact ⟨.bool false, rfl, Lib.hid (Or.inr ⟨rfl, fun h => HN.out h.1⟩), hB4.out⟩
end Go.Proofs.Ytphcpphmoeiioaa
