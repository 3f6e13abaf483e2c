/- Walk: the law on Seen and Settings. -/
import Derived.Test.YtfboiplpfkommaaSc
import Derived.Test.YtfboiplpfkommaaWr
import Derived.Deep.DeepCutAuto
namespace Go.Proofs.Ytfboiplpfkommaa
open Go.RowKit

theorem Try.info71 : (Try.prog.info? 71).map (fun i => (i.zero, i.size, i.bytes)) = some (some (.agg #[.int .i64 0, .int .i64 0]), 2, 16) := by kernel_rfl
theorem append_nil (b : Addr) (cap ty : Nat) (w : World) : (Builtin.append_ #[64, 64] ty #[.slice (some b) 0 0, .slice none 0 cap]).run Try.prog w = .ok (.slice (some b) 0 0) w := by kernel_rfl

theorem flat_len (gs : List Gl) : (gs.flatMap grow).length = gs.length * 2 := by
  induction gs with
  | nil => rfl
  | cons g gs ih => rw [List.flatMap_cons, List.length_append, ih, List.length_cons]; show 2 + gs.length * 2 = (gs.length + 1) * 2; omega
theorem flat_one (gs : List Gl) : ∀ u ∈ gs.flatMap grow, u.oneCell' = true := by
  intro u hu
  obtain ⟨g, _, hg⟩ := List.mem_flatMap.1 hu
  simp [grow] at hg
  rcases hg with rfl | rfl <;> rfl
theorem RdG.flat {w : World} {a : Addr} {gs : List Gl} (h : RdG w (some a) gs) : ∀ (j : Nat) (u : Value), (gs.flatMap grow)[j]? = some u → w.cell? (a.add j) = some u := by
  intro j u hu
  have hj : j < gs.length * 2 := by rw [← flat_len]; exact (List.getElem?_eq_some_iff.1 hu).1
  have hi : j / 2 < gs.length := by omega
  obtain ⟨b, off, e, hb, hc⟩ := Rd.elem h (i := j / 2) (r := grow (gs[j / 2]'hi)) (by simp [hi])
  obtain ⟨rfl⟩ : a = ⟨b, off, none⟩ := by simpa using e
  have hc2 : j % 2 < (grow (gs[j / 2]'hi)).length := by show j % 2 < 2; omega
  have hv := List.getElem?_eq_getElem hc2
  have e1 := getElem?_flatten_row (sz := 2) (gs.map grow) (fun r hr => by obtain ⟨g, _, rfl⟩ := List.mem_map.1 hr; rfl) (j / 2) (j % 2) _ _ (by simp [hi]) hv
  rw [← List.flatMap_def, show j / 2 * 2 + j % 2 = j by omega, hu] at e1
  have e2 := hc _ _ hv
  rw [Option.some.inj e1]
  rw [← e2]
  congr 1
  unfold Addr.add
  split
  · rename_i h0; subst h0; simp
  · simp only [Addr.mk.injEq, and_true, true_and]; omega
theorem seenL_len (P S s : Int) : (seenL P S s).length ≤ 50 := by
  unfold seenL
  split
  · rename_i h
    simp only [Bool.and_eq_true] at h
    have := verB_iff.1 h.1
    have := linesL_len P S s P.toNat
    omega
  · simp
theorem settingsL_len (P S : Int) (gs : List Gl) : (settingsL P S gs).length ≤ 10001 := by
  unfold settingsL
  split
  · exact truths_len _ _ _ _
  · simp
theorem gro_gl {w : World} {base : Nat} {v : Value} {n : Nat} {gs : List Gl} (hn : n = gs.length) (h : w.ownsRow base 71 2 v n (gs.flatMap grow)) : ∃ A cap, v = .slice A n cap ∧ RdG w A gs := by
  have hg : Gro w base 71 2 v (gs.map grow) := ⟨fun r hr => (by obtain ⟨g, _, rfl⟩ := List.mem_map.1 hr; rfl), by rw [List.length_map, ← List.flatMap_def, ← hn]; exact h⟩
  obtain ⟨A, cap, hv, hr⟩ := hg.out
  exact ⟨A, cap, by rw [hv, List.length_map, hn], hr⟩

theorem same46t (A B : Option Addr) (xs : List Int) (n c1 c2 : Nat) (w : World) (hA : RdI w A xs) (hB : RdI w B xs) (hlen : xs.length ≤ 1000000) (hn : n = xs.length := by rfl) :
    Calls Try.prog 46 #[.slice A n c1, .slice B n c2] w fun e w' => e = .returned (.bool true) ∧ Below w.heap.size w w' := by
  have h := sameInts46 A B xs xs n n c1 c2 w hA hB hn hn (by omega) (by omega)
  rwa [decide_eq_true rfl] at h

set_option maxRecDepth 100000 in
set_option maxHeartbeats 4000000 in
theorem seen11_core (A : Option Addr) (gs : List Gl) (n cap : Nat) (P S s : Int) (w : World) (hA : RdG w A gs) (hn : Hid (n = gs.length)) (hn20 : n ≤ 20) :
    Calls Try.prog 11 #[.agg #[.int .i64 P, .int .i64 S], .int .i64 s, .slice A n cap] w fun e w' => e = .returned (.bool true) ∧ Below w.heap.size w w' := by
  have HA := Lib.hid hA
  clear hA
  obtain ⟨i0, hi0, hi1, hi2, hi3⟩ := info_parts Try.info71
  have hrow : (((w.alloc (.cells #[.int .i64 P, .int .i64 S] 63)).alloc (.cells #[] 71))).ownsRow (w.heap.size + 1) 71 2 (.slice (some ⟨w.heap.size + 1, 0, none⟩) 0 0) 0 [] := by
    have := World.ownsRow_made (base := w.heap.size + 1) (e := 71) (size := 2) (w.alloc (.cells #[.int .i64 P, .int .i64 S] 63)) #[] 0 (by simp) (Nat.zero_le _) rfl
    rwa [World.size_alloc] at this
  have o0 : Own ((w.alloc (.cells #[.int .i64 P, .int .i64 S] 63)).alloc (.cells #[] 71)) w.heap.size [.int .i64 P, .int .i64 S] := (Own.new' _ _ rfl rfl).alloc _
  go_enter Try.func11, Try.ntmps11
  go_upto_region 3 with fail
  go_cut [7] (fun o wx => ∃ (A' : Option Addr) (cap' : Nat), o = .slice A' n cap' ∧ RdG wx A' gs ∧ Own wx w.heap.size [.int .i64 P, .int .i64 S] ∧ Below w.heap.size w wx)
  case first =>
    cases A with
    | none =>
      have hg : gs = [] := by
        cases gs with
        | nil => rfl
        | cons g gs => obtain ⟨_, _, h, _⟩ := HA.out.at_ 0 (by simp); cases h
      subst hg
      obtain rfl : n = 0 := hn.out
      have han := append_nil
      go_wp2_with fail
      go_meet
      exact ⟨_, _, rfl, Rd.nil _ _ _, o0, by (repeat' (first | (with_reducible exact Below.refl _ _) | (with_reducible assumption) | (with_reducible refine Below.drew ?_) | (with_reducible refine below_drewN ?_ _) | (with_reducible refine Below.setCell ?_ ?_ _) | (with_reducible refine Below.alloc ?_ ?_ _) | (refine Below.trans ?_ (Below.mono (by with_reducible assumption) ?_)) | omega | (exact Below.size (by with_reducible assumption)) | (simp; done) | (simp; omega)))⟩
    | some a =>
      go_wp2_with (at_builtin; refine wpList_append_own _ rfl _ _ 64 rfl (w.heap.size + 1) 71 i0 (.agg #[.int .i64 0, .int .i64 0]) 2 16 Try.underlying64 hi0 hi1 hi2 hi3 rfl (by decide) _ _ _ rfl hrow a n cap (gs.flatMap grow) rfl (by rw [flat_len, ← hn.out]) (RdG.flat (HA.out.below (B := w.heap.size) (by (repeat' (first | (with_reducible exact Below.refl _ _) | (with_reducible assumption) | (with_reducible refine Below.drew ?_) | (with_reducible refine below_drewN ?_ _) | (with_reducible refine Below.setCell ?_ ?_ _) | (with_reducible refine Below.alloc ?_ ?_ _) | (refine Below.trans ?_ (Below.mono (by with_reducible assumption) ?_)) | omega | (exact Below.size (by with_reducible assumption)) | (simp; done) | (simp; omega)))) (Nat.le_refl _))) (flat_one gs) (by unfold maxLen; omega) (by omega) (by simp) ?_; intro v' w5 hown' hgrow hnil)
      have hg2 : ((w.alloc (.cells #[.int .i64 P, .int .i64 S] 63)).alloc (.cells #[] 71)).grownBy w5 (some (w.heap.size + 1)) := hgrow
      have hbA : Below (w.heap.size + 1) ((w.alloc (.cells #[.int .i64 P, .int .i64 S] 63)).alloc (.cells #[] 71)) w5 := (Below.refl _ _).grown hg2 (by simp) (fun k e => by cases e; omega)
      rw [Nat.zero_add, List.nil_append] at hown'
      obtain ⟨A', cap', rfl, hA'⟩ := gro_gl hn.out hown'
      go_meet
      exact ⟨_, _, rfl, hA', o0.below hbA (by omega), by (repeat' (first | (with_reducible exact Below.refl _ _) | (with_reducible assumption) | (with_reducible refine Below.drew ?_) | (with_reducible refine below_drewN ?_ _) | (with_reducible refine Below.setCell ?_ ?_ _) | (with_reducible refine Below.alloc ?_ ?_ _) | (refine Below.trans ?_ (Below.mono (by with_reducible assumption) ?_)) | omega | (exact Below.size (by with_reducible assumption)) | (simp; done) | (simp; omega)))⟩
  case rest =>
    obtain ⟨A', cap', rfl, hA', o1, hbw⟩ := hcut
    have HA' := Lib.hid hA'
    clear hA' o0 hrow
    have sl := seenL_len P S s
    have tl := settingsL_len P S gs
    obtain ⟨l0, c0, f0⟩ := o1
    go_wp2_with fail
    refine (seen42 _ _ _ _).mono ?_
    rintro e w1 ⟨A1, c1, rfl, r1, hb1⟩
    (have hz1 := hb1.size; (try simp at hz1); have hc1_0 := fun o => (bcell hb1).1 (w.heap.size) o (by first | omega | (simp; done) | (simp; omega)); have hf1_0 := fun o => (bcell hb1).2 (w.heap.size) o (by first | omega | (simp; done) | (simp; omega)); have : w.heap.size < w1.heap.size := (by first | omega | (simp; done) | (simp; omega)); have : w.heap.size < w1.heap.size + 1 := (by first | omega | (simp; done) | (simp; omega)); have : w.heap.size < w1.heap.size + 2 := (by first | omega | (simp; done) | (simp; omega)); have : w.heap.size < w1.heap.size + 3 := (by first | omega | (simp; done) | (simp; omega)))
    go_wp2_with fail
    refine (seen43 _ _ _ _).mono ?_
    rintro e w2 ⟨A2, c2, rfl, r2, hb2⟩
    (have hz2 := hb2.size; (try simp at hz2); have hc2_0 := fun o => (bcell hb2).1 (w.heap.size) o (by first | omega | (simp; done) | (simp; omega)); have hf2_0 := fun o => (bcell hb2).2 (w.heap.size) o (by first | omega | (simp; done) | (simp; omega)); have : w.heap.size < w2.heap.size := (by first | omega | (simp; done) | (simp; omega)); have : w.heap.size < w2.heap.size + 1 := (by first | omega | (simp; done) | (simp; omega)); have : w.heap.size < w2.heap.size + 2 := (by first | omega | (simp; done) | (simp; omega)); have : w.heap.size < w2.heap.size + 3 := (by first | omega | (simp; done) | (simp; omega)))
    go_wp2_with fail
    have b2 : Below wc.heap.size wc w2 := hb1.trans (hb2.mono hb1.size)
    refine (settings44 A' gs n cap' _ _ _ (HA'.out.below b2 (Nat.le_refl _)) hn (by omega)).mono ?_
    rintro e w3 ⟨A3, c3, rfl, r3, hb3⟩
    (have hz3 := hb3.size; (try simp at hz3); have hc3_0 := fun o => (bcell hb3).1 (w.heap.size) o (by first | omega | (simp; done) | (simp; omega)); have hf3_0 := fun o => (bcell hb3).2 (w.heap.size) o (by first | omega | (simp; done) | (simp; omega)); have : w.heap.size < w3.heap.size := (by first | omega | (simp; done) | (simp; omega)); have : w.heap.size < w3.heap.size + 1 := (by first | omega | (simp; done) | (simp; omega)); have : w.heap.size < w3.heap.size + 2 := (by first | omega | (simp; done) | (simp; omega)); have : w.heap.size < w3.heap.size + 3 := (by first | omega | (simp; done) | (simp; omega)))
    go_wp2_with fail
    have b3 : Below wc.heap.size wc w3 := b2.trans (hb3.mono b2.size)
    refine (settings45 A gs n cap _ _ _ (HA.out.below (hbw.trans (b3.mono hbw.size)) (Nat.le_refl _)) hn (by omega)).mono ?_
    rintro e w4 ⟨A4, c4, rfl, r4, hb4⟩
    (have hz4 := hb4.size; (try simp at hz4); have hc4_0 := fun o => (bcell hb4).1 (w.heap.size) o (by first | omega | (simp; done) | (simp; omega)); have hf4_0 := fun o => (bcell hb4).2 (w.heap.size) o (by first | omega | (simp; done) | (simp; omega)); have : w.heap.size < w4.heap.size := (by first | omega | (simp; done) | (simp; omega)); have : w.heap.size < w4.heap.size + 1 := (by first | omega | (simp; done) | (simp; omega)); have : w.heap.size < w4.heap.size + 2 := (by first | omega | (simp; done) | (simp; omega)); have : w.heap.size < w4.heap.size + 3 := (by first | omega | (simp; done) | (simp; omega)))
    have r1' := Lib.hid (((r1.below hb2 (Nat.le_refl _)).below hb3 (Nat.le_refl _)).below hb4 (Nat.le_refl _))
    have r2' := Lib.hid ((r2.below hb3 (Nat.le_refl _)).below hb4 (Nat.le_refl _))
    have r3' := Lib.hid (r3.below hb4 (Nat.le_refl _))
    have r4' := Lib.hid r4
    have b4 : Below wc.heap.size wc w4 := b3.trans (hb4.mono b3.size)
    clear r1 r2 r3 r4
    clear hb1 hb2 hb3
    go_wp2_with fail
    refine (same46t A1 A2 _ _ c1 c2 _ r1'.out r2'.out (by omega)).mono ?_
    rintro e w5 ⟨rfl, hb5⟩
    (have hz5 := hb5.size; (try simp at hz5); have hc5_0 := fun o => (bcell hb5).1 (w.heap.size) o (by first | omega | (simp; done) | (simp; omega)); have hf5_0 := fun o => (bcell hb5).2 (w.heap.size) o (by first | omega | (simp; done) | (simp; omega)); have : w.heap.size < w5.heap.size := (by first | omega | (simp; done) | (simp; omega)); have : w.heap.size < w5.heap.size + 1 := (by first | omega | (simp; done) | (simp; omega)); have : w.heap.size < w5.heap.size + 2 := (by first | omega | (simp; done) | (simp; omega)); have : w.heap.size < w5.heap.size + 3 := (by first | omega | (simp; done) | (simp; omega)))
    have r3'' := Lib.hid (r3'.out.below hb5 (Nat.le_refl _))
    have r4'' := Lib.hid (r4'.out.below hb5 (Nat.le_refl _))
    go_wp2_with fail
    refine (same46t A3 A4 _ _ c3 c4 _ r3''.out r4''.out (by omega)).mono ?_
    rintro e w6 ⟨rfl, hb6⟩
    have b6 : Below wc.heap.size wc w6 := (b4.trans (hb5.mono b4.size)).trans (hb6.mono (Nat.le_trans b4.size hb5.size))
    go_wp2_with fail
    clear r1' r2' r3' r4' r3'' r4'' b2 b3 hb4 hb5 hb6
    have hbw6 : Below w.heap.size w w6 := hbw.trans (b6.mono hbw.size)
    go_loopw [16] (fun i wr => ∃ k : Nat, k ≤ n ∧ i = .int .i64 k ∧ Below wc.heap.size wc wr) (fun i _ => n - (iOf i).toNat)
    case atStart => exact ⟨0, Nat.zero_le _, rfl, b6⟩
    case round =>
      obtain ⟨k, hk, rfl, bk⟩ := hrel
      by_cases hlt : k < n
      · obtain ⟨g, hg⟩ : ∃ g, Hid (gs[k]? = some g) := ⟨gs[k]'(by have := hn.out; omega), by simp [Hid]⟩
        obtain ⟨b1, off1, rfl, d1, e1, e2⟩ := (HA'.out.below bk (Nat.le_refl _)).elem hg.out
        obtain ⟨b2, off2, rfl, d2, e3, e4⟩ := (HA.out.below (hbw.trans (bk.mono hbw.size)) (Nat.le_refl _)).elem hg.out
        have hx1 := fun x : Aft wr => (Aft.old x d1 _).trans e1
        have hx2 := fun x : Aft wr => (Aft.old x d1 _).trans e2
        have hx3 := fun x : Aft wr => (Aft.old x d2 _).trans e3
        have hx4 := fun x : Aft wr => (Aft.old x d2 _).trans e4
        go_wp2
        refine wp_region_aft (by kernel_rfl) (by kernel_rfl) ?_; (repeat (go_big_quiet_step ((fail)))); refine wpQuiet_nil ?_; rintro w7 ⟨⟨_, hb7⟩, rfl⟩
        have b7 : Below wc.heap.size wc w7 := bk.trans (hb7.mono bk.size)
        clear hx1 hx2 hx3 hx4 hb7
        go_wp2
        go_roundw
        case rel => exact ⟨k + 1, by omega, by go_num, b7⟩
        case measure => simp only [iOf]; omega
      · have hbk : Below w.heap.size w wr := hbw.trans (bk.mono hbw.size)
        go_wp2_with fail
        refine (works13 _).mono ?_
        rintro e w8 ⟨rfl, hb8⟩
        go_wp2
        go_ret
        exact ⟨rfl, by (repeat' (first | (with_reducible exact Below.refl _ _) | (with_reducible assumption) | (with_reducible refine Below.drew ?_) | (with_reducible refine below_drewN ?_ _) | (with_reducible refine Below.setCell ?_ ?_ _) | (with_reducible refine Below.alloc ?_ ?_ _) | (refine Below.trans ?_ (Below.mono (by with_reducible assumption) ?_)) | omega | (exact Below.size (by with_reducible assumption)) | (simp; done) | (simp; omega)))⟩

set_option maxRecDepth 100000 in
theorem seen11 (P S s : Int) (A : Option Addr) (n cap : Nat) (gs : List Gl) (w : World) (hA : RdG w A gs) (hn : n = gs.length) (hm : n ≤ maxLen) :
    Calls Try.prog 11 #[.agg #[.int .i64 P, .int .i64 S], .int .i64 s, .slice A n cap] w fun e w' => e = .returned (.bool true) ∧ Below w.heap.size w w' := by
  by_cases h20 : n ≤ 20
  · exact seen11_core A gs n cap P S s w hA hn h20
  · unfold maxLen at hm
    go_enter Try.func11, Try.ntmps11
    go_wp2_with fail
    refine (works13 _).mono ?_
    rintro e w1 ⟨rfl, hb1⟩
    (have hz1 := hb1.size; (try simp at hz1))
    go_wp2
    go_ret
    exact ⟨rfl, by (repeat' (first | (with_reducible exact Below.refl _ _) | (with_reducible assumption) | (with_reducible refine Below.drew ?_) | (with_reducible refine below_drewN ?_ _) | (with_reducible refine Below.setCell ?_ ?_ _) | (with_reducible refine Below.alloc ?_ ?_ _) | (refine Below.trans ?_ (Below.mono (by with_reducible assumption) ?_)) | omega | (exact Below.size (by with_reducible assumption)) | (simp; done) | (simp; omega)))⟩

end Go.Proofs.Ytfboiplpfkommaa
