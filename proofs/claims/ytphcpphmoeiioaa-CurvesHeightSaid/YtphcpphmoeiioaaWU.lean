/- Walks: Check of the reference. -/
import Derived.Test.YtphcpphmoeiioaaWR
namespace Go.Proofs.Ytphcpphmoeiioaa
open Go.RowKit Go.Maps

theorem any_snoc {L : Int} {ks : List Kn} {k : Nat} {g : Kn} (h : ks[k]? = some g) (h0 : (ks.take k).any (badN L) = false) : (ks.take (k + 1)).any (badN L) = badN L g := by
  rw [take_snoc h, List.any_append, h0]; simp
theorem any_true {L : Int} {ks : List Kn} {k : Nat} {g : Kn} (h : ks[k]? = some g) (hb : badN L g = true) : ks.any (badN L) = true :=
  List.any_eq_true.2 ⟨g, List.mem_of_getElem? h, hb⟩
set_option maxRecDepth 100000 in
set_option maxHeartbeats 8000000 in
theorem check38 (L sl rl rh wg : Int) (A : Option Addr) (n cap : Nat) (ks : List Kn) (w : World) (hA : Rd 3 w A (ks.map krow)) (hn : Hid (n = ks.length)) (hlen : n ≤ 9223372036854775807) :
    Calls Try.prog 38 #[.agg #[.int .i64 L, .int .i64 sl, .int .i64 rl, .int .i64 rh, .slice A n cap, .int .i64 wg]] w fun e w' => e = .returned (.int .i64 (chkE L sl rl rh wg ks)) ∧ Below w.heap.size w w' := by
  have HA := Lib.hid hA
  clear hA
  cases h1 : btw L 1 12
  · have hE : Hid (chkE L sl rl rh wg ks = 70) := by show _ = _; simp [chkE, chkV, h1]
    have H1 := Lib.hid h1
    clear h1
    go_enter Try.func38, Try.ntmps38
    go_wp2_with fail
    refine (within71 _ _ _ _).mono ?_
    rw [H1.out]
    rintro e _ ⟨rfl, rfl⟩
    go_wp2
    go_ret
    exact ⟨ret_int hE.out.symm, by (repeat' (first | (with_reducible exact Below.refl _ _) | (with_reducible assumption) | (with_reducible refine Below.drew ?_) | (with_reducible refine below_drewN ?_ _) | (with_reducible refine Below.setCell ?_ ?_ _) | (with_reducible refine Below.alloc ?_ ?_ _) | (refine Below.trans ?_ (Below.mono (by with_reducible assumption) ?_)) | omega | (exact Below.size (by with_reducible assumption)) | (simp; done) | (simp; omega)))⟩
  cases h2 : btw sl 0 20
  · have hE : Hid (chkE L sl rl rh wg ks = 70) := by show _ = _; simp [chkE, chkV, h1, h2]
    have H1 := Lib.hid h1
    have H2 := Lib.hid h2
    clear h1 h2
    go_enter Try.func38, Try.ntmps38
    go_wp2_with fail
    refine (within71 _ _ _ _).mono ?_
    rw [H1.out]
    rintro e _ ⟨rfl, rfl⟩
    go_wp2_with fail
    refine (within71 _ _ _ _).mono ?_
    rw [H2.out]
    rintro e _ ⟨rfl, rfl⟩
    go_wp2
    go_ret
    exact ⟨ret_int hE.out.symm, by (repeat' (first | (with_reducible exact Below.refl _ _) | (with_reducible assumption) | (with_reducible refine Below.drew ?_) | (with_reducible refine below_drewN ?_ _) | (with_reducible refine Below.setCell ?_ ?_ _) | (with_reducible refine Below.alloc ?_ ?_ _) | (refine Below.trans ?_ (Below.mono (by with_reducible assumption) ?_)) | omega | (exact Below.size (by with_reducible assumption)) | (simp; done) | (simp; omega)))⟩
  cases h3 : okS rl rh
  · have hE : Hid (chkE L sl rl rh wg ks = 70) := by show _ = _; simp [chkE, chkV, h1, h2, h3]
    have H1 := Lib.hid h1
    have H2 := Lib.hid h2
    have H3 := Lib.hid h3
    clear h1 h2 h3
    go_enter Try.func38, Try.ntmps38
    go_wp2_with fail
    refine (within71 _ _ _ _).mono ?_
    rw [H1.out]
    rintro e _ ⟨rfl, rfl⟩
    go_wp2_with fail
    refine (within71 _ _ _ _).mono ?_
    rw [H2.out]
    rintro e _ ⟨rfl, rfl⟩
    go_wp2_with fail
    refine (isSpan72 _ _ _).mono ?_
    rw [H3.out]
    rintro e w1 ⟨rfl, hb1⟩
    have hc1 := fun o => (bcell hb1).1 w.heap.size o (by simp)
    have hf1 := fun o => (bcell hb1).2 w.heap.size o (by simp)
    have hz1 := hb1.size
    simp at hc1 hf1 hz1
    go_wp2
    go_ret
    exact ⟨ret_int hE.out.symm, by (repeat' (first | (with_reducible exact Below.refl _ _) | (with_reducible assumption) | (with_reducible refine Below.drew ?_) | (with_reducible refine below_drewN ?_ _) | (with_reducible refine Below.setCell ?_ ?_ _) | (with_reducible refine Below.alloc ?_ ?_ _) | (refine Below.trans ?_ (Below.mono (by with_reducible assumption) ?_)) | omega | (exact Below.size (by with_reducible assumption)) | (simp; done) | (simp; omega)))⟩
  by_cases h4 : n ≤ 8
  rotate_left
  · have hE : Hid (chkE L sl rl rh wg ks = 70) := by show _ = _; have : decide (ks.length ≤ 8) = false := decide_eq_false (by have := hn.out; omega); simp [chkE, chkV, h1, h2, h3, this]
    have H1 := Lib.hid h1
    have H2 := Lib.hid h2
    have H3 := Lib.hid h3
    clear h1 h2 h3
    go_enter Try.func38, Try.ntmps38
    go_wp2_with fail
    refine (within71 _ _ _ _).mono ?_
    rw [H1.out]
    rintro e _ ⟨rfl, rfl⟩
    go_wp2_with fail
    refine (within71 _ _ _ _).mono ?_
    rw [H2.out]
    rintro e _ ⟨rfl, rfl⟩
    go_wp2_with fail
    refine (isSpan72 _ _ _).mono ?_
    rw [H3.out]
    rintro e w1 ⟨rfl, hb1⟩
    have hc1 := fun o => (bcell hb1).1 w.heap.size o (by simp)
    have hf1 := fun o => (bcell hb1).2 w.heap.size o (by simp)
    have hz1 := hb1.size
    simp at hc1 hf1 hz1
    have h4' : (8 : Int) < (n : Int) := by omega
    go_wp2
    go_ret
    exact ⟨ret_int hE.out.symm, by (repeat' (first | (with_reducible exact Below.refl _ _) | (with_reducible assumption) | (with_reducible refine Below.drew ?_) | (with_reducible refine below_drewN ?_ _) | (with_reducible refine Below.setCell ?_ ?_ _) | (with_reducible refine Below.alloc ?_ ?_ _) | (refine Below.trans ?_ (Below.mono (by with_reducible assumption) ?_)) | omega | (exact Below.size (by with_reducible assumption)) | (simp; done) | (simp; omega)))⟩
  have h4' : decide (ks.length ≤ 8) = true := decide_eq_true (by have := hn.out; omega)
  cases h5 : btw wg 0 8
  · have hE : Hid (chkE L sl rl rh wg ks = 70) := by show _ = _; simp [chkE, chkV, h1, h2, h3, h5, h4']
    have H1 := Lib.hid h1
    have H2 := Lib.hid h2
    have H3 := Lib.hid h3
    have H5 := Lib.hid h5
    clear h1 h2 h3 h5 h4'
    go_enter Try.func38, Try.ntmps38
    go_wp2_with fail
    refine (within71 _ _ _ _).mono ?_
    rw [H1.out]
    rintro e _ ⟨rfl, rfl⟩
    go_wp2_with fail
    refine (within71 _ _ _ _).mono ?_
    rw [H2.out]
    rintro e _ ⟨rfl, rfl⟩
    go_wp2_with fail
    refine (isSpan72 _ _ _).mono ?_
    rw [H3.out]
    rintro e w1 ⟨rfl, hb1⟩
    have hc1 := fun o => (bcell hb1).1 w.heap.size o (by simp)
    have hf1 := fun o => (bcell hb1).2 w.heap.size o (by simp)
    have hz1 := hb1.size
    simp at hc1 hf1 hz1
    go_wp2_with fail
    refine (within71 _ _ _ _).mono ?_
    rw [H5.out]
    rintro e _ ⟨rfl, rfl⟩
    go_wp2
    go_ret
    exact ⟨ret_int hE.out.symm, by (repeat' (first | (with_reducible exact Below.refl _ _) | (with_reducible assumption) | (with_reducible refine Below.drew ?_) | (with_reducible refine below_drewN ?_ _) | (with_reducible refine Below.setCell ?_ ?_ _) | (with_reducible refine Below.alloc ?_ ?_ _) | (refine Below.trans ?_ (Below.mono (by with_reducible assumption) ?_)) | omega | (exact Below.size (by with_reducible assumption)) | (simp; done) | (simp; omega)))⟩
  have hC : Hid (chkV L sl rl rh wg ks = !ks.any (badN L)) := by show _ = _; simp [chkV, h1, h2, h3, h4', h5]
  have H1 := Lib.hid h1
  have H2 := Lib.hid h2
  have H3 := Lib.hid h3
  have H5 := Lib.hid h5
  clear h1 h2 h3 h5 h4'
  go_enter Try.func38, Try.ntmps38
  go_wp2_with fail
  refine (within71 _ _ _ _).mono ?_
  rw [H1.out]
  rintro e _ ⟨rfl, rfl⟩
  go_wp2_with fail
  refine (within71 _ _ _ _).mono ?_
  rw [H2.out]
  rintro e _ ⟨rfl, rfl⟩
  go_wp2_with fail
  refine (isSpan72 _ _ _).mono ?_
  rw [H3.out]
  rintro e w1 ⟨rfl, hb1⟩
  have hc1 := fun o => (bcell hb1).1 w.heap.size o (by simp)
  have hf1 := fun o => (bcell hb1).2 w.heap.size o (by simp)
  have hz1 := hb1.size
  simp at hc1 hf1 hz1
  go_wp2_with fail
  refine (within71 _ _ _ _).mono ?_
  rw [H5.out]
  rintro e _ ⟨rfl, rfl⟩
  have o1 : Own w1 w.heap.size [.int .i64 L, .int .i64 sl, .int .i64 rl, .int .i64 rh, .slice A n cap, .int .i64 wg] := ⟨by omega, fun i => by rw [hc1], fun i => by rw [hf1]⟩
  have hB1 : Below w.heap.size w w1 := by (repeat' (first | (with_reducible exact Below.refl _ _) | (with_reducible assumption) | (with_reducible refine Below.drew ?_) | (with_reducible refine below_drewN ?_ _) | (with_reducible refine Below.setCell ?_ ?_ _) | (with_reducible refine Below.alloc ?_ ?_ _) | (refine Below.trans ?_ (Below.mono (by with_reducible assumption) ?_)) | omega | (exact Below.size (by with_reducible assumption)) | (simp; done) | (simp; omega)))
  clear hc1 hf1 hb1
  have ho1 := Lib.hid o1
  obtain ⟨l1, k1, f1⟩ := o1
  go_wp2
  go_loopg [3] n (fun K y w5 => ∃ k : Nat, K + k = n ∧ y = .int .i64 k ∧ Hid ((ks.take k).any (badN L) = false) ∧ Own w5 w.heap.size [.int .i64 L, .int .i64 sl, .int .i64 rl, .int .i64 rh, .slice A n cap, .int .i64 wg] ∧ Below w.heap.size w w5)
  case atStart => exact ⟨0, rfl, rfl, rfl, ho1.out, hB1⟩
  case round =>
    clear l1 k1 f1 ho1 hB1
    obtain ⟨k, hK, rfl, hG, ho1, hbw⟩ := hrel
    obtain ⟨l1, k1, f1⟩ := ho1
    have ho1 := Lib.hid (Own.mk l1 k1 f1)
    have hsz := hbw.size
    by_cases hlt : k < n
    · obtain ⟨g, hg⟩ : ∃ g, Hid (ks[k]? = some g) := ⟨ks[k]'(by have := hn.out; omega), by simp [Hid]⟩
      obtain ⟨b, off, rfl, hb, hc0, hc1, hc2⟩ := rd_kn (HA.out.below hbw (Nat.le_refl _)) hg.out
      have hsn := Lib.hid (any_snoc hg.out hG.out)
      have hx0 := Aft.cell (W := wr) ho1.out
      have hx1 := fun x : Aft wr => (Aft.old x hb _).trans hc0
      have hx2 := fun x : Aft wr => (Aft.old x hb _).trans hc1
      have hx3 := fun x : Aft wr => (Aft.old x hb _).trans hc2
      have hlt' : (k : Int) < (n : Int) := by omega
      cases hp : btw g.pos 0 L
      · have HP := Lib.hid hp
        have hbad := Lib.hid (badN_1 hp)
        have hcall : ∀ x : Aft wr, Calls Try.prog 73 #[.agg #[.int .i64 L, .int .i64 sl, .int .i64 rl, .int .i64 rh, .slice (some ⟨b, off, none⟩) n cap, .int .i64 wg], .int .i64 g.pos] x.w (fun e w' => e = .returned (.bool false) ∧ Below x.w.heap.size x.w w') := fun x => by
          have := isPlace73 L sl rl rh wg g.pos (.slice (some ⟨b, off, none⟩) n cap) x.w
          rw [HP.out] at this
          exact this
        have hE : Hid (chkE L sl rl rh wg ks = 70) := by show _ = _; simp [chkE, hC.out, any_true hg.out hbad.out]
        clear hp hc0 hc1 hc2
        go_wp2
        refine wp_region_aft (by kernel_rfl) (by kernel_rfl) ?_; (repeat (go_big_quiet_step ((go_at_call 73; exact aft_of (hcall _))))); refine wpQuiet_nil ?_; rintro w6 ⟨⟨_, hb6⟩, rfl⟩
        go_wp2
        go_ret
        exact ⟨ret_int hE.out.symm, by (repeat' (first | (with_reducible exact Below.refl _ _) | (with_reducible assumption) | (with_reducible refine Below.drew ?_) | (with_reducible refine below_drewN ?_ _) | (with_reducible refine Below.setCell ?_ ?_ _) | (with_reducible refine Below.alloc ?_ ?_ _) | (refine Below.trans ?_ (Below.mono (by with_reducible assumption) ?_)) | omega | (exact Below.size (by with_reducible assumption)) | (simp; done) | (simp; omega)))⟩
      · have HP := Lib.hid hp
        have hbad := Lib.hid (badN_2 hp)
        have hcall : ∀ x : Aft wr, Calls Try.prog 73 #[.agg #[.int .i64 L, .int .i64 sl, .int .i64 rl, .int .i64 rh, .slice (some ⟨b, off, none⟩) n cap, .int .i64 wg], .int .i64 g.pos] x.w (fun e w' => e = .returned (.bool true) ∧ Below x.w.heap.size x.w w') := fun x => by
          have := isPlace73 L sl rl rh wg g.pos (.slice (some ⟨b, off, none⟩) n cap) x.w
          rw [HP.out] at this
          exact this
        cases hs : okS g.lo g.hi
        · have HS := Lib.hid hs
          have hcall2 : ∀ x : Aft wr, Calls Try.prog 72 #[.agg #[.int .i64 g.lo, .int .i64 g.hi]] x.w (fun e w' => e = .returned (.bool false) ∧ Below x.w.heap.size x.w w') := fun x => by
            have := isSpan72 g.lo g.hi x.w
            rw [HS.out] at this
            exact this
          have hE : Hid (chkE L sl rl rh wg ks = 70) := by show _ = _; simp [chkE, hC.out, any_true hg.out (hbad.out.trans (by rw [hs]; rfl))]
          clear hp hs hc0 hc1 hc2
          go_wp2
          refine wp_region_aft (by kernel_rfl) (by kernel_rfl) ?_; (repeat (go_big_quiet_step ((first | (go_at_call 73; exact aft_of (hcall _)) | (go_at_call 72; exact aft_of (hcall2 _)))))); refine wpQuiet_nil ?_; rintro w6 ⟨⟨_, hb6⟩, rfl⟩
          go_wp2
          go_ret
          exact ⟨ret_int hE.out.symm, by (repeat' (first | (with_reducible exact Below.refl _ _) | (with_reducible assumption) | (with_reducible refine Below.drew ?_) | (with_reducible refine below_drewN ?_ _) | (with_reducible refine Below.setCell ?_ ?_ _) | (with_reducible refine Below.alloc ?_ ?_ _) | (refine Below.trans ?_ (Below.mono (by with_reducible assumption) ?_)) | omega | (exact Below.size (by with_reducible assumption)) | (simp; done) | (simp; omega)))⟩
        · have HS := Lib.hid hs
          have hcall2 : ∀ x : Aft wr, Calls Try.prog 72 #[.agg #[.int .i64 g.lo, .int .i64 g.hi]] x.w (fun e w' => e = .returned (.bool true) ∧ Below x.w.heap.size x.w w') := fun x => by
            have := isSpan72 g.lo g.hi x.w
            rw [HS.out] at this
            exact this
          have hG' : Hid ((ks.take (k + 1)).any (badN L) = false) := by show _ = _; rw [hsn.out, hbad.out, hs]; rfl
          clear hp hs hc0 hc1 hc2
          go_wp2
          refine wp_region_aft (by kernel_rfl) (by kernel_rfl) ?_; (repeat (go_big_quiet_step ((first | (go_at_call 73; exact aft_of (hcall _)) | (go_at_call 72; exact aft_of (hcall2 _)))))); refine wpQuiet_nil ?_; rintro w6 ⟨⟨_, hb6⟩, rfl⟩
          go_wp2
          go_roundg (n - (k + 1))
          case measure => omega
          case rel => exact ⟨k + 1, by omega, by go_num, hG', ho1.out.below hb6 l1, hbw.trans (hb6.mono hsz)⟩
    · obtain rfl : k = n := by omega
      have hE : Hid (chkE L sl rl rh wg ks = 0) := by
        have h := hG.out
        rw [List.take_of_length_le (by have := hn.out; omega)] at h
        show _ = _
        simp [chkE, hC.out, h]
      go_wp2
      go_ret
      exact ⟨ret_int hE.out.symm, by (repeat' (first | (with_reducible exact Below.refl _ _) | (with_reducible assumption) | (with_reducible refine Below.drew ?_) | (with_reducible refine below_drewN ?_ _) | (with_reducible refine Below.setCell ?_ ?_ _) | (with_reducible refine Below.alloc ?_ ?_ _) | (refine Below.trans ?_ (Below.mono (by with_reducible assumption) ?_)) | omega | (exact Below.size (by with_reducible assumption)) | (simp; done) | (simp; omega)))⟩
end Go.Proofs.Ytphcpphmoeiioaa
