/- Walks: are the glances those of the vernier? (the program and the reference) -/
import Derived.Test.YtfboiplpfkommaaWn
namespace Go.Proofs.Ytfboiplpfkommaa
open Go.RowKit

theorem strange_t1 {P : Int} {g : Gl} (h : btw g.m 0 10000 = false) : strangeB P g = true := by simp [strangeB, h]
theorem strange_2 {P : Int} {g : Gl} (h : btw g.m 0 10000 = true) : strangeB P g = !btw g.l 0 (P - 1) := by simp [strangeB, h]

def grow (g : Gl) : List Value := [.int .i64 g.m, .int .i64 g.l]
/-- A slice of glances. -/
def RdG (w : World) (A : Option Addr) (gs : List Gl) : Prop := Rd 2 w A (gs.map grow)
theorem RdG.below {w w' : World} {A : Option Addr} {gs : List Gl} {B : Nat} (h : RdG w A gs) (k : Below B w w') (hB : w.heap.size ≤ B) : RdG w' A gs := Rd.below h k hB
theorem RdG.elem {w : World} {A : Option Addr} {gs : List Gl} (h : RdG w A gs) {i : Nat} {g : Gl} (hi : gs[i]? = some g) :
    ∃ b off, A = some ⟨b, off, none⟩ ∧ b < w.heap.size ∧ w.cell? ⟨b, off + i * 2, none⟩ = some (.int .i64 g.m) ∧ w.cell? ⟨b, off + i * 2 + 1, none⟩ = some (.int .i64 g.l) := by
  obtain ⟨b, off, e, hb, hc⟩ := Rd.elem h (i := i) (r := grow g) (by simp [hi])
  exact ⟨b, off, e, hb, hc 0 (.int .i64 g.m) rfl, hc 1 (.int .i64 g.l) rfl⟩

set_option maxHeartbeats 1000000 in
theorem strange81 (P m l : Int) (bv : Nat) (w : World) (hP : 2 ≤ P) (hP' : P ≤ 50) (hbv : bv < w.heap.size) (hcv : w.cell? ⟨bv, 0, none⟩ = some (.int .i64 P)) :
    Calls Try.prog 81 #[.agg #[.int .i64 m, .int .i64 l], .pointer (some ⟨bv, 0, none⟩)] w fun e w' => e = .returned (.bool (strangeB P ⟨m, l⟩)) ∧ Below w.heap.size w w' := by
  cases h1 : btw m 0 10000
  · rw [strange_t1 h1]
    go_enter Try.func81, Try.ntmps81
    go_wp2_with (first | (go_at_call 53; refine (within53 _ _ _ _).mono ?_; rintro e w1 ⟨rfl, rfl⟩))
    go_ret
    exact ⟨rfl, by (repeat' (first | (with_reducible exact Below.refl _ _) | (with_reducible assumption) | (with_reducible refine Below.drew ?_) | (with_reducible refine below_drewN ?_ _) | (with_reducible refine Below.setCell ?_ ?_ _) | (with_reducible refine Below.alloc ?_ ?_ _) | (refine Below.trans ?_ (Below.mono (by with_reducible assumption) ?_)) | omega | (exact Below.size (by with_reducible assumption)) | (simp; done) | (simp; omega)))⟩
  · rw [strange_2 h1]
    go_enter Try.func81, Try.ntmps81
    go_wp2_with (first | (go_at_call 53; refine (within53 _ _ _ _).mono ?_; rintro e w1 ⟨rfl, rfl⟩))
    go_ret
    exact ⟨rfl, by (repeat' (first | (with_reducible exact Below.refl _ _) | (with_reducible assumption) | (with_reducible refine Below.drew ?_) | (with_reducible refine below_drewN ?_ _) | (with_reducible refine Below.setCell ?_ ?_ _) | (with_reducible refine Below.alloc ?_ ?_ _) | (refine Below.trans ?_ (Below.mono (by with_reducible assumption) ?_)) | omega | (exact Below.size (by with_reducible assumption)) | (simp; done) | (simp; omega)))⟩

/-- How many glances stand ahead of the first one that is strange; -1: none is. -/
def idxS (P : Int) (gs : List Gl) : Int := if gs.any (strangeB P) then (gs.findIdx (strangeB P) : Int) else -1

set_option maxHeartbeats 1000000 in
theorem index87 (A : Option Addr) (gs : List Gl) (n cap : Nat) (P S : Int) (bv : Nat) (w : World) (hA : RdG w A gs) (hn : Hid (n = gs.length)) (hlen : n ≤ 1000000)
    (hP : 2 ≤ P) (hP' : P ≤ 50) (hv : Own w bv [.int .i64 P, .int .i64 S]) :
    Calls Try.prog 87 #[.slice A n cap, .func (.func 81) #[] #[.pointer (some ⟨bv, 0, none⟩)]] w fun e w' => ∃ q : Int, Hid (decide (0 ≤ q) = gs.any (strangeB P)) ∧ e = .returned (.int .i64 q) ∧ Below w.heap.size w w' := by
  have HA := Lib.hid hA
  clear hA
  go_enter Try.func87, Try.ntmps87
  go_wp2
  go_loopw [8] (fun i wr => ∃ k : Nat, k ≤ n ∧ i = .int .i64 k ∧ Hid ((gs.take k).any (strangeB P) = false) ∧ Own wr bv [.int .i64 P, .int .i64 S] ∧ Below w.heap.size w wr) (fun i _ => n - (intOf i).toNat)
  case atStart => exact ⟨0, Nat.zero_le _, rfl, by simp [Hid], hv, Below.refl _ _⟩
  case round =>
    clear hv
    obtain ⟨k, hk, rfl, hno, hv, hbw⟩ := hrel
    by_cases hlt : k < n
    · obtain ⟨g, hg⟩ : ∃ g, Hid (gs[k]? = some g) := ⟨gs[k]'(by have := hn.out; omega), by simp [Hid]⟩
      obtain ⟨b, off, rfl, hb, hc0, hc1⟩ := (HA.out.below hbw (Nat.le_refl _)).elem hg.out
      have l0 := hv.lt
      have c0 := hv.c
      go_wp2_with fail
      refine (strange81 P g.m g.l bv _ hP hP' l0 (by rw [c0]; rfl)).mono ?_
      cases hs : strangeB P ⟨g.m, g.l⟩
      · rintro e w1 ⟨rfl, hb1⟩
        have hs' := Lib.hid hs
        clear hs c0
        go_wp2
        go_roundw
        case rel =>
          refine ⟨k + 1, by omega, by go_num, ?_, hv.below hb1 l0, by (repeat' (first | (with_reducible exact Below.refl _ _) | (with_reducible assumption) | (with_reducible refine Below.drew ?_) | (with_reducible refine below_drewN ?_ _) | (with_reducible refine Below.setCell ?_ ?_ _) | (with_reducible refine Below.alloc ?_ ?_ _) | (refine Below.trans ?_ (Below.mono (by with_reducible assumption) ?_)) | omega | (exact Below.size (by with_reducible assumption)) | (simp; done) | (simp; omega)))⟩
          show (gs.take (k + 1)).any _ = false
          rw [take_snoc hg.out, List.any_append, hno.out]
          simp only [List.any_cons, List.any_nil, Bool.or_false, Bool.false_or]
          exact hs'.out
        case measure => simp only [intOf]; omega
      · rintro e w1 ⟨rfl, hb1⟩
        have hs' := Lib.hid hs
        clear hs c0
        go_wp2
        go_ret
        refine ⟨(k : Int), ?_, rfl, by (repeat' (first | (with_reducible exact Below.refl _ _) | (with_reducible assumption) | (with_reducible refine Below.drew ?_) | (with_reducible refine below_drewN ?_ _) | (with_reducible refine Below.setCell ?_ ?_ _) | (with_reducible refine Below.alloc ?_ ?_ _) | (refine Below.trans ?_ (Below.mono (by with_reducible assumption) ?_)) | omega | (exact Below.size (by with_reducible assumption)) | (simp; done) | (simp; omega)))⟩
        show decide ((0 : Int) ≤ k) = gs.any _
        rw [decide_eq_true (by omega)]
        refine (List.any_eq_true.2 ⟨g, List.mem_of_getElem? hg.out, hs'.out⟩).symm
    · go_wp2
      go_ret
      refine ⟨-1, ?_, rfl, hbw⟩
      show decide ((0 : Int) ≤ -1) = gs.any _
      have h := hno.out
      rw [List.take_of_length_le (by have := hn.out; omega)] at h
      rw [h]; rfl

set_option maxHeartbeats 1000000 in
theorem contains82 (A : Option Addr) (gs : List Gl) (n cap : Nat) (P S : Int) (bv : Nat) (w : World) (hA : RdG w A gs) (hn : Hid (n = gs.length)) (hlen : n ≤ 1000000)
    (hP : 2 ≤ P) (hP' : P ≤ 50) (hv : Own w bv [.int .i64 P, .int .i64 S]) :
    Calls Try.prog 82 #[.slice A n cap, .func (.func 81) #[] #[.pointer (some ⟨bv, 0, none⟩)]] w fun e w' => e = .returned (.bool (gs.any (strangeB P))) ∧ Below w.heap.size w w' := by
  have HA := Lib.hid hA
  clear hA
  go_enter Try.func82, Try.ntmps82
  go_wp2_with fail
  refine (index87 A gs n cap P S bv w HA.out hn hlen hP hP' hv).mono ?_
  rintro e w1 ⟨q, hq, rfl, hb1⟩
  go_wp2
  go_ret
  exact ⟨ret_bool hq.out, hb1⟩

set_option maxHeartbeats 1000000 in
theorem areGlances48 (A : Option Addr) (gs : List Gl) (n cap : Nat) (P S : Int) (w : World) (hA : RdG w A gs) (hn : Hid (n = gs.length)) (hlen : n ≤ 9223372036854775807)
    (hP : 2 ≤ P) (hP' : P ≤ 50) :
    Calls Try.prog 48 #[.agg #[.int .i64 P, .int .i64 S], .slice A n cap] w fun e w' => e = .returned (.bool (glB P gs)) ∧ Below w.heap.size w w' := by
  have HA := Lib.hid hA
  clear hA
  have o0 : Own (w.alloc (.cells #[.int .i64 P, .int .i64 S] 63)) w.heap.size [.int .i64 P, .int .i64 S] := Own.new' _ _ rfl rfl
  have oB : Below w.heap.size w (w.alloc (.cells #[.int .i64 P, .int .i64 S] 63)) := by (repeat' (first | (with_reducible exact Below.refl _ _) | (with_reducible assumption) | (with_reducible refine Below.drew ?_) | (with_reducible refine below_drewN ?_ _) | (with_reducible refine Below.setCell ?_ ?_ _) | (with_reducible refine Below.alloc ?_ ?_ _) | (refine Below.trans ?_ (Below.mono (by with_reducible assumption) ?_)) | omega | (exact Below.size (by with_reducible assumption)) | (simp; done) | (simp; omega)))
  go_enter Try.func48, Try.ntmps48
  go_wp2
  go_loopw [5] (fun i wr => ∃ k : Nat, k ≤ n ∧ i = .int .i64 k ∧ Hid ((gs.take k).any (strangeB P) = false) ∧ Own wr w.heap.size [.int .i64 P, .int .i64 S] ∧ Below w.heap.size w wr) (fun i _ => n - (intOf i).toNat)
  case atStart => exact ⟨0, Nat.zero_le _, rfl, by simp [Hid], o0, oB⟩
  case round =>
    clear o0 oB
    obtain ⟨k, hk, rfl, hno, ⟨l0, c0, f0⟩, hbw⟩ := hrel
    by_cases hlt : k < n
    · obtain ⟨g, hg⟩ : ∃ g, Hid (gs[k]? = some g) := ⟨gs[k]'(by have := hn.out; omega), by simp [Hid]⟩
      obtain ⟨b, off, rfl, hb, hc0, hc1⟩ := (HA.out.below hbw (Nat.le_refl _)).elem hg.out
      have hst : strangeB P g = (!btw g.m 0 10000 || !btw g.l 0 (P - 1)) := rfl
      have Hst := Lib.hid hst
      clear hst
      cases h1 : btw g.m 0 10000
      · rw [h1] at Hst
        go_wp2
        go_quiet ((go_at_call 26; exact quiet_left (within26 _ _ _ _)))
        go_wp2
        go_ret
        refine ⟨ret_bool ?_, by (repeat' (first | (with_reducible exact Below.refl _ _) | (with_reducible assumption) | (with_reducible refine Below.drew ?_) | (with_reducible refine below_drewN ?_ _) | (with_reducible refine Below.setCell ?_ ?_ _) | (with_reducible refine Below.alloc ?_ ?_ _) | (refine Below.trans ?_ (Below.mono (by with_reducible assumption) ?_)) | omega | (exact Below.size (by with_reducible assumption)) | (simp; done) | (simp; omega)))⟩
        have : gs.any (strangeB P) = true := List.any_eq_true.2 ⟨g, List.mem_of_getElem? hg.out, by rw [Hst.out]; rfl⟩
        unfold glB
        rw [this]; simp
      · cases h2 : btw g.l 0 (P - 1)
        · rw [h1, h2] at Hst
          go_wp2
          go_quiet ((go_at_call 26; exact quiet_left (within26 _ _ _ _)))
          go_wp2
          go_ret
          refine ⟨ret_bool ?_, by (repeat' (first | (with_reducible exact Below.refl _ _) | (with_reducible assumption) | (with_reducible refine Below.drew ?_) | (with_reducible refine below_drewN ?_ _) | (with_reducible refine Below.setCell ?_ ?_ _) | (with_reducible refine Below.alloc ?_ ?_ _) | (refine Below.trans ?_ (Below.mono (by with_reducible assumption) ?_)) | omega | (exact Below.size (by with_reducible assumption)) | (simp; done) | (simp; omega)))⟩
          have : gs.any (strangeB P) = true := List.any_eq_true.2 ⟨g, List.mem_of_getElem? hg.out, by rw [Hst.out]; rfl⟩
          unfold glB
          rw [this]; simp
        · rw [h1, h2] at Hst
          go_wp2
          go_quiet ((go_at_call 26; exact quiet_left (within26 _ _ _ _)))
          go_wp2
          go_roundw
          case rel =>
            refine ⟨k + 1, by omega, by go_num, ?_, (Own.mk l0 c0 f0).drewN _, by (repeat' (first | (with_reducible exact Below.refl _ _) | (with_reducible assumption) | (with_reducible refine Below.drew ?_) | (with_reducible refine below_drewN ?_ _) | (with_reducible refine Below.setCell ?_ ?_ _) | (with_reducible refine Below.alloc ?_ ?_ _) | (refine Below.trans ?_ (Below.mono (by with_reducible assumption) ?_)) | omega | (exact Below.size (by with_reducible assumption)) | (simp; done) | (simp; omega)))⟩
            show (gs.take (k + 1)).any _ = false
            rw [take_snoc hg.out, List.any_append, hno.out]
            simp only [List.any_cons, List.any_nil, Bool.or_false, Bool.false_or]
            rw [Hst.out]; rfl
          case measure => simp only [intOf]; omega
    · go_wp2_with (first | (go_at_call 26; refine (within26 _ _ _ _).mono ?_; rintro e w1 ⟨rfl, rfl⟩))
      go_ret
      refine ⟨ret_bool ?_, hbw⟩
      have h := hno.out
      rw [List.take_of_length_le (by have := hn.out; omega)] at h
      unfold glB
      rw [h, ← hn.out]; simp

end Go.Proofs.Ytfboiplpfkommaa
