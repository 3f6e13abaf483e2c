/- Walks: slices of numbers: SameInts, In, subset. -/
import Derived.Test.YtfboiplpfkommaaWa
namespace Go.Proofs.Ytfboiplpfkommaa
open Go.RowKit

set_option maxHeartbeats 1000000 in
theorem in49 (A : Option Addr) (xs : List Int) (n cap : Nat) (x : Int) (w : World) (hA : RdI w A xs) (hn : Hid (n = xs.length)) (hlen : n ≤ 1000000) :
    Calls Try.prog 49 #[.slice A n cap, .int .i64 x] w fun e w' => e = .returned (.bool (decide (x ∈ xs))) ∧ w = w' := by
  have HA := Lib.hid hA
  clear hA
  go_enter Try.func49, Try.ntmps49
  go_wp2
  go_loop [5] (fun i => ∃ k : Nat, k ≤ n ∧ i = .int .i64 k ∧ Hid (x ∉ xs.take k)) (fun i => n - (intOf i).toNat)
  case atStart => exact ⟨0, Nat.zero_le _, rfl, by simp [Hid]⟩
  case round =>
    obtain ⟨k, hk, rfl, hno⟩ := hrel
    by_cases hlt : k < n
    · obtain ⟨y, hy⟩ : ∃ y, Hid (xs[k]? = some y) := ⟨xs[k]'(by have := hn.out; omega), by simp [Hid]⟩
      obtain ⟨b, off, rfl, hb, hck⟩ := HA.out.elem hy.out
      by_cases hxy : y = x
      · subst hxy
        go_wp2
        go_ret
        exact ⟨ret_bool ((decide_eq_true (List.mem_of_getElem? hy.out)).symm), rfl⟩
      · have hyb : (y == x) = false := by simp [hxy]
        go_wp2
        go_round
        case rel =>
          refine ⟨k + 1, by omega, by go_num, ?_⟩
          show x ∉ xs.take (k + 1)
          rw [take_snoc hy.out, List.mem_append]
          rintro (h | h)
          · exact hno.out h
          · simp only [List.mem_singleton] at h
            exact hxy h.symm
        case measure => simp only [intOf]; omega
    · go_wp2
      go_ret
      exact ⟨ret_bool (by have := hno.out; rw [List.take_of_length_le (by have := hn.out; omega)] at this; exact (decide_eq_false this).symm), rfl⟩

set_option maxHeartbeats 1000000 in
theorem sameInts46 (A B : Option Addr) (xs ys : List Int) (n m c1 c2 : Nat) (w : World) (hA : RdI w A xs) (hB : RdI w B ys) (hn : Hid (n = xs.length)) (hm : Hid (m = ys.length)) (hlen : n ≤ 1000000) (hlem : m ≤ 1000000) :
    Calls Try.prog 46 #[.slice A n c1, .slice B m c2] w fun e w' => e = .returned (.bool (decide (xs = ys))) ∧ Below w.heap.size w w' := by
  have HA := Lib.hid hA
  have HB := Lib.hid hB
  clear hA hB
  by_cases hnm : n = m
  · subst hnm
    go_enter Try.func46, Try.ntmps46
    go_wp2
    go_loopw [5] (fun i wr => ∃ k : Nat, k ≤ n ∧ i = .int .i64 k ∧ Hid (xs.take k = ys.take k) ∧ Below w.heap.size w wr) (fun i _ => n - (intOf i).toNat)
    case atStart => exact ⟨0, Nat.zero_le _, rfl, by simp [Hid], Below.refl _ _⟩
    case round =>
      obtain ⟨k, hk, rfl, hno, hbw⟩ := hrel
      by_cases hlt : k < n
      · obtain ⟨x, hx⟩ : ∃ y, Hid (xs[k]? = some y) := ⟨xs[k]'(by have := hn.out; omega), by simp [Hid]⟩
        obtain ⟨y, hy⟩ : ∃ y, Hid (ys[k]? = some y) := ⟨ys[k]'(by have := hm.out; omega), by simp [Hid]⟩
        obtain ⟨b, off, rfl, hb, hck⟩ := (HA.out.below hbw (Nat.le_refl _)).elem hx.out
        obtain ⟨b', off', rfl, hb', hck'⟩ := (HB.out.below hbw (Nat.le_refl _)).elem hy.out
        by_cases hxy : x = y
        · subst hxy
          go_wp2
          go_quiet (fail)
          go_wp2
          go_roundw
          case rel =>
            refine ⟨k + 1, by omega, by go_num, ?_, by (repeat' (first | (with_reducible exact Below.refl _ _) | (with_reducible assumption) | (with_reducible refine Below.drew ?_) | (with_reducible refine below_drewN ?_ _) | (with_reducible refine Below.setCell ?_ ?_ _) | (with_reducible refine Below.alloc ?_ ?_ _) | (refine Below.trans ?_ (Below.mono (by with_reducible assumption) ?_)) | omega | (exact Below.size (by with_reducible assumption)) | (simp; done) | (simp; omega)))⟩
            show xs.take (k + 1) = ys.take (k + 1)
            rw [take_snoc hx.out, take_snoc hy.out, hno.out]
          case measure => simp only [intOf]; omega
        · have hxb : (x != y) = true := by simp [hxy]
          go_wp2
          go_quiet (fail)
          go_wp2
          go_ret
          refine ⟨ret_bool ?_, by (repeat' (first | (with_reducible exact Below.refl _ _) | (with_reducible assumption) | (with_reducible refine Below.drew ?_) | (with_reducible refine below_drewN ?_ _) | (with_reducible refine Below.setCell ?_ ?_ _) | (with_reducible refine Below.alloc ?_ ?_ _) | (refine Below.trans ?_ (Below.mono (by with_reducible assumption) ?_)) | omega | (exact Below.size (by with_reducible assumption)) | (simp; done) | (simp; omega)))⟩
          refine (decide_eq_false ?_).symm
          intro h
          rw [h] at hx
          have := hx.out.symm.trans hy.out
          exact hxy (Option.some.inj this)
      · go_wp2
        go_ret
        refine ⟨ret_bool ?_, by (repeat' (first | (with_reducible exact Below.refl _ _) | (with_reducible assumption) | (with_reducible refine Below.drew ?_) | (with_reducible refine below_drewN ?_ _) | (with_reducible refine Below.setCell ?_ ?_ _) | (with_reducible refine Below.alloc ?_ ?_ _) | (refine Below.trans ?_ (Below.mono (by with_reducible assumption) ?_)) | omega | (exact Below.size (by with_reducible assumption)) | (simp; done) | (simp; omega)))⟩
        have := hno.out
        rw [List.take_of_length_le (by have := hn.out; omega), List.take_of_length_le (by have := hm.out; omega)] at this
        exact (decide_eq_true this).symm
  · have hnb : ((n : Int) != m) = true := by simp; omega
    go_enter Try.func46, Try.ntmps46
    go_wp2
    go_ret
    refine ⟨ret_bool ?_, by (repeat' (first | (with_reducible exact Below.refl _ _) | (with_reducible assumption) | (with_reducible refine Below.drew ?_) | (with_reducible refine below_drewN ?_ _) | (with_reducible refine Below.setCell ?_ ?_ _) | (with_reducible refine Below.alloc ?_ ?_ _) | (refine Below.trans ?_ (Below.mono (by with_reducible assumption) ?_)) | omega | (exact Below.size (by with_reducible assumption)) | (simp; done) | (simp; omega)))⟩
    refine (decide_eq_false ?_).symm
    intro h
    exact hnm (by rw [hn.out, hm.out, h])

def subB (xs ys : List Int) : Bool := xs.all (fun x => decide (x ∈ ys)) && decide (xs.length ≤ ys.length)

set_option maxHeartbeats 1000000 in
theorem subset50 (A B : Option Addr) (xs ys : List Int) (n m c1 c2 : Nat) (w : World) (hA : RdI w A xs) (hB : RdI w B ys) (hn : Hid (n = xs.length)) (hm : Hid (m = ys.length)) (hlen : n ≤ 1000000) (hlem : m ≤ 1000000) :
    Calls Try.prog 50 #[.slice A n c1, .slice B m c2] w fun e w' => e = .returned (.bool (subB xs ys)) ∧ w = w' := by
  have HA := Lib.hid hA
  have HB := Lib.hid hB
  clear hA hB
  go_enter Try.func50, Try.ntmps50
  go_wp2
  go_loop [5] (fun i => ∃ k : Nat, k ≤ n ∧ i = .int .i64 k ∧ Hid ((xs.take k).all (fun x => decide (x ∈ ys)) = true)) (fun i => n - (intOf i).toNat)
  case atStart => exact ⟨0, Nat.zero_le _, rfl, by simp [Hid]⟩
  case round =>
    obtain ⟨k, hk, rfl, hno⟩ := hrel
    by_cases hlt : k < n
    · obtain ⟨x, hx⟩ : ∃ y, Hid (xs[k]? = some y) := ⟨xs[k]'(by have := hn.out; omega), by simp [Hid]⟩
      obtain ⟨b, off, rfl, hb, hck⟩ := HA.out.elem hx.out
      go_wp2_with fail
      refine (in49 B ys m c2 x w HB.out hm hlem).mono ?_
      cases hin : decide (x ∈ ys)
      · rintro e _ ⟨rfl, rfl⟩
        have hin' := Lib.hid hin
        clear hin
        go_wp2
        go_ret
        refine ⟨ret_bool ?_, rfl⟩
        refine Eq.symm ?_
        unfold subB
        rw [Bool.and_eq_false_iff]
        refine .inl ?_
        rw [List.all_eq_false]
        exact ⟨x, List.mem_of_getElem? hx.out, by rw [hin'.out]; simp⟩
      · rintro e _ ⟨rfl, rfl⟩
        have hin' := Lib.hid hin
        clear hin
        go_wp2
        go_round
        case rel =>
          refine ⟨k + 1, by omega, by go_num, ?_⟩
          show (xs.take (k + 1)).all _ = true
          rw [take_snoc hx.out, List.all_append, hno.out]
          simp only [List.all_cons, List.all_nil, hin'.out, Bool.and_self]
        case measure => simp only [intOf]; omega
    · go_wp2
      go_ret
      refine ⟨ret_bool ?_, rfl⟩
      have h := hno.out
      rw [List.take_of_length_le (by have := hn.out; omega)] at h
      unfold subB
      rw [h, ← hn.out, ← hm.out, Bool.true_and]

end Go.Proofs.Ytfboiplpfkommaa
