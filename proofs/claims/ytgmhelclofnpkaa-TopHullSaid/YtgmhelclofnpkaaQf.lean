/- Walks: all areas and skews of a wheel, as an iterator. -/
import Derived.Test.YtgmhelclofnpkaaQe
import Derived.Test.YtgmhelclofnpkaaUd
import Derived.Test.YtgmhelclofnpkaaGenJ
namespace Go.Proofs.Ytgmhelclofnpkaa
open Go.RowKit Go.Shelf

attribute [local go_sem] Oper.semAt_some
/-- What the walks of a valid wheel know. -/
structure WhV (h : Wh) (l : List Wk) : Prop where
  k : Wl.Ok h
  n : l.length ≤ 8
  l : ∀ x ∈ l, Wl.OkK h x
abbrev At (h : Wh) := Fac h.lo h.hi (-h.skew) h.skew
theorem at_bd {h : Wh} {l : List Wk} (hV : WhV h l) {t : P2} (ht : Sh.In h.lo h.hi (-h.skew) h.skew t) : (0 ≤ t.1 ∧ t.1 ≤ 9999) ∧ -20 ≤ t.2 ∧ t.2 ≤ 20 := by
  have a := hV.k.lo
  have b := hV.k.hi
  have c := hV.k.skew
  obtain ⟨d, e⟩ := ht
  omega
set_option maxRecDepth 100000 in
set_option maxHeartbeats 8000000 in
theorem wallB (h : Wh) (A : Option Addr) (n cap n₁ B0 : Nat) (w : World) (nF : Nat) (hnF : 2 ≤ nF) (hn₁ : n₁ ≤ w.heap.size) (hk : Wl.Ok h) :
    SeqB nF Try.prog 76 #[dkV h A n cap] #[] (fun x : At h => facT x.1) (KpC n₁ (w.heap.size + 2) B0) (fun ys => ys.map (·.1) = Sh.allP h.lo h.hi (-h.skew) h.skew) 410001 w := by
  intro l J Jx W hW hW2 hJ hJx hY hJ0
  have n1 : 1 ≤ nF := by omega
  have a1 := hk.lo
  have a2 := hk.hi
  have a3 := hk.skew
  obtain ⟨NA, hNA⟩ : ∃ N, Hid ((h.hi - h.lo + 1).toNat = N) := ⟨_, rfl⟩
  obtain ⟨m, hm⟩ : ∃ N, Hid ((h.skew - (-h.skew) + 1).toNat = N) := ⟨_, rfl⟩
  have hNA' : (NA : Int) = h.hi - h.lo + 1 := by have := hNA.out; omega
  have hm' : (m : Int) = 2 * h.skew + 1 := by have := hm.out; omega
  have hNm : NA * m ≤ 410000 := by
    have := Nat.mul_le_mul (show NA ≤ 10000 by omega) (show m ≤ 41 by omega)
    omega
  have hJg : ∀ pre X Y, J pre X → Below X.heap.size X Y → J pre Y := fun pre X Y k hb => hJ pre X Y none k (grown_of_below hb) (fun r e => by cases e)
  have hJ1 : J [] (W.alloc (.cells #[.int .i64 h.full, .int .i64 h.read, .int .i64 h.slip, .int .i64 h.skew, .int .i64 h.circ, .int .i64 h.lo, .int .i64 h.hi, .int .i64 h.wrong, .slice A n cap] 83)) := hJg _ _ _ hJ0 ((Below.refl _ W).alloc (Nat.le_refl _) _)
  have o0 : Own (W.alloc (.cells #[.int .i64 h.full, .int .i64 h.read, .int .i64 h.slip, .int .i64 h.skew, .int .i64 h.circ, .int .i64 h.lo, .int .i64 h.hi, .int .i64 h.wrong, .slice A n cap] 83)) W.heap.size (dkC h A n cap) := Own.new' _ _ rfl rfl
  refine callsIn_of_wp Try.func76 rfl trivial ?_ rfl
  simp only [Try.ntmps76, List.size_toArray, List.length_cons, List.length_nil, Nat.reduceAdd, Nat.reduceSub, Array.replicate_succ, Array.replicate_zero, List.push_toArray, List.append_toArray, List.nil_append, List.cons_append]
  gi_wp2
  gi_loopw [4] (fun v wr => ∃ (i : Nat) (pre : List (At h)), v = .int .i64 (h.lo + i) ∧ i ≤ NA ∧ pre.map (·.1) = Sh.pairs h.lo (-h.skew) m i ∧ J pre wr ∧ Own wr W.heap.size (dkC h A n cap)) (fun v _ => (h.hi + 1 - iO v).toNat)
  case atStart => exact ⟨0, [], by simp, by omega, rfl, hJ1, o0⟩
  case round =>
    clear hJ1 o0 hJ0
    obtain ⟨i, pre, rfl, hi, hpre, hJk, o0⟩ := hrel
    have O0 := Lib.hid o0
    obtain ⟨l0, c0, g0⟩ := o0
    by_cases hin : i < NA
    · have HJk := Lib.hid hJk
      have Hpre := Lib.hid hpre
      clear hJk hpre
      have hcA : decide (h.lo + (i : Int) ≤ h.hi) = true := decide_eq_true (by omega)
      have hwn : IntKind.i64.wrap (-h.skew) = -h.skew := IntWalk.i64_in _ (by omega)
      gi_wp2
      (try simp only [hcA])
      gi_loopw [5] (fun v wr => ∃ (j : Nat) (pre : List (At h)), v = .int .i64 (-h.skew + j) ∧ j ≤ m ∧ pre.map (·.1) = Sh.pairs h.lo (-h.skew) m i ++ Sh.rowL h.lo (-h.skew) i j ∧ J pre wr ∧ Own wr W.heap.size (dkC h A n cap)) (fun v _ => (h.skew + 1 - iO v).toNat)
      case atStart => exact ⟨0, pre, by simp, by omega, by rw [Hpre.out]; simp [Sh.rowL], HJk.out, O0.out⟩
      case round =>
        clear l0 c0 g0 HJk Hpre pre O0
        obtain ⟨j, pre, rfl, hj, hpre, hJk, o0⟩ := hrel
        have O0 := Lib.hid o0
        obtain ⟨l0, c0, g0⟩ := o0
        by_cases hjn : j < m
        · have hIn : Sh.In h.lo h.hi (-h.skew) h.skew (h.lo + i, -h.skew + j) := by unfold Sh.In; exact ⟨⟨by omega, by omega⟩, by omega, by omega⟩
          have hplen : pre.length < 410001 := by
            have h1 := congrArg List.length hpre
            rw [List.length_map, List.length_append, Sh.pairs_len, Sh.rowL_len] at h1
            have h2 := Nat.mul_le_mul_right m (show i + 1 ≤ NA by omega)
            rw [Nat.succ_mul] at h2
            omega
          have Hpre := Lib.hid hpre
          obtain ⟨fn, tmps, assign, body, hy, hR⟩ := hY pre ⟨(h.lo + i, -h.skew + j), hIn⟩ wr hJk hplen
          simp only [facT] at hy
          have HR := Lib.hid hR
          have hcL : decide (-h.skew + (j : Int) ≤ h.skew) = true := decide_eq_true (by omega)
          clear hR hpre hJk
          gi_wp2
          refine HR.out.mono ?_
          rintro e W4 (⟨rfl, hJ4, hK4⟩ | ⟨rfl, hJ4, _⟩)
          · have o4 := own_kpc O0.out hK4 (by omega)
            clear l0 c0 g0 O0 hK4
            gi_wp2
            (try simp only [hcL])
            go_roundw
            case measure => simp only [iO]; omega
            case rel =>
              refine ⟨j + 1, pre ++ [⟨(h.lo + i, -h.skew + j), hIn⟩], by go_num, by omega, ?_, hJ4, o4⟩
              rw [List.map_append, Hpre.out, Sh.rowL_succ, List.append_assoc]; rfl
          · gi_wp2
            (try simp only [Exit.inBlock, Exit.then])
            refine bodyPost_ret (results_none rfl _ _ _) rfl ?_
            exact ⟨⟨_, rfl⟩, Or.inr ⟨_, hJ4⟩⟩
        · have hjm : j = m := by omega
          have Hpre := Lib.hid hpre
          have HJk := Lib.hid hJk
          clear hpre hJk
          gi_wp2
          go_roundw
          case measure => simp only [iO]; omega
          case rel =>
            refine ⟨i + 1, pre, by go_num, by omega, ?_, HJk.out, O0.out⟩
            rw [Hpre.out, hjm]; rfl
    · have hiN : i = NA := by omega
      have Hpre := Lib.hid hpre
      have HJk := Lib.hid hJk
      clear hpre hJk
      gi_wp2
      go_end0
      exact ⟨⟨_, rfl⟩, Or.inl ⟨pre, by rw [Hpre.out, hiN]; unfold Sh.allP; rw [hNA.out, hm.out], HJk.out⟩⟩
end Go.Proofs.Ytgmhelclofnpkaa
