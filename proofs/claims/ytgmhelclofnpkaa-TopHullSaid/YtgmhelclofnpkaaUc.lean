/- Walks: all factors of both spans, as an iterator. -/
import Derived.Test.YtgmhelclofnpkaaUb
import Derived.Test.YtgmhelclofnpkaaRgB
import Derived.Test.YtgmhelclofnpkaaKf
namespace Go.Proofs.Ytgmhelclofnpkaa
open Go.RowKit Go.Shelf

attribute [local go_sem] Oper.semAt_some
abbrev Fac (aL aH lL lH : Int) := {p : P2 // Sh.In aL aH lL lH p}
def facE (cs : List Ct) (p : P2) : Array Value := #[.agg #[.int .i64 p.1, .int .i64 p.2], .int .i64 (Sh.wrongs cs p)]
/-- What the walks of a valid sheet know. -/
structure ShV (aL aH lL lH wr : Int) (cs : List Ct) : Prop where
  a : 900 ≤ aL ∧ aL ≤ aH ∧ aH ≤ 1100
  l : 900 ≤ lL ∧ lL ≤ lH ∧ lH ≤ 1100
  n : cs.length ≤ 8
  c : ∀ c ∈ cs, Sh.okCt c = true
  w : 0 ≤ wr ∧ wr ≤ 8
theorem shV_of {aL aH lL lH wr : Int} {cs : List Ct} (h : Sh.okSh aL aH lL lH wr cs = true) : ShV aL aH lL lH wr cs := by
  simp only [Sh.okSh, Bool.and_eq_true, decide_eq_true_eq] at h
  obtain ⟨h1, h2, h3, h4, h5⟩ := h
  exact ⟨Sh.okSp_iff.1 h1, Sh.okSp_iff.1 h2, h3, fun c hc => List.all_eq_true.1 h4 c hc, btw_iff.1 h5⟩
set_option maxRecDepth 100000 in
set_option maxHeartbeats 8000000 in
theorem salls (aL aH lL lH : Int) (A : Option Addr) (n cap : Nat) (wq : Int) (cs : List Ct) (Bs : Nat) (nF : Nat) (hnF : 2 ≤ nF) (hn : Hid (n = cs.length)) (hV : Hid (ShV aL aH lL lH wq cs)) (l : Nat) (J Jx : List (Fac aL aH lL lH) → World → Prop) (W : World)
    (hJ : AbidesFrom W.heap.size J) (hJB : ∀ pre W1, J pre W1 → Own W1 Bs (shC aL aH lL lH A n cap wq) ∧ Rd 4 W1 A (cs.map ctrow))
    (hY : ∀ pre x W1, J pre W1 → pre.length < 40401 → YieldAt Fence.wide (nF - 1) Try.prog l (facE cs x.1) W1 fun e W' => (e = .returned (.bool true) ∧ J (pre ++ [x]) W') ∨ (e = .returned (.bool false) ∧ Jx (pre ++ [x]) W'))
    (hJ0 : J [] W) :
    CallsIn Fence.wide nF Try.prog 119 #[.pointer (some ⟨Bs, 0, none⟩), .func (.yield l) #[] #[]] W fun e W' => (∃ v, e = .returned v) ∧ ((∃ ys, ys.map (·.1) = Sh.allP aL aH lL lH ∧ J ys W') ∨ ∃ pre, Jx pre W') := by
  have n1 : 1 ≤ nF := by omega
  have f120 : Fence.wide.fn 145 := trivial
  have ha := hV.out.a
  have hl := hV.out.l
  have hk8 := hV.out.n
  have hn8 : n ≤ 8 := by have := hn.out; omega
  obtain ⟨NA, hNA⟩ : ∃ N, Hid ((aH - aL + 1).toNat = N) := ⟨_, rfl⟩
  obtain ⟨m, hm⟩ : ∃ N, Hid ((lH - lL + 1).toNat = N) := ⟨_, rfl⟩
  have hNA' : (NA : Int) = aH - aL + 1 := by have := hNA.out; omega
  have hm' : (m : Int) = lH - lL + 1 := by have := hm.out; omega
  have hNm : NA * m ≤ 40401 := by
    have := Nat.mul_le_mul (show NA ≤ 201 by omega) (show m ≤ 201 by omega)
    omega
  refine callsIn_of_wp Try.func119 rfl trivial ?_ rfl
  simp only [Try.ntmps119, List.size_toArray, List.length_cons, List.length_nil, Nat.reduceAdd, Nat.reduceSub, Array.replicate_succ, Array.replicate_zero, List.push_toArray, List.append_toArray, List.nil_append, List.cons_append]
  obtain ⟨l0, c0, g0⟩ := (hJB _ _ hJ0).1
  unfold shC at c0
  gi_wp2
  gi_loopw [4] (fun v wr => ∃ (i : Nat) (pre : List (Fac aL aH lL lH)), v = .int .i64 (aL + i) ∧ i ≤ NA ∧ pre.map (·.1) = Sh.pairs aL lL m i ∧ J pre wr) (fun v _ => (aH + 1 - iO v).toNat)
  case atStart => exact ⟨0, [], by simp, by omega, rfl, hJ0⟩
  case round =>
    obtain ⟨i, pre, rfl, hi, hpre, hJk⟩ := hrel
    clear l0 c0 g0
    obtain ⟨⟨m0, d0, e0⟩, hqA⟩ := hJB _ _ hJk
    unfold shC at d0
    by_cases hin : i < NA
    · have HJk := Lib.hid hJk
      have Hpre := Lib.hid hpre
      clear hJk hpre hqA
      have hcA : decide (aL + (i : Int) ≤ aH) = true := decide_eq_true (by omega)
      gi_wp2
      (try simp only [hcA])
      obtain ⟨wo, hwo⟩ : ∃ wo, wo = wr := ⟨_, rfl⟩
      gi_loopw [5] (fun v wr => ∃ (j : Nat) (pre : List (Fac aL aH lL lH)), v = .int .i64 (lL + j) ∧ j ≤ m ∧ pre.map (·.1) = Sh.pairs aL lL m i ++ Sh.rowL aL lL i j ∧ J pre wr) (fun v _ => (lH + 1 - iO v).toNat)
      case atStart => exact ⟨0, pre, by simp, by omega, by rw [Hpre.out]; simp [Sh.rowL], HJk.out⟩
      case round =>
        clear m0 d0 e0 HJk Hpre pre hwo
        obtain ⟨j, pre, rfl, hj, hpre, hJk⟩ := hrel
        obtain ⟨⟨m0, d0, e0⟩, hqA⟩ := hJB _ _ hJk
        unfold shC at d0
        by_cases hjn : j < m
        · have hIn : Sh.In aL aH lL lH (aL + i, lL + j) := by unfold Sh.In; exact ⟨⟨by omega, by omega⟩, by omega, by omega⟩
          have hJg : ∀ pre X Y, J pre X → Below X.heap.size X Y → J pre Y := fun pre X Y h hb => hJ pre X Y none h (grown_of_below hb) (fun r e => by cases e)
          have hplen : pre.length < 40401 := by
            have h1 := congrArg List.length hpre
            rw [List.length_map, List.length_append, Sh.pairs_len, Sh.rowL_len] at h1
            have h2 := Nat.mul_le_mul_right m (show i + 1 ≤ NA by omega)
            rw [Nat.succ_mul] at h2
            omega
          have hF : Own (wr.alloc (.cells #[.int .i64 (aL + i), .int .i64 (lL + j)] 112)) wr.heap.size [.int .i64 (aL + i), .int .i64 (lL + j)] := Own.new' _ _ rfl rfl
          have hJ1 := hJg _ _ _ hJk ((Below.refl _ wr).alloc (Nat.le_refl _) (.cells #[.int .i64 (aL + i), .int .i64 (lL + j)] 112))
          have Hpre := Lib.hid hpre
          clear hpre hJk hqA
          have hcL : decide (lL + (j : Int) ≤ lH) = true := decide_eq_true (by omega)
          gi_wp2
          (try simp only [hcA, hcL])
          obtain ⟨B, hBB⟩ : ∃ B, wr.heap.size = B := ⟨_, rfl⟩
          rw [hBB] at hF ⊢
          gi_loopw [7, 51] (fun c v wr => ∃ k : Nat, c = .int .i64 (Sh.wrongs (cs.take k) (aL + i, lL + j)) ∧ v = .int .i64 k ∧ k ≤ n ∧ J pre wr ∧ Own wr B [.int .i64 (aL + i), .int .i64 (lL + j)]) (fun _ v _ => (n - iO v).toNat)
          case atStart => exact ⟨0, rfl, rfl, by omega, hJ1, hF⟩
          case round =>
            clear m0 d0 e0 hJ1 hF
            obtain ⟨k, rfl, rfl, hk, hJk, hF⟩ := hrel
            have hwl := Sh.wrongs_le (cs.take k) (aL + i, lL + j)
            have htl : (cs.take k).length ≤ 8 := by rw [List.length_take]; omega
            by_cases hkn : k < n
            · obtain ⟨c, hc⟩ : ∃ c, Hid (cs[k]? = some c) := ⟨cs[k]'(by have := hn.out; omega), by simp [Hid]⟩
              obtain ⟨b, off, rfl, hb, hc0, hc1, hc2, hc3⟩ := rd_ct (hJB _ _ hJk).2 hc.out
              have hF' := Lib.hid hF
              have hJk' := Lib.hid hJk
              have hokc := hV.out.c c (List.mem_of_getElem? hc.out)
              obtain ⟨lf, cf, ff⟩ := hF
              have hstep := Sh.wrongs_snoc (cs.take k) c (aL + i, lL + j)
              rw [← take_snoc hc.out] at hstep
              have Hstep := Lib.hid hstep
              clear hJk hstep
              cases hr : Sh.isR (aL + i, lL + j) c
              · have hR := fun w => cBB hr (isRightW (aL + i) (lL + j) c w (by omega) (by omega) hokc)
                have HR := Lib.hid hR
                have Hr := Lib.hid hr
                clear hR hr
                gi_wp2_with fail
                refine (callsIn_wide.2 (HR.out _)).mono ?_
                rintro e w1 ⟨rfl, hb1⟩
                have hB1 : Below wr.heap.size wr w1 := by (repeat' (first | (with_reducible exact Below.refl _ _) | (with_reducible assumption) | (with_reducible refine Below.drew ?_) | (with_reducible refine below_drewN ?_ _) | (with_reducible refine Below.setCell ?_ ?_ _) | (with_reducible refine Below.alloc ?_ ?_ _) | (refine Below.trans ?_ (Below.mono (by with_reducible assumption) ?_)) | omega | (exact Below.size (by with_reducible assumption)) | (simp; done) | (simp; omega)))
                have hJ2 := hJg _ _ _ hJk'.out hB1
                have hF2 := hF'.out.below hB1 hF'.out.lt
                clear hb1 hB1 cf ff hc0 hc1 hc2 hc3
                gi_wp2
                go_roundw
                case measure => simp only [iO]; omega
                case rel =>
                  refine ⟨k + 1, ?_, by go_num, by omega, hJ2, hF2⟩
                  have := Hstep.out
                  rw [Hr.out] at this
                  simp only [Bool.false_eq_true, if_false] at this
                  rw [this]; go_num
              · have hR := fun w => cBB hr (isRightW (aL + i) (lL + j) c w (by omega) (by omega) hokc)
                have HR := Lib.hid hR
                have Hr := Lib.hid hr
                clear hR hr
                gi_wp2_with fail
                refine (callsIn_wide.2 (HR.out _)).mono ?_
                rintro e w1 ⟨rfl, hb1⟩
                have hB1 : Below wr.heap.size wr w1 := by (repeat' (first | (with_reducible exact Below.refl _ _) | (with_reducible assumption) | (with_reducible refine Below.drew ?_) | (with_reducible refine below_drewN ?_ _) | (with_reducible refine Below.setCell ?_ ?_ _) | (with_reducible refine Below.alloc ?_ ?_ _) | (refine Below.trans ?_ (Below.mono (by with_reducible assumption) ?_)) | omega | (exact Below.size (by with_reducible assumption)) | (simp; done) | (simp; omega)))
                have hJ2 := hJg _ _ _ hJk'.out hB1
                have hF2 := hF'.out.below hB1 hF'.out.lt
                clear hb1 hB1 cf ff hc0 hc1 hc2 hc3
                gi_wp2
                go_roundw
                case measure => simp only [iO]; omega
                case rel =>
                  refine ⟨k + 1, ?_, by go_num, by omega, hJ2, hF2⟩
                  have := Hstep.out
                  rw [Hr.out] at this
                  simp only [if_true] at this
                  rw [this]; go_num
            · have hkk : Hid (cs.take k = cs) := List.take_of_length_le (by have := hn.out; omega)
              have hwk : Sh.wrongs (cs.take k) (aL + i, lL + j) = Sh.wrongs cs (aL + i, lL + j) := by rw [hkk.out]
              rw [hwk]
              obtain ⟨fn, tmps, assign, body, hy, hR⟩ := hY pre ⟨(aL + i, lL + j), hIn⟩ wr hJk hplen
              simp only [facE] at hy
              have HR := Lib.hid hR
              have Hkn := Lib.hid hkn
              clear hR hJk hwl htl hwk hkn
              obtain ⟨lf, cf, ff⟩ := hF
              gi_wp2
              refine HR.out.mono ?_
              rintro e W4 (⟨rfl, hJ4⟩ | ⟨rfl, hJ4⟩)
              · clear cf ff lf
                gi_wp2
                go_roundw
                case measure => simp only [iO]; omega
                case rel =>
                  refine ⟨j + 1, pre ++ [⟨(aL + i, lL + j), hIn⟩], by go_num, by omega, ?_, hJ4⟩
                  rw [List.map_append, Hpre.out, Sh.rowL_succ, List.append_assoc]; rfl
              · gi_wp2
                (try simp only [Exit.inBlock, Exit.then])
                refine bodyPost_ret (results_none rfl _ _ _) rfl ?_
                exact ⟨⟨_, rfl⟩, Or.inr ⟨_, hJ4⟩⟩
        · have hjm : j = m := by omega
          have Hpre := Lib.hid hpre
          have HJk := Lib.hid hJk
          clear hpre hJk hqA
          gi_wp2
          go_roundw
          case measure => simp only [iO]; omega
          case rel =>
            refine ⟨i + 1, pre, by go_num, by omega, ?_, HJk.out⟩
            rw [Hpre.out, hjm]; rfl
    · have hiN : i = NA := by omega
      have Hpre := Lib.hid hpre
      have HJk := Lib.hid hJk
      clear hpre hJk hqA
      gi_wp2
      go_end0
      exact ⟨⟨_, rfl⟩, Or.inl ⟨pre, by rw [Hpre.out, hiN]; unfold Sh.allP; rw [hNA.out, hm.out], HJk.out⟩⟩
end Go.Proofs.Ytgmhelclofnpkaa
