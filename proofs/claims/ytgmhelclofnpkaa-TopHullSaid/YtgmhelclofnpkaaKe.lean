/- Walks: the sides of a polygon as an iterator. -/
import Derived.Test.YtgmhelclofnpkaaKd
import Derived.Test.YtgmhelclofnpkaaGenI
import Derived.Shelf.SlIterI.Collect
import Derived.RangeFuncNested
import Derived.RangeFuncBound
import Derived.RangeFuncCalls
import Derived.RangeFuncLeaves
import Derived.OwnWalkIn
import Derived.TacticsInMore
import Derived.LoopIn
import Derived.Stop.RegionWithIn
namespace Go.Proofs.Ytgmhelclofnpkaa
open Go.RowKit Go.Shelf

attribute [local go_sem] Oper.semAt_some
theorem Own.ofBlock {w w' : World} {b : Nat} {vs : List Value} (h : Own w b vs) (e : w'.heap[b]? = w.heap[b]?) : Own w' b vs :=
  ⟨by
    have h1 := h.lt
    have : w.heap[b]? = some (w.heap[b]'h1) := Array.getElem?_eq_getElem h1
    rw [this] at e
    exact (Array.getElem?_eq_some_iff.1 e).1, fun i => (World.cell?_of_block e).trans (h.c i), fun i => (World.frozen?_of_block e).trans (h.f i)⟩
/-- What a round keeps: all below n₁, and the iterator's own box. -/
def KpB1 (n₁ B0 : Nat) (W W' : World) : Prop := Below n₁ W W' ∧ W'.heap[B0]? = W.heap[B0]?
def iO : Value → Int
  | .int _ q => q
  | _ => 0
set_option maxHeartbeats 1000000 in
theorem sidesW (A : Option Addr) (n cap : Nat) (w : World) :
    Calls Try.prog 62 #[.slice A n cap] w fun e w' => e = .returned (.func (.func 98) #[] #[.pointer (some ⟨w.heap.size, 0, none⟩)]) ∧ w' = w.alloc (.cells #[.slice A n cap] 22) := by
  go_enter Try.func62, Try.ntmps62
  go_wp2
  go_ret
  exact ⟨rfl, rfl⟩
def sdE (ps : List P2) (k : Nat) : Array Value := #[.int .i64 k, sdV (Pl.at' ps k) (Pl.nx ps k)]
theorem at_get {ps : List P2} {i : Nat} (h : i < ps.length) : ps[i]? = some (Pl.at' ps i) := by
  unfold Pl.at'
  rw [List.getD_eq_getElem?_getD, List.getElem?_eq_getElem h]; rfl
set_option maxRecDepth 100000 in
set_option maxHeartbeats 8000000 in
theorem sides1s (A : Option Addr) (n cap : Nat) (ps : List P2) (B0 : Nat) (nF : Nat) (hnF : 2 ≤ nF) (hn : Hid (n = ps.length)) (hlen : n ≤ 1000) (l : Nat) (J Jx : List (Fin n) → World → Prop) (W : World)
    (hJB : ∀ pre W1, J pre W1 → Own W1 B0 [.slice A n cap] ∧ Rd 2 W1 A (ps.map ptrow)) (hJd : ∀ pre W1, J pre W1 → J pre W1.drew)
    (hY : ∀ pre x W1, J pre W1 → pre.length < n → YieldAt Fence.wide (nF - 1) Try.prog l (sdE ps x.1) W1 fun e W' => (e = .returned (.bool true) ∧ J (pre ++ [x]) W') ∨ (e = .returned (.bool false) ∧ Jx (pre ++ [x]) W'))
    (hJ0 : J [] W) :
    CallsIn Fence.wide nF Try.prog 98 #[.func (.yield l) #[] #[], .pointer (some ⟨B0, 0, none⟩)] W fun e W' => (∃ v, e = .returned v) ∧ ((∃ ys, ys.map (·.1) = List.range n ∧ J ys W') ∨ ∃ pre, Jx pre W') := by
  have n1 : 1 ≤ nF := by omega
  refine callsIn_of_wp Try.func98 rfl trivial ?_ rfl
  simp only [Try.ntmps98, List.size_toArray, List.length_cons, List.length_nil, Nat.reduceAdd, Nat.reduceSub, Array.replicate_succ, Array.replicate_zero, List.push_toArray, List.append_toArray, List.nil_append, List.cons_append]
  obtain ⟨l0, c0, g0⟩ := (hJB _ _ hJ0).1
  gi_wp2
  gi_loopw [6] (fun v wr => ∃ (k : Nat) (pre : List (Fin n)), v = .int .i64 k ∧ k ≤ n ∧ pre.map (·.1) = List.range k ∧ J pre wr) (fun v _ => (n - iO v).toNat)
  case atStart => exact ⟨0, [], by simp, by omega, rfl, hJ0⟩
  case round =>
    obtain ⟨k, pre, rfl, hk, hpre, hJk⟩ := hrel
    by_cases hkn : k < n
    · have hk1 : k < ps.length := by have := hn.out; omega
      obtain ⟨j, hj⟩ : ∃ j, (k + 1) % ps.length = j := ⟨_, rfl⟩
      have hk2 : j < ps.length := by rw [← hj]; exact Nat.mod_lt _ (by omega)
      have hjn : j < n := by have := hn.out; omega
      have hnx : Pl.nx ps k = Pl.at' ps j := by unfold Pl.nx; rw [hj]
      obtain ⟨⟨m0, d0, e0⟩, hqA⟩ := hJB _ _ hJk
      obtain ⟨b, off, rfl, hb, hc0, hc1⟩ := rd_p2 hqA (at_get hk1)
      obtain ⟨b', off', hbb, _, hc2, hc3⟩ := rd_p2 hqA (at_get hk2)
      obtain ⟨rfl, rfl⟩ : b = b' ∧ off = off' := by simpa using hbb
      have hmod : (((k : Int) + 1).tmod (n : Int)) = (j : Int) := by
        have := hn.out
        rw [← hj, ← this, show (k : Int) + 1 = ((k + 1 : Nat) : Int) by omega]
        exact Int.ofNat_tmod _ _
      have hn0 : ¬ n = 0 := by omega
      have hw1 : IntKind.i64.wrap ((k : Int) + 1) = (k : Int) + 1 := IntWalk.i64_in _ (by omega)
      clear hbb
      have hpl : pre.length = k := by
        have := congrArg List.length hpre
        simpa using this
      obtain ⟨fn, tmps, assign, body, hy, hR⟩ := hY pre ⟨k, hkn⟩ wr.drew (hJd _ _ hJk) (by omega)
      have hsz : (sdE ps k) = #[.int .i64 k, sdV (Pl.at' ps k) (Pl.at' ps j)] := by unfold sdE; rw [hnx]
      rw [hsz] at hy
      clear hsz hnx hj
      have HR : Hid (RoundIn Fence.wide (nF - 1) Try.prog l fn tmps assign body wr.drew fun e W' => ∃ bb, e = .returned (.bool bb) ∧ Hid ((bb = true ∧ J (pre ++ [⟨k, hkn⟩]) W') ∨ (bb = false ∧ Jx (pre ++ [⟨k, hkn⟩]) W'))) := hR.mono fun e W' h => by
        rcases h with ⟨h1, h2⟩ | ⟨h1, h2⟩
        · exact ⟨true, h1, Or.inl ⟨rfl, h2⟩⟩
        · exact ⟨false, h1, Or.inr ⟨rfl, h2⟩⟩
      clear hR
      have HJ := Lib.hid hJk
      clear hJk hJ0
      gi_wp2
      refine rw_start (fun w' => w' = wr.drew) 15 17 (by kernel_rfl) rfl ?_
      refine rw_take (fuel := 2) [0, 1, 2, 3, 4, 5, 6, 7, 8, 9, 10, 11, 12, 13, 14] (by kernel_rfl) (by kernel_rfl) (by intro _ _ d _ _ h; cases d <;> exact h) rfl (by kernel_rfl) (by kernel_rfl) rfl ?_
      simp only [pickL, pick1, List.cons_append, List.nil_append]
      iterate 15 (refine wpTake_cons (v := ?_) (Or.inl ⟨by rfl, ?_⟩) ?_; rotate_left; (intro w' hSw; subst hSw; go_simp; (try with_reducible rfl)); (try simp only [Act.put, List.setIfInBounds_toArray, List.set_cons_zero, List.set_cons_succ]))
      refine wpTake_nil ?_
      refine rw_one 15 rfl (by kernel_rfl) (by kernel_rfl) ?_
      simp only [pick1, headW]
      intro K' hK
      rw [if_pos (by rfl)]
      gi_wp2
      refine HR.out.mono ?_
      rintro e W4 ⟨bb, rfl, HB⟩
      refine hK _ _ (by first | trivial | exact Or.inl rfl | exact Or.inl trivial) ?_
      clear hK K'
      refine rw_one 16 rfl (by kernel_rfl) (by kernel_rfl) ?_
      simp only [pick1, headW]
      intro K' hK
      rw [if_pos (by rfl)]
      gi_wp2
      refine hK _ _ (by first | trivial | exact Or.inr (Or.inl (by kernel_rfl)) | exact Or.inl (by kernel_rfl)) ?_
      clear hK K'
      refine rw_done (by kernel_rfl) ?_
      clear hy hc0 hc1 hc2 hc3 d0 e0 hb hmod hw1 hqA
      rcases HB.out with ⟨rfl, hJ4⟩ | ⟨rfl, hJ4⟩
      · gi_wp2
        go_roundw
        case measure => simp only [iO]; omega
        case rel => exact ⟨k + 1, pre ++ [⟨k, hkn⟩], by go_num, by omega, by rw [List.map_append, hpre, List.range_succ]; rfl, hJ4⟩
      · gi_wp2
        (try simp only [Exit.inBlock, Exit.then])
        refine bodyPost_ret (results_none rfl _ _ _) rfl ?_
        exact ⟨⟨_, rfl⟩, Or.inr ⟨_, hJ4⟩⟩
    · gi_wp2
      go_end0
      exact ⟨⟨_, rfl⟩, Or.inl ⟨pre, by rw [hpre, show n = k by omega], hJk⟩⟩
end Go.Proofs.Ytgmhelclofnpkaa
