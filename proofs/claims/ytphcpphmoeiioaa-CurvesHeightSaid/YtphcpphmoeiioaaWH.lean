/- Walks: the heights that a place has in a truth, as an iterator. -/
import Derived.Test.YtphcpphmoeiioaaWF
import Derived.Test.YtphcpphmoeiioaaVQ
import Derived.Maps.OwnIn
import Derived.Shelf.SlIterI.Collect
import Derived.RangeFuncNested
import Derived.RangeFuncBound
import Derived.RangeFuncCalls
import Derived.RangeFuncLeaves
import Derived.OwnWalkIn
import Derived.TacticsInMore
import Derived.LoopIn
namespace Go.Proofs.Ytphcpphmoeiioaa
open Go.RowKit Go.Maps Go.Shelf

/-- 'map{k: u}'. -/
theorem wpIn_insI {F : Fence} {nF : Nat} (w : World) {ops : Array Oper} {rest : List Oper} {o : Oper} {a : Act} {Q : Exit → Act → World → Prop} (hg : o.guard = none) (m x v : Operand) (t : TypeId) (hop : o.op = Op.insert t m x v) (ht : Try.prog.underlying t = some (.map 3 3)) (b n : Nat) (f : Int → Option Int)
    (hm : a.eval m = .map (some b)) (hown : MapI w b n f) (hn : n < 100000000000000) (k u : Int) (hx : a.eval x = .int .i64 k) (hv : a.eval v = .int .i64 u) (hk : (Lit.int .i64 k).wf = true) (hu : (Lit.int .i64 u).wf = true)
    (hK : ∀ w', MapI w' b (n + 1) (upd f k u) → w.grownBy w' (some b) → wpListIn F nF Try.prog ops Q rest (a.put o.dst undef) w') :
    wpListIn F nF Try.prog ops Q (o :: rest) a w := by
  obtain ⟨D, h1, h2⟩ := hown
  refine wpListIn_plain hg fun K' hK' => ?_
  obtain ⟨w', hrun, r1, r2⟩ := h1.update key3 ht (by unfold maxLen; omega) (keyOf_int_mk Try.underlying3 hk) (plainElem_int Try.underlying3 hu)
  unfold Oper.wpIn
  refine ⟨by simp [Oper.about, hop], ?_⟩
  rw [Oper.semAt_plain F _ _ (by rw [hop]; intro c hc'; cases hc')]
  simp [execOp, hop, hm, hx, hv, hrun, Result.andThen]
  exact hK' _ _ (hK w' ⟨_, r1, holds_put h2 h1.isMap hk⟩ r2)
def iOf : Value → Int
  | .int _ q => q
  | _ => 0
theorem grown_of_below {W W' : World} (h : Below W.heap.size W W') : W.grownBy W' none :=
  ⟨h.os, h.tape, h.output, h.size, fun k hk _ => h.block k hk⟩
open Classical in
/-- The first k heights of the range that a place can have. -/
noncomputable def htL (c : Cv) (p : Nat) : Nat → List Int
  | 0 => []
  | k + 1 => htL c p k ++ (if HtP c p (c.rlo + k) then [c.rlo + k] else [])
theorem htL_len (c : Cv) (p : Nat) : ∀ k, (htL c p k).length ≤ k
  | 0 => Nat.le_refl _
  | k + 1 => by
    have := htL_len c p k
    show (htL c p k ++ _).length ≤ k + 1
    split <;> simp <;> omega
theorem htL_mem (c : Cv) (p : Nat) (x : Int) : ∀ k, x ∈ htL c p k ↔ HtP c p x ∧ c.rlo ≤ x ∧ x < c.rlo + k
  | 0 => by simp [htL]; try omega
  | k + 1 => by
    have ih := htL_mem c p x k
    show x ∈ htL c p k ++ _ ↔ _
    rw [List.mem_append, ih]
    by_cases h : HtP c p (c.rlo + k)
    · rw [if_pos h]
      simp only [List.mem_singleton]
      constructor
      · rintro (h1 | rfl)
        · exact ⟨h1.1, h1.2.1, by omega⟩
        · exact ⟨h, by omega, by omega⟩
      · rintro ⟨h1, h2, h3⟩
        by_cases e : x = c.rlo + k
        · exact Or.inr e
        · exact Or.inl ⟨h1, h2, by omega⟩
    · rw [if_neg h]
      constructor
      · rintro (h1 | h1)
        · exact ⟨h1.1, h1.2.1, by omega⟩
        · cases h1
      · rintro ⟨h1, h2, h3⟩
        refine Or.inl ⟨h1, h2, ?_⟩
        by_cases e : x = c.rlo + k
        · subst e; exact absurd h1 h
        · omega
theorem htL_no (c : Cv) (p k : Nat) (h : ¬ HtP c p (c.rlo + k)) : htL c p (k + 1) = htL c p k := by
  show htL c p k ++ _ = _
  rw [if_neg h, List.append_nil]
theorem htL_yes (c : Cv) (p k : Nat) (h : HtP c p (c.rlo + k)) : htL c p (k + 1) = htL c p k ++ [c.rlo + k] := by
  show htL c p k ++ _ = _
  rw [if_pos h]
theorem hasT_one (c : Cv) (p : Nat) (hp : p ≤ c.long) (n : Int) : HasT c (upd (fun _ => none) (p : Int) n) ↔ HtP c p n := by
  constructor
  · rintro ⟨h, k1, k2⟩
    exact ⟨h, k1, (k2 p hp n (by simp [upd])).symm⟩
  · rintro ⟨h, k1, rfl⟩
    refine ⟨h, k1, fun i hi m hm => ?_⟩
    unfold upd at hm
    by_cases e : (i : Int) = (p : Int)
    · rw [if_pos e] at hm
      have : i = p := by omega
      subst this
      cases hm; rfl
    · rw [if_neg e] at hm; cases hm
set_option maxRecDepth 100000 in
set_option maxHeartbeats 4000000 in
theorem heights79s (L sl rl rh wg : Int) (A : Option Addr) (n cap : Nat) (ks : List Kn) (p : Nat) (B0 B1 : Nat) (nF : Nat) (hnF : 2 ≤ nF) (hn : Hid (n = ks.length)) (hV : Hid (CvV L sl rl rh wg ks)) (hp : (p : Int) ≤ L)
    (l : Nat) (J Jx : List Int → World → Prop) (W : World) (hJ : AbidesFrom W.heap.size J) (hJB : ∀ pre W1, J pre W1 → Own W1 B0 [.int .i64 L, .int .i64 sl, .int .i64 rl, .int .i64 rh, .slice A n cap, .int .i64 wg, .map none] ∧ Own W1 B1 [.int .i64 p] ∧ Rd 3 W1 A (ks.map krow))
    (hY : ∀ pre x W1, J pre W1 → pre.length < 201 → -100 ≤ x → x ≤ 100 → YieldAt Fence.wide (nF - 1) Try.prog l #[.int .i64 x] W1 fun e W' => (e = .returned (.bool true) ∧ J (pre ++ [x]) W') ∨ (e = .returned (.bool false) ∧ Jx (pre ++ [x]) W'))
    (hJ0 : J [] W) :
    CallsIn Fence.wide nF Try.prog 79 #[.func (.yield l) #[] #[], .pointer (some ⟨B0, 0, none⟩), .pointer (some ⟨B1, 0, none⟩)] W fun e W' => (∃ v, e = .returned v) ∧ (J (htL (cvOf L sl rl rh wg ks) p (rh - rl + 1).toNat) W' ∨ ∃ pre, (∀ x, x ∈ pre → HtP (cvOf L sl rl rh wg ks) p x) ∧ Jx pre W') := by
  have f67 : Fence.wide.fn 67 := trivial
  have n1 : 1 ≤ nF := by omega
  have hl2 := hV.out.l2
  have hr1 := hV.out.r1
  have hr0 := hV.out.r0
  have hr2 := hV.out.r2
  have hmm := @run_makeMap Try.prog
  refine callsIn_of_wp Try.func79 rfl trivial ?_ rfl
  simp only [Try.ntmps79, List.size_toArray, List.length_cons, List.length_nil, Nat.reduceAdd, Nat.reduceSub, Array.replicate_succ, Array.replicate_zero, List.push_toArray, List.append_toArray, List.nil_append, List.cons_append]
  obtain ⟨l0, c0, g0⟩ := (hJB _ _ hJ0).1
  gi_wp2
  gi_loopw [4] (fun v wr => ∃ k : Nat, v = .int .i64 (rl + k) ∧ (k : Int) ≤ rh - rl + 1 ∧ J (htL (cvOf L sl rl rh wg ks) p k) wr) (fun v _ => (rh + 1 - iOf v).toNat)
  case atStart => exact ⟨0, by simp, by omega, hJ0⟩
  case round =>
    obtain ⟨k, rfl, hk, hJk⟩ := hrel
    obtain ⟨⟨m0, d0, e0⟩, ⟨m1, d1, e1⟩, hqA⟩ := hJB _ _ hJk
    have HA := Lib.hid hqA
    clear hqA
    by_cases hkP : (k : Int) < rh - rl + 1
    · have hins := MapI.made wr
      gi_wp2_with (first | (gi_at_call 67; fail) | (refine wpIn_insI _ rfl _ _ _ _ rfl Try.underlying68 wr.heap.size 0 _ rfl hins (by omega) p (rl + k) rfl rfl (Go.WalkArith.wf_i64 (by omega)) (Go.WalkArith.wf_i64 (by omega)) ?_; intro w2 hm2 hg2))
      have hb2 : Below wr.heap.size wr w2 := ((Below.refl _ wr).alloc (Nat.le_refl _) _).grown hg2 (by simp) (fun k e => by cases e; exact Nat.le_refl _)
      have hpL : p ≤ (cvOf L sl rl rh wg ks).long := by show p ≤ L.toNat; omega
      refine (callsIn_wide.2 (can67 L sl rl rh wg A n cap ks (.map (some wr.heap.size)) _ (upd (fun _ => none) p (rl + k)) _ (HA.out.below hb2 (Nat.le_refl _)) hn (Or.inr ⟨_, _, rfl, hm2⟩) hV)).mono ?_
      rintro e w3 ⟨r, rfl, hr, hb3⟩
      have hb3' : Below wr.heap.size wr w3 := hb2.trans (hb3.mono hb2.size)
      have hJ3 : J (htL (cvOf L sl rl rh wg ks) p k) w3 := hJ _ _ _ none hJk (grown_of_below hb3') (fun r e => by cases e)
      have hr' := hr.out.trans (hasT_one (cvOf L sl rl rh wg ks) p hpL (rl + k))
      clear hb2 hg2 hm2 hins hb3
      cases r
      · have hno : ¬ HtP (cvOf L sl rl rh wg ks) p (rl + k) := fun h => by have := hr'.2 h; cases this
        gi_wp2
        refine ⟨fun _ h => (by cases h), ?_⟩
        gi_wp2
        go_roundw
        case measure => simp only [iOf]; omega
        case rel =>
          refine ⟨k + 1, by go_num, by omega, ?_⟩
          rw [htL_no (cvOf L sl rl rh wg ks) p k hno]
          exact hJ3
      · have hyes : HtP (cvOf L sl rl rh wg ks) p (rl + k) := hr'.1 rfl
        obtain ⟨fn, tmps, assign, body, hy, hR⟩ := hY _ (rl + k) w3 hJ3 (by have := htL_len (cvOf L sl rl rh wg ks) p k; omega) (by omega) (by omega)
        have HR := Lib.hid hR
        have HY := Lib.hid hyes
        clear hR hyes hr' hr hJ3 hJk hmm hJ0
        gi_wp2
        (try go_simp)
        refine HR.out.mono ?_
        rintro e W4 (⟨rfl, hJ4⟩ | ⟨rfl, hJ4⟩)
        · gi_wp2
          go_roundw
          case measure => simp only [iOf]; omega
          case rel =>
            refine ⟨k + 1, by go_num, by omega, ?_⟩
            rw [htL_yes (cvOf L sl rl rh wg ks) p k HY.out]
            exact hJ4
        · gi_wp2
          (try simp only [Exit.inBlock, Exit.then])
          refine bodyPost_ret (results_none rfl _ _ _) rfl ?_
          refine ⟨⟨_, rfl⟩, Or.inr ⟨_, fun x hx => ?_, hJ4⟩⟩
          rcases List.mem_append.1 hx with h | h
          · exact ((htL_mem (cvOf L sl rl rh wg ks) p x k).1 h).1
          · rw [List.mem_singleton.1 h]; exact HY.out
    · obtain ⟨k', hk'⟩ : ∃ k' : Nat, k' = k := ⟨k, rfl⟩
      have hkk : (rh - rl + 1).toNat = k := by omega
      have HK := Lib.hid hkk
      clear hkk hk'
      gi_wp2
      go_end0
      exact ⟨⟨_, rfl⟩, Or.inl (HK.out ▸ hJk)⟩
theorem heights79 (L sl rl rh wg : Int) (A : Option Addr) (n cap : Nat) (ks : List Kn) (p : Nat) (B0 B1 : Nat) (nF : Nat) (hnF : 2 ≤ nF) (hn : Hid (n = ks.length)) (hV : Hid (CvV L sl rl rh wg ks)) (hp : (p : Int) ≤ L)
    (l : Nat) (J Jx : List Int → World → Prop) (W : World) (hJ : AbidesFrom W.heap.size J) (hJB : ∀ pre W1, J pre W1 → Own W1 B0 [.int .i64 L, .int .i64 sl, .int .i64 rl, .int .i64 rh, .slice A n cap, .int .i64 wg, .map none] ∧ Own W1 B1 [.int .i64 p] ∧ Rd 3 W1 A (ks.map krow))
    (hY : ∀ pre x W1, J pre W1 → pre.length < 201 → -100 ≤ x → x ≤ 100 → YieldAt Fence.wide (nF - 1) Try.prog l #[.int .i64 x] W1 fun e W' => (e = .returned (.bool true) ∧ J (pre ++ [x]) W') ∨ (e = .returned (.bool false) ∧ Jx (pre ++ [x]) W'))
    (hJ0 : J [] W) :
    CallsIn Fence.wide nF Try.prog 79 #[.func (.yield l) #[] #[], .pointer (some ⟨B0, 0, none⟩), .pointer (some ⟨B1, 0, none⟩)] W fun e W' => (∃ v, e = .returned v) ∧ (J (htL (cvOf L sl rl rh wg ks) p (rh - rl + 1).toNat) W' ∨ ∃ pre, Jx pre W') :=
  (heights79s L sl rl rh wg A n cap ks p B0 B1 nF hnF hn hV hp l J Jx W hJ hJB hY hJ0).mono fun _ _ ⟨k1, k2⟩ => ⟨k1, k2.imp id fun ⟨pre, _, k3⟩ => ⟨pre, k3⟩⟩
end Go.Proofs.Ytphcpphmoeiioaa
