/- Walks: the reference, all truths (merged from AlP SlS AlW KnW SpW) -/
import Derived.Test.YtphcpphmoeiioaaRf
import Derived.Test.YtphcpphmoeiioaaCpA
import Derived.Test.YtphcpphmoeiioaaGen
import Derived.Maps.AppendAt
namespace Go.Proofs.Ytphcpphmoeiioaa
open Go.RowKit

section
variable {N : Nat} {sl rl rh : Int}
open Classical in
/-- All rows that begin with fs; n: enough rounds. -/
noncomputable def allF (N : Nat) (sl rl rh : Int) : Nat → List Int → List (List Int)
  | 0, _ => []
  | n + 1, fs => if SoL sl rl rh fs then (if fs.length = N + 1 then [fs] else (List.range (rh - rl + 1).toNat).flatMap fun j : Nat => allF N sl rl rh n (fs ++ [rl + (j : Int)])) else []
noncomputable def allJ (N : Nat) (sl rl rh : Int) (n : Nat) (fs : List Int) (j : Nat) : List (List Int) := (List.range j).flatMap fun j : Nat => allF N sl rl rh n (fs ++ [rl + (j : Int)])
theorem allJ_zero (n : Nat) (fs : List Int) : allJ N sl rl rh n fs 0 = [] := rfl
theorem allJ_succ (n : Nat) (fs : List Int) (j : Nat) : allJ N sl rl rh n fs (j + 1) = allJ N sl rl rh n fs j ++ allF N sl rl rh n (fs ++ [rl + (j : Int)]) := by
  unfold allJ
  rw [List.range_succ, List.flatMap_append]
  simp
theorem allF_no {n : Nat} {fs : List Int} (h : ¬ SoL sl rl rh fs) : allF N sl rl rh n fs = [] := by
  cases n with
  | zero => rfl
  | succ n => rw [allF, if_neg h]
theorem allF_at {n : Nat} {fs : List Int} (h : SoL sl rl rh fs) (hl : fs.length = N + 1) : allF N sl rl rh (n + 1) fs = [fs] := by rw [allF, if_pos h, if_pos hl]
theorem allF_on {n : Nat} {fs : List Int} (h : SoL sl rl rh fs) (hl : fs.length ≠ N + 1) : allF N sl rl rh (n + 1) fs = allJ N sl rl rh n fs (rh - rl + 1).toNat := by rw [allF, if_pos h, if_neg hl]; rfl
theorem fnL_app {fs s : List Int} {i : Nat} (h : i < fs.length) : fnL (fs ++ s) i = fnL fs i := by
  have h1 : (fs ++ s)[i]? = some (fnL (fs ++ s) i) := fnL_at (by rw [List.length_append]; omega)
  rw [List.getElem?_append_left h, fnL_at h] at h1
  exact (Option.some.inj h1).symm
theorem fnL_last (fs : List Int) (x : Int) : fnL (fs ++ [x]) fs.length = x := by
  have h1 : (fs ++ [x])[fs.length]? = some (fnL (fs ++ [x]) fs.length) := fnL_at (by simp)
  simp at h1
  exact h1.symm
theorem soL_pre {fs s : List Int} (h : SoL sl rl rh (fs ++ s)) : SoL sl rl rh fs :=
  ⟨fun i hi => by have := h.1 i (by rw [List.length_append]; omega); rwa [fnL_app hi] at this,
   fun i hi => by have := h.2 i (by rw [List.length_append]; omega); rwa [fnL_app hi, fnL_app (by omega)] at this⟩
/-- Just the rows that are so. -/
theorem mem_allF {l : List Int} : ∀ {n : Nat} {fs : List Int}, fs.length ≤ N + 1 → N + 1 - fs.length < n → (l ∈ allF N sl rl rh n fs ↔ (∃ s, l = fs ++ s) ∧ l.length = N + 1 ∧ SoL sl rl rh l)
  | 0, fs, _, h => by omega
  | n + 1, fs, h1, h2 => by
    by_cases hs : SoL sl rl rh fs
    · by_cases hl : fs.length = N + 1
      · rw [allF_at hs hl, List.mem_singleton]
        constructor
        · rintro rfl
          exact ⟨⟨[], by simp⟩, hl, hs⟩
        · rintro ⟨⟨s, rfl⟩, e, _⟩
          rw [List.length_append] at e
          have : s = [] := List.eq_nil_of_length_eq_zero (by omega)
          rw [this, List.append_nil]
      · rw [allF_on hs hl]
        unfold allJ
        rw [List.mem_flatMap]
        constructor
        · rintro ⟨j, _, h⟩
          obtain ⟨⟨s, e⟩, k1, k2⟩ := (mem_allF (n := n) (by rw [List.length_append, List.length_singleton]; omega) (by rw [List.length_append, List.length_singleton]; omega)).1 h
          exact ⟨⟨[rl + (j : Int)] ++ s, by rw [e, List.append_assoc]⟩, k1, k2⟩
        · rintro ⟨⟨s, rfl⟩, k1, k2⟩
          cases s with
          | nil => simp at k1; omega
          | cons x s =>
            have e : fs ++ x :: s = (fs ++ [x]) ++ s := by simp
            rw [e] at k1 k2 ⊢
            have hx : rl ≤ x ∧ x ≤ rh := by
              have := (soL_pre k2).1 fs.length (by simp)
              rwa [fnL_last] at this
            refine ⟨(x - rl).toNat, List.mem_range.2 (by omega), ?_⟩
            have hj : rl + (((x - rl).toNat : Nat) : Int) = x := by omega
            rw [hj]
            exact (mem_allF (n := n) (by rw [List.length_append, List.length_singleton]; omega) (by rw [List.length_append, List.length_singleton]; omega)).2 ⟨⟨s, rfl⟩, k1, k2⟩
    · rw [allF_no hs]
      constructor
      · intro h; cases h
      · rintro ⟨⟨s, rfl⟩, _, k⟩
        exact absurd (soL_pre k) hs
/-- A sum of numbers at most b, all but those of an interval of c zero. -/
theorem len_flat_le {α : Type} (g : Nat → List α) (b c lo : Nat) (hb : ∀ j, (g j).length ≤ b) (h0 : ∀ j, j < lo ∨ lo + c ≤ j → g j = []) : ∀ m, ((List.range m).flatMap g).length ≤ min (m - lo) c * b
  | 0 => by simp
  | m + 1 => by
    have ih := len_flat_le g b c lo hb h0 m
    rw [List.range_succ, List.flatMap_append, List.length_append]
    have e : ([m].flatMap g).length = (g m).length := by simp
    rw [e]
    by_cases h : m < lo ∨ lo + c ≤ m
    · rw [h0 m h, List.length_nil, Nat.add_zero]
      exact Nat.le_trans ih (Nat.mul_le_mul_right b (by omega))
    · have := hb m
      have e2 : min (m + 1 - lo) c = min (m - lo) c + 1 := by omega
      rw [e2, Nat.add_mul, Nat.one_mul]
      omega
theorem allF_long : ∀ {n : Nat} {fs : List Int}, N + 1 < fs.length → allF N sl rl rh n fs = []
  | 0, _, _ => rfl
  | n + 1, fs, h => by
    by_cases hs : SoL sl rl rh fs
    · rw [allF_on hs (by omega)]
      unfold allJ
      rw [List.flatMap_eq_nil_iff]
      intro j _
      exact allF_long (by rw [List.length_append]; omega)
    · exact allF_no hs
/-- How many choices a height has. -/
def chN (sl rl rh : Int) : Nat := min (rh - rl + 1).toNat (2 * sl + 1).toNat
theorem allJ_len' (h0 : 0 ≤ sl) {n : Nat} (ih : ∀ fs : List Int, fs ≠ [] → (allF N sl rl rh n fs).length ≤ chN sl rl rh ^ (N + 1 - fs.length)) {fs : List Int} (hne : fs ≠ []) (hs : SoL sl rl rh fs) {j : Nat} (hj : j ≤ (rh - rl + 1).toNat) :
    (allJ N sl rl rh n fs j).length ≤ chN sl rl rh * chN sl rl rh ^ (N - fs.length) := by
  obtain ⟨q, hq⟩ : ∃ q, fs.length = q + 1 := ⟨fs.length - 1, by have := List.length_pos_iff.2 hne; omega⟩
  have hlast := hs.1 q (by omega)
  refine Nat.le_trans (len_flat_le (fun j : Nat => allF N sl rl rh n (fs ++ [rl + (j : Int)])) (chN sl rl rh ^ (N - fs.length)) (2 * sl + 1).toNat (fnL fs q - sl - rl).toNat (fun j => ?_) (fun j hj => ?_) j) (Nat.mul_le_mul_right _ ?_)
  · have := ih (fs ++ [rl + (j : Int)]) (by simp)
    rwa [List.length_append, List.length_singleton, show N + 1 - (fs.length + 1) = N - fs.length by omega] at this
  · refine allF_no fun h => ?_
    have k := h.2 q (by rw [List.length_append, List.length_singleton]; omega)
    rw [← hq, fnL_last, fnL_app (by omega)] at k
    omega
  · unfold chN; omega
/-- How many there can be. -/
theorem allF_len (h0 : 0 ≤ sl) : ∀ {n : Nat} {fs : List Int}, fs ≠ [] → (allF N sl rl rh n fs).length ≤ chN sl rl rh ^ (N + 1 - fs.length)
  | 0, fs, _ => Nat.zero_le _
  | n + 1, fs, hne => by
    by_cases hs : SoL sl rl rh fs
    · by_cases hl : fs.length = N + 1
      · rw [allF_at hs hl, hl, Nat.sub_self]
        simp
      · by_cases hl2 : fs.length < N + 1
        · rw [allF_on hs hl]
          have hM := allJ_len' h0 (fun fs h => allF_len h0 (n := n) h) hne hs (Nat.le_refl _)
          have e : N + 1 - fs.length = (N - fs.length) + 1 := by omega
          rw [e, Nat.pow_succ, Nat.mul_comm]
          exact hM
        · rw [allF_long (by omega)]
          exact Nat.zero_le _
    · rw [allF_no hs]; exact Nat.zero_le _
theorem pow_one_le {m a b : Nat} (h : 1 ≤ m) (k : a ≤ b) : m ^ a ≤ m ^ b := Nat.pow_le_pow_right h k
/-- No list of them is longer than what Far allows. -/
theorem allJ_bd (h0 : 0 ≤ sl) (h1 : rl ≤ rh) {n : Nat} {fs : List Int} (hs : SoL sl rl rh fs) {j : Nat} (hj : j ≤ (rh - rl + 1).toNat) : (allJ N sl rl rh n fs j).length ≤ (rh - rl + 1).toNat * chN sl rl rh ^ N := by
  have hm : 1 ≤ chN sl rl rh := by unfold chN; omega
  have hmw : chN sl rl rh ≤ (rh - rl + 1).toNat := by unfold chN; omega
  by_cases hne : fs = []
  · subst hne
    refine Nat.le_trans (len_flat_le (fun j : Nat => allF N sl rl rh n ([] ++ [rl + (j : Int)])) (chN sl rl rh ^ N) (rh - rl + 1).toNat 0 (fun j => ?_) (fun j hj => ?_) j) (Nat.mul_le_mul_right _ (by omega))
    · have := allF_len h0 (N := N) (rl := rl) (rh := rh) (n := n) (fs := [] ++ [rl + (j : Int)]) (by simp)
      simpa using this
    · refine allF_no fun h => ?_
      have := h.1 0 (by simp)
      have e : fnL ([] ++ [rl + (j : Int)]) 0 = rl + j := fnL_last [] _
      rw [e] at this
      omega
  · refine Nat.le_trans (allJ_len' h0 (fun fs h => allF_len h0 (n := n) h) hne hs hj) (Nat.mul_le_mul hmw (pow_one_le hm (by omega)))
theorem allF_bd (h0 : 0 ≤ sl) (h1 : rl ≤ rh) {n : Nat} {fs : List Int} : (allF N sl rl rh n fs).length ≤ (rh - rl + 1).toNat * chN sl rl rh ^ N := by
  have hm : 1 ≤ chN sl rl rh := by unfold chN; omega
  have hw : 1 ≤ (rh - rl + 1).toNat := by omega
  have hp : 1 ≤ chN sl rl rh ^ N := Nat.one_le_pow _ _ (by omega)
  cases n with
  | zero => exact Nat.zero_le _
  | succ n =>
    by_cases hs : SoL sl rl rh fs
    · by_cases hl : fs.length = N + 1
      · rw [allF_at hs hl]
        show 1 ≤ _
        exact Nat.mul_le_mul hw hp
      · rw [allF_on hs hl]
        exact allJ_bd h0 h1 hs (Nat.le_refl _)
    · rw [allF_no hs]; exact Nat.zero_le _
/-- What Far's number is, where it is small. -/
theorem farN_pow {wide m : Int} (hw : 1 ≤ wide) (hm : 1 ≤ m) : ∀ i : Nat, farN wide m i ≤ 1500 → farN wide m i = wide * m ^ i
  | 0, _ => by show wide = wide * m ^ 0; simp
  | i + 1, h => by
    have h' : min 100000 (farN wide m i * m) ≤ 1500 := h
    have e : min 100000 (farN wide m i * m) = farN wide m i * m := by omega
    have hle : farN wide m i * m ≤ 1500 := by omega
    have hpos : 0 ≤ farN wide m i := by
      cases i with
      | zero => show 0 ≤ wide; omega
      | succ i => show 0 ≤ min 100000 (farN wide m i * m); have : 0 ≤ farN wide m i * m := Int.mul_nonneg (farN_nn hw hm i) (by omega); omega
    have h2 : farN wide m i ≤ farN wide m i * m := by
      have := Int.mul_le_mul_of_nonneg_left hm hpos
      omega
    show min 100000 (farN wide m i * m) = wide * m ^ (i + 1)
    rw [e, farN_pow hw hm i (by omega), Int.pow_succ, Int.mul_assoc]
where
  farN_nn {wide m : Int} (hw : 1 ≤ wide) (hm : 1 ≤ m) : ∀ i : Nat, 0 ≤ farN wide m i
    | 0 => by show 0 ≤ wide; omega
    | i + 1 => by
      have := Int.mul_nonneg (farN_nn hw hm i) (show 0 ≤ m by omega)
      show 0 ≤ min 100000 (farN wide m i * m)
      omega
end
/-- A curve that is not far has at most 1500 rows. -/
theorem far_rows {L sl rl rh wg : Int} {ks : List Kn} (hc : chkV L sl rl rh wg ks = true) (hf : farB L sl rl rh wg ks = false) : (rh - rl + 1).toNat * chN sl rl rh ^ L.toNat ≤ 1500 := by
  have hV := cvV_of hc
  have h1 := hV.r0
  have h2 := hV.s1
  unfold farB at hf
  rw [hc] at hf
  simp only [Bool.true_and, Bool.or_eq_false_iff, decide_eq_false_iff_not] at hf
  have h3 : farN (rh - rl + 1) (min (rh - rl + 1) (2 * sl + 1)) L.toNat ≤ 1500 := by omega
  have h4 := farN_pow (by omega) (by omega) L.toNat h3
  rw [h4] at h3
  have e : ((((rh - rl + 1).toNat * chN sl rl rh ^ L.toNat : Nat)) : Int) = (rh - rl + 1) * (min (rh - rl + 1) (2 * sl + 1)) ^ L.toNat := by
    have e1 : (((rh - rl + 1).toNat : Nat) : Int) = rh - rl + 1 := by omega
    have e2 : ((chN sl rl rh : Nat) : Int) = min (rh - rl + 1) (2 * sl + 1) := by unfold chN; omega
    push_cast
    rw [e2]
    have e3 : max (rh - rl + 1) 0 = rh - rl + 1 := by omega
    first | rw [e3] | rw [e1]
  omega
end Go.Proofs.Ytphcpphmoeiioaa
namespace Go.Proofs.Ytphcpphmoeiioaa
open Go.RowKit

section
variable {P : Program} {ops : Array Oper} {Q : Exit → Act → World → Prop} {K : Act → World → Prop}
/-- An empty slice is made. -/
theorem step_empty {o : Oper} {a : Act} {w : World} (hgd : o.guard = none) (t e : TypeId) (size base : Nat) (ho : o.op = Op.buildSlice t 0 #[]) (ht : P.underlying t = some (.slice e)) (i : TypeInfo) (hi : P.info? e = some i) (hb : base ≤ w.heap.size)
    (h : ∀ g w', Gro w' base e size (.slice (some ⟨g, 0, none⟩) 0 0) [] → Below w.heap.size w w' → K (a.put o.dst (.slice (some ⟨g, 0, none⟩) 0 0)) w') : wpHead P ops Q K a w [o] := by
  have hw : Region.wanted o (yielded ops a.tmps) = true := by simp [Region.wanted, hgd]
  simp only [wpHead]
  rw [if_pos hw]
  have hr : (Instr.buildSlice t 0 #[]).run P w = .ok (.slice (some ⟨w.heap.size, 0, none⟩) 0 0) (w.alloc (.cells #[] e)) := by
    simp [Instr.buildSlice, run_underlying ht, sizeOf, typeInfo, hi, Instr.fill, newRow]
    have e0 : Array.map (fun _ => (default : Value)) (Array.range 0) = #[] := by simp [Array.eq_empty_iff_size_eq_zero]
    rw [e0]
  have h' := h w.heap.size _ ⟨fun r hr => (by cases hr), World.ownsRow_made (e := e) (size := size) w #[] 0 hb (by unfold maxLen; omega) (by simp)⟩ ((Below.refl _ _).alloc (Nat.le_refl _) _)
  unfold Oper.wp execOp
  simp only [ho]
  simp [hr, Result.andThen]
  exact h'

/-- A whole slice is appended to an empty one. -/
theorem step_fill {o : Oper} {a : Act} {w : World} (hgd : o.guard = none) (s x : Operand) (t : TypeId) (ho : o.op = Op.call { callee := Callee.builtin Builtin.append, args := #[s, x], argTypes := #[t, t] })
    (base : Nat) (e : TypeId) (i : TypeInfo) (z : Value) (size bytes : Nat) (ht : P.underlying t = some (.slice e)) (hi : P.info? e = some i) (hz : i.zero = some z) (hsize : i.size = size) (hby : i.bytes = bytes) (hzs : z.cells.size = size) (hsz : 0 < size)
    (g : Nat) (hs : a.eval s = .slice (some ⟨g, 0, none⟩) 0 0) (hown : Gro w base e size (.slice (some ⟨g, 0, none⟩) 0 0) []) (hb : base ≤ w.heap.size)
    (A : Option Addr) (n c : Nat) (rows : List (List Value)) (hx : a.eval x = .slice A n c) (hn : n = rows.length) (hR : Rd size w A rows) (hl : ∀ r ∈ rows, r.length = size) (hm : n ≤ maxLen) (h47 : n * bytes ≤ 140737488355328)
    (h : ∀ v' w', Gro w' base e size v' rows → Below w.heap.size w w' → K (a.put o.dst v') w') : wpHead P ops Q K a w [o] := by
  have hw : Region.wanted o (yielded ops a.tmps) = true := by simp [Region.wanted, hgd]
  simp only [wpHead]
  rw [if_pos hw]
  rcases Nat.eq_zero_or_pos n with h0 | h0
  · have hr : (Builtin.append_ #[t, t] o.type #[.slice (some ⟨g, 0, none⟩) 0 0, .slice A 0 c]).run P w = .ok (.slice (some ⟨g, 0, none⟩) 0 0) w := by
      cases A <;> simp [Builtin.append_, run_underlying ht, sizeOf, typeInfo, hi, Builtin.lenOf, Builtin.firstCells, storeCells, loadCells, loadCellsFrom]
    subst h0
    obtain rfl : rows = [] := List.eq_nil_of_length_eq_zero hn.symm
    unfold Oper.wp execOp
    simp only [ho, resolve, invoke, builtin, Sem.run_bind, Sem.run_pure, Result.andThen_ok, List.map_toArray, List.map_cons, List.map_nil, hs, hx, hr]
    exact h _ _ hown (Below.refl _ _)
  · obtain ⟨ad, rfl, hc⟩ := hR.news hsz hl (by omega)
    obtain ⟨v', w', hr, r1, r2⟩ := run_append_arg_grows (P := P) w t o.type e i z size bytes ht hi hz hsize hby hzs hsz ⟨g, 0, none⟩ 0 0 [] (by simp) (fun j u hj => by simp at hj) ad n c rows.flatten (by rw [flatten_len hl, hn]) hc (by omega) (by omega) (by rw [Nat.zero_add]; exact h47)
    unfold Oper.wp execOp
    simp only [ho, resolve, invoke, builtin, Sem.run_bind, Sem.run_pure, Result.andThen_ok, List.map_toArray, List.map_cons, List.map_nil, hs, hx, hr]
    refine h _ _ ⟨hl, ?_⟩ ((Below.refl _ _).grown r2 (Nat.le_refl _) (fun _ e => by cases e))
    rw [← hn]
    have := ownsRow_base r1 hb
    simpa using this
end
section
variable {P : Program} {Q : Exit → Act → World → Prop} {S : World → Prop} {l : List Oper}
/-- One of several. -/
theorem rg_many {fuel fuel' : Nat} {listed : Array Bool} {a : Act} {w : World} (cs : List Nat) (hf : fuel' = fuel + 1) (hne : cs ≠ []) (h2 : belowB l.length cs = true) (h4 : Region.ready .any l.toArray listed = cs)
    (h : ∀ c ∈ cs, ∀ K' : Act → World → Prop, Shut (∀ a2 w2, S w2 → RG P l Q S fuel (listed.setIfInBounds c true) a2 w2 → K' a2 w2) → wpHead P l.toArray Q K' a w (pick1 l c)) : RG P l Q S fuel' listed a w := by
  subst hf
  refine wpAnyH_all h4 hne ?_
  intro i hi
  obtain ⟨oc, hp, hc⟩ := pick1_lt l i (by simpa using List.all_eq_true.1 h2 i hi)
  have h' := h i hi
  rw [hp] at h'
  exact wpOp_step (o := oc) (by simpa using hc) (fun K' hK => h' K' fun a2 w2 hS hR => hK a2 w2 ⟨hS, hR⟩)
end
/-- Block b is one's own, of type t, and holds just these cells. -/
def OwnT (w : World) (b : Nat) (t : TypeId) (vs : List Value) : Prop := w.heap[b]? = some (.cells vs.toArray t (0, 0))
theorem OwnT.lt {w : World} {b : Nat} {t : TypeId} {vs : List Value} (h : OwnT w b t vs) : b < w.heap.size := (Array.getElem?_eq_some_iff.1 h).1
theorem OwnT.own {w : World} {b : Nat} {t : TypeId} {vs : List Value} (h : OwnT w b t vs) : Own w b vs :=
  ⟨h.lt, fun i => by simp [World.cell?, show w.heap[b]? = _ from h], fun i => by simp [World.frozen?, show w.heap[b]? = _ from h]⟩
theorem OwnT.below {w w' : World} {b B : Nat} {t : TypeId} {vs : List Value} (h : OwnT w b t vs) (k : Below B w w') (hb : b < B) : OwnT w' b t vs := (k.block b hb).trans h
theorem OwnT.new (w : World) (c : Array Value) (t : TypeId) : OwnT (w.alloc (.cells c t)) w.heap.size t c.toList := by
  unfold OwnT
  rw [Array.toArray_toList]
  exact (MapKept.heap_alloc w _).1
theorem OwnT.apart {w : World} {b base e sz : Nat} {t : TypeId} {vs : List Value} {v : Value} {rows : List (List Value)} (h : OwnT w b t vs) (k : Gro w base e sz v rows) (hne : e ≠ t) : v.ownBlock ≠ some b := by
  rcases k.2.2 with ⟨rfl, _⟩ | ⟨g1, cap1, cur1, rfl, _, h1, _⟩
  · simp [Value.ownBlock]
  · simp only [Value.ownBlock]
    intro e
    cases e
    rw [show w.heap[b]? = _ from h] at h1
    cases h1
    exact hne rfl
theorem OwnT.set {w : World} {b : Nat} {t : TypeId} {vs : List Value} (h : OwnT w b t vs) (j : Nat) (u : Value) : OwnT (w.setCell ⟨b, j, none⟩ u) b t (vs.set j u) := by
  have := heap_setCell_cells h j u
  unfold OwnT
  rw [this, List.setIfInBounds_toArray]
theorem OwnT.setOther {w : World} {b g : Nat} {t : TypeId} {vs : List Value} (h : OwnT w b t vs) (hne : b ≠ g) (j : Nat) (u : Value) : OwnT (w.setCell ⟨g, j, none⟩ u) b t vs := by
  unfold OwnT
  rw [Below.heap_setCell _ _ _ _ hne]; exact h
theorem Gro.keptBy {w w' : World} {base e sz : Nat} {v : Value} {rows : List (List Value)} {row : Option Nat} (h : Gro w base e sz v rows) (hg : w.grownBy w' row) (hne : v.ownBlock = none ∨ v.ownBlock ≠ row) : Gro w' base e sz v rows := ⟨h.1, h.2.kept hg hne⟩
theorem OwnT.keptBy {w w' : World} {b : Nat} {t : TypeId} {vs : List Value} {row : Option Nat} (h : OwnT w b t vs) (hg : w.grownBy w' row) (hne : some b ≠ row) : OwnT w' b t vs := (hg.block b h.lt hne).trans h
theorem Own.keptBy {w w' : World} {b : Nat} {vs : List Value} {row : Option Nat} (h : Own w b vs) (hg : w.grownBy w' row) (hne : some b ≠ row) : Own w' b vs :=
  ⟨Nat.lt_of_lt_of_le h.lt hg.size, fun i => (World.cell?_of_block (hg.block b h.lt hne)).trans (h.c i), fun i => (World.frozen?_of_block (hg.block b h.lt hne)).trans (h.f i)⟩
theorem Gro.apart2 {w : World} {base e sz base' e' sz' : Nat} {v v' : Value} {rows rows' : List (List Value)} (h : Gro w base e sz v rows) (k : Gro w base' e' sz' v' rows') (hne : e ≠ e') : v.ownBlock = none ∨ v.ownBlock ≠ v'.ownBlock := by
  rcases h.2.2 with ⟨rfl, _⟩ | ⟨g1, cap1, cur1, rfl, _, h1, _⟩
  · exact Or.inl rfl
  · right
    rcases k.2.2 with ⟨rfl, _⟩ | ⟨g2, cap2, cur2, rfl, _, h2, _⟩
    · simp [Value.ownBlock]
    · simp only [Value.ownBlock]
      intro e
      cases e
      rw [h1] at h2
      cases h2
      exact hne rfl
theorem Gro.above {w : World} {base e sz base' : Nat} {v v' : Value} {rows : List (List Value)} (h : Gro w base e sz v rows) (k : ∀ g, v'.ownBlock = Option.some g → base' ≤ g ∧ g < base) : v.ownBlock = none ∨ v.ownBlock ≠ v'.ownBlock := by
  cases hv : v.ownBlock with
  | none => exact Or.inl rfl
  | some g =>
    right
    intro e
    have h1 := (h.2.lt g hv).1
    have h2 := (k g e.symm).2
    omega
section
variable {P : Program} {ops : Array Oper} {Q : Exit → Act → World → Prop} {K : Act → World → Prop}
theorem run_append_nothing {w : World} (t ty e base size n : Nat) (i : TypeInfo) (ht : P.underlying t = some (.slice e)) (hi : P.info? e = some i) (v : Value) (xs : List Value) (hown : w.ownsRow base e size v n xs) (A : Option Addr) (c : Nat) :
    (Builtin.append_ #[t, t] ty #[v, .slice A 0 c]).run P w = .ok v w := by
  rcases hown.2 with ⟨rfl, rfl⟩ | ⟨g, cap, cur, rfl, _, _, hnc, _⟩
  · cases A <;> simp [Builtin.append_, run_underlying ht, sizeOf, typeInfo, hi, Builtin.lenOf, Builtin.firstCells, loadCells, loadCellsFrom]
  · cases A <;> simp [Builtin.append_, run_underlying ht, sizeOf, typeInfo, hi, Builtin.lenOf, Builtin.firstCells, hnc, storeCells, loadCells, loadCellsFrom]
/-- A whole slice is appended to a row of one's own. -/
theorem wp_app {o : Oper} {a : Act} {w : World} (s x : Operand) (t : TypeId) (ho : o.op = Op.call { callee := Callee.builtin Builtin.append, args := #[s, x], argTypes := #[t, t] })
    (base : Nat) (e : TypeId) (i : TypeInfo) (z : Value) (size bytes : Nat) (ht : P.underlying t = some (.slice e)) (hi : P.info? e = some i) (hz : i.zero = some z) (hsize : i.size = size) (hby : i.bytes = bytes) (hzs : z.cells.size = size) (hsz : 0 < size)
    (v : Value) (rows0 : List (List Value)) (hs : a.eval s = v) (hown : Gro w base e size v rows0) (hb : base ≤ w.heap.size)
    (A : Option Addr) (n c : Nat) (rows : List (List Value)) (hx : a.eval x = .slice A n c) (hn : n = rows.length) (hR : Rd size w A rows) (hl : ∀ r ∈ rows, r.length = size) (h1 : ∀ r ∈ rows, ∀ u ∈ r, u.oneCell' = true)
    (hm : rows0.length + n ≤ maxLen) (h47 : (rows0.length + n) * bytes ≤ 140737488355328)
    (h : ∀ v' w', Gro w' base e size v' (rows0 ++ rows) → w.grownBy w' v.ownBlock → K (a.put o.dst v') w') : o.wp P a w K Q := by
  rcases Nat.eq_zero_or_pos n with h0 | h0
  · subst h0
    obtain rfl : rows = [] := List.eq_nil_of_length_eq_zero hn.symm
    have hr := run_append_nothing (P := P) t o.type e base size rows0.length i ht hi v _ hown.2 A c
    unfold Oper.wp execOp
    simp only [ho, resolve, invoke, builtin, Sem.run_bind, Sem.run_pure, Result.andThen_ok, List.map_toArray, List.map_cons, List.map_nil, hs, hx, hr]
    exact h _ _ (by simpa using hown) (⟨rfl, rfl, rfl, Nat.le_refl _, fun _ _ _ => rfl⟩)
  · obtain ⟨ad, rfl, hc⟩ := hR.news hsz hl (by omega)
    refine wp_append_own w s x t ho base e i z size bytes ht hi hz hsize hby hzs hsz v rows0.length rows0.flatten hs hown.2 ad n c rows.flatten hx (by rw [flatten_len hl, hn]) hc (fun u hu => ?_) hm h47 hb fun v' w' h2 h3 _ => h v' w' ⟨fun r hr => ?_, ?_⟩ h3
    · obtain ⟨r, hr, hu⟩ := List.mem_flatten.1 hu
      exact h1 r hr u hu
    · rcases List.mem_append.1 hr with h | h
      · exact hown.1 r h
      · exact hl r h
    · rw [List.length_append, List.flatten_append, ← hn]; exact h2
theorem step_app {o : Oper} {a : Act} {w : World} (hgd : o.guard = none) (s x : Operand) (t : TypeId) (ho : o.op = Op.call { callee := Callee.builtin Builtin.append, args := #[s, x], argTypes := #[t, t] })
    (base : Nat) (e : TypeId) (i : TypeInfo) (z : Value) (size bytes : Nat) (ht : P.underlying t = some (.slice e)) (hi : P.info? e = some i) (hz : i.zero = some z) (hsize : i.size = size) (hby : i.bytes = bytes) (hzs : z.cells.size = size) (hsz : 0 < size)
    (v : Value) (rows0 : List (List Value)) (hs : a.eval s = v) (hown : Gro w base e size v rows0) (hb : base ≤ w.heap.size)
    (A : Option Addr) (n c : Nat) (rows : List (List Value)) (hx : a.eval x = .slice A n c) (hn : n = rows.length) (hR : Rd size w A rows) (hl : ∀ r ∈ rows, r.length = size) (h1 : ∀ r ∈ rows, ∀ u ∈ r, u.oneCell' = true)
    (hm : rows0.length + n ≤ maxLen) (h47 : (rows0.length + n) * bytes ≤ 140737488355328)
    (h : ∀ v' w', Gro w' base e size v' (rows0 ++ rows) → w.grownBy w' v.ownBlock → K (a.put o.dst v') w') : wpHead P ops Q K a w [o] := by
  have hw : Region.wanted o (yielded ops a.tmps) = true := by simp [Region.wanted, hgd]
  simp only [wpHead]
  rw [if_pos hw]
  exact wp_app s x t ho base e i z size bytes ht hi hz hsize hby hzs hsz v rows0 hs hown hb A n c rows hx hn hR hl h1 hm h47 h
end
/-- Where what is appended to lies apart from what was there. -/
theorem Gro.room {w0 w w' : World} {B e sz : Nat} {v : Value} {rows : List (List Value)} (h : Gro w B e sz v rows) (hb : Below B w0 w) (hg : w.grownBy w' v.ownBlock) (hB : B ≤ w.heap.size) : Below B w0 w' :=
  hb.grown hg hB (fun i hi => (h.2.lt i hi).1)

/-- A slice among slices: address, length, capacity. -/
abbrev Sl := Option Addr × Nat × Nat
def slv (x : Sl) : Value := .slice x.1 x.2.1 x.2.2
def slrow (x : Sl) : List Value := [slv x]
/-- What lies at this address is of this type. -/
def TyB (w : World) (A : Option Addr) (e : TypeId) : Prop := ∀ a, A = some a → ∃ cur fr, w.heap[a.block]? = some (.cells cur e fr)
theorem TyB.below {w w' : World} {A : Option Addr} {e : TypeId} {B : Nat} (h : TyB w A e) (k : Below B w w') (hB : w.heap.size ≤ B) : TyB w' A e := fun a ha => by
  obtain ⟨cur, fr, h1⟩ := h a ha
  exact ⟨cur, fr, (k.block _ (Nat.lt_of_lt_of_le (Array.getElem?_eq_some_iff.1 h1).1 hB)).trans h1⟩
theorem Gro.ty {w : World} {base e sz n c : Nat} {A : Option Addr} {rows : List (List Value)} (h : Gro w base e sz (.slice A n c) rows) : TyB w A e := fun a ha => by
  subst ha
  rcases h.2.2 with ⟨h2, _⟩ | ⟨g2, cap2, cur2, hv, _, h2, _⟩
  · cases h2
  · cases hv; exact ⟨_, _, h2⟩
theorem TyB.apart {w : World} {a : Addr} {e base e' sz : Nat} {v : Value} {rows : List (List Value)} (h : TyB w (some a) e) (k : Gro w base e' sz v rows) (hne : e ≠ e') : some a.block ≠ v.ownBlock := by
  obtain ⟨cur, fr, h1⟩ := h a rfl
  rcases k.2.2 with ⟨rfl, _⟩ | ⟨g2, cap2, cur2, rfl, _, h2, _⟩
  · simp [Value.ownBlock]
  · simp only [Value.ownBlock]
    intro e
    cases e
    rw [h1] at h2
    cases h2
    exact hne rfl
theorem TyB.keptBy {w w' : World} {A : Option Addr} {e base e' sz : Nat} {v : Value} {rows : List (List Value)} (h : TyB w A e) (hg : w.grownBy w' v.ownBlock) (k : Gro w base e' sz v rows) (hne : e ≠ e') : TyB w' A e := fun a ha => by
  subst ha
  have h0 := h.apart k hne
  obtain ⟨cur, fr, h1⟩ := h a rfl
  exact ⟨cur, fr, (hg.block _ (Array.getElem?_eq_some_iff.1 h1).1 h0).trans h1⟩
theorem RdI.keptBy {w w' : World} {A : Option Addr} {e base e' sz : Nat} {v : Value} {rows : List (List Value)} {l : List Int} (hr : RdI w A l) (h : TyB w A e) (hg : w.grownBy w' v.ownBlock) (k : Gro w base e' sz v rows) (hne : e ≠ e') : RdI w' A l := by
  refine ⟨fun i hi => ?_⟩
  obtain ⟨b, off, rfl, hb, hc⟩ := Rd.at_ hr i hi
  have h0 := h.apart k hne
  exact ⟨b, off, rfl, Nat.lt_of_lt_of_le hb hg.size, fun j r hj c u hu => (World.cell?_of_block (hg.block b hb h0)).trans (hc j r hj c u hu)⟩
/-- These slices read as these rows of numbers. -/
structure InLs (w : World) (xs : List Sl) (ls : List (List Int)) : Prop where
  len : xs.length = ls.length
  at_ : ∀ (i : Nat) (x : Sl) (l : List Int), xs[i]? = some x → ls[i]? = some l → x.2.1 = l.length ∧ RdI w x.1 l ∧ TyB w x.1 3
theorem InLs.nil (w : World) : InLs w [] [] := ⟨rfl, fun i x l h => by simp at h⟩
theorem InLs.below {w w' : World} {xs : List Sl} {ls : List (List Int)} {B : Nat} (h : InLs w xs ls) (k : Below B w w') (hB : w.heap.size ≤ B) : InLs w' xs ls :=
  ⟨h.len, fun i x l hx hl => ⟨(h.at_ i x l hx hl).1, (h.at_ i x l hx hl).2.1.below k hB, (h.at_ i x l hx hl).2.2.below k hB⟩⟩
theorem InLs.keptBy {w w' : World} {xs : List Sl} {ls : List (List Int)} {base e sz : Nat} {v : Value} {rows : List (List Value)} (h : InLs w xs ls) (hg : w.grownBy w' v.ownBlock) (k : Gro w base e sz v rows) (hne : 3 ≠ e) : InLs w' xs ls :=
  ⟨h.len, fun i x l hx hl => ⟨(h.at_ i x l hx hl).1, (h.at_ i x l hx hl).2.1.keptBy (h.at_ i x l hx hl).2.2 hg k hne, (h.at_ i x l hx hl).2.2.keptBy hg k hne⟩⟩
theorem InLs.append {w : World} {xs ys : List Sl} {ls ms : List (List Int)} (h : InLs w xs ls) (k : InLs w ys ms) : InLs w (xs ++ ys) (ls ++ ms) := by
  refine ⟨by rw [List.length_append, List.length_append, h.len, k.len], fun i x l hx hl => ?_⟩
  by_cases hi : i < xs.length
  · rw [List.getElem?_append_left hi] at hx
    rw [List.getElem?_append_left (by have := h.len; omega)] at hl
    exact h.at_ i x l hx hl
  · rw [List.getElem?_append_right (by omega)] at hx
    rw [List.getElem?_append_right (by have := h.len; omega), ← h.len] at hl
    exact k.at_ _ x l hx hl
theorem InLs.one {w : World} {A : Option Addr} {n c : Nat} {l : List Int} (hn : n = l.length) (h : RdI w A l) (ht : TyB w A 3) : InLs w [(A, n, c)] [l] := by
  refine ⟨rfl, fun i x m hx hm => ?_⟩
  cases i with
  | zero => simp at hx hm; subst hx; subst hm; exact ⟨hn, h, ht⟩
  | succ i => simp at hx
theorem slrow_len {xs : List Sl} : ∀ r ∈ xs.map slrow, r.length = 1 := fun r hr => by obtain ⟨x, _, rfl⟩ := List.mem_map.1 hr; rfl
theorem slrow_one {xs : List Sl} : ∀ r ∈ xs.map slrow, ∀ u ∈ r, u.oneCell' = true := fun r hr u hu => by
  obtain ⟨x, _, rfl⟩ := List.mem_map.1 hr
  simp [slrow] at hu
  subst hu
  rfl
theorem irow_len {xs : List Int} : ∀ r ∈ xs.map irow, r.length = 1 := fun r hr => by obtain ⟨x, _, rfl⟩ := List.mem_map.1 hr; rfl
theorem irow_one {xs : List Int} : ∀ r ∈ xs.map irow, ∀ u ∈ r, u.oneCell' = true := fun r hr u hu => by
  obtain ⟨x, _, rfl⟩ := List.mem_map.1 hr
  simp [irow] at hu
  subst hu
  rfl
/-- A slice of slices reads as these lists. -/
def RdLL (w : World) (A : Option Addr) (ls : List (List Int)) : Prop := ∃ xs : List Sl, Rd 1 w A (xs.map slrow) ∧ InLs w xs ls
theorem RdLL.below {w w' : World} {A : Option Addr} {ls : List (List Int)} {B : Nat} (h : RdLL w A ls) (k : Below B w w') (hB : w.heap.size ≤ B) : RdLL w' A ls := by
  obtain ⟨xs, h1, h2⟩ := h
  exact ⟨xs, h1.below k hB, h2.below k hB⟩
/-- One of its slices. -/
theorem RdLL.elem {w : World} {A : Option Addr} {ls : List (List Int)} (h : RdLL w A ls) {i : Nat} {l : List Int} (hi : ls[i]? = some l) :
    ∃ b off A' c, A = some ⟨b, off, none⟩ ∧ b < w.heap.size ∧ w.cell? ⟨b, off + i, none⟩ = some (.slice A' l.length c) ∧ RdI w A' l := by
  obtain ⟨xs, h1, h2⟩ := h
  have hlt := (List.getElem?_eq_some_iff.1 hi).1
  obtain ⟨x, hx⟩ : ∃ x, xs[i]? = some x := ⟨xs[i]'(by rw [h2.len]; exact hlt), by simp⟩
  obtain ⟨b, off, e, hb, hc⟩ := h1.elem (i := i) (r := slrow x) (by rw [List.getElem?_map, hx]; rfl)
  obtain ⟨hn, hr, _⟩ := h2.at_ i x l hx hi
  refine ⟨b, off, x.1, x.2.2, e, hb, ?_, hr⟩
  have := hc 0 (slv x) rfl
  rw [Nat.mul_one, Nat.add_zero] at this
  rw [this, ← hn]; rfl
theorem Gro.rdLL {w : World} {base : Nat} {v : Value} {xs : List Sl} {ls : List (List Int)} (h : Gro w base 44 1 v (xs.map slrow)) (k : InLs w xs ls) : ∃ A c, v = .slice A ls.length c ∧ RdLL w A ls := by
  obtain ⟨A, c, e, hr⟩ := h.out
  rw [List.length_map, k.len] at e
  exact ⟨A, c, e, xs, hr, k⟩
theorem OwnT.rdI {w : World} {b : Nat} {t : TypeId} {x : Int} (h : OwnT w b t [.int .i64 x]) : RdI w (some ⟨b, 0, none⟩) [x] := by
  refine Rd.mk' h.lt fun j r hj c u hu => ?_
  cases j with
  | zero =>
    simp [irow] at hj
    subst hj
    cases c with
    | zero => simp at hu; subst hu; exact h.own.c 0
    | succ c => simp at hu
  | succ j => simp at hj
theorem OwnT.rdSl {w : World} {b : Nat} {t : TypeId} {x : Sl} (h : OwnT w b t [slv x]) : Rd 1 w (some ⟨b, 0, none⟩) ([x].map slrow) := by
  refine Rd.mk' h.lt fun j r hj c u hu => ?_
  cases j with
  | zero =>
    simp [slrow] at hj
    subst hj
    cases c with
    | zero => simp at hu; subst hu; exact h.own.c 0
    | succ c => simp at hu
  | succ j => simp at hj
theorem RdLL.elemT {w : World} {A : Option Addr} {ls : List (List Int)} (h : RdLL w A ls) {i : Nat} {l : List Int} (hi : ls[i]? = some l) :
    ∃ b off A' c, A = some ⟨b, off, none⟩ ∧ b < w.heap.size ∧ w.cell? ⟨b, off + i, none⟩ = some (.slice A' l.length c) ∧ RdI w A' l ∧ TyB w A' 3 := by
  obtain ⟨xs, h1, h2⟩ := h
  have hlt := (List.getElem?_eq_some_iff.1 hi).1
  obtain ⟨x, hx⟩ : ∃ x, xs[i]? = some x := ⟨xs[i]'(by rw [h2.len]; exact hlt), by simp⟩
  obtain ⟨b, off, e, hb, hc⟩ := h1.elem (i := i) (r := slrow x) (by rw [List.getElem?_map, hx]; rfl)
  obtain ⟨hn, hr, ht⟩ := h2.at_ i x l hx hi
  refine ⟨b, off, x.1, x.2.2, e, hb, ?_, hr, ht⟩
  have := hc 0 (slv x) rfl
  rw [Nat.mul_one, Nat.add_zero] at this
  rw [this, ← hn]; rfl
theorem filter_one {α : Type} (p : α → Bool) (a : α) : [a].filter p = if p a = true then [a] else [] := by
  cases h : p a <;> simp [h]
theorem take_filter {α : Type} {p : α → Bool} {ls : List α} {k : Nat} {l : α} (h : ls[k]? = some l) : (ls.take (k + 1)).filter p = (ls.take k).filter p ++ (if p l = true then [l] else []) := by
  rw [take_snoc h, List.filter_append, filter_one]
end Go.Proofs.Ytphcpphmoeiioaa
namespace Go.Proofs.Ytphcpphmoeiioaa
open Go.RowKit

theorem info3 : (Try.prog.info? 3).map (fun i => (i.zero, i.size, i.bytes)) = some (some (.int .i64 0), 1, 8) := by kernel_rfl
theorem info44 : (Try.prog.info? 44).map (fun i => (i.zero, i.size, i.bytes)) = some (some (.slice none 0 0), 1, 24) := by kernel_rfl
set_option maxRecDepth 100000 in
set_option maxHeartbeats 8000000 in
theorem all74 (L sl rl rh wg : Int) (S : Value) (hL : 1 ≤ L ∧ L ≤ 12) (hs : 0 ≤ sl ∧ sl ≤ 20) (hr : -100 ≤ rl ∧ rl ≤ rh ∧ rh ≤ 100) (hbd : Hid ((rh - rl + 1).toNat * chN sl rl rh ^ L.toNat ≤ 1500)) : ∀ (n : Nat) (fs : List Int) (A : Option Addr) (c : Nat) (w : World), fs.length ≤ L.toNat + 1 → L.toNat + 1 - fs.length < n → n ≤ 14 → RdI w A fs → TyB w A 3 →
    Calls Try.prog 74 #[.agg #[.int .i64 L, .int .i64 sl, .int .i64 rl, .int .i64 rh, S, .int .i64 wg], .slice A fs.length c] w fun e w' => ∃ (A' : Option Addr) (c' : Nat), e = .returned (.slice A' (allF L.toNat sl rl rh n fs).length c') ∧ RdLL w' A' (allF L.toNat sl rl rh n fs) ∧ Below w.heap.size w w'
  | 0, fs, A, c, w, h1, h2, h3, h6, h7 => by omega
  | n + 1, fs, A, c, w, h1, h2, h3, h6, h7 => by
    obtain ⟨i0, hi0, hi1, hi2, hi3⟩ := info_parts info3
    obtain ⟨j0, hj0, hj1, hj2, hj3⟩ := info_parts info44
    have HF := Lib.hid h6
    have HT := Lib.hid h7
    have hr1 := hr.1
    have hr2 := hr.2.1
    have hr3 := hr.2.2
    have hs1 := hs.1
    have hs2 := hs.2
    have hL1 := hL.1
    have hL2 := hL.2
    have HRec := Lib.hid (all74 L sl rl rh wg S hL hs hr hbd n)
    have hwl := IntWalk.i64_in (L + 1) (by omega)
    clear h6 h7 all74
    go_enter Try.func74, Try.ntmps74
    go_wp2_with fail
    refine (isSo77 L sl rl rh wg S A fs.length c fs _ (HF.out.below (B := w.heap.size) (by (repeat' (first | (with_reducible exact Below.refl _ _) | (with_reducible assumption) | (with_reducible refine Below.drew ?_) | (with_reducible refine below_drewN ?_ _) | (with_reducible refine Below.setCell ?_ ?_ _) | (with_reducible refine Below.alloc ?_ ?_ _) | (refine Below.trans ?_ (Below.mono (by with_reducible assumption) ?_)) | omega | (exact Below.size (by with_reducible assumption)) | (simp; done) | (simp; omega)))) (Nat.le_refl _)) (Lib.hid rfl) (by omega) hr1 hr3 hs1 hs2).mono ?_
    rintro e w1 ⟨v, rfl, hv, hb1⟩
    have o0 : Own w1 w.heap.size [.int .i64 L, .int .i64 sl, .int .i64 rl, .int .i64 rh, S, .int .i64 wg] := (Own.new' _ _ rfl rfl).below hb1 (by simp)
    have oB : Below w.heap.size w w1 := by (repeat' (first | (with_reducible exact Below.refl _ _) | (with_reducible assumption) | (with_reducible refine Below.drew ?_) | (with_reducible refine below_drewN ?_ _) | (with_reducible refine Below.setCell ?_ ?_ _) | (with_reducible refine Below.alloc ?_ ?_ _) | (refine Below.trans ?_ (Below.mono (by with_reducible assumption) ?_)) | omega | (exact Below.size (by with_reducible assumption)) | (simp; done) | (simp; omega)))
    clear hb1
    have hz1 := o0.lt
    rcases hv.out with ⟨rfl, hso⟩ | ⟨rfl, hso⟩
    rotate_left
    · have HW : Hid (allF L.toNat sl rl rh (n + 1) fs = []) := allF_no hso
      have HB := Lib.hid oB
      clear hso hv
      go_wp2
      go_ret
      rw [HW.out]
      exact ⟨none, 0, rfl, ⟨[], Rd.nil _ _ _, InLs.nil _⟩, HB.out⟩
    have HSO := Lib.hid hso
    clear hv hso
    obtain ⟨l0, k0, f0⟩ := o0
    have o0 := Own.mk l0 k0 f0
    by_cases hnt : fs.length = L.toNat + 1
    · have HW : Hid (allF L.toNat sl rl rh (n + 1) fs = [fs]) := allF_at HSO.out hnt
      have t1 : OwnT (w1.alloc (.cells #[.slice A fs.length c] 44)) w1.heap.size 44 [.slice A fs.length c] := OwnT.new w1 #[.slice A fs.length c] 44
      have hB2 : Below w.heap.size w (w1.alloc (.cells #[.slice A fs.length c] 44)) := oB.alloc oB.size _
      have HLL : Hid (RdLL (w1.alloc (.cells #[.slice A fs.length c] 44)) (some ⟨w1.heap.size, 0, none⟩) [fs]) :=
        ⟨[(A, fs.length, c)], t1.rdSl, InLs.one rfl (HF.out.below hB2 (Nat.le_refl _)) (HT.out.below hB2 (Nat.le_refl _))⟩
      have heq : (((fs.length : Nat) : Int) == L + 1) = true := by simp; omega
      have HB2 := Lib.hid hB2
      clear t1 hnt hB2
      go_wp2
      go_ret
      rw [HW.out]
      exact ⟨_, _, rfl, HLL.out, HB2.out⟩
    · have hne : (((fs.length : Nat) : Int) == L + 1) = false := by simp; omega
      have HW : Hid (allF L.toNat sl rl rh (n + 1) fs = allJ L.toNat sl rl rh n fs (rh - rl + 1).toNat) := allF_on HSO.out hnt
      have hlt : fs.length < L.toNat + 1 := by omega
      obtain ⟨wd, hwd⟩ : ∃ x : Nat, x = (rh - rl + 1).toNat := ⟨_, rfl⟩
      have hwd2 : (wd : Int) = rh - rl + 1 := by omega
      rw [← hwd] at HW
      have hWD := Lib.hid hwd
      clear hwd hnt
      go_wp2
      go_loopg [5, 6] wd (fun K v y wr => ∃ (k : Nat) (xs : List Sl), K + k = wd ∧ y = .int .i64 (rl + (k : Int)) ∧ Own wr w.heap.size [.int .i64 L, .int .i64 sl, .int .i64 rl, .int .i64 rh, S, .int .i64 wg] ∧ Gro wr (w.heap.size + 1) 44 1 v (xs.map slrow) ∧ InLs wr xs (allJ L.toNat sl rl rh n fs k) ∧ Below w.heap.size w wr)
      case atStart => exact ⟨0, [], by omega, (by simp), o0, Gro.nil _ _ _ _, InLs.nil _, oB⟩
      case round =>
        clear o0 oB hz1 l0 k0 f0
        obtain ⟨k, xs, hk, rfl, q0, hg, hin, hbw⟩ := hrel
        obtain ⟨wo, rfl⟩ : ∃ wo : World, wo = wr := ⟨_, rfl⟩
        obtain ⟨PA, pc, rfl, hrd⟩ := hg.out
        have hxl := Lib.hid hin.len
        rw [List.length_map]
        rw [List.length_map] at hg
        obtain ⟨l0, k0, f0⟩ := q0
        have q0 := Own.mk l0 k0 f0
        by_cases hkt : k < wd
        · have HJ : Hid (allJ L.toNat sl rl rh n fs (k + 1) = allJ L.toNat sl rl rh n fs k ++ allF L.toNat sl rl rh n (fs ++ [rl + (k : Int)])) := allJ_succ n fs k
          have p0 := q0
          have g4 := hg
          have i4 := hin
          have hB4 := hbw
          obtain ⟨w4, rfl⟩ : ∃ x : World, x = wo := ⟨_, rfl⟩
          have HWJ : Hid ((allJ L.toNat sl rl rh n fs k).length ≤ 1500) := Nat.le_trans (allJ_bd hs1 hr2 HSO.out (by have := hWD.out; omega)) hbd.out
          have HWF : Hid ((allF L.toNat sl rl rh n (fs ++ [rl + (k : Int)])).length ≤ 1500) := Nat.le_trans (allF_bd hs1 hr2) hbd.out
          clear hrd
          go_wp2
          clear q0 hg hin hbw l0 k0 f0
          replace p0 := p0.drew
          replace hB4 := hB4.drew
          replace g4 : Gro w4.drew _ _ _ _ _ := g4
          replace i4 := i4.below (Below.refl w4.heap.size w4).drew (Nat.le_refl _)
          refine rg_start (fun w' => Own w' w.heap.size [.int .i64 L, .int .i64 sl, .int .i64 rl, .int .i64 rh, S, .int .i64 wg]) 11 (by kernel_rfl) rfl ?_
          refine rg_take (fuel := 7) [0, 1, 3, 5] (by kernel_rfl) (by intro _ _ d _ _ h; cases d <;> exact h) rfl (by kernel_rfl) (by kernel_rfl) p0 ?_
          simp only [pickL, pick1, List.cons_append, List.nil_append]
          (refine wpTake_cons (v := ?_) (Or.inl ⟨by rfl, ?_⟩) ?_; rotate_left; (intro w' hSw; have yc := hSw.c; clear hSw; go_simp; (try with_reducible rfl)); (try simp only [Act.put, List.setIfInBounds_toArray, List.set_cons_zero, List.set_cons_succ]))
          (refine wpTake_cons (v := ?_) (Or.inl ⟨by rfl, ?_⟩) ?_; rotate_left; (intro w' hSw; have yc := hSw.c; clear hSw; go_simp; (try with_reducible rfl)); (try simp only [Act.put, List.setIfInBounds_toArray, List.set_cons_zero, List.set_cons_succ]))
          (refine wpTake_cons (v := ?_) (Or.inl ⟨by rfl, ?_⟩) ?_; rotate_left; (intro w' hSw; have yc := hSw.c; clear hSw; go_simp; (try with_reducible rfl)); (try simp only [Act.put, List.setIfInBounds_toArray, List.set_cons_zero, List.set_cons_succ]))
          (refine wpTake_cons (v := ?_) (Or.inl ⟨by rfl, ?_⟩) ?_; rotate_left; (intro w' hSw; have yc := hSw.c; clear hSw; go_simp; (try with_reducible rfl)); (try simp only [Act.put, List.setIfInBounds_toArray, List.set_cons_zero, List.set_cons_succ]))
          refine wpTake_nil ?_
          generalize World.drew _ = w4 at p0 hB4 g4 i4 ⊢
          have hN := Below.refl w4.heap.size w4
          have ow := p0
          have hBw := hB4
          refine rg_many (fuel := 6) [2, 6] rfl (by simp) (by kernel_rfl) (by kernel_rfl) ?_
          intro cc hcc
          rcases (show cc = 2 ∨ cc = 6 by simpa using hcc) with rfl | rfl
          · intro K hK
            simp only [pick1]
            refine step_empty (K := K) rfl 44 3 1 w4.heap.size rfl (by kernel_rfl) i0 hi0 hN.size ?_
            intro g4x W' G4 hb
            replace hN := hN.trans (hb.mono hN.size)
            have ow := p0.below hN p0.lt
            have hBw := hB4.trans (hN.mono hB4.size)
            refine hK.out _ _ ow ?_
            clear hb hK
            (try simp only [Act.put, List.setIfInBounds_toArray, List.set_cons_zero, List.set_cons_succ])
            refine rg_many (fuel := 5) [4, 6] rfl (by simp) (by kernel_rfl) (by kernel_rfl) ?_
            intro cc hcc
            rcases (show cc = 4 ∨ cc = 6 by simpa using hcc) with rfl | rfl
            · intro K hK
              simp only [pick1]
              refine step_fill (K := K) rfl (.tmp 31) (.tmp 32) 44 rfl w4.heap.size 3 i0 (.int .i64 0) 1 8 (by kernel_rfl) hi0 hi1 hi2 hi3 rfl (by decide) g4x rfl G4 hN.size A fs.length c (fs.map irow) rfl (List.length_map _).symm (HF.out.below hBw (Nat.le_refl _)) irow_len (by unfold maxLen; omega) (by omega) ?_
              intro v6 W' G6 hb
              replace hN := hN.trans (hb.mono hN.size)
              have ow := p0.below hN p0.lt
              have hBw := hB4.trans (hN.mono hB4.size)
              refine hK.out _ _ ow ?_
              clear hb hK
              (try simp only [Act.put, List.setIfInBounds_toArray, List.set_cons_zero, List.set_cons_succ])
              refine rg_many (fuel := 4) [6] rfl (by simp) (by kernel_rfl) (by kernel_rfl) ?_
              intro cc hcc
              rcases (show cc = 6 by simpa using hcc) with rfl
              · intro K hK
                simp only [pick1, wpHead]
                rw [if_pos (by rfl)]
                go_simp
                have T8 := (OwnT.new W' #[.int .i64 (rl + (k : Int))] 3).rdI
                have hb := (Below.refl W'.heap.size W').alloc (Nat.le_refl _) (.cells #[.int .i64 (rl + (k : Int))] 3)
                replace hN := hN.trans (hb.mono hN.size)
                generalize hg8 : W'.heap.size = g8 at T8 ⊢
                generalize hWe : World.alloc W' _ = W' at hb hN T8 ⊢
                clear hWe hg8
                have ow := p0.below hN p0.lt
                have hBw := hB4.trans (hN.mono hB4.size)
                replace G6 := G6.below hb (Nat.le_refl _)
                refine hK.out _ _ ow ?_
                clear hb hK
                (try simp only [Act.put, List.setIfInBounds_toArray, List.set_cons_zero, List.set_cons_succ])
                refine rg_many (fuel := 3) [7] rfl (by simp) (by kernel_rfl) (by kernel_rfl) ?_
                intro cc hcc
                rcases (show cc = 7 by simpa using hcc) with rfl
                · intro K hK
                  simp only [pick1]
                  refine step_app (K := K) rfl (.tmp 33) (.tmp 35) 44 rfl w4.heap.size 3 i0 (.int .i64 0) 1 8 (by kernel_rfl) hi0 hi1 hi2 hi3 rfl (by decide) v6 (fs.map irow) rfl G6 hN.size (some ⟨g8, 0, none⟩) 1 1 ([rl + (k : Int)].map irow) rfl rfl T8 irow_len irow_one (by rw [List.length_map]; unfold maxLen; omega) (by rw [List.length_map]; omega) ?_
                  intro v9 W' G9 hgr
                  replace hN := G6.room hN hgr hN.size
                  rw [← List.map_append] at G9
                  obtain ⟨A9, c9, rfl, hr9⟩ := G9.out
                  have hty9 := G9.ty
                  rw [List.length_map]
                  clear G6 G9 hgr
                  have ow := p0.below hN p0.lt
                  have hBw := hB4.trans (hN.mono hB4.size)
                  refine hK.out _ _ ow ?_
                  clear hK
                  (try simp only [Act.put, List.setIfInBounds_toArray, List.set_cons_zero, List.set_cons_succ])
                  refine rg_many (fuel := 2) [8] rfl (by simp) (by kernel_rfl) (by kernel_rfl) ?_
                  intro cc hcc
                  rcases (show cc = 8 by simpa using hcc) with rfl
                  · intro K hK
                    simp only [pick1, wpHead]
                    rw [if_pos (by rfl)]
                    go_simp
                    have hcall := HRec.out (fs ++ [rl + (k : Int)]) A9 c9 W' (by rw [List.length_append, List.length_singleton]; omega) (by rw [List.length_append, List.length_singleton]; omega) (by omega) hr9 hty9
                    rw [List.length_append, List.length_singleton] at hcall
                    refine hcall.mono ?_
                    clear hcall
                    rintro e W' ⟨A10, c10, rfl, ⟨ys, hr10, i10⟩, hb⟩
                    replace hN := hN.trans (hb.mono hN.size)
                    go_wp2_with fail
                    have ow := p0.below hN p0.lt
                    have hBw := hB4.trans (hN.mono hB4.size)
                    refine hK.out _ _ ow ?_
                    clear hb hK
                    (try simp only [Act.put, List.setIfInBounds_toArray, List.set_cons_zero, List.set_cons_succ])
                    refine rg_many (fuel := 1) [9] rfl (by simp) (by kernel_rfl) (by kernel_rfl) ?_
                    intro cc hcc
                    rcases (show cc = 9 by simpa using hcc) with rfl
                    · intro K hK
                      simp only [pick1]
                      have hz10 : w.heap.size + 1 ≤ w4.heap.size := p0.lt
                      have GO := g4.below hN (Nat.le_refl _)
                      have IO := i4.below hN (Nat.le_refl _)
                      have hzn := hN.size
                      refine step_app (K := K) rfl (.tmp 29) (.tmp 37) 77 rfl (w.heap.size + 1) 44 j0 (.slice none 0 0) 1 24 (by kernel_rfl) hj0 hj1 hj2 hj3 rfl (by decide) _ (xs.map slrow) rfl GO (by omega) A10 _ c10 (ys.map slrow) rfl (by rw [List.length_map]; exact i10.len.symm) hr10 slrow_len slrow_one (by have := HWJ.out; have := HWF.out; rw [List.length_map, hxl.out]; unfold maxLen; omega) (by have := HWJ.out; have := HWF.out; rw [List.length_map, hxl.out]; omega) ?_
                      intro v11 W' G11 hgr
                      have i11 := (IO.append i10).keptBy hgr GO (by decide)
                      rw [← List.map_append] at G11
                      have hBw := (hB4.trans (hN.mono hB4.size)).grown hgr (by omega) (fun i hi => by have := (GO.2.lt i hi).1; omega)
                      have ow := (p0.below hN p0.lt).keptBy hgr (fun e => by have := (GO.2.lt _ e.symm).1; omega)
                      clear GO IO hgr hr10 i10 hN
                      refine hK.out _ _ ow ?_
                      clear hK
                      (try simp only [Act.put, List.setIfInBounds_toArray, List.set_cons_zero, List.set_cons_succ])
                      refine rg_many (fuel := 0) [10] rfl (by simp) (by kernel_rfl) (by kernel_rfl) ?_
                      intro cc hcc
                      rcases (show cc = 10 by simpa using hcc) with rfl
                      · intro K hK
                        simp only [pick1, wpHead]
                        rw [if_pos (by rfl)]
                        go_simp
                        refine hK.out _ _ ow ?_
                        clear hK
                        (try simp only [Act.put, List.setIfInBounds_toArray, List.set_cons_zero, List.set_cons_succ])
                        refine rg_done (by kernel_rfl) ?_
                        go_wp2
                        go_roundg (wd - (k + 1))
                        case measure => omega
                        case rel => exact ⟨k + 1, xs ++ ys, by omega, (by go_num), ow, G11, (by rw [HJ.out]; exact i11), hBw⟩
            · intro K hK
              simp only [pick1, wpHead]
              rw [if_pos (by rfl)]
              go_simp
              have T8 := (OwnT.new W' #[.int .i64 (rl + (k : Int))] 3).rdI
              have hb := (Below.refl W'.heap.size W').alloc (Nat.le_refl _) (.cells #[.int .i64 (rl + (k : Int))] 3)
              replace hN := hN.trans (hb.mono hN.size)
              generalize hg8 : W'.heap.size = g8 at T8 ⊢
              generalize hWe : World.alloc W' _ = W' at hb hN T8 ⊢
              clear hWe hg8
              have ow := p0.below hN p0.lt
              have hBw := hB4.trans (hN.mono hB4.size)
              replace G4 := G4.below hb (Nat.le_refl _)
              refine hK.out _ _ ow ?_
              clear hb hK
              (try simp only [Act.put, List.setIfInBounds_toArray, List.set_cons_zero, List.set_cons_succ])
              refine rg_many (fuel := 4) [4] rfl (by simp) (by kernel_rfl) (by kernel_rfl) ?_
              intro cc hcc
              rcases (show cc = 4 by simpa using hcc) with rfl
              · intro K hK
                simp only [pick1]
                refine step_fill (K := K) rfl (.tmp 31) (.tmp 32) 44 rfl w4.heap.size 3 i0 (.int .i64 0) 1 8 (by kernel_rfl) hi0 hi1 hi2 hi3 rfl (by decide) g4x rfl G4 hN.size A fs.length c (fs.map irow) rfl (List.length_map _).symm (HF.out.below hBw (Nat.le_refl _)) irow_len (by unfold maxLen; omega) (by omega) ?_
                intro v6 W' G6 hb
                replace hN := hN.trans (hb.mono hN.size)
                have ow := p0.below hN p0.lt
                have hBw := hB4.trans (hN.mono hB4.size)
                replace T8 := T8.below hb (Nat.le_refl _)
                refine hK.out _ _ ow ?_
                clear hb hK
                (try simp only [Act.put, List.setIfInBounds_toArray, List.set_cons_zero, List.set_cons_succ])
                refine rg_many (fuel := 3) [7] rfl (by simp) (by kernel_rfl) (by kernel_rfl) ?_
                intro cc hcc
                rcases (show cc = 7 by simpa using hcc) with rfl
                · intro K hK
                  simp only [pick1]
                  refine step_app (K := K) rfl (.tmp 33) (.tmp 35) 44 rfl w4.heap.size 3 i0 (.int .i64 0) 1 8 (by kernel_rfl) hi0 hi1 hi2 hi3 rfl (by decide) v6 (fs.map irow) rfl G6 hN.size (some ⟨g8, 0, none⟩) 1 1 ([rl + (k : Int)].map irow) rfl rfl T8 irow_len irow_one (by rw [List.length_map]; unfold maxLen; omega) (by rw [List.length_map]; omega) ?_
                  intro v9 W' G9 hgr
                  replace hN := G6.room hN hgr hN.size
                  rw [← List.map_append] at G9
                  obtain ⟨A9, c9, rfl, hr9⟩ := G9.out
                  have hty9 := G9.ty
                  rw [List.length_map]
                  clear G6 G9 hgr
                  have ow := p0.below hN p0.lt
                  have hBw := hB4.trans (hN.mono hB4.size)
                  refine hK.out _ _ ow ?_
                  clear hK
                  (try simp only [Act.put, List.setIfInBounds_toArray, List.set_cons_zero, List.set_cons_succ])
                  refine rg_many (fuel := 2) [8] rfl (by simp) (by kernel_rfl) (by kernel_rfl) ?_
                  intro cc hcc
                  rcases (show cc = 8 by simpa using hcc) with rfl
                  · intro K hK
                    simp only [pick1, wpHead]
                    rw [if_pos (by rfl)]
                    go_simp
                    have hcall := HRec.out (fs ++ [rl + (k : Int)]) A9 c9 W' (by rw [List.length_append, List.length_singleton]; omega) (by rw [List.length_append, List.length_singleton]; omega) (by omega) hr9 hty9
                    rw [List.length_append, List.length_singleton] at hcall
                    refine hcall.mono ?_
                    clear hcall
                    rintro e W' ⟨A10, c10, rfl, ⟨ys, hr10, i10⟩, hb⟩
                    replace hN := hN.trans (hb.mono hN.size)
                    go_wp2_with fail
                    have ow := p0.below hN p0.lt
                    have hBw := hB4.trans (hN.mono hB4.size)
                    refine hK.out _ _ ow ?_
                    clear hb hK
                    (try simp only [Act.put, List.setIfInBounds_toArray, List.set_cons_zero, List.set_cons_succ])
                    refine rg_many (fuel := 1) [9] rfl (by simp) (by kernel_rfl) (by kernel_rfl) ?_
                    intro cc hcc
                    rcases (show cc = 9 by simpa using hcc) with rfl
                    · intro K hK
                      simp only [pick1]
                      have hz10 : w.heap.size + 1 ≤ w4.heap.size := p0.lt
                      have GO := g4.below hN (Nat.le_refl _)
                      have IO := i4.below hN (Nat.le_refl _)
                      have hzn := hN.size
                      refine step_app (K := K) rfl (.tmp 29) (.tmp 37) 77 rfl (w.heap.size + 1) 44 j0 (.slice none 0 0) 1 24 (by kernel_rfl) hj0 hj1 hj2 hj3 rfl (by decide) _ (xs.map slrow) rfl GO (by omega) A10 _ c10 (ys.map slrow) rfl (by rw [List.length_map]; exact i10.len.symm) hr10 slrow_len slrow_one (by have := HWJ.out; have := HWF.out; rw [List.length_map, hxl.out]; unfold maxLen; omega) (by have := HWJ.out; have := HWF.out; rw [List.length_map, hxl.out]; omega) ?_
                      intro v11 W' G11 hgr
                      have i11 := (IO.append i10).keptBy hgr GO (by decide)
                      rw [← List.map_append] at G11
                      have hBw := (hB4.trans (hN.mono hB4.size)).grown hgr (by omega) (fun i hi => by have := (GO.2.lt i hi).1; omega)
                      have ow := (p0.below hN p0.lt).keptBy hgr (fun e => by have := (GO.2.lt _ e.symm).1; omega)
                      clear GO IO hgr hr10 i10 hN
                      refine hK.out _ _ ow ?_
                      clear hK
                      (try simp only [Act.put, List.setIfInBounds_toArray, List.set_cons_zero, List.set_cons_succ])
                      refine rg_many (fuel := 0) [10] rfl (by simp) (by kernel_rfl) (by kernel_rfl) ?_
                      intro cc hcc
                      rcases (show cc = 10 by simpa using hcc) with rfl
                      · intro K hK
                        simp only [pick1, wpHead]
                        rw [if_pos (by rfl)]
                        go_simp
                        refine hK.out _ _ ow ?_
                        clear hK
                        (try simp only [Act.put, List.setIfInBounds_toArray, List.set_cons_zero, List.set_cons_succ])
                        refine rg_done (by kernel_rfl) ?_
                        go_wp2
                        go_roundg (wd - (k + 1))
                        case measure => omega
                        case rel => exact ⟨k + 1, xs ++ ys, by omega, (by go_num), ow, G11, (by rw [HJ.out]; exact i11), hBw⟩
          · intro K hK
            simp only [pick1, wpHead]
            rw [if_pos (by rfl)]
            go_simp
            have T8 := (OwnT.new w4 #[.int .i64 (rl + (k : Int))] 3).rdI
            have hb := (Below.refl w4.heap.size w4).alloc (Nat.le_refl _) (.cells #[.int .i64 (rl + (k : Int))] 3)
            replace hN := hN.trans (hb.mono hN.size)
            generalize hg8 : w4.heap.size = g8 at T8 ⊢
            generalize hWe : World.alloc w4 _ = W' at hb hN T8 ⊢
            clear hWe hg8
            have ow := p0.below hN p0.lt
            have hBw := hB4.trans (hN.mono hB4.size)
            refine hK.out _ _ ow ?_
            clear hb hK
            (try simp only [Act.put, List.setIfInBounds_toArray, List.set_cons_zero, List.set_cons_succ])
            refine rg_many (fuel := 5) [2] rfl (by simp) (by kernel_rfl) (by kernel_rfl) ?_
            intro cc hcc
            rcases (show cc = 2 by simpa using hcc) with rfl
            · intro K hK
              simp only [pick1]
              refine step_empty (K := K) rfl 44 3 1 w4.heap.size rfl (by kernel_rfl) i0 hi0 hN.size ?_
              intro g4x W' G4 hb
              replace hN := hN.trans (hb.mono hN.size)
              have ow := p0.below hN p0.lt
              have hBw := hB4.trans (hN.mono hB4.size)
              replace T8 := T8.below hb (Nat.le_refl _)
              refine hK.out _ _ ow ?_
              clear hb hK
              (try simp only [Act.put, List.setIfInBounds_toArray, List.set_cons_zero, List.set_cons_succ])
              refine rg_many (fuel := 4) [4] rfl (by simp) (by kernel_rfl) (by kernel_rfl) ?_
              intro cc hcc
              rcases (show cc = 4 by simpa using hcc) with rfl
              · intro K hK
                simp only [pick1]
                refine step_fill (K := K) rfl (.tmp 31) (.tmp 32) 44 rfl w4.heap.size 3 i0 (.int .i64 0) 1 8 (by kernel_rfl) hi0 hi1 hi2 hi3 rfl (by decide) g4x rfl G4 hN.size A fs.length c (fs.map irow) rfl (List.length_map _).symm (HF.out.below hBw (Nat.le_refl _)) irow_len (by unfold maxLen; omega) (by omega) ?_
                intro v6 W' G6 hb
                replace hN := hN.trans (hb.mono hN.size)
                have ow := p0.below hN p0.lt
                have hBw := hB4.trans (hN.mono hB4.size)
                replace T8 := T8.below hb (Nat.le_refl _)
                refine hK.out _ _ ow ?_
                clear hb hK
                (try simp only [Act.put, List.setIfInBounds_toArray, List.set_cons_zero, List.set_cons_succ])
                refine rg_many (fuel := 3) [7] rfl (by simp) (by kernel_rfl) (by kernel_rfl) ?_
                intro cc hcc
                rcases (show cc = 7 by simpa using hcc) with rfl
                · intro K hK
                  simp only [pick1]
                  refine step_app (K := K) rfl (.tmp 33) (.tmp 35) 44 rfl w4.heap.size 3 i0 (.int .i64 0) 1 8 (by kernel_rfl) hi0 hi1 hi2 hi3 rfl (by decide) v6 (fs.map irow) rfl G6 hN.size (some ⟨g8, 0, none⟩) 1 1 ([rl + (k : Int)].map irow) rfl rfl T8 irow_len irow_one (by rw [List.length_map]; unfold maxLen; omega) (by rw [List.length_map]; omega) ?_
                  intro v9 W' G9 hgr
                  replace hN := G6.room hN hgr hN.size
                  rw [← List.map_append] at G9
                  obtain ⟨A9, c9, rfl, hr9⟩ := G9.out
                  have hty9 := G9.ty
                  rw [List.length_map]
                  clear G6 G9 hgr
                  have ow := p0.below hN p0.lt
                  have hBw := hB4.trans (hN.mono hB4.size)
                  refine hK.out _ _ ow ?_
                  clear hK
                  (try simp only [Act.put, List.setIfInBounds_toArray, List.set_cons_zero, List.set_cons_succ])
                  refine rg_many (fuel := 2) [8] rfl (by simp) (by kernel_rfl) (by kernel_rfl) ?_
                  intro cc hcc
                  rcases (show cc = 8 by simpa using hcc) with rfl
                  · intro K hK
                    simp only [pick1, wpHead]
                    rw [if_pos (by rfl)]
                    go_simp
                    have hcall := HRec.out (fs ++ [rl + (k : Int)]) A9 c9 W' (by rw [List.length_append, List.length_singleton]; omega) (by rw [List.length_append, List.length_singleton]; omega) (by omega) hr9 hty9
                    rw [List.length_append, List.length_singleton] at hcall
                    refine hcall.mono ?_
                    clear hcall
                    rintro e W' ⟨A10, c10, rfl, ⟨ys, hr10, i10⟩, hb⟩
                    replace hN := hN.trans (hb.mono hN.size)
                    go_wp2_with fail
                    have ow := p0.below hN p0.lt
                    have hBw := hB4.trans (hN.mono hB4.size)
                    refine hK.out _ _ ow ?_
                    clear hb hK
                    (try simp only [Act.put, List.setIfInBounds_toArray, List.set_cons_zero, List.set_cons_succ])
                    refine rg_many (fuel := 1) [9] rfl (by simp) (by kernel_rfl) (by kernel_rfl) ?_
                    intro cc hcc
                    rcases (show cc = 9 by simpa using hcc) with rfl
                    · intro K hK
                      simp only [pick1]
                      have hz10 : w.heap.size + 1 ≤ w4.heap.size := p0.lt
                      have GO := g4.below hN (Nat.le_refl _)
                      have IO := i4.below hN (Nat.le_refl _)
                      have hzn := hN.size
                      refine step_app (K := K) rfl (.tmp 29) (.tmp 37) 77 rfl (w.heap.size + 1) 44 j0 (.slice none 0 0) 1 24 (by kernel_rfl) hj0 hj1 hj2 hj3 rfl (by decide) _ (xs.map slrow) rfl GO (by omega) A10 _ c10 (ys.map slrow) rfl (by rw [List.length_map]; exact i10.len.symm) hr10 slrow_len slrow_one (by have := HWJ.out; have := HWF.out; rw [List.length_map, hxl.out]; unfold maxLen; omega) (by have := HWJ.out; have := HWF.out; rw [List.length_map, hxl.out]; omega) ?_
                      intro v11 W' G11 hgr
                      have i11 := (IO.append i10).keptBy hgr GO (by decide)
                      rw [← List.map_append] at G11
                      have hBw := (hB4.trans (hN.mono hB4.size)).grown hgr (by omega) (fun i hi => by have := (GO.2.lt i hi).1; omega)
                      have ow := (p0.below hN p0.lt).keptBy hgr (fun e => by have := (GO.2.lt _ e.symm).1; omega)
                      clear GO IO hgr hr10 i10 hN
                      refine hK.out _ _ ow ?_
                      clear hK
                      (try simp only [Act.put, List.setIfInBounds_toArray, List.set_cons_zero, List.set_cons_succ])
                      refine rg_many (fuel := 0) [10] rfl (by simp) (by kernel_rfl) (by kernel_rfl) ?_
                      intro cc hcc
                      rcases (show cc = 10 by simpa using hcc) with rfl
                      · intro K hK
                        simp only [pick1, wpHead]
                        rw [if_pos (by rfl)]
                        go_simp
                        refine hK.out _ _ ow ?_
                        clear hK
                        (try simp only [Act.put, List.setIfInBounds_toArray, List.set_cons_zero, List.set_cons_succ])
                        refine rg_done (by kernel_rfl) ?_
                        go_wp2
                        go_roundg (wd - (k + 1))
                        case measure => omega
                        case rel => exact ⟨k + 1, xs ++ ys, by omega, (by go_num), ow, G11, (by rw [HJ.out]; exact i11), hBw⟩
        · have hkn : k = wd := by omega
          have e : Hid (allF L.toNat sl rl rh (n + 1) fs = allJ L.toNat sl rl rh n fs k) := by show _ = _; rw [HW.out, hkn]
          obtain ⟨PA', pc', hv', hll⟩ := hg.rdLL hin
          go_wp2
          go_ret
          rw [e.out]
          refine ⟨PA', pc', ?_, hll, hbw⟩
          rw [← hv']; rfl
end Go.Proofs.Ytphcpphmoeiioaa
namespace Go.Proofs.Ytphcpphmoeiioaa
open Go.RowKit Go.Maps

theorem Truth.congr {c : Cv} {h g : Nat → Int} (k : Truth c h) (e : ∀ i, i ≤ c.long → g i = h i) : Truth c g :=
  ⟨⟨fun i hi => by rw [e i hi]; exact k.1.1 i hi, fun i hi => by rw [e i (by omega), e (i + 1) (by omega)]; exact k.1.2 i hi⟩, by rw [wUp_congr e]; exact k.2⟩
theorem fnL_map {h : Nat → Int} {n i : Nat} (hi : i < n) : fnL ((List.range n).map h) i = h i := by
  have h1 : ((List.range n).map h)[i]? = some (fnL ((List.range n).map h) i) := fnL_at (by simpa using hi)
  rw [List.getElem?_map, List.getElem?_range hi] at h1
  exact (Option.some.inj h1).symm
section
variable {L sl rl rh wg : Int} {ks : List Kn}
def okW (L wg : Int) (ks : List Kn) (l : List Int) : Bool := decide ((wUp ks (fnL l) L.toNat : Int) ≤ wg)
/-- All truths. -/
noncomputable def truL (L sl rl rh wg : Int) (ks : List Kn) : List (List Int) := (allF L.toNat sl rl rh (L.toNat + 2) []).filter (okW L wg ks)
theorem mem_truL {l : List Int} : l ∈ truL L sl rl rh wg ks ↔ l.length = L.toNat + 1 ∧ Truth (cvOf L sl rl rh wg ks) (fnL l) := by
  unfold truL okW
  rw [List.mem_filter, mem_allF (by simp) (by simp), decide_eq_true_eq]
  constructor
  · rintro ⟨⟨_, h1, h2⟩, h3⟩
    exact ⟨h1, (soL_ok h1).1 h2, h3⟩
  · rintro ⟨h1, h2, h3⟩
    exact ⟨⟨⟨l, by simp⟩, h1, (soL_ok h1).2 h2⟩, h3⟩
/-- Each truth stands in it. -/
theorem truL_has {h : Nat → Int} (k : Truth (cvOf L sl rl rh wg ks) h) : (List.range (L.toNat + 1)).map h ∈ truL L sl rl rh wg ks ∧ ∀ i, i ≤ L.toNat → fnL ((List.range (L.toNat + 1)).map h) i = h i := by
  have e : ∀ i, i ≤ L.toNat → fnL ((List.range (L.toNat + 1)).map h) i = h i := fun i hi => fnL_map (by omega)
  exact ⟨mem_truL.2 ⟨by simp, k.congr e⟩, e⟩
theorem truL_nil : truL L sl rl rh wg ks = [] ↔ ¬ ∃ h, Truth (cvOf L sl rl rh wg ks) h := by
  constructor
  · rintro e ⟨h, k⟩
    have := (truL_has k).1
    rw [e] at this; cases this
  · intro h
    cases e : truL L sl rl rh wg ks with
    | nil => rfl
    | cons l ls => exact absurd ⟨_, (mem_truL.1 (show l ∈ truL L sl rl rh wg ks by rw [e]; exact List.mem_cons_self ..)).2⟩ h
def KnR (L sl rl rh wg : Int) (ks : List Kn) (is : Bool) (ls : List (List Int)) (er : Int) : Prop :=
  OpenR L sl rl rh wg ks is er ∧ (er = 0 → ls = truL L sl rl rh wg ks) ∧ (er ≠ 0 → ls = [])
theorem hasT_none {c : Cv} : HasT c (fun _ => none) ↔ ∃ h, Truth c h := ⟨fun ⟨h, k, _⟩ => ⟨h, k⟩, fun ⟨h, k⟩ => ⟨h, k, fun _ _ _ hn => nomatch hn⟩⟩
end
set_option maxRecDepth 100000 in
set_option maxHeartbeats 8000000 in
theorem known54 (L sl rl rh wg : Int) (A0 : Option Addr) (n0 c0 : Nat) (ks : List Kn) (is : Bool) (w : World) (hA : Rd 3 w A0 (ks.map krow)) (hn : Hid (n0 = ks.length)) (hlen : n0 ≤ 9223372036854775807) (hfar : Hid (farB L sl rl rh wg ks = false)) :
    Calls Try.prog 54 #[.agg #[.int .i64 L, .int .i64 sl, .int .i64 rl, .int .i64 rh, .slice A0 n0 c0, .int .i64 wg], .bool is] w fun e w' => ∃ (A : Option Addr) (c : Nat) (ls : List (List Int)) (er : Int), e = .returned (.tuple #[.slice A ls.length c, .int .i64 er]) ∧ RdLL w' A ls ∧ Hid (KnR L sl rl rh wg ks is ls er) ∧ ls.length ≤ 1500 ∧ Below w.heap.size w w' := by
  obtain ⟨j0, hj0, hj1, hj2, hj3⟩ := info_parts info44
  have HA := Lib.hid hA
  clear hA
  have o0 : Own (w.alloc (.cells #[.int .i64 L, .int .i64 sl, .int .i64 rl, .int .i64 rh, .slice A0 n0 c0, .int .i64 wg] 26)) w.heap.size [.int .i64 L, .int .i64 sl, .int .i64 rl, .int .i64 rh, .slice A0 n0 c0, .int .i64 wg] := Own.new' _ _ rfl rfl
  have oB : Below w.heap.size w (w.alloc (.cells #[.int .i64 L, .int .i64 sl, .int .i64 rl, .int .i64 rh, .slice A0 n0 c0, .int .i64 wg] 26)) := by (repeat' (first | (with_reducible exact Below.refl _ _) | (with_reducible assumption) | (with_reducible refine Below.drew ?_) | (with_reducible refine below_drewN ?_ _) | (with_reducible refine Below.setCell ?_ ?_ _) | (with_reducible refine Below.alloc ?_ ?_ _) | (refine Below.trans ?_ (Below.mono (by with_reducible assumption) ?_)) | omega | (exact Below.size (by with_reducible assumption)) | (simp; done) | (simp; omega)))
  go_enter Try.func54, Try.ntmps54
  go_wp2_with fail
  refine (check38 L sl rl rh wg A0 n0 c0 ks _ (HA.out.below oB (Nat.le_refl _)) hn hlen).mono ?_
  cases hc : chkV L sl rl rh wg ks
  · have HN : Hid (KnR L sl rl rh wg ks is [] 70) := Lib.hid ⟨Or.inl ⟨hc, rfl⟩, fun h => by omega, fun _ => rfl⟩
    have e70 : chkE L sl rl rh wg ks = 70 := by simp [chkE, hc]
    rw [e70]
    clear hc e70
    rintro e w1 ⟨rfl, hb1⟩
    have hB1 := Lib.hid (show Below w.heap.size w w1 by (repeat' (first | (with_reducible exact Below.refl _ _) | (with_reducible assumption) | (with_reducible refine Below.drew ?_) | (with_reducible refine below_drewN ?_ _) | (with_reducible refine Below.setCell ?_ ?_ _) | (with_reducible refine Below.alloc ?_ ?_ _) | (refine Below.trans ?_ (Below.mono (by with_reducible assumption) ?_)) | omega | (exact Below.size (by with_reducible assumption)) | (simp; done) | (simp; omega))))
    clear hb1 oB o0
    go_wp2
    go_ret2
    exact ⟨none, 0, [], 70, rfl, ⟨[], Rd.nil _ _ _, InLs.nil _⟩, HN, by simp, hB1.out⟩
  have e0 : chkE L sl rl rh wg ks = 0 := by simp [chkE, hc]
  rw [e0]
  have HC := Lib.hid hc
  clear e0 hc
  cases is
  · have HN : Hid (KnR L sl rl rh wg ks false [] 1) := Lib.hid ⟨Or.inr (Or.inl ⟨HC.out, rfl, rfl⟩), fun h => by omega, fun _ => rfl⟩
    rintro e w1 ⟨rfl, hb1⟩
    have hB1 := Lib.hid (show Below w.heap.size w w1 by (repeat' (first | (with_reducible exact Below.refl _ _) | (with_reducible assumption) | (with_reducible refine Below.drew ?_) | (with_reducible refine below_drewN ?_ _) | (with_reducible refine Below.setCell ?_ ?_ _) | (with_reducible refine Below.alloc ?_ ?_ _) | (refine Below.trans ?_ (Below.mono (by with_reducible assumption) ?_)) | omega | (exact Below.size (by with_reducible assumption)) | (simp; done) | (simp; omega))))
    clear hb1 oB o0
    go_wp2
    go_ret2
    exact ⟨none, 0, [], 1, rfl, ⟨[], Rd.nil _ _ _, InLs.nil _⟩, HN, by simp, hB1.out⟩
  have hV := Lib.hid (cvV_of HC.out)
  have hbd := Lib.hid (far_rows HC.out hfar.out)
  have hl1 := hV.out.l1
  have hl2 := hV.out.l2
  rintro e w1 ⟨rfl, hb1⟩
  have q0 := o0.below hb1 o0.lt
  have hB1 : Below w.heap.size w w1 := by (repeat' (first | (with_reducible exact Below.refl _ _) | (with_reducible assumption) | (with_reducible refine Below.drew ?_) | (with_reducible refine below_drewN ?_ _) | (with_reducible refine Below.setCell ?_ ?_ _) | (with_reducible refine Below.alloc ?_ ?_ _) | (refine Below.trans ?_ (Below.mono (by with_reducible assumption) ?_)) | omega | (exact Below.size (by with_reducible assumption)) | (simp; done) | (simp; omega)))
  clear o0 oB hb1
  obtain ⟨l0, k0, f0⟩ := q0
  have q0 := Own.mk l0 k0 f0
  go_wp2_with fail
  refine (all74 L sl rl rh wg (.slice A0 n0 c0) ⟨hl1, hl2⟩ ⟨hV.out.s1, hV.out.s2⟩ ⟨hV.out.r1, hV.out.r0, hV.out.r2⟩ hbd (L.toNat + 2) [] none 0 _ (by simp) (by simp) (by omega) (RdI.nil _ _) (fun a ha => by cases ha)).mono ?_
  have hlen2 : (allF L.toNat sl rl rh (L.toNat + 2) []).length ≤ 1500 := Nat.le_trans (allF_bd hV.out.s1 hV.out.r0) hbd.out
  have HTL : Hid ((allF L.toNat sl rl rh (L.toNat + 2) []).filter (okW L wg ks) = truL L sl rl rh wg ks) := Lib.hid rfl
  have HMEM : Hid (∀ l ∈ allF L.toNat sl rl rh (L.toNat + 2) [], l.length = L.toNat + 1) := Lib.hid fun l hl => ((mem_allF (by simp) (by simp)).1 hl).2.1
  generalize allF L.toNat sl rl rh (L.toNat + 2) [] = ls at *
  rintro e w2 ⟨A2', c2', rfl, hll, hb2⟩
  have p0 := q0.below hb2 q0.lt
  have hB2 : Below w.heap.size w w2 := by (repeat' (first | (with_reducible exact Below.refl _ _) | (with_reducible assumption) | (with_reducible refine Below.drew ?_) | (with_reducible refine below_drewN ?_ _) | (with_reducible refine Below.setCell ?_ ?_ _) | (with_reducible refine Below.alloc ?_ ?_ _) | (refine Below.trans ?_ (Below.mono (by with_reducible assumption) ?_)) | omega | (exact Below.size (by with_reducible assumption)) | (simp; done) | (simp; omega)))
  have HLL := Lib.hid hll
  have hw2 : w.heap.size < w2.heap.size := p0.lt
  clear hll hb2 q0 l0 k0 f0 hB1
  obtain ⟨l0, k0, f0⟩ := p0
  have p0 := Own.mk l0 k0 f0
  go_wp2
  go_loopg [7, 9] ls.length (fun K v y wr => ∃ (k : Nat) (xs : List Sl), K + k = ls.length ∧ y = .int .i64 k ∧ Own wr w.heap.size [.int .i64 L, .int .i64 sl, .int .i64 rl, .int .i64 rh, .slice A0 n0 c0, .int .i64 wg] ∧ Gro wr w2.heap.size 44 1 v (xs.map slrow) ∧ InLs wr xs ((ls.take k).filter (okW L wg ks)) ∧ Below w.heap.size w wr ∧ Below w2.heap.size w2 wr)
  case atStart => exact ⟨0, [], by omega, rfl, p0, Gro.nil _ _ _ _, (by simpa using InLs.nil _), hB2, Below.refl _ _⟩
  case round =>
    clear p0 l0 k0 f0 hB2
    obtain ⟨wo, rfl⟩ : ∃ wo : World, wo = wr := ⟨_, rfl⟩
    obtain ⟨k, xs, hk, rfl, q0, hg, hin, hbw, hbv⟩ := hrel
    obtain ⟨PA, pc, rfl, hrd⟩ := hg.out
    have hxl := Lib.hid hin.len
    rw [List.length_map]
    rw [List.length_map] at hg
    have hxk : xs.length ≤ k := by
      rw [hxl.out]
      exact Nat.le_trans (List.length_filter_le _ _) (by rw [List.length_take]; omega)
    obtain ⟨l0, k0, f0⟩ := q0
    have q0 := Own.mk l0 k0 f0
    have hzi := hbv.size
    by_cases hkn : k < ls.length
    · obtain ⟨l, hl⟩ : ∃ l, Hid (ls[k]? = some l) := ⟨ls[k]'hkn, by simp [Hid]⟩
      have hol := HMEM.out l (List.mem_of_getElem? hl.out)
      obtain ⟨b, off, A', c', rfl, hbl, hcell, hrl, hty⟩ := (HLL.out.below hbv (Nat.le_refl _)).elemT hl.out
      have HTF2 := Lib.hid (take_filter (p := okW L wg ks) hl.out)
      have HRL := Lib.hid hrl
      have HTY := Lib.hid hty
      have HXL : ((xs.map slrow).length : Nat) ≤ 1500 := by rw [List.length_map]; omega
      have hx0 := Aft.cell q0
      have hx1 := fun s : Aft wo => (Aft.old s hbl _).trans hcell
      have HR := Lib.hid (fun s' : Aft wo => wrongs47 L sl rl rh wg A0 n0 c0 ks A' l.length c' l s'.w ((HA.out.below hbw (Nat.le_refl _)).below s'.h (Nat.le_refl _)) hn hV (hrl.below s'.h (Nat.le_refl _)) (Lib.hid rfl) (by omega))
      have HG := Lib.hid hg
      have HIN := Lib.hid hin
      have hll9 : l.length ≤ 13 := by omega
      clear hrl hty hrd hol hg hin
      cases hq : okW L wg ks l
      · have hqd : decide ((wUp ks (fnL l) L.toNat : Int) ≤ wg) = false := hq
        rw [hq] at HTF2
        clear hq
        generalize wUp ks (fnL l) L.toNat = wu at *
        go_wp2
        refine wp_region_aft (by kernel_rfl) (by kernel_rfl) ?_; (repeat (go_big_quiet_step ((go_at_call 47; exact aft_of (HR.out _))))); refine wpQuiet_nil ?_; rintro w11 ⟨⟨_, hb11⟩, rfl⟩
        have r0 := q0.below hb11 q0.lt
        have hB11 : Below w.heap.size w w11 := by (repeat' (first | (with_reducible exact Below.refl _ _) | (with_reducible assumption) | (with_reducible refine Below.drew ?_) | (with_reducible refine below_drewN ?_ _) | (with_reducible refine Below.setCell ?_ ?_ _) | (with_reducible refine Below.alloc ?_ ?_ _) | (refine Below.trans ?_ (Below.mono (by with_reducible assumption) ?_)) | omega | (exact Below.size (by with_reducible assumption)) | (simp; done) | (simp; omega)))
        have hV11 := hbv.trans (hb11.mono hzi)
        have g11 := HG.out.below hb11 (Nat.le_refl _)
        have i11 := HIN.out.below hb11 (Nat.le_refl _)
        clear hx0 hx1 hqd
        go_wp2
        go_roundg (ls.length - (k + 1))
        case measure => omega
        case rel => exact ⟨k + 1, xs, by omega, by go_num, r0, g11, (by rw [HTF2.out, if_neg (by simp), List.append_nil]; exact i11), hB11, hV11⟩
      · have hqd : decide ((wUp ks (fnL l) L.toNat : Int) ≤ wg) = true := hq
        rw [hq] at HTF2
        clear hq
        generalize wUp ks (fnL l) L.toNat = wu at *
        go_wp2
        refine wp_region_aft (by kernel_rfl) (by kernel_rfl) ?_; (repeat (go_big_quiet_step ((go_at_call 47; exact aft_of (HR.out _))))); refine wpQuiet_nil ?_; rintro w11 ⟨⟨_, hb11⟩, rfl⟩
        have r0 := q0.below hb11 q0.lt
        have hB11 : Below w.heap.size w w11 := by (repeat' (first | (with_reducible exact Below.refl _ _) | (with_reducible assumption) | (with_reducible refine Below.drew ?_) | (with_reducible refine below_drewN ?_ _) | (with_reducible refine Below.setCell ?_ ?_ _) | (with_reducible refine Below.alloc ?_ ?_ _) | (refine Below.trans ?_ (Below.mono (by with_reducible assumption) ?_)) | omega | (exact Below.size (by with_reducible assumption)) | (simp; done) | (simp; omega)))
        have hV11 := hbv.trans (hb11.mono hzi)
        have g11 := HG.out.below hb11 (Nat.le_refl _)
        have i11 := HIN.out.below hb11 (Nat.le_refl _)
        have hcell' := ((bcell hb11).1 b (off + k) hbl).trans hcell
        have hr11 := HRL.out.below hb11 (Nat.le_refl _)
        have ht11 := HTY.out.below hb11 (Nat.le_refl _)
        have hz11 : w2.heap.size ≤ w11.heap.size := hV11.size
        have HI := Lib.hid (i11.append (InLs.one (c := c') rfl hr11 ht11))
        clear hx0 hx1 hb11 hcell hr11 ht11 i11 q0 l0 k0 f0 hbw hbv hqd
        go_wp2_with (at_builtin; go_must (refine wpList_append_own _ rfl _ _ 77 rfl w2.heap.size 44 j0 (.slice none 0 0) 1 24 Try.underlying77 hj0 hj1 hj2 hj3 rfl (by decide) _ _ _ rfl (g11.2.alloc _) ⟨w11.heap.size, 0, none⟩ 1 1 [.slice A' l.length c'] rfl rfl (cell_one_new _ _ _) (by intro u hu; simp at hu; subst hu; rfl) (by unfold maxLen; omega) (by omega) (by simp; omega) ?_; intro v' w12 hown' hgrow hnil; have hbA : Below w2.heap.size w11 w12 := ((Below.refl _ w11).alloc hz11 _).grown hgrow (by simp; omega) (fun i hi => (g11.2.lt i hi).1); have g12 : Gro w12 w2.heap.size 44 1 v' (xs.map slrow ++ [slrow (A', l.length, c')]) := Gro.grown g11 rfl hown'; have i12 := (HI.out.below ((Below.refl w11.heap.size w11).alloc (Nat.le_refl _) (.cells #[.slice A' l.length c'] 44)) (Nat.le_refl _)).keptBy hgrow (g11.alloc _) (by decide); clear hown' hgrow hnil))
        go_roundg (ls.length - (k + 1))
        case measure => omega
        case rel => exact ⟨k + 1, xs ++ [(A', l.length, c')], by omega, by go_num, r0.below hbA hw2, (by rw [List.map_append]; exact g12), (by rw [HTF2.out]; exact i12), hB11.trans (hbA.mono (by omega)), hV11.trans hbA⟩
    · have hkk : ls.length = k := by omega
      have HT : Hid ((ls.take k).filter (okW L wg ks) = truL L sl rl rh wg ks) := by show _ = _; rw [List.take_of_length_le (by omega)]; exact HTL.out
      rw [HT.out] at hin hxl
      obtain ⟨PA', pc', hv', hll⟩ := hg.rdLL hin
      have HLX := Lib.hid hll
      clear hll hin hg hrd
      by_cases hz : xs.length = 0
      · have hnil : truL L sl rl rh wg ks = [] := List.eq_nil_of_length_eq_zero (by rw [← hxl.out]; exact hz)
        have HN : Hid (KnR L sl rl rh wg ks true [] 3) := Lib.hid ⟨Or.inr (Or.inr (Or.inl ⟨HC.out, rfl, rfl, fun h => truL_nil.1 hnil (hasT_none.1 h)⟩)), fun h => by omega, fun _ => rfl⟩
        have hzb : ((xs.length : Int) == 0) = true := by rw [hz]; rfl
        have HB := Lib.hid hbw
        clear hz hnil hv'
        go_wp2
        go_ret2
        exact ⟨none, 0, [], 3, rfl, ⟨[], Rd.nil _ _ _, InLs.nil _⟩, HN, by simp, HB.out⟩
      · have hnn : truL L sl rl rh wg ks ≠ [] := fun h => hz (by rw [hxl.out, h]; rfl)
        have HN : Hid (KnR L sl rl rh wg ks true (truL L sl rl rh wg ks) 0) := Lib.hid ⟨Or.inr (Or.inr (Or.inr ⟨HC.out, rfl, rfl, hasT_none.2 (Classical.byContradiction fun h => hnn (truL_nil.2 h))⟩)), fun _ => rfl, fun h => absurd rfl h⟩
        have hzb : ((xs.length : Int) == 0) = false := by rw [beq_eq_false_iff_ne]; omega
        have HVV := Lib.hid hv'
        have HB := Lib.hid hbw
        have hx15 : (truL L sl rl rh wg ks).length ≤ 1500 := by rw [← hxl.out]; omega
        have HX := Lib.hid hx15
        clear hz hnn hv' hx15
        go_wp2
        go_ret2
        refine ⟨PA', pc', truL L sl rl rh wg ks, 0, ?_, HLX.out, HN, HX.out, HB.out⟩
        rw [← HVV.out]; rfl
end Go.Proofs.Ytphcpphmoeiioaa
namespace Go.Proofs.Ytphcpphmoeiioaa
open Go.RowKit Go.Maps

theorem mn2_run (ats : Array TypeId) (ty : TypeId) (x y : Int) : Builtin.min_ ats ty #[.int .i64 x, .int .i64 y] = pure (.int .i64 (min x y)) := by
  have e : (if y < x then y else x) = min x y := by split <;> omega
  simp [Builtin.min_, Builtin.min2, e]
theorem mx2_run (ats : Array TypeId) (ty : TypeId) (x y : Int) : Builtin.max_ ats ty #[.int .i64 x, .int .i64 y] = pure (.int .i64 (max x y)) := by
  have e : (if x < y then y else x) = max x y := by split <;> omega
  simp [Builtin.max_, Builtin.max2, e]
/-- A span made wider by a number. -/
def wdL (lo n : Int) (b : Bool) : Int := if b = true then n else min lo n
def wdH (hi n : Int) (b : Bool) : Int := if b = true then n else max hi n
section
attribute [local go_sem ↓] mn2_run mx2_run
set_option maxHeartbeats 1000000 in
theorem wider59 (lo hi n : Int) (b : Bool) (w : World) :
    Calls Try.prog 59 #[.agg #[.int .i64 lo, .int .i64 hi], .int .i64 n, .bool b] w fun e w' => e = .returned (.agg #[.int .i64 (wdL lo n b), .int .i64 (wdH hi n b)]) ∧ Below w.heap.size w w' := by
  cases b
  · go_enter Try.func59, Try.ntmps59
    go_wp2
    (try simp only [Exit.inBlock, Exit.then])
    refine bodyPost_gen fun W hW => ?_
    have o1 : Own W (w.heap.size + 1) [.int .i64 (min lo n), .int .i64 (max hi n)] := by rw [hW]; first | exact Own.new' _ _ (by simp) rfl | exact (((Own.new' (w := w.alloc _) _ _ (by simp) rfl).set 0 (by simp) _).set 1 (by simp) _)
    have hB : Below w.heap.size w W := by rw [hW]; (repeat' (first | (with_reducible exact Below.refl _ _) | (with_reducible assumption) | (with_reducible refine Below.drew ?_) | (with_reducible refine below_drewN ?_ _) | (with_reducible refine Below.setCell ?_ ?_ _) | (with_reducible refine Below.alloc ?_ ?_ _) | (refine Below.trans ?_ (Below.mono (by with_reducible assumption) ?_)) | omega | (exact Below.size (by with_reducible assumption)) | (simp; done) | (simp; omega)))
    refine bodyPost_ret (results_cell1 (B := w.heap.size + 1) (vs := [.int .i64 (min lo n), .int .i64 (max hi n)]) rfl rfl o1 (by kernel_rfl) (by kernel_rfl)) rfl ?_
    exact ⟨rfl, hB⟩
  · go_enter Try.func59, Try.ntmps59
    go_wp2
    (try simp only [Exit.inBlock, Exit.then])
    refine bodyPost_gen fun W hW => ?_
    have o1 : Own W (w.heap.size + 1) [.int .i64 n, .int .i64 n] := by rw [hW]; first | exact Own.new' _ _ (by simp) rfl | exact (((Own.new' (w := w.alloc _) _ _ (by simp) rfl).set 0 (by simp) _).set 1 (by simp) _)
    have hB : Below w.heap.size w W := by rw [hW]; (repeat' (first | (with_reducible exact Below.refl _ _) | (with_reducible assumption) | (with_reducible refine Below.drew ?_) | (with_reducible refine below_drewN ?_ _) | (with_reducible refine Below.setCell ?_ ?_ _) | (with_reducible refine Below.alloc ?_ ?_ _) | (refine Below.trans ?_ (Below.mono (by with_reducible assumption) ?_)) | omega | (exact Below.size (by with_reducible assumption)) | (simp; done) | (simp; omega)))
    refine bodyPost_ret (results_cell1 (B := w.heap.size + 1) (vs := [.int .i64 n, .int .i64 n]) rfl rfl o1 (by kernel_rfl) (by kernel_rfl)) rfl ?_
    exact ⟨rfl, hB⟩
end
/-- What a span holds behind k rows of a list: 0 to 0, or the least and the greatest number of theirs. -/
def SpK (g : List Int → Int) (ls : List (List Int)) (k : Nat) (lo hi : Int) : Prop := (k = 0 ∧ lo = 0 ∧ hi = 0) ∨ (0 < k ∧ IsSp (fun s => ∃ l ∈ ls.take k, g l = s) lo hi)
theorem SpK.zero (g : List Int → Int) (ls : List (List Int)) : SpK g ls 0 0 0 := Or.inl ⟨rfl, rfl, rfl⟩
theorem SpK.next {g : List Int → Int} {ls : List (List Int)} {k : Nat} {lo hi : Int} (h : SpK g ls k lo hi) {l : List Int} (hl : ls[k]? = some l) : SpK g ls (k + 1) (wdL lo (g l) (decide (k = 0))) (wdH hi (g l) (decide (k = 0))) := by
  have e : ls.take (k + 1) = ls.take k ++ [l] := take_snoc hl
  refine Or.inr ⟨by omega, ?_⟩
  rw [e]
  rcases h with ⟨rfl, _, _⟩ | ⟨h0, h1, h2, h3⟩
  · refine ⟨⟨l, by simp, rfl⟩, ⟨l, by simp, rfl⟩, fun s ⟨m, hm, hs⟩ => ?_⟩
    simp at hm
    subst hm
    subst hs
    simp [wdL, wdH]
  · have hk : decide (k = 0) = false := decide_eq_false (by omega)
    rw [hk]
    have ha : wdL lo (g l) false = min lo (g l) := rfl
    have hb : wdH hi (g l) false = max hi (g l) := rfl
    rw [ha, hb]
    obtain ⟨m1, j1, j2⟩ := h1
    obtain ⟨m2, j3, j4⟩ := h2
    refine ⟨?_, ?_, fun s ⟨m, hm, hs⟩ => ?_⟩
    · by_cases q : lo ≤ g l
      · exact ⟨m1, List.mem_append_left _ j1, by omega⟩
      · exact ⟨l, List.mem_append_right _ (by simp), by omega⟩
    · by_cases q : g l ≤ hi
      · exact ⟨m2, List.mem_append_left _ j3, by omega⟩
      · exact ⟨l, List.mem_append_right _ (by simp), by omega⟩
    · rcases List.mem_append.1 hm with hm | hm
      · have := h3 s ⟨m, hm, hs⟩; omega
      · rw [List.mem_singleton.1 hm] at hs; omega
theorem SpK.all {g : List Int → Int} {ls : List (List Int)} {lo hi : Int} (h : SpK g ls ls.length lo hi) : (ls = [] ∧ lo = 0 ∧ hi = 0) ∨ (ls ≠ [] ∧ IsSp (fun s => ∃ l ∈ ls, g l = s) lo hi) := by
  rcases h with ⟨h0, h1, h2⟩ | ⟨h0, h1⟩
  · exact Or.inl ⟨List.eq_nil_of_length_eq_zero h0, h1, h2⟩
  · exact Or.inr ⟨fun e => by rw [e] at h0; exact absurd h0 (by simp), by rwa [List.take_length] at h1⟩
theorem SpK.bd {g : List Int → Int} {ls : List (List Int)} {k : Nat} {lo hi B : Int} (h : SpK g ls k lo hi) (h0 : 0 ≤ B) (hb : ∀ l ∈ ls, -B ≤ g l ∧ g l ≤ B) : -B ≤ lo ∧ lo ≤ B ∧ -B ≤ hi ∧ hi ≤ B := by
  rcases h with ⟨_, rfl, rfl⟩ | ⟨_, ⟨m1, j1, rfl⟩, ⟨m2, j2, rfl⟩, _⟩
  · omega
  · have := hb m1 (List.mem_of_mem_take j1)
    have := hb m2 (List.mem_of_mem_take j2)
    omega
end Go.Proofs.Ytphcpphmoeiioaa
