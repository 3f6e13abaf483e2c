/- Maps from points to numbers, told as functions; what a look-up, an entry and its store do. -/
import Derived.Test.YtgmhelclofnpkaaKa
import Derived.Test.YtgmhelclofnpkaaGen
import Derived.Maps.RangeWalk
import Derived.Maps.OwnSet
import Derived.DeepKeys4
import Derived.WideKeyEntry
import Derived.ChangeMaps4
namespace Go.Proofs.Ytgmhelclofnpkaa
open Go.RowKit Go.Maps Go.ChangeShapes Go.WideShapes Go.ChangeAt Go.WideMaps Go.WideElems Go.ChangeMaps

theorem laidOutK : laidOutB Try.prog = true := by kernel_rfl
theorem rowPt : (53 : TypeId) < Try.prog.types.size := of_decide_eq_true (by kernel_rfl)
theorem lawP : KeyLaw Try.prog 53 := deep_law_laid laidOutK (m := 2) (by omega) rowPt (by kernel_rfl) (by kernel_rfl)
theorem keyedP : Keyed Try.prog 53 := Keyed.of_law lawP
theorem isStructPt : ∃ fs, Try.prog.underlying 53 = some (.struct fs) := ⟨_, Try.underlying53⟩
theorem cellsPt : Try.prog.cellsOf 53 = 2 := by kernel_rfl
theorem zeroI3 (w : World) : (zeroValue 3).run Try.prog w = .ok (.int .i64 0) w := by kernel_rfl
theorem formedP (x v : Int) : (Value.agg #[.int .i64 x, .int .i64 v]).formed Try.prog 53 = true := by
  obtain ⟨fs, hu⟩ := isStructPt
  simp [Value.formed, hu, cellsPt]
theorem sizeSucc : ∃ m, Try.prog.types.size = m + 1 := by
  cases h : Try.prog.types.size with
  | zero => have := rowPt; rw [h] at this; exact absurd this (Nat.not_lt_zero _)
  | succ m => exact ⟨m, rfl⟩
theorem litsP {x v : Int} (hx : (Lit.int .i64 x).wf = true) (hv : (Lit.int .i64 v).wf = true) : ∃ ls, Try.prog.keyLits (Try.prog.types.size + 1) 53 [.int .i64 x, .int .i64 v] = some ls := by
  obtain ⟨m, hm⟩ := sizeSucc
  have h3 : ∀ z : Int, (Lit.int .i64 z).wf = true → Try.prog.keyLits (m + 1) 3 [.int .i64 z] = some [.int .i64 z] := fun z hz => by
    have hu := Try.underlying3
    unfold Program.keyLits
    rw [hu]
    simp [hz]
  have hc3 : Try.prog.cellsOf 3 = 1 := by kernel_rfl
  refine ⟨[.int .i64 x, .int .i64 v], ?_⟩
  rw [hm]
  have hu := Try.underlying53
  unfold Program.keyLits
  rw [hu]
  simp [cellsPt, hc3, h3 x hx, h3 v hv]
/-- A point's key. -/
noncomputable def kP (x v : Int) : Lit := (keyOf Try.prog 53 (.agg #[.int .i64 x, .int .i64 v])).getD (.bool false)
theorem keyP {x v : Int} (hx : (Lit.int .i64 x).wf = true) (hv : (Lit.int .i64 v).wf = true) : keyOf Try.prog 53 (.agg #[.int .i64 x, .int .i64 v]) = some (kP x v) := by
  have : (keyOf Try.prog 53 (.agg #[.int .i64 x, .int .i64 v])).isSome = true := by
    obtain ⟨fs, hu⟩ := isStructPt
    obtain ⟨ls, hl⟩ := litsP hx hv
    unfold keyOf
    rw [hu]
    have hk : Try.prog.keyType 53 = true := by kernel_rfl
    simp only [hk, formedP, Bool.and_self, if_true]
    show (Option.map _ (Try.prog.keyLits (Try.prog.types.size + 1) 53 [.int .i64 x, .int .i64 v])).isSome = true
    rw [hl]; rfl
  unfold kP
  cases h : keyOf Try.prog 53 (.agg #[.int .i64 x, .int .i64 v]) with
  | none => rw [h] at this; cases this
  | some l => rfl
theorem kP_inj {x v y u : Int} (hx : (Lit.int .i64 x).wf = true) (hv : (Lit.int .i64 v).wf = true) (hy : (Lit.int .i64 y).wf = true) (hu : (Lit.int .i64 u).wf = true) (h : kP x v = kP y u) : x = y ∧ v = u := by
  have a := keyP hx hv
  have b := keyP hy hu
  rw [← h] at b
  have := keyedP.inj a b
  simp at this
  exact this
attribute [irreducible] kP
/-- What a reading holds, as a function. -/
def HoldsP (D : DataW Unit) (F : P2 → Option Int) : Prop :=
  ∀ p : P2, (Lit.int .i64 p.1).wf = true → (Lit.int .i64 p.2).wf = true → match F p with
    | none => Maps.has D (kP p.1 p.2) = false
    | some v => Maps.has D (kP p.1 p.2) = true ∧ ∀ z, D.atKey (kP p.1 p.2) z = .lit (.int .i64 v)
/-- Block b is a map of points; n: a bound on how many. -/
def MapP (w : World) (b n : Nat) (F : P2 → Option Int) : Prop := ∃ D, w.ownsMap Try.prog 53 (plainElem (H := Unit) Try.prog 3) b n D ∧ HoldsP D F
def updP (F : P2 → Option Int) (p : P2) (v : Int) : P2 → Option Int := fun q => if q = p then some v else F q
theorem holdsP_put {D : DataW Unit} {F : P2 → Option Int} (h : HoldsP D F) (hD : IsMap D) {p : P2} {v : Int} (hx : (Lit.int .i64 p.1).wf = true) (hv : (Lit.int .i64 p.2).wf = true) :
    HoldsP (D.put (kP p.1 p.2) (.lit (.int .i64 v))) (updP F p v) := by
  have hk : WideAt.IsKeyLit (kP p.1 p.2) := keyedP.key (keyP hx hv)
  intro q hy hu
  unfold updP
  by_cases e : q = p
  · rw [if_pos e]
    subst e
    exact ⟨has_put_same hD hk _, fun z => atKey_put_same hD hk _ z⟩
  · rw [if_neg e]
    have hne : kP q.1 q.2 ≠ kP p.1 p.2 := fun e' => e (by obtain ⟨h1, h2⟩ := kP_inj hy hu hx hv e'; exact Prod.ext h1 h2)
    have := h q hy hu
    cases hf : F q with
    | none => rw [hf] at this; simpa [has_put_other hne] using this
    | some p => rw [hf] at this; exact ⟨by rw [has_put_other hne]; exact this.1, fun z => by rw [atKey_put_other hne]; exact this.2 z⟩
theorem MapP.made (w : World) : MapP (w.alloc (.map #[] 0)) w.heap.size 0 (fun _ => none) :=
  ⟨.map [], World.ownsMap_made w _ _ _, fun _ _ _ => rfl⟩
theorem MapP.lt {w : World} {b n : Nat} {F : P2 → Option Int} (h : MapP w b n F) : b < w.heap.size := by obtain ⟨D, h1, h2⟩ := h; exact h1.lt
theorem MapP.kept {w w' : World} {row : Option Nat} {b n : Nat} {F : P2 → Option Int} (h : MapP w b n F) (hg : w.grownBy w' row) (hne : some b ≠ row) : MapP w' b n F := by
  obtain ⟨D, h1, h2⟩ := h; exact ⟨D, h1.kept hg hne, h2⟩
theorem MapP.below {w w' : World} {b n B : Nat} {F : P2 → Option Int} (h : MapP w b n F) (k : Below B w w') (hb : b < B) : MapP w' b n F := by
  obtain ⟨D, ⟨es, clock, e1, e2⟩, h2⟩ := h
  exact ⟨D, ⟨es, clock, (k.block b hb).trans e1, e2⟩, h2⟩
theorem MapP.drew {w : World} {b n : Nat} {F : P2 → Option Int} (h : MapP w b n F) : MapP w.drew b n F := h
/-- 'm[p]'. -/
theorem MapP.look {w : World} {b n : Nat} {F : P2 → Option Int} (h : MapP w b n F) {p : P2} (hx : (Lit.int .i64 p.1).wf = true) (hv : (Lit.int .i64 p.2).wf = true) :
    (Instr.lookup 142 (.map (some b)) (.agg #[.int .i64 p.1, .int .i64 p.2]) false).run Try.prog w = .ok (.int .i64 ((F p).getD 0)) w := by
  obtain ⟨D, ⟨es, clock, hb, F', _, rfl⟩, h2⟩ := h
  have hp := h2 p hx hv
  rcases Maps.fit_look false keyedP Try.underlying142 (zeroI3 w) hb F' (keyP hx hv) with ⟨hrun, _, hat⟩ | ⟨e0, y, _, _, hrun, hRv, hat, _⟩
  · cases hf : F p with
    | none => exact hrun
    | some u => rw [hf] at hp; rw [Maps.has_false_of_atKey hat] at hp; cases hp.1
  · cases hf : F p with
    | none => rw [hf] at hp; rw [Maps.has_true_of_atKey hat] at hp; cases hp
    | some u =>
      rw [hf] at hp
      have e1 := (hp.2 .nil).symm.trans (hat .nil)
      obtain ⟨x, hx1, hx2⟩ := plainElem_int_inv Try.underlying3 hRv
      have e2 : x = u := by
        have e3 := congrArg Prod.fst hx2.1
        rw [← e1] at e3
        simp at e3
        exact e3.symm
      rw [hrun, hx1, e2]; rfl
theorem MapP.cast {w : World} {b n : Nat} {F F' : P2 → Option Int} (h : MapP w b n F) (e : ∀ p, (Lit.int .i64 p.1).wf = true → (Lit.int .i64 p.2).wf = true → F p = F' p) : MapP w b n F' := by
  obtain ⟨D, h1, h2⟩ := h
  exact ⟨D, h1, fun p hx hv => by rw [← e p hx hv]; exact h2 p hx hv⟩
theorem MapP.mono {w : World} {b n m : Nat} {F : P2 → Option Int} (h : MapP w b n F) (hm : n ≤ m) : MapP w b m F := by
  obtain ⟨D, h1, h2⟩ := h; exact ⟨D, h1.mono hm, h2⟩
theorem MapP.block {w w' : World} {b n : Nat} {F : P2 → Option Int} (h : MapP w b n F) (e : w'.heap[b]? = w.heap[b]?) : MapP w' b n F := by
  obtain ⟨D, ⟨es, clock, e1, e2⟩, h2⟩ := h
  exact ⟨D, ⟨es, clock, e.trans e1, e2⟩, h2⟩
/-- 'm[p] = v'. -/
theorem MapP.put {w : World} {b n : Nat} {F : P2 → Option Int} (h : MapP w b n F) (hn : n < 100000000000000) {p : P2} (hx : (Lit.int .i64 p.1).wf = true) (hv : (Lit.int .i64 p.2).wf = true) {v : Int} (hw : (Lit.int .i64 v).wf = true) :
    ∃ w', (Instr.mapUpdate 142 (.map (some b)) (.agg #[.int .i64 p.1, .int .i64 p.2]) (.int .i64 v)).run Try.prog w = .ok () w' ∧ MapP w' b (n + 1) (updP F p v) := by
  obtain ⟨D, h1, h2⟩ := h
  obtain ⟨w', hrun, r1, _⟩ := h1.update keyedP Try.underlying142 (by unfold maxLen; omega) (keyP hx hv) (plainElem_int Try.underlying3 hw)
  exact ⟨w', hrun, _, r1, holdsP_put h2 h1.isMap hx hv⟩
/-- 'm[p] op= v': the entry, and later its store. -/
theorem MapP.entry {w : World} {b n : Nat} {F : P2 → Option Int} (h : MapP w b n F) (hn : n < 100000000000000) {p : P2} (hx : (Lit.int .i64 p.1).wf = true) (hv : (Lit.int .i64 p.2).wf = true) :
    ∃ (v0 : Value) (st : Nat) (w1 : World), (Instr.mapEntry 142 (.map (some b)) (.agg #[.int .i64 p.1, .int .i64 p.2])).run Try.prog w = .ok (.tuple #[v0, .int .i64 st]) w1 ∧ MapP w1 b (n + 1) (updP F p ((F p).getD 0)) ∧ w.grownBy w1 (some b) ∧ w1.heap.size = w.heap.size ∧
      ∀ (w2 : World) (v : Int), (Lit.int .i64 v).wf = true → w2.heap[b]? = w1.heap[b]? → ∃ w3, (Instr.entryStore 142 (.map (some b)) (.int .i64 st) (.int .i64 v)).run Try.prog w2 = .ok () w3 ∧ MapP w3 b (n + 1) (updP F p v) ∧ w2.grownBy w3 (some b) ∧ w3.heap.size = w2.heap.size := by
  have hp := h
  have hlt := h.lt
  obtain ⟨D, ⟨es, clock, hb, F', hsz, rfl⟩, h2⟩ := hp
  obtain ⟨v0, st, es1, clock1, hrun, hwhat, hstore⟩ := entry_then_store (w := w) (t := 142) lawP Try.underlying142 (z := .int .i64 0) (fun u => zeroI3 u) hb F' (keyP hx hv)
  have hb1 : (setBlock w b (.map es1 clock1)).heap[b]? = some (.map es1 clock1) := heap_setBlock_same hb _
  refine ⟨v0, st, setBlock w b (.map es1 clock1), hrun, ?_, World.mapTurned.grown ⟨es, clock, es1, clock1, hb, rfl⟩, by simp [setBlock], ?_⟩
  · -- what it holds behind the entry
    rcases lawP.find w (keyP hx hv) es.toList F'.keys with ⟨g1, g2⟩ | ⟨j, e0, g1, g2, g3⟩
    · have hF : F p = none := by
        have hpp := h2 p hx hv
        rcases Maps.fit_look false keyedP Try.underlying142 (zeroI3 w) hb F' (keyP hx hv) with ⟨_, _, hat⟩ | ⟨e0, y, hm, he, _⟩
        · cases hf : F p with
          | none => rfl
          | some u => rw [hf] at hpp; rw [Maps.has_false_of_atKey hat] at hpp; cases hpp.1
        · exact absurd he (g2 e0 hm)
      have hrun2 : (Instr.mapEntry 142 (.map (some b)) (.agg #[.int .i64 p.1, .int .i64 p.2])).run Try.prog w = .ok (.tuple #[.int .i64 0, goInt clock]) (setBlock w b (.map (es.push ⟨.agg #[.int .i64 p.1, .int .i64 p.2], .int .i64 0, clock⟩) (clock + 1))) := by
        simp [Instr.mapEntry, run_underlying Try.underlying142, MapKept.run_getObj_map hb, lawP.check w false (keyP hx hv), g1, zeroI3, MapKept.run_setObj_map _ hb, Result.andThen, setBlock]
      have hrun3 : (Instr.mapUpdate 142 (.map (some b)) (.agg #[.int .i64 p.1, .int .i64 p.2]) (.int .i64 0)).run Try.prog w = .ok () (setBlock w b (.map (es.push ⟨.agg #[.int .i64 p.1, .int .i64 p.2], .int .i64 0, clock⟩) (clock + 1))) := by
        simp [Instr.mapUpdate, run_underlying Try.underlying142, MapKept.run_getObj_map hb, lawP.check w false (keyP hx hv), g1, MapKept.run_setObj_map _ hb, Result.andThen, setBlock]
      rw [hrun] at hrun2
      have hE : setBlock w b (.map es1 clock1) = setBlock w b (.map (es.push ⟨.agg #[.int .i64 p.1, .int .i64 p.2], .int .i64 0, clock⟩) (clock + 1)) := by injection hrun2
      obtain ⟨w'', h5, h6⟩ := h.put hn hx hv (v := 0) rfl
      rw [hrun3] at h5
      have h5 : setBlock w b (.map (es.push ⟨.agg #[.int .i64 p.1, .int .i64 p.2], .int .i64 0, clock⟩) (clock + 1)) = w'' := by injection h5
      rw [hE, h5, hF]
      exact h6
    · have hj : es[j]? = some e0 := by simpa using g2
      have hsame : es.modify j (fun e => { e with key := .agg #[.int .i64 p.1, .int .i64 p.2] }) = es := by
        apply Array.ext'
        rw [Array.toList_modify, modify_eq_set _ _ _ _ g2]
        have : ({ e0 with key := .agg #[.int .i64 p.1, .int .i64 p.2] } : MapEntry) = e0 := by rw [← g3]
        rw [this]
        exact set_self _ _ _ g2
      have hrun2 : (Instr.mapEntry 142 (.map (some b)) (.agg #[.int .i64 p.1, .int .i64 p.2])).run Try.prog w = .ok (.tuple #[e0.val, goInt e0.born]) (setBlock w b (.map es clock)) := by
        simp [Instr.mapEntry, run_underlying Try.underlying142, MapKept.run_getObj_map hb, lawP.check w false (keyP hx hv), g1, hj, g3, lawP.stays w (keyP hx hv), hsame, MapKept.run_setObj_map _ hb, Result.andThen, setBlock]
      rw [hrun] at hrun2
      have hE : setBlock w b (.map es1 clock1) = setBlock w b (.map es clock) := by injection hrun2
      have hF : ∃ u, F p = some u := by
        have hpp := h2 p hx hv
        rcases Maps.fit_look false keyedP Try.underlying142 (zeroI3 w) hb F' (keyP hx hv) with ⟨_, hno, hat⟩ | ⟨e0, y, hm, he, _, _, hat, _⟩
        · exact absurd g3 (hno e0 (List.mem_of_getElem? g2))
        · cases hf : F p with
          | none => rw [hf] at hpp; rw [Maps.has_true_of_atKey hat] at hpp; cases hpp
          | some u => exact ⟨u, rfl⟩
      obtain ⟨u, hu⟩ := hF
      rw [hE]
      refine ((h.block (heap_setBlock_same hb _ |>.trans hb.symm)).mono (Nat.le_succ n)).cast fun q _ _ => ?_
      unfold updP
      split
      · rename_i e; subst e; rw [hu]; rfl
      · rfl
  · intro w2 v hw hw2
    obtain ⟨es', clock', r1, r2⟩ := hstore w2 (.int .i64 v) (hw2.trans hb1)
    obtain ⟨w'', h5, h6⟩ := h.put hn hx hv hw
    rw [r2] at h5
    cases h5
    refine ⟨_, r1, h6.block ?_, World.mapTurned.grown ⟨es1, clock1, es', clock', hw2.trans hb1, rfl⟩, by simp [setBlock]⟩
    rw [heap_setBlock_same (hw2.trans hb1), heap_setBlock_same hb]
end Go.Proofs.Ytgmhelclofnpkaa
