/- A range over a method value (its receiver goes ahead of the loop's body), outside any round. -/
import Derived.Shelf.SlIterI.Collect
import Derived.RangeFuncNested
import Derived.RangeFuncBound
import Derived.RangeFuncCalls
import Derived.RangeFuncLeaves
import Derived.OwnWalkIn
import Derived.TacticsInMore
import Derived.LoopIn
namespace Go.Proofs.Ytgmhelclofnpkaa
open Go.RowKit Go.Shelf

section
variable {α : Type} {n : Nat} {P : Program}
/-- An iterator that is a method value: what it does with each loop's body. -/
def SeqB (n : Nat) (P : Program) (gf : Nat) (fst lb : Array Value) (encs : α → Array Value) (Kp : World → World → Prop) (S : List α → Prop) (N : Nat) (w : World) : Prop :=
  ∀ (l : Nat) (J Jx : List α → World → Prop) (W : World), Below w.heap.size w W → w.heap.size + 2 ≤ W.heap.size → OwnFrom W.heap.size J → OwnFrom W.heap.size Jx →
    (∀ pre x W1, J pre W1 → pre.length < N → YieldAt Fence.wide (n - 1) P l (encs x) W1 fun e W' => (e = .returned (.bool true) ∧ J (pre ++ [x]) W' ∧ Kp W1 W') ∨ (e = .returned (.bool false) ∧ Jx (pre ++ [x]) W' ∧ KeepsFrom (w.heap.size + 2) W1 W')) →
    J [] W → CallsIn Fence.wide n P gf (fst ++ #[.func (.yield l) #[] #[]] ++ lb) W fun e W' => (∃ v, e = .returned v) ∧ ((∃ xs, S xs ∧ J xs W') ∨ (∃ pre, Jx pre W'))
theorem abides_of_own {β : Type} {B : Nat} {J : β → World → Prop} (h : OwnFrom B J) : AbidesFrom B J := fun s W W' row hs hg hr => h s W W' row hs hg fun r e => ⟨(hr r e).1, (hr r e).2.imp fun _ k => ⟨k.1, Obj.not_cells_of_walk k.2⟩⟩
/-- A loop's record in a state, and its mark. -/
def LpAt (B : Nat) (mk : LoopState → Option Code → Loop) (st : LoopState) (pe : Option Code) (W : World) : Prop := W.heap[B + 1]? = some (.loop (mk st pe)) ∧ W.heap[B]? = some (.deferred (some []))
variable {g : Operand} {ps : Array Tmp} {assign body : Code} {Q : Exit → Act → World → Prop} {a : Act} {w : World}
theorem wpIn_rangeB (h1 : 1 ≤ n) {gf : Nat} {fst lb : Array Value} (hg : a.eval g = .func (.func gf) fst lb) (eg : ∀ args w, (callFunc gf args).run P w = .ok (.enter gf args) w)
    {encs : α → Array Value} {Kp : World → World → Prop} {S : List α → Prop} {N : Nat} (hseq : SeqB (n - 1) P gf fst lb encs Kp S N w)
    (hKt : ∀ {A B C : World}, Kp A B → Kp B C → Kp A C) (hKb : ∀ (W : World) (o o' : Obj), W.heap[w.heap.size + 1]? = some o → o.isCells = false → o.isWalk = false → Kp W (W.putObj (w.heap.size + 1) o')) (hps : ∀ x, (encs x).size = ps.size)
    (I : List α → World → Prop) (Ix : Code → List α → World → Prop) (hI : OwnFrom w.heap.size I) (hIx : ∀ c, OwnFrom w.heap.size (Ix c)) (h0 : I [] w) (Ax : α → Act → World → Prop) (hAx : ∀ x a', OwnFrom w.heap.size (fun (_ : Unit) W => Ax x a' W))
    (hassign : ∀ (l : Nat) (pre : List α) (x : α) (W : World) (K : Act → World → Prop), I pre W → (∀ a' W', KeepsFrom w.heap.size W W' → Kp W W' → I pre W' → Ax x a' W' → K a' W') →
      assign.wpIn (Fence.wide.inRound l) (n - 1 - 1) P (Exit.then K (fun _ _ _ => False)) { tmps := (ps.zip (encs x)).foldl (fun t (p, v) => t.setIfInBounds p v) a.tmps, defers := [] } W)
    (hbody : ∀ (l : Nat) (pre : List α) (x : α) (a' : Act) (W : World), w.heap.size ≤ l → (∃ r, W.heap[l]? = some (.loop r)) → I pre W → Ax x a' W → pre.length < N → body.wpIn (Fence.wide.inRound l) (n - 1 - 1) P (ownPostG w.heap.size Kp I Ix (pre ++ [x]) W) a' W)
    (hdone : ∀ (D : Nat) (xs : List α) (W : World), w.heap.size ≤ D → S xs → I xs W → W.heap[D]? = some (.deferred (some [])) → Q .normal { a with defers := { target := .collected D, args := #[] } :: a.defers } W)
    (hstop : ∀ (D : Nat) (c : Code) (pre : List α) (W : World), w.heap.size ≤ D → Ix c pre W → W.heap[D]? = some (.deferred (some [])) → c.wpIn Fence.wide n P Q { a with defers := { target := .collected D, args := #[] } :: a.defers } W) :
    (Code.rangeFunc g ps assign body).wpIn Fence.wide n P Q a w := by
  refine wpIn_rangeFunc fun fn hfn => ?_
  obtain ⟨B, hB⟩ : ∃ B, w.heap.size = B := ⟨_, rfl⟩
  rw [hB] at hI hIx hAx hassign hbody hdone hstop hKb
  obtain ⟨mk, hmk⟩ : ∃ mk : LoopState → Option Code → Loop, mk = fun st pe => { state := st, pending := pe, fn, tmps := a.tmps, params := ps, assign, body, defers := B } := ⟨_, rfl⟩
  obtain ⟨W1, hW1⟩ : ∃ W1, (w.alloc (.deferred (some []))).alloc (.loop (mk .ready none)) = W1 := ⟨_, rfl⟩
  have hL1 : LpAt B mk .ready none W1 := by
    rw [← hW1, ← hB]
    exact ⟨by have := World.alloc_heap_new (w.alloc (.deferred (some []))) (.loop (mk .ready none)); rwa [World.size_alloc] at this, (Below.heap_alloc _ _ _ (by simp)).trans (World.alloc_heap_new w _)⟩
  have hz1 : W1.heap.size = B + 2 := by rw [← hW1, ← hB]; simp
  have hI1 : I [] W1 := by rw [← hW1]; exact hI.alloc _ (hI.alloc _ h0)
  have hb1 : Below w.heap.size w W1 := by
    rw [← hW1]; exact ((Below.refl _ w).alloc (Nat.le_refl _) _).alloc (by simp) _
  have hlk : ∀ {st pe} {X Y : World} {row : Option Nat}, LpAt B mk st pe X → X.grownBy Y row → (∀ r, row = some r → B + 2 ≤ r) → LpAt B mk st pe Y := by
    intro st pe X Y row h hg hr
    exact ⟨(hg.block _ (Array.getElem?_eq_some_iff.1 h.1).1 (fun e => by have := hr _ e.symm; omega)).trans h.1, (hg.block _ (Array.getElem?_eq_some_iff.1 h.2).1 (fun e => by have := hr _ e.symm; omega)).trans h.2⟩
  have hkf : ∀ {st pe} {X Y : World}, LpAt B mk st pe X → KeepsFrom B X Y → LpAt B mk st pe Y := fun h k => ⟨k.same _ _ (by omega) h.1 rfl, k.same _ _ (Nat.le_refl _) h.2 rfl⟩
  have hput : ∀ {st pe} {X : World} (st' : LoopState) (pe' : Option Code), LpAt B mk st pe X → LpAt B mk st' pe' (X.putObj (B + 1) (.loop (mk st' pe'))) := fun st' pe' h =>
    ⟨World.putObj_heap_same (Array.getElem?_eq_some_iff.1 h.1).1, (World.putObj_heap_other (by omega)).trans h.2⟩
  refine ⟨B + 1, [{ target := .collected B, args := #[] }], W1, { target := .fn (.func gf) lb, args := fst ++ #[.func (.yield (B + 1)) #[] #[]] }, W1, gf, fst ++ #[.func (.yield (B + 1)) #[] #[]] ++ lb, W1, ?_, ?_, fun _ _ => trivial, ?_, fun _ => h1, ?_⟩
  · rw [← hW1, hmk, ← hB]; exact run_enterLoop_outer _ _ _ _ _
  · simp only [resolve, hg]
    simp [go_sem, Deferred.ofValue]
  · simp [invoke, go_sem, eg]
  · have hcells : ∀ {X : World} {row : Option Nat}, (∀ r, row = some r → W1.heap.size ≤ r ∧ ∃ o : Obj, X.heap[r]? = some o ∧ o.isCells = false) → (∀ r, row = some r → B ≤ r ∧ ∃ o : Obj, X.heap[r]? = some o ∧ o.isCells = false) ∧ (∀ r, row = some r → B + 2 ≤ r) := fun hr =>
      ⟨fun r e => ⟨by have := (hr r e).1; omega, (hr r e).2⟩, fun r e => by have := (hr r e).1; omega⟩
    refine (hseq (B + 1) (fun pre W => I pre W ∧ LpAt B mk .ready none W) (fun pre W => ∃ c, Ix c pre W ∧ LpAt B mk .done (some c) W) W1 hb1 (by omega)
      (fun s X Y row hs hg' hr => ⟨hI s X Y row hs.1 hg' (hcells hr).1, hlk hs.2 hg' (hcells hr).2⟩)
      (fun s X Y row ⟨c, hc, hl⟩ hg' hr => ⟨c, hIx c s X Y row hc hg' (hcells hr).1, hlk hl hg' (hcells hr).2⟩) ?_ ⟨hI1, hL1⟩).mono ?_
    · rintro pre x W ⟨hi, hl⟩ hlen
      have hy := run_yield (P := P) (args := encs x) hl.1 (by rw [hmk]; exact hps x)
      rw [hmk] at hy
      refine ⟨fn, _, assign, body, hy, roundIn_of_wpIn hfn (hassign _ pre x W _ hi ?_)⟩
      clear hy
      intro a' Wa hka hkpa hia hax
      have hla := hkf hl hka
      refine ⟨_, run_beginRound hla.1 (by rw [hmk]), ?_⟩
      have hl2 : LpAt B mk .busy none (Wa.putObj (B + 1) (.loop (mk .busy none))) := hput .busy none hla
      have e0 : (Obj.loop { mk .ready none with state := .busy }) = .loop (mk .busy none) := by rw [hmk]
      rw [e0]
      refine wpIn_mono (hbody _ pre x a' _ (by omega) ⟨_, hl2.1⟩ (hI.putObj _ hia (by omega) hla.1 rfl) ((hAx x a').putObj (s := ()) _ hax (by omega) hla.1 rfl) hlen) ?_
      have fin : ∀ (jump : Option Code) (W3 : World), KeepsFrom B (Wa.putObj (B + 1) (.loop (mk .busy none))) W3 → (Instr.endRound (B + 1) jump).run P W3 = .ok (.bool jump.isNone) (W3.putObj (B + 1) (.loop (mk (if jump.isNone then .ready else .done) jump))) ∧ LpAt B mk .busy none W3 := fun jump W3 hk3 => by
        have hl3 := hkf hl2 hk3
        have := run_endRound (P := P) jump hl3.1
        rw [hmk] at this ⊢
        exact ⟨this, by rw [hmk] at hl3; exact hl3⟩
      rintro e a3 W3 hp
      have hout : ∀ c : Code, KeepsFrom B (Wa.putObj (B + 1) (.loop (mk .busy none))) W3 → Ix c (pre ++ [x]) W3 → ∃ c', Ix c' (pre ++ [x]) (W3.putObj (B + 1) (.loop (mk .done (some c)))) ∧ LpAt B mk .done (some c') (W3.putObj (B + 1) (.loop (mk .done (some c)))) := fun c hk3 hi3 =>
        ⟨c, (hIx c).putObj _ hi3 (by omega) (fin none W3 hk3).2.1 rfl, hput _ _ (fin none W3 hk3).2⟩
      have hkeep : ∀ c : Code, KeepsFrom B (Wa.putObj (B + 1) (.loop (mk .busy none))) W3 → KeepsFrom (w.heap.size + 2) W (W3.putObj (B + 1) (.loop (mk .done (some c)))) := fun c hk3 => by
        have hs1 := hka.size
        have hs3 := hk3.size
        refine ⟨by simp only [World.putObj_size] at hs3 ⊢; omega, fun k o hk ho hc => ?_⟩
        have h1 := hka.same k o (by omega) ho hc
        have h2 : (Wa.putObj (B + 1) (.loop (mk .busy none))).heap[k]? = some o := (World.putObj_heap_other (by omega)).trans h1
        exact (World.putObj_heap_other (by omega)).trans (hk3.same k o (by omega) h2 hc)
      cases e with
      | normal =>
        obtain ⟨hk3, hkp3, hi3⟩ := hp
        obtain ⟨hr, hl3⟩ := fin none W3 hk3
        exact ⟨_, _, hr, .inl ⟨rfl, ⟨hI.putObj _ hi3 (by omega) hl3.1 rfl, hput .ready none hl3⟩, hKt hkpa (hKt (hKt (hKb _ _ _ hla.1 rfl rfl) hkp3) (hKb _ _ _ hl3.1 rfl rfl))⟩⟩
      | ret => exact ⟨_, _, (fin (some .ret) W3 hp.1).1, .inr ⟨rfl, hout .ret hp.1 hp.2, hkeep .ret hp.1⟩⟩
      | exit id => exact ⟨_, _, (fin (some (.exit id)) W3 hp.1).1, .inr ⟨rfl, hout (.exit id) hp.1 hp.2, hkeep (.exit id) hp.1⟩⟩
      | goto t => exact ⟨_, _, (fin (some (.goto t)) W3 hp.1).1, .inr ⟨rfl, hout (.goto t) hp.1 hp.2, hkeep (.goto t) hp.1⟩⟩
      | panic ch => exact hp.elim
      | outgrown => exact hp.elim
    · rintro e W2 ⟨⟨v, rfl⟩, (⟨xs, hS, hi, hl⟩ | ⟨pre, c, hi, hl⟩)⟩
      · exact ⟨none, _, by have := run_endLoop (P := P) hl.1 (by rw [hmk]; simp); rw [hmk] at this; exact this, hdone _ xs _ (Nat.le_refl _) hS (hI.putObj _ hi (by omega) hl.1 rfl) ((World.putObj_heap_other (by omega)).trans hl.2)⟩
      · exact ⟨some c, _, by have := run_endLoop (P := P) hl.1 (by rw [hmk]; simp); rw [hmk] at this; exact this, hstop _ c pre _ (Nat.le_refl _) ((hIx c).putObj _ hi (by omega) hl.1 rfl) ((World.putObj_heap_other (by omega)).trans hl.2)⟩
end
/-- What a round keeps: all below n₁, a box, and whatever lies from n₂ on. -/
def KpC (n₁ n₂ B0 : Nat) (W W' : World) : Prop := Below n₁ W W' ∧ W'.heap[B0]? = W.heap[B0]? ∧ ∀ (b : Nat), n₂ ≤ b → b < W.heap.size → W'.heap[b]? = W.heap[b]?
section
variable {n₁ n₂ B0 : Nat} {W W' W'' : World}
theorem KpC.trans (h : KpC n₁ n₂ B0 W W') (k : KpC n₁ n₂ B0 W' W'') : KpC n₁ n₂ B0 W W'' := ⟨h.1.trans k.1, k.2.1.trans h.2.1, fun b hb hl => (k.2.2 b hb (Nat.lt_of_lt_of_le hl h.1.size)).trans (h.2.2 b hb hl)⟩
theorem KpC.below (hb : Below W.heap.size W W') (h1 : n₁ ≤ W.heap.size) (h0 : B0 < W.heap.size) : KpC n₁ n₂ B0 W W' := ⟨hb.mono h1, hb.block _ h0, fun b _ hl => hb.block b hl⟩
theorem KpC.put {l : Nat} {o' : Obj} (h1 : n₁ ≤ l) (h2 : l < n₂) (hn : n₁ ≤ W.heap.size) (h0 : B0 ≠ l) : KpC n₁ n₂ B0 W (W.putObj l o') :=
  ⟨(Below.refl n₁ W).grown (grownBy_putObj' W l o') hn (fun k e => by cases e; exact h1), World.putObj_heap_other (by omega), fun b hb _ => World.putObj_heap_other (by omega)⟩
theorem KpC.set {b : Nat} (h1 : n₁ ≤ b) (h2 : b < n₂) (h0 : B0 ≠ b) (i : Nat) (v : Value) : KpC n₁ n₂ B0 W (W.setCell ⟨b, i, none⟩ v) :=
  ⟨(Below.refl n₁ W).setCell (by dsimp only; exact h1) _, Below.heap_setCell _ _ _ _ (by dsimp only; exact h0), fun c hc _ => Below.heap_setCell _ _ _ _ (by dsimp only; omega)⟩
theorem KpC.refl : KpC n₁ n₂ B0 W W := ⟨Below.refl _ _, rfl, fun _ _ _ => rfl⟩
theorem KpC.drew (h : KpC n₁ n₂ B0 W W') : KpC n₁ n₂ B0 W W'.drew := ⟨h.1.drew, h.2.1, h.2.2⟩
theorem KpC.keeps {B : Nat} (h : KpC n₁ n₂ B0 W W') (hB : n₂ ≤ B) : KeepsFrom B W W' := ⟨h.1.size, fun k o hk ho _ => (h.2.2 k (by omega) (Array.getElem?_eq_some_iff.1 ho).1).trans ho⟩
end
end Go.Proofs.Ytgmhelclofnpkaa
