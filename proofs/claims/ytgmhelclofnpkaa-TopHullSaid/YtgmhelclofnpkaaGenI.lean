/- A region that draws its order, inside a fence that lets everything by: what reads only may be taken first, whatever stands behind it (a call of a loop's body, say). -/
import Derived.Test.YtgmhelclofnpkaaGen
import Derived.OrdersIn
import Derived.CallsIn
namespace Go.Proofs.Ytgmhelclofnpkaa
open Go.RowKit

section
variable {n : Nat} {P : Program} {Q : Exit → Act → World → Prop} {S : World → Prop} {ops : Array Oper} {c : Nat}
/-- What waits for something has come up behind it. -/
def Cl (ops : Array Oper) (listed : Array Bool) : Prop := ∀ (j : Nat) (o : Oper), ops[j]? = some o → listed.getD j false = true → ∀ e ∈ o.after, Region.binds .any e = true → listed.getD e.on false = true
theorem Cl.step {listed : Array Bool} {j : Nat} (h : Cl ops listed) (hj : j ∈ Region.ready .any ops listed) : Cl ops (listed.setIfInBounds j true) := by
  intro k o ho hk e he hb
  by_cases x : j = k
  · subst x
    obtain ⟨_, o', ho', hall⟩ := mem_ready.1 hj
    rw [ho] at ho'; cases ho'
    exact getD_set_true (hall e he hb)
  · rw [getD_set_ne false x] at hk
    exact getD_set_true (h k o ho hk e he hb)
/-- Operation j waits for operation i. -/
def waitsB (ops : Array Oper) : Nat → Nat → Nat → Bool
  | 0, _, _ => false
  | f + 1, j, i => match ops[j]? with
    | none => false
    | some o => o.after.toList.any fun e => Region.binds .any e && (e.on == i || waitsB ops f e.on i)
theorem reach_listed {listed : Array Bool} {i : Nat} (h : Cl ops listed) : ∀ (f j : Nat), (∀ o, ops[j]? = some o → ∀ e ∈ o.after, Region.binds .any e = true → listed.getD e.on false = true) → waitsB ops f j i = true → listed.getD i false = true
  | 0, _, _, k => by cases k
  | f + 1, j, hj, k => by
    unfold waitsB at k
    cases ho : ops[j]? with
    | none => rw [ho] at k; cases k
    | some o =>
      rw [ho] at k
      obtain ⟨e, he, hb⟩ := List.any_eq_true.1 k
      rw [Bool.and_eq_true, Bool.or_eq_true] at hb
      have he' : e ∈ o.after := by simpa using he
      have hl := hj o ho e he' hb.1
      rcases hb.2 with e1 | e1
      · rw [← eq_of_beq e1]; exact hl
      · exact reach_listed h f e.on (fun o' ho' e' he' hb' => h e.on o' ho' hl e' he' hb') e1
theorem not_ready {listed : Array Bool} {i f : Nat} (h : Cl ops listed) (hr : waitsB ops f c i = true) (hi : listed.getD i true = false) : c ∉ Region.ready .any ops listed := by
  intro hc
  obtain ⟨_, o, ho, hall⟩ := mem_ready.1 hc
  have := reach_listed h f c (fun o' ho' e he hb => by rw [ho] at ho'; cases ho'; exact hall e he hb) hr
  rcases Nat.lt_or_ge i listed.size with h' | h'
  · simp [h'] at this hi; rw [hi] at this; cases this
  · simp [Array.getElem?_eq_none h'] at this
/-- Whatever order comes from here on; S holds behind each operation but c. -/
def AnyW (c : Nat) (n : Nat) (P : Program) (ops : Array Oper) (Q : Exit → Act → World → Prop) (S : World → Prop) : Nat → Array Bool → Act → World → Prop
  | 0, listed, a, w => Region.ready .any ops listed = [] ∧ Q .normal a w
  | fuel + 1, listed, a, w => (Region.ready .any ops listed = [] → Q .normal a w) ∧ ∀ i ∈ Region.ready .any ops listed, wpOpIn Fence.wide n P ops Q i (fun a' w' => (i = c ∨ listed.getD c false = true ∨ S w') ∧ AnyW c n P ops Q S fuel (listed.setIfInBounds i true) a' w') a w
theorem anyW_in : ∀ (fuel : Nat) (listed : Array Bool) (a : Act) (w : World), AnyW c n P ops Q S fuel listed a w → wpAnyIn Fence.wide n P .any ops Q fuel listed a w
  | 0, _, _, _, h => h
  | fuel + 1, _, _, _, h => ⟨h.1, fun i hi => wpOpIn_mono (fun a' w' k => anyW_in fuel _ a' w' k.2) (h.2 i hi)⟩
theorem yieldW {i : Nat} {o : Oper} {v : Value} {a : Act} (hi : ops[i]? = some o) (hy : YieldsIf P ops S o v a) {K : Act → World → Prop} {w : World} (hS : S w) (h : K (a.put o.dst v) w) : wpOpIn Fence.wide n P ops Q i K a w := by
  unfold Go.wpOpIn
  rw [hi]
  rcases hy with ⟨hw, hv⟩ | ⟨hw, rfl⟩
  · simp only [hw, if_true]
    refine ⟨fun _ _ => trivial, ?_⟩
    rw [show (Fence.wide).round = none from rfl, Oper.semAt_none, hv w hS]
    exact h
  · simp only [hw, Bool.false_eq_true, if_false]
    exact ⟨fun _ _ => trivial, h⟩
theorem putW {j : Nat} {oi oj : Oper} {v : Value} (hj : ops[j]? = some oj) (hap : oi.apart ops oj = true) (hsi : ∀ cs b, oi.op ≠ .select cs b) (hsj : ∀ cs b, oj.op ≠ .select cs b)
    (hQ : ∀ c a w, Q (.panic c) (a.put oi.dst v) w → Q (.panic c) a w) {K : Act → World → Prop} {a : Act} {w : World} (hy : YieldsIf P ops S oi v a) (h : wpOpIn Fence.wide n P ops Q j K (a.put oi.dst v) w) :
    wpOpIn Fence.wide n P ops Q j (fun a' w' => YieldsIf P ops S oi v a' ∧ K (a'.put oi.dst v) w') a w := by
  obtain ⟨h1, h2, h3⟩ := Oper.apart_spec hap
  have keep : ∀ (a : Act), YieldsIf P ops S oi v a → ∀ u, YieldsIf P ops S oi v (a.put oj.dst u) := fun a hy u => hy.of_same (execOp_put oi hsi a oj.dst u h3) (wanted_put oi a oj.dst u h3)
  have goes : ∀ u w'', K ((a.put oi.dst v).put oj.dst u) w'' → YieldsIf P ops S oi v (a.put oj.dst u) ∧ K ((a.put oj.dst u).put oi.dst v) w'' := fun u w'' k => ⟨keep a hy u, by rw [← Act.put_comm a v u h2]; exact k⟩
  have falls : ∀ c w'', Q (.panic c) (a.put oi.dst v) w'' → Q (.panic c) a w'' := fun c w'' k => hQ c a w'' k
  unfold wpOpIn at *
  simp only [hj] at *
  rw [wanted_put oj a oi.dst v h1] at h
  by_cases hw : Region.wanted oj (yielded ops a.tmps) = true
  · rw [if_pos hw] at h ⊢
    refine ⟨fun _ _ => trivial, ?_⟩
    have h := h.2
    rw [show (Fence.wide).round = none from rfl, Oper.semAt_none] at h ⊢
    rw [execOp_put oj hsj a oi.dst v h1] at h
    revert h
    generalize (execOp a.eval oj).run P w = r
    intro h
    match r, h with
    | .ok (.value u) w', h => exact goes u _ h
    | .ok .skip w', h => exact goes undef _ h
    | .ok (.defer d) w', h =>
      refine ⟨keep _ (show YieldsIf P ops S oi v { a with defers := d :: a.defers } from hy.of_same rfl rfl) _, ?_⟩
      rw [← Act.put_comm _ v undef h2, ← Act.put_defers]
      exact h
    | .ok (.enter f args) w', h => exact ⟨h.1, CallsIn.mono h.2 fun e w'' he => by cases e with | returned u => exact goes u _ he | panicked c => exact falls c _ he | outgrown => exact he⟩
    | .ok (.row row args) w', h => exact ⟨h.1, RowsIn.mono h.2 fun u w'' he => goes u _ he⟩
    | .ok (.round l f tmps assign body) w', h => exact ⟨h.1, RoundIn.mono h.2 fun e w'' he => by cases e with | returned u => exact goes u _ he | panicked c => exact falls c _ he | outgrown => exact he⟩
    | .halt x w', h =>
      cases x <;> simp only [Oper.uponIn] at h ⊢
      case panic u => exact falls _ _ h
  · rw [if_neg hw] at h ⊢
    exact ⟨fun _ _ => trivial, goes undef _ h.2⟩
theorem firstW {i f : Nat} {oi : Oper} {v : Value} (h0 : waitsB ops f c i = true) (hi : ops[i]? = some oi) (hsel : ∀ (j : Nat) (o : Oper) cs b, ops[j]? = some o → o.op ≠ .select cs b) (hQ : ∀ c a w, Q (.panic c) (a.put oi.dst v) w → Q (.panic c) a w) :
    ∀ (fuel : Nat) (listed : Array Bool) (a : Act) (w : World), Cl ops listed → (∀ j oj, ops[j]? = some oj → j ≠ i → listed.getD j true = false → (∀ e ∈ oj.after, Region.binds .any e = true → e.on ≠ i) → oi.apart ops oj = true) →
      i ∈ Region.ready .any ops listed → YieldsIf P ops S oi v a → S w → AnyW c n P ops Q S fuel (listed.setIfInBounds i true) (a.put oi.dst v) w → AnyW c n P ops Q S (fuel + 1) listed a w
  | fuel, listed, a, w, hC, hfree, hr, hy, hS, H => by
    refine ⟨fun h => (by rw [h] at hr; cases hr), fun j hj => ?_⟩
    by_cases hji : j = i
    · subst hji; exact yieldW hi hy hS ⟨Or.inr (Or.inr hS), H⟩
    · match fuel, H with
      | 0, H =>
        have := ready_mono hj hji
        rw [H.1] at this
        cases this
      | fuel + 1, H =>
        have h1 := H.2 j (ready_mono hj hji)
        obtain ⟨hjun, oj, hoj, hall⟩ := mem_ready.1 hj
        have hiun := (mem_ready.1 hr).1
        have hjc : j ≠ c := fun e => not_ready hC h0 hiun (e ▸ hj)
        have hcl : ∀ l' : Array Bool, Cl ops l' → l'.getD i true = false → ¬ l'.getD c false = true := fun l' hC' hi' h => by
          have hco : ∀ o, ops[c]? = some o → ∀ e ∈ o.after, Region.binds .any e = true → l'.getD e.on false = true := fun o ho e he hb => hC' c o ho h e he hb
          have := reach_listed hC' f c hco h0
          rcases Nat.lt_or_ge i l'.size with h' | h'
          · simp [h'] at this hi'; rw [hi'] at this; cases this
          · simp [Array.getElem?_eq_none h'] at this
        have hnc := hcl listed hC hiun
        have hic : i ≠ c := fun e => not_ready hC h0 hiun (e ▸ hr)
        have hS' : ∀ w', (j = c ∨ (listed.setIfInBounds i true).getD c false = true ∨ S w') → S w' := fun w' h => by
          rcases h with h | h | h
          · exact absurd h hjc
          · rw [getD_set_ne false hic] at h; exact absurd h hnc
          · exact h
        have hnot : ∀ e ∈ oj.after, Region.binds .any e = true → e.on ≠ i := fun e he hb heq => by
          have h1 := hall e he hb
          rw [heq] at h1
          rcases Nat.lt_or_ge i listed.size with h' | h'
          · simp [h'] at hiun h1; rw [hiun] at h1; cases h1
          · simp [Array.getElem?_eq_none h'] at h1
        have h2 := putW hoj (hfree j oj hoj hji hjun hnot) (fun cs b => hsel i oi cs b hi) (fun cs b => hsel j oj cs b hoj) hQ hy h1
        refine wpOpIn_mono (fun a' w' h3 => ⟨Or.inr (Or.inr (hS' w' h3.2.1)), firstW h0 hi hsel hQ fuel (listed.setIfInBounds j true) a' w' (hC.step hj) (fun k ok hk hki hun hno => ?_) (ready_mono hr (Ne.symm hji)) h3.1 (hS' w' h3.2.1) ?_⟩) h2
        · refine hfree k ok hk hki ?_ hno
          by_cases hjk : j = k
          · subst hjk; exact hjun
          · rw [getD_set_ne true hjk] at hun; exact hun
        · rw [Array.setIfInBounds_comm _ _ hji]
          exact h3.2.2
  termination_by fuel => fuel
theorem takesW {f : Nat} (hs : Region.noSelect ops = true) (hQ : ∀ c (a : Act) d v w, Q (.panic c) (a.put d v) w → Q (.panic c) a w) {K : Act → Prop} : ∀ (is : List Nat) (os : List Oper) (fuel : Nat) (listed : Array Bool) (a : Act) (w : World), (is.all fun i => waitsB ops f c i) = true → Cl ops listed →
    is.map (ops[·]?) = os.map some → takeB .any ops is listed = true → S w → wpTake P ops S K os a → (∀ a', K a' → Cl ops (listedB is listed) → AnyW c n P ops Q S fuel (listedB is listed) a' w) → AnyW c n P ops Q S (fuel + is.length) listed a w
  | [], [], fuel, listed, a, w, _, hC, _, _, _, h, k => k a h hC
  | [], _ :: _, _, _, _, _, _, _, he, _, _, _, _ => by cases he
  | _ :: _, [], _, _, _, _, _, _, he, _, _, _, _ => by cases he
  | i :: is, o :: os, fuel, listed, a, w, h0, hC, he, hb, hS, h, k => by
    simp only [List.map_cons, List.cons.injEq] at he
    simp only [takeB, Bool.and_eq_true] at hb
    rw [List.all_cons, Bool.and_eq_true] at h0
    obtain ⟨v, hy, h⟩ := h
    have hr : i ∈ Region.ready .any ops listed := by simpa using hb.1.2
    exact firstW h0.1 he.1 (Region.noSelect_spec hs) (fun c a w => hQ c a _ _ w) _ _ _ _ hC (Region.free_spec he.1 hb.1.1) hr hy hS (takesW hs hQ is os fuel _ _ w h0.2 (hC.step hr) he.2 hb.2 hS h k)
/-- The region from here on. -/
def RW (c : Nat) (n : Nat) (P : Program) (l : List Oper) (Q : Exit → Act → World → Prop) (S : World → Prop) (fuel : Nat) (listed : Array Bool) (a : Act) (w : World) : Prop := Cl l.toArray listed → AnyW c n P l.toArray Q S fuel listed a w
variable {l : List Oper}
theorem rw_start {id : Nat} {a : Act} {w : World} (S : World → Prop) (c k : Nat) (hm : P.follows .mixedOrders = true) (hn : l.toArray.size = k) (h : RW c n P l Q S k (Array.replicate k false) a w.drew) : (Code.region id l.toArray true).wpIn Fence.wide n P Q a w := by
  subst hn
  refine wpIn_region_any hm (anyW_in _ _ _ _ (h fun j o _ hj => ?_))
  have : (Array.replicate l.toArray.size false).getD j false = false := by simp [Array.getElem?_replicate]; split <;> rfl
  rw [this] at hj; cases hj
theorem rw_take {fuel fuel' : Nat} {listed : Array Bool} {a : Act} {w : World} (is : List Nat) (h0 : (is.all fun i => waitsB l.toArray 12 c i) = true) (hs : Region.noSelect l.toArray = true) (hQ : ∀ c (a : Act) d v w, Q (.panic c) (a.put d v) w → Q (.panic c) a w) (hf : fuel' = fuel + is.length)
    (h2 : belowB l.length is = true) (h3 : takeB .any l.toArray is listed = true) (hS : S w) (h : wpTake P l.toArray S (fun a' => RW c n P l Q S fuel (listedB is listed) a' w) (pickL l is) a) : RW c n P l Q S fuel' listed a w := by
  subst hf
  intro hC
  exact takesW hs hQ is (pickL l is) fuel listed a w h0 hC (pickL_map l is fun i hi => by simpa using List.all_eq_true.1 h2 i hi) h3 hS h (fun _ k hC' => k hC')
/-- The operation at the head. -/
def headW (n : Nat) (P : Program) (ops : Array Oper) (Q : Exit → Act → World → Prop) (K : Act → World → Prop) (a : Act) (w : World) : List Oper → Prop
  | [o] => if Region.wanted o (yielded ops a.tmps) = true then Oper.wpIn Fence.wide n P o a w K Q else K (a.put o.dst undef) w
  | _ => False
theorem rw_one {fuel fuel' : Nat} {listed : Array Bool} {a : Act} {w : World} (i : Nat) (hf : fuel' = fuel + 1) (h2 : belowB l.length [i] = true) (h4 : Region.ready .any l.toArray listed = [i])
    (h : ∀ K' : Act → World → Prop, Shut (∀ a2 w2, (i = c ∨ listed.getD c false = true ∨ S w2) → RW c n P l Q S fuel (listed.setIfInBounds i true) a2 w2 → K' a2 w2) → headW n P l.toArray Q K' a w (pick1 l i)) : RW c n P l Q S fuel' listed a w := by
  subst hf
  intro hC
  obtain ⟨oc, hp, hc⟩ := pick1_lt l i (by simpa using List.all_eq_true.1 h2 i (by simp))
  refine ⟨fun h0 => (by rw [h4] at h0; cases h0), ?_⟩
  rw [h4]
  intro j hj
  obtain rfl : j = i := by simpa using hj
  have hC' := hC.step (j := j) (by rw [h4]; simp)
  rw [hp] at h
  have hk := h (fun a' w' => (j = c ∨ listed.getD c false = true ∨ S w') ∧ AnyW c n P l.toArray Q S fuel (listed.setIfInBounds j true) a' w') (fun a2 w2 hS hR => ⟨hS, hR hC'⟩)
  unfold wpOpIn
  rw [show l.toArray[j]? = some oc by simpa using hc]
  by_cases hw : Region.wanted oc (yielded l.toArray a.tmps) = true
  · have hk' := hk
    simp only [headW, if_pos hw] at hk'
    simp only [if_pos hw]
    exact hk'
  · have hk' := hk
    simp only [headW, if_neg hw] at hk'
    simp only [if_neg hw]
    exact ⟨fun _ _ => trivial, hk'⟩
theorem rw_done {fuel : Nat} {listed : Array Bool} {a : Act} {w : World} (h8 : Region.ready .any l.toArray listed = []) (h : Q .normal a w) : RW c n P l Q S fuel listed a w := by
  intro _
  cases fuel with
  | zero => exact ⟨h8, h⟩
  | succ fuel => exact ⟨fun _ => h, by rw [h8]; simp⟩
end
end Go.Proofs.Ytgmhelclofnpkaa
