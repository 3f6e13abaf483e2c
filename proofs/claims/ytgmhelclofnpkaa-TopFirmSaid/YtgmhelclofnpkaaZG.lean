/- TopFirm: laws of own rows written, the plain law, Fewest, Copy, the walk. -/
import Derived.Test.YtgmhelclofnpkaaZA
import Derived.Test.YtgmhelclofnpkaaZF
namespace Go.Proofs.Ytgmhelclofnpkaa
open Go.RowKit

section
variable {P : Program} {Q : Exit → Act → World → Prop} {S : World → Prop} {l : List Oper}
/-- One of several. -/
theorem rg_many {fuel fuel' : Nat} {listed : Array Bool} {a : Act} {w : World} (cs : List Nat) (hf : fuel' = fuel + 1) (hne : cs ≠ []) (h2 : belowB l.length cs = true) (h4 : Region.ready .any l.toArray listed = cs)
    (h : ∀ c ∈ cs, ∀ K' : Act → World → Prop, Shut (∀ a2 w2, S w2 → RG P l Q S fuel (listed.setIfInBounds c true) a2 w2 → K' a2 w2) → wpHead P l.toArray Q K' a w (pick1 l c)) : RG P l Q S fuel' listed a w := by
  subst hf
  refine wpAnyH_all h4 hne ?_
  intro i hi
  obtain ⟨oc, hp, hc⟩ := pick1_lt l i (by simpa using List.all_eq_true.1 h2 i hi)
  have h' := h i hi
  rw [hp] at h'
  exact wpOp_step (o := oc) (by simpa using hc) (fun K' hK => h' K' fun a2 w2 hS hR => hK a2 w2 ⟨hS, hR⟩)
end
theorem heap_setCell_cells {w : World} {b : Nat} {c : Array Value} {e : TypeId} {fr : Nat × Nat} (h : w.heap[b]? = Option.some (.cells c e fr)) (j : Nat) (u : Value) : (w.setCell ⟨b, j, none⟩ u).heap[b]? = Option.some (.cells (c.setIfInBounds j u) e fr) := by
  obtain ⟨hlt, hk⟩ := Array.getElem?_eq_some_iff.1 h
  show (w.heap.modify b _)[b]? = _
  rw [Array.getElem?_eq_getElem (by rw [Array.size_modify]; exact hlt), Array.getElem_modify_self, hk]
  rfl
theorem ownsRow_set {w : World} {base e size g n cap : Nat} {xs : List Value} (h : w.ownsRow base e size (.slice (Option.some ⟨g, 0, none⟩) n cap) n xs) (j : Nat) (u : Value) (_ : j < n * size) : (w.setCell ⟨g, j, none⟩ u).ownsRow base e size (.slice (Option.some ⟨g, 0, none⟩) n cap) n (xs.set j u) := by
  obtain ⟨h1, h2⟩ := h
  refine ⟨by rw [List.length_set]; exact h1, ?_⟩
  rcases h2 with ⟨h2, _⟩ | ⟨g', cap', cur, hv, hg, hh, a1, a2, a3, a4⟩
  · cases h2
  · cases hv
    refine Or.inr ⟨g, cap, cur.setIfInBounds j u, rfl, hg, heap_setCell_cells hh j u, a1, a2, by rw [Array.size_setIfInBounds]; exact a3, ?_⟩
    rw [Array.toList_setIfInBounds, List.take_set, a4]
theorem flatten_set {sz : Nat} : ∀ (rows : List (List Value)), (∀ r ∈ rows, r.length = sz) → ∀ (i c : Nat) (r : List Value) (u : Value), rows[i]? = Option.some r → c < sz → rows.flatten.set (i * sz + c) u = (rows.set i (r.set c u)).flatten
  | [], _, i, c, r, u, h, _ => by simp at h
  | a :: rows, hl, 0, c, r, u, h, hc => by
    have ha := hl a (List.mem_cons_self ..)
    simp only [List.getElem?_cons_zero, Option.some.injEq] at h
    subst h
    rw [List.flatten_cons, Nat.zero_mul, Nat.zero_add, List.set_append_left _ _ (by omega)]; rfl
  | a :: rows, hl, i + 1, c, r, u, h, hc => by
    have ha := hl a (List.mem_cons_self ..)
    rw [List.getElem?_cons_succ] at h
    have ih := flatten_set rows (fun x hx => hl x (List.mem_cons_of_mem _ hx)) i c r u h hc
    rw [List.flatten_cons, List.set_append_right _ _ (by rw [ha, Nat.succ_mul]; omega), ha, show (i + 1) * sz + c - sz = i * sz + c by rw [Nat.succ_mul]; omega, ih]; rfl
/-- A cell of a row of one's own is written. -/
theorem Gro.set {w : World} {base e sz g n cap : Nat} {rows : List (List Value)} (h : Gro w base e sz (.slice (Option.some ⟨g, 0, none⟩) n cap) rows) {i c : Nat} {r : List Value} (hi : rows[i]? = Option.some r) (hc : c < sz) (u : Value) :
    Gro (w.setCell ⟨g, i * sz + c, none⟩ u) base e sz (.slice (Option.some ⟨g, 0, none⟩) n cap) (rows.set i (r.set c u)) := by
  obtain ⟨hl, ho⟩ := h
  have hlt := (List.getElem?_eq_some_iff.1 hi).1
  have hn : n = rows.length := by
    rcases ho.2 with ⟨h2, _⟩ | ⟨g', cap', cur, hv, _⟩
    · cases h2
    · cases hv; rfl
  subst hn
  refine ⟨fun x hx => ?_, ?_⟩
  · rcases List.mem_or_eq_of_mem_set hx with hx | rfl
    · exact hl x hx
    · rw [List.length_set]; exact hl r (List.mem_of_getElem? hi)
  · rw [← flatten_set rows hl i c r u hi hc, List.length_set]
    refine ownsRow_set ho _ u ?_
    have : (i + 1) * sz ≤ rows.length * sz := Nat.mul_le_mul_right _ (by omega)
    rw [Nat.succ_mul] at this
    omega
/-- A cell of another row is written. -/
theorem Gro.setRow {w : World} {base e sz g : Nat} {v : Value} {rows : List (List Value)} (h : Gro w base e sz v rows) {j : Nat} (hne : v.ownBlock ≠ Option.some g) (u : Value) : Gro (w.setCell ⟨g, j, none⟩ u) base e sz v rows := ⟨h.1, ownsRow_setCell_other h.2 hne u⟩
/-- Rows of two types lie apart. -/
theorem Gro.apart {w : World} {base e sz base' e' sz' g n cap : Nat} {v : Value} {rows rows' : List (List Value)} (h : Gro w base e sz v rows) (k : Gro w base' e' sz' (.slice (Option.some ⟨g, 0, none⟩) n cap) rows') (hne : e ≠ e') : v.ownBlock ≠ Option.some g := by
  rcases h.2.2 with ⟨rfl, _⟩ | ⟨g1, cap1, cur1, rfl, _, h1, _⟩
  · simp [Value.ownBlock]
  · rcases k.2.2 with ⟨h2, _⟩ | ⟨g2, cap2, cur2, hv, _, h2, _⟩
    · cases h2
    · cases hv
      simp only [Value.ownBlock]
      intro e
      cases e
      rw [h1] at h2
      cases h2
      exact hne rfl
theorem Gro.free {w : World} {base e sz g n cap : Nat} {rows : List (List Value)} (k : Gro w base e sz (.slice (Option.some ⟨g, 0, none⟩) n cap) rows) (j : Nat) : w.frozen? ⟨g, j, none⟩ = false := by
  rcases k.2.2 with ⟨h2, _⟩ | ⟨g2, cap2, cur2, hv, hb, h2, _⟩
  · cases h2
  · cases hv
    simp [World.frozen?, h2]
/-- Block b is one's own, of type t, and holds just these cells. -/
def OwnT (w : World) (b : Nat) (t : TypeId) (vs : List Value) : Prop := w.heap[b]? = Option.some (.cells vs.toArray t (0, 0))
theorem OwnT.lt {w : World} {b : Nat} {t : TypeId} {vs : List Value} (h : OwnT w b t vs) : b < w.heap.size := (Array.getElem?_eq_some_iff.1 h).1
theorem OwnT.own {w : World} {b : Nat} {t : TypeId} {vs : List Value} (h : OwnT w b t vs) : Own w b vs :=
  ⟨h.lt, fun i => by simp [World.cell?, show w.heap[b]? = _ from h], fun i => by simp [World.frozen?, show w.heap[b]? = _ from h]⟩
theorem OwnT.below {w w' : World} {b B : Nat} {t : TypeId} {vs : List Value} (h : OwnT w b t vs) (k : Below B w w') (hb : b < B) : OwnT w' b t vs := (k.block b hb).trans h
theorem OwnT.new (w : World) (c : Array Value) (t : TypeId) : OwnT (w.alloc (.cells c t)) w.heap.size t c.toList := by
  unfold OwnT
  rw [Array.toArray_toList]
  exact (MapKept.heap_alloc w _).1
theorem OwnT.apart {w : World} {b base e sz : Nat} {t : TypeId} {vs : List Value} {v : Value} {rows : List (List Value)} (h : OwnT w b t vs) (k : Gro w base e sz v rows) (hne : e ≠ t) : v.ownBlock ≠ Option.some b := by
  rcases k.2.2 with ⟨rfl, _⟩ | ⟨g1, cap1, cur1, rfl, _, h1, _⟩
  · simp [Value.ownBlock]
  · simp only [Value.ownBlock]
    intro e
    cases e
    rw [show w.heap[b]? = _ from h] at h1
    cases h1
    exact hne rfl
theorem OwnT.set {w : World} {b : Nat} {t : TypeId} {vs : List Value} (h : OwnT w b t vs) (j : Nat) (u : Value) : OwnT (w.setCell ⟨b, j, none⟩ u) b t (vs.set j u) := by
  have := heap_setCell_cells h j u
  unfold OwnT
  rw [this, List.setIfInBounds_toArray]
theorem OwnT.setOther {w : World} {b g : Nat} {t : TypeId} {vs : List Value} (h : OwnT w b t vs) (hne : b ≠ g) (j : Nat) (u : Value) : OwnT (w.setCell ⟨g, j, none⟩ u) b t vs := by
  unfold OwnT
  rw [Below.heap_setCell _ _ _ _ hne]; exact h
theorem grown_set1 (w : World) (a : Addr) (u : Value) : w.grownBy (w.setCell a u) (Option.some a.block) :=
  have h : Below 0 w (w.setCell a u) := (Below.refl 0 w).setCell (Nat.zero_le _) u
  ⟨h.os, h.tape, h.output, h.size, fun k _ hk => Below.heap_setCell _ _ _ _ (fun e => hk (by rw [e]))⟩
/-- What lies below one's own rows is written. -/
theorem Gro.setCell {w : World} {base e sz : Nat} {v : Value} {rows : List (List Value)} (h : Gro w base e sz v rows) {a : Addr} (ha : a.block < base) (u : Value) : Gro (w.setCell a u) base e sz v rows :=
  ⟨h.1, h.2.kept (grown_set1 w a u) (by
    cases hv : v.ownBlock with
    | none => exact Or.inl rfl
    | some g => exact Or.inr (fun e => by
        have h1 := (h.2.lt g hv).1
        have h2 : g = a.block := by simpa using e
        omega))⟩
end Go.Proofs.Ytgmhelclofnpkaa
namespace Go.Proofs.Ytgmhelclofnpkaa
open Go.RowKit

namespace Wl
/-- The least number of wrong walks at some areas and skews. -/
def fewS (h : Wh) (l : List Wk) (ts : List P2) : Nat := ts.foldl (fun c t => min c (wrongsN h l t)) l.length
theorem fewS_snoc (h : Wh) (l : List Wk) (ts : List P2) (t : P2) : fewS h l (ts ++ [t]) = min (fewS h l ts) (wrongsN h l t) := by
  unfold fewS
  rw [List.foldl_append]; rfl
theorem foldl_few (q : P2 → Nat) : ∀ (ts : List P2) (c : Nat), ts.foldl (fun c t => min c (q t)) c ≤ c ∧ (∀ t ∈ ts, ts.foldl (fun c t => min c (q t)) c ≤ q t) ∧ (ts.foldl (fun c t => min c (q t)) c = c ∨ ∃ t ∈ ts, ts.foldl (fun c t => min c (q t)) c = q t)
  | [], c => ⟨Nat.le_refl _, fun t ht => (by cases ht), Or.inl rfl⟩
  | a :: ts, c => by
    obtain ⟨h1, h2, h3⟩ := foldl_few q ts (min c (q a))
    rw [List.foldl_cons]
    refine ⟨by omega, fun t ht => ?_, ?_⟩
    · rcases List.mem_cons.1 ht with rfl | ht
      · omega
      · exact h2 t ht
    · rcases h3 with h3 | ⟨t, ht, h3⟩
      · by_cases hc : c ≤ q a
        · exact Or.inl (by omega)
        · exact Or.inr ⟨a, List.mem_cons_self .., by omega⟩
      · exact Or.inr ⟨t, List.mem_cons_of_mem _ ht, h3⟩
theorem fewS_len (h : Wh) (l : List Wk) (ts : List P2) : fewS h l ts ≤ l.length := (foldl_few (wrongsN h l) ts l.length).1
/-- The wheel whose guess is one area. -/
def hOne (h : Wh) (a : Int) : Wh := { h with lo := a, hi := a }
theorem hOne_v {h : Wh} {l : List Wk} {a : Int} (k : WhV h l) (ha : h.lo ≤ a ∧ a ≤ h.hi) : WhV (hOne h a) l := by
  have h1 := k.k.lo
  have h2 := k.k.hi
  exact ⟨{ k.k with lo := by show (0 : Int) ≤ a ∧ a ≤ a; omega, hi := by show a ≤ 9999; omega }, k.n, fun x hx => { k.l x hx with }⟩
end Wl
namespace Dp
/-- The same dispute, whose corners are firm. -/
def d0 (d : Ds) : Ds := { d with O := List.replicate d.O.length 0 }
theorem d0_ok {d : Ds} (hd : Ok d) : Ok (d0 d) := ⟨hd.ok, hd.six, by show (List.replicate d.O.length (0 : Int)).length = _; rw [List.length_replicate]; exact hd.ol, fun o ho => by
  have := List.eq_of_mem_replicate (show o ∈ List.replicate d.O.length (0 : Int) from ho); omega, hd.un, hd.wh⟩
theorem off0 (d : Ds) (i : Nat) : off (d0 d) i = 0 := by
  show (List.replicate d.O.length (0 : Int)).getD i 0 = 0
  rw [List.getD_eq_getElem?_getD, List.getElem?_replicate]
  split <;> rfl
theorem d0_box {d : Ds} {f : List P2} (h : Box (d0 d) [] f) : f = d.P := by
  refine Pl.ext_at h.1 fun i hi => ?_
  have h1 := h.2.2 i (Nat.zero_le _) (by rw [← h.1]; exact hi)
  unfold inOff at h1
  rw [off0] at h1
  have e : (d0 d).P = d.P := rfl
  rw [e] at h1
  refine Prod.ext ?_ ?_ <;> omega
theorem d0_self (d : Ds) : Box (d0 d) [] d.P := ⟨rfl, rfl, fun i _ _ => by
  unfold inOff
  rw [off0]
  show ((Pl.at' d.P i).1 - 0 ≤ (Pl.at' d.P i).1 ∧ _) ∧ _
  have e : (d0 d).P = d.P := rfl
  rw [e]
  omega⟩
theorem d0_mk (d : Ds) : mk (d0 d) d.P = 0 := mask_0.2 fun i _ => by
  show decide (Pl.at' d.P i ≠ Pl.at' d.P i) = false
  simp
theorem d0_many {d : Ds} (hd : Ok d) (sk : Int) : manyS (stK (d0 d) d.P sk) = (Wl.wrongsN d.h d.l (ar d d.P, sk) : Nat) := by
  unfold manyS many
  show ((pc (mk (d0 d) d.P) + pc (wm (d0 d) (ar d d.P) sk) : Nat) : Int) = _
  rw [d0_mk, pc_0, Nat.zero_add, pc_wm (d := d0 d) hd.wh.n]
  rfl
/-- The least number of wrong walks at the area of the dispute's own field. -/
def minW (d : Ds) : Nat := Wl.fewS (Wl.hOne d.h (ar d d.P)) d.l (Sh.allP (ar d d.P) (ar d d.P) (-d.h.skew) d.h.skew)
theorem minW_le {d : Ds} {sk : Int} (h : inSk d sk) : minW d ≤ Wl.wrongsN d.h d.l (ar d d.P, sk) :=
  (Wl.foldl_few (Wl.wrongsN (Wl.hOne d.h (ar d d.P)) d.l) _ d.l.length).2.1 (ar d d.P, sk) (allP_mem ⟨⟨Int.le_refl _, Int.le_refl _⟩, h.1, h.2⟩)
theorem minW_mem {d : Ds} (hd : Ok d) : ∃ sk, inSk d sk ∧ minW d = Wl.wrongsN d.h d.l (ar d d.P, sk) := by
  rcases (Wl.foldl_few (Wl.wrongsN (Wl.hOne d.h (ar d d.P)) d.l) (Sh.allP (ar d d.P) (ar d d.P) (-d.h.skew) d.h.skew) d.l.length).2.2 with h | ⟨t, ht, h⟩
  · have hs : inSk d 0 := by have := hd.wh.k.skew; unfold inSk; omega
    have h1 := minW_le hs
    have h2 := Wl.wrongsN_le d.h d.l (ar d d.P, 0)
    have h3 : minW d = d.l.length := h
    exact ⟨0, hs, by omega⟩
  · obtain ⟨⟨h1, h2⟩, h3⟩ := allP_in ht
    obtain ⟨t1, t2⟩ := t
    obtain rfl : t1 = ar d d.P := by simp only at h1 h2; omega
    exact ⟨t2, h3, h⟩
theorem firm_no {d : Ds} {P : Nat × Nat × Int → Bool} {n er : Int} (hg : ¬guess d (ar d d.P)) (h : FwN (d0 d) P n er) : er = 3 := by
  rcases h with ⟨h, _⟩ | ⟨_, ⟨f, sk, hs, _⟩, _⟩
  · exact h
  · obtain rfl := d0_box hs.1
    exact (hg hs.2.2.1).elim
theorem firm_yes {d : Ds} {P : Nat × Nat × Int → Bool} {n er : Int} (hd : Ok d) (hg : guess d (ar d d.P)) (hP : ∀ sk, P (stK (d0 d) d.P sk) = true) (h : FwN (d0 d) P n er) : er = 0 ∧ n = (minW d : Nat) := by
  have hst : ∀ sk, inSk d sk → Sty (d0 d) d.P sk := fun sk k => ⟨d0_self d, hd.ok, hg, k⟩
  obtain ⟨s0, hs0, hm⟩ := minW_mem hd
  rcases h with ⟨_, h⟩ | ⟨rfl, ⟨f, sk, hs, _, rfl⟩, hmin⟩
  · have := h _ _ (hst s0 hs0)
    rw [hP] at this; cases this
  · obtain rfl := d0_box hs.1
    refine ⟨rfl, ?_⟩
    have h1 := hmin _ _ (hst s0 hs0) (hP s0)
    have h2 := minW_le (d := d) (sk := sk) hs.2.2.2
    rw [d0_many hd] at h1 ⊢
    rw [d0_many hd] at h1
    rw [← hm] at h1
    omega
theorem firm_P1 (d : Ds) (sk : Int) : (fun s : Nat × Nat × Int => decide (s.1 = 0)) (stK (d0 d) d.P sk) = true := decide_eq_true (d0_mk d)
end Dp
end Go.Proofs.Ytgmhelclofnpkaa
namespace Go.Proofs.Ytgmhelclofnpkaa
section
open Go.RowKit Go.Shelf

attribute [local go_sem] Oper.semAt_some
/-- What a round of Fewest reads. -/
structure FwS (h : Wh) (A : Option Addr) (n cap Bd Bt : Nat) (t : P2) (c : Int) (w : World) : Prop where
  d : Own w Bd (dkC h A n cap)
  y : Own w (Bd + 1) [.int .i64 c]
  t : Own w Bt [.int .i64 t.1, .int .i64 t.2]
theorem FwS.below {h : Wh} {A : Option Addr} {n cap Bd Bt : Nat} {t : P2} {c : Int} {w w' : World} (k : FwS h A n cap Bd Bt t c w) (hb : Below w.heap.size w w') : FwS h A n cap Bd Bt t c w' := ⟨k.d.below hb k.d.lt, k.y.below hb k.y.lt, k.t.below hb k.t.lt⟩
set_option maxRecDepth 100000 in
set_option maxHeartbeats 8000000 in
theorem wFewestW (h : Wh) (A : Option Addr) (ws : List Wk) (n cap : Nat) (w : World) (hA : Rd 5 w A (ws.map wkrow)) (hn : Hid (n = ws.length)) (hV : Hid (WhV h ws)) :
    Calls Try.prog 26 #[whV h, .slice A n cap] w fun e w' => e = .returned (.tuple #[.int .i64 (Wl.fewS h ws (Sh.allP h.lo h.hi (-h.skew) h.skew) : Nat), .int .i64 0]) ∧ Below w.heap.size w w' := by
  have HA := Lib.hid hA
  clear hA
  obtain ⟨N, hN⟩ : ∃ N, Hid (Wl.fewS h ws (Sh.allP h.lo h.hi (-h.skew) h.skew) = N) := ⟨_, rfl⟩
  rw [hN.out]
  have hn8 : n ≤ 8 := by have := hV.out.n; have := hn.out; omega
  have HCK := Lib.hid (fun W (k : Rd 5 W A (ws.map wkrow)) => wCheckW h A ws n cap W k hn hn8 hV.out.k hV.out.l)
  have f1 : Fence.wide.fn 75 := trivial
  have f2 : Fence.wide.fn 76 := trivial
  have f3 : Fence.wide.fn 77 := trivial
  refine (callsIn_wide (n := 12)).1 ?_
  refine callsIn_of_wp_marks Try.func26 rfl trivial ?_ rfl
  simp only [Try.ntmps26, List.size_toArray, List.length_cons, List.length_nil, Nat.reduceAdd, Nat.reduceSub, Array.replicate_succ, Array.replicate_zero, List.push_toArray, List.append_toArray, List.nil_append, List.cons_append]
  gi_wp2_with fail
  refine (callsIn_wide.2 (HCK.out _ (HA.out.below (by (repeat' (first | (with_reducible exact Below.refl _ _) | (with_reducible assumption) | (with_reducible refine Below.drew ?_) | (with_reducible refine below_drewN ?_ _) | (with_reducible refine Below.setCell ?_ ?_ _) | (with_reducible refine Below.alloc ?_ ?_ _) | (refine Below.trans ?_ (Below.mono (by with_reducible assumption) ?_)) | omega | (exact Below.size (by with_reducible assumption)) | (simp; done) | (simp; omega)))) (Nat.le_refl _)))).mono ?_
  rintro e w1 ⟨rfl, hb1⟩
  have hB1 : Below w.heap.size w w1 := by (repeat' (first | (with_reducible exact Below.refl _ _) | (with_reducible assumption) | (with_reducible refine Below.drew ?_) | (with_reducible refine below_drewN ?_ _) | (with_reducible refine Below.setCell ?_ ?_ _) | (with_reducible refine Below.alloc ?_ ?_ _) | (refine Below.trans ?_ (Below.mono (by with_reducible assumption) ?_)) | omega | (exact Below.size (by with_reducible assumption)) | (simp; done) | (simp; omega)))
  have p1 : Own w1 w.heap.size (whC h) := Own.below (Own.new' (w := w) #[.int .i64 h.full, .int .i64 h.read, .int .i64 h.slip, .int .i64 h.skew, .int .i64 h.circ, .int .i64 h.lo, .int .i64 h.hi, .int .i64 h.wrong] _ (by simp) rfl) hb1 (by simp)
  have hz1 := p1.lt
  clear hb1
  obtain ⟨l0, c0, f0⟩ := p1
  gi_wp2
  refine wpIn_gen fun W0 hW0 => ?_
  have hB0 : Below w1.heap.size w1 W0 := by rw [hW0]; (repeat' (first | (with_reducible exact Below.refl _ _) | (with_reducible assumption) | (with_reducible refine Below.drew ?_) | (with_reducible refine below_drewN ?_ _) | (with_reducible refine Below.setCell ?_ ?_ _) | (with_reducible refine Below.alloc ?_ ?_ _) | (refine Below.trans ?_ (Below.mono (by with_reducible assumption) ?_)) | omega | (exact Below.size (by with_reducible assumption)) | (simp; done) | (simp; omega)))
  have hsz : W0.heap.size = w1.heap.size + 2 := by rw [hW0]; simp
  have o0 : Own W0 w1.heap.size (dkC h A n cap) := by rw [hW0]; exact (Own.new' (w := w1) #[.int .i64 h.full, .int .i64 h.read, .int .i64 h.slip, .int .i64 h.skew, .int .i64 h.circ, .int .i64 h.lo, .int .i64 h.hi, .int .i64 h.wrong, .slice A n cap] _ (by simp) rfl).alloc _
  have o1 : Own W0 (w1.heap.size + 1) [.int .i64 n] := by rw [hW0]; exact Own.new' _ _ (by simp) rfl
  have hBW : Below w.heap.size w W0 := hB1.trans (hB0.mono hB1.size)
  clear hW0 l0 c0 f0
  refine wpIn_rangeB (by omega) (gf := 76) (fst := #[dkV h A n cap]) (lb := #[]) rfl (enters_of Try.func76 (by kernel_rfl) rfl)
    (wallB h A n cap w.heap.size w.heap.size W0 11 (by omega) (by omega) hV.out.k)
    (fun k1 k2 => k1.trans k2) (fun W o o' ho hc hw => KpC.put (by omega) (by omega) (by have := (Array.getElem?_eq_some_iff.1 ho).1; omega) (by omega)) (fun _ => rfl)
    (fun pre W => Own W (w1.heap.size + 1) [.int .i64 (Wl.fewS h ws (pre.map (·.1)) : Nat)] ∧ Own W w1.heap.size (dkC h A n cap) ∧ W0.heap.size ≤ W.heap.size ∧ Below w.heap.size w W)
    (fun _ _ _ => False)
    ?hI (fun _ _ _ _ _ hs _ _ => hs) ⟨by rw [hn.out] at o1; exact o1, o0, Nat.le_refl _, hBW⟩
    (fun x a' W => ∃ Bf, W0.heap.size ≤ Bf ∧ Own W Bf [.int .i64 x.1.1, .int .i64 x.1.2] ∧ a' = { tmps := #[whV h, .slice A n cap, .pointer (some ⟨w.heap.size, 0, none⟩), undef, .int .i64 0, .int .i64 0, .int .i64 0, .pointer (some ⟨w1.heap.size, 0, none⟩), .pointer (some ⟨w1.heap.size + 1, 0, none⟩), .pointer (some ⟨Bf, 0, none⟩), whV h, .slice A n cap, .int .i64 0, .int .i64 0, .bool false, undef, whV h, .slice A n cap, dkV h A n cap, .slice A n cap, .int .i64 n, dkV h A n cap, .func (.func 76) #[dkV h A n cap] #[], .agg #[.int .i64 x.1.1, .int .i64 x.1.2], undef, undef, undef, undef, undef, undef], defers := [] })
    ?hAx ?assign ?body ?done ?stop
  case hI =>
    rintro s X Y row ⟨e2, e3, e6, e7⟩ hg hr
    have hrow : ∀ r, row = some r → W0.heap.size ≤ r := fun r e => (hr r e).1
    exact ⟨e2.grown hg (fun e => by have := hrow _ e.symm; omega), e3.grown hg (fun e => by have := hrow _ e.symm; omega), Nat.le_trans e6 hg.size, e7.grown hg (by omega) (fun k e => by have := hrow k e; omega)⟩
  case hAx =>
    rintro x a' _ X Y row ⟨Bf, h2, h4, h5⟩ hg hr
    exact ⟨Bf, h2, own_abides h4 hg (fun r e => (hr r e).2), h5⟩
  case assign =>
    rintro l pre x W K ⟨e2, e3, e6, e7⟩ hK
    simp only [facT]
    gi_wp2
    have hb : Below W.heap.size W (W.alloc (.cells #[.int .i64 x.1.1, .int .i64 x.1.2] 90)) := (Below.refl _ W).alloc (Nat.le_refl _) _
    exact hK _ _ ((KeepsOthers.alloc _ _).from _) (KpC.below hb (by omega) (by omega)) ⟨e2.alloc _, e3.alloc _, by simp; omega, e7.trans (hb.mono (by omega))⟩ ⟨W.heap.size, e6, Own.new' _ _ rfl rfl, rfl⟩
  case stop =>
    rintro D c pre W _ hh _
    exact hh.elim
  case done =>
    rintro D xs W hD hS ⟨e2, e3, e6, e7⟩ hK
    rw [hS, hN.out] at e2
    clear hS
    obtain ⟨l3, c3, f3'⟩ := e2
    gi_wp2
    refine ⟨by simp, .inl ⟨_, _, rfl, run_takeDeferred hK, ?_⟩⟩
    exact ⟨_, results_tmp2 rfl _ _ _, rfl, e7.trans (belowK_b (w := w) (Nat.le_refl _) W D _ _ (by omega) hK rfl rfl)⟩
  case body =>
    rintro l pre x a' W hl hr ⟨e2, e3, e6, e7⟩ ⟨Bf, hBf, oo, rfl⟩ hlt
    have h4 := at_bd hV.out x.2
    have HC := Lib.hid (fun W hA' => wwrongsW h A ws n cap x.1 W hA' hn hn8 hV.out.k hV.out.l h4)
    obtain ⟨x, hIn⟩ := x
    obtain ⟨t1, t2⟩ := x
    obtain ⟨c, hc⟩ : ∃ c : Nat, Wl.fewS h ws (pre.map (·.1)) = c := ⟨_, rfl⟩
    obtain ⟨q, hq⟩ : ∃ q : Nat, Wl.wrongsN h ws (t1, t2) = q := ⟨_, rfl⟩
    have hnew : Wl.fewS h ws ((pre ++ [(⟨(t1, t2), hIn⟩ : At h)]).map (·.1)) = min c q := by
      rw [List.map_append, List.map_cons, List.map_nil, Wl.fewS_snoc, hc, hq]
    rw [hc] at e2
    simp only [hq] at HC
    have Hnew := Lib.hid hnew
    have S1 : FwS h A n cap w1.heap.size Bf (t1, t2) c W.drew := ⟨e3.drew, e2.drew, oo.drew⟩
    have B1 : Below W.heap.size W W.drew := (Below.refl _ _).drew
    have hmin : min (c : Int) (q : Int) = ((min c q : Nat) : Int) := by omega
    clear e2 e3 oo hc hq hnew
    gi_wp2
    refine rw_startJ (FwS h A n cap w1.heap.size Bf (t1, t2) c) 5 6 (by kernel_rfl) rfl ?_
    generalize hR : W.drew = R0 at S1 B1 ⊢
    clear hR
    refine rw_takeJ (by kernel_rfl) (fuel := 3) [0, 1, 2] (by kernel_rfl) (by kernel_rfl) (by intro _ _ d _ _ h; first | (cases d <;> exact h) | (simp [Exit.then, Exit.inBlock, ownPostG] at h)) rfl (by kernel_rfl) (by kernel_rfl) S1 ?_; simp only [pickL, pick1, List.cons_append, List.nil_append]
    iterate 3 (refine wpTake_cons (v := ?_) (Or.inl ⟨by rfl, ?_⟩) ?_; rotate_left; (intro w' hSw; have yd := hSw.d.c; have yy := hSw.y.c; have yt := hSw.t.c; clear hSw; go_simp; (try with_reducible rfl)); (try simp only [Act.put, List.setIfInBounds_toArray, List.set_cons_zero, List.set_cons_succ]))
    refine wpTake_nil ?_
    refine rw_oneJ (fuel := 2) 3 rfl (by kernel_rfl) (by kernel_rfl) ?_; simp only [pick1, headWJ]
    intro K' hK
    rw [if_pos (by rfl)]
    gi_wp2
    refine (CallsIn.inRound l (callsIn_wide.2 (HC.out _ (HA.out.below (e7.trans (B1.mono (by omega))) (Nat.le_refl _))))).mono ?_
    rintro e w2 ⟨rfl, hb2⟩
    have S2 := S1.below hb2
    have B2 : Below W.heap.size W w2 := B1.trans (hb2.mono B1.size)
    refine hK _ _ (Or.inr (Or.inr S2)) ?_
    clear S1 B1 hb2 hK K'
    (try simp only [Act.put, List.setIfInBounds_toArray, List.set_cons_zero, List.set_cons_succ])
    refine rw_oneJ (fuel := 1) 4 rfl (by kernel_rfl) (by kernel_rfl) ?_; simp only [pick1, headWJ]
    intro K' hK
    rw [if_pos (by rfl)]
    gi_wp2
    refine hK _ _ (Or.inr (Or.inr S2)) ?_
    clear hK K'
    (try simp only [Act.put, List.setIfInBounds_toArray, List.set_cons_zero, List.set_cons_succ])
    obtain ⟨ly, cy, fy⟩ := S2.y
    refine rw_oneJ (fuel := 0) 5 rfl (by kernel_rfl) (by kernel_rfl) ?_; simp only [pick1, headWJ]
    intro K' hK
    rw [if_pos (by rfl)]
    gi_wp2
    refine hK _ _ (by first | trivial | exact Or.inl rfl | exact Or.inl trivial) ?_
    clear hK K'
    refine rw_doneJ (by kernel_rfl) ?_
    gi_wp2
    have h2s := B2.size
    refine ⟨((KeepsOthers.of_grownBy (grown_of_below B2) (fun j o e _ => by cases e)).trans (KeepsOthers.setCell _ _ _)).from _, (KpC.below B2 (by omega) (by omega)).trans (KpC.set (by omega) (by omega) (by omega) _ _), ?_, S2.d.setOther (by simp) _, by simp; omega, (e7.trans (B2.mono (by omega))).setCell (by simp; omega) _⟩
    rw [Hnew.out, ← hmin]
    exact S2.y.set 0 (by simp) _
end
end Go.Proofs.Ytgmhelclofnpkaa
namespace Go.Proofs.Ytgmhelclofnpkaa
open Go.RowKit

theorem inf8P : (Try.prog.info? 53).map (fun i => (i.zero, i.size, i.bytes)) = some (some (.agg #[.int .i64 0, .int .i64 0]), 2, 16) := by kernel_rfl
theorem inf8I : (Try.prog.info? 3).map (fun i => (i.zero, i.size, i.bytes)) = some (some (.int .i64 0), 1, 8) := by kernel_rfl
theorem inf8W : (Try.prog.info? 36).map (fun i => (i.zero, i.size, i.bytes)) = some (some (.agg #[.int .i64 0, .int .i64 0, .int .i64 0, .int .i64 0, .int .i64 0]), 5, 40) := by kernel_rfl
abbrev zeroDs : List Value := [.slice none 0 0, .slice none 0 0, .int .i64 0, .int .i64 0, .int .i64 0, .int .i64 0, .int .i64 0, .int .i64 0, .int .i64 0, .int .i64 0, .int .i64 0, .slice none 0 0]

abbrev set12 (W : World) (B : Nat) (v0 v1 v2 v3 v4 v5 v6 v7 v8 v9 v10 v11 : Value) : World := ((((((((((((W.setCell ⟨B, 0, none⟩ v0).setCell ⟨B, 1, none⟩ v1).setCell ⟨B, 2, none⟩ v2).setCell ⟨B, 3, none⟩ v3).setCell ⟨B, 4, none⟩ v4).setCell ⟨B, 5, none⟩ v5).setCell ⟨B, 6, none⟩ v6).setCell ⟨B, 7, none⟩ v7).setCell ⟨B, 8, none⟩ v8).setCell ⟨B, 9, none⟩ v9).setCell ⟨B, 10, none⟩ v10).setCell ⟨B, 11, none⟩ v11)
theorem own12 {W : World} {B : Nat} (o : Own W B zeroDs) (v0 v1 v2 v3 v4 v5 v6 v7 v8 v9 v10 v11 : Value) : Own (set12 W B v0 v1 v2 v3 v4 v5 v6 v7 v8 v9 v10 v11) B [v0, v1, v2, v3, v4, v5, v6, v7, v8, v9, v10, v11] := ((((((((((((o.set 0 (by simp) v0).set 1 (by simp) v1).set 2 (by simp) v2).set 3 (by simp) v3).set 4 (by simp) v4).set 5 (by simp) v5).set 6 (by simp) v6).set 7 (by simp) v7).set 8 (by simp) v8).set 9 (by simp) v9).set 10 (by simp) v10).set 11 (by simp) v11)
theorem gro12 {W : World} {base e sz B : Nat} {v : Value} {rows : List (List Value)} (h : Gro W base e sz v rows) (hb : B < base) (v0 v1 v2 v3 v4 v5 v6 v7 v8 v9 v10 v11 : Value) : Gro (set12 W B v0 v1 v2 v3 v4 v5 v6 v7 v8 v9 v10 v11) base e sz v rows := ((((((((((((h.setCell (a := ⟨B, 0, none⟩) (by exact hb) v0).setCell (a := ⟨B, 1, none⟩) (by exact hb) v1).setCell (a := ⟨B, 2, none⟩) (by exact hb) v2).setCell (a := ⟨B, 3, none⟩) (by exact hb) v3).setCell (a := ⟨B, 4, none⟩) (by exact hb) v4).setCell (a := ⟨B, 5, none⟩) (by exact hb) v5).setCell (a := ⟨B, 6, none⟩) (by exact hb) v6).setCell (a := ⟨B, 7, none⟩) (by exact hb) v7).setCell (a := ⟨B, 8, none⟩) (by exact hb) v8).setCell (a := ⟨B, 9, none⟩) (by exact hb) v9).setCell (a := ⟨B, 10, none⟩) (by exact hb) v10).setCell (a := ⟨B, 11, none⟩) (by exact hb) v11)
theorem below12 {w W : World} {m B : Nat} (k : Below m w W) (hB : m ≤ B) (v0 v1 v2 v3 v4 v5 v6 v7 v8 v9 v10 v11 : Value) : Below m w (set12 W B v0 v1 v2 v3 v4 v5 v6 v7 v8 v9 v10 v11) := ((((((((((((k.setCell (by exact hB) v0).setCell (by exact hB) v1).setCell (by exact hB) v2).setCell (by exact hB) v3).setCell (by exact hB) v4).setCell (by exact hB) v5).setCell (by exact hB) v6).setCell (by exact hB) v7).setCell (by exact hB) v8).setCell (by exact hB) v9).setCell (by exact hB) v10).setCell (by exact hB) v11)

set_option maxRecDepth 100000 in
set_option maxHeartbeats 8000000 in
theorem d8CopyW (d : Ds) (A B C : Option Addr) (cA cB cC : Nat) (w : World) (hd : Hid (Dp.Ok d)) (hA : Rd 2 w A (d.P.map ptrow)) (hB : RdI w B d.O) (hC : Rd 5 w C (d.l.map wkrow)) :
    Calls Try.prog 23 #[dsV A B C cA cB cC d] w fun e w' => ∃ vA vB vC, e = .returned (.agg #[vA, vB, .int .i64 d.u, .int .i64 d.h.full, .int .i64 d.h.read, .int .i64 d.h.slip, .int .i64 d.h.skew, .int .i64 d.h.circ, .int .i64 d.h.lo, .int .i64 d.h.hi, .int .i64 d.h.wrong, vC]) ∧ Gro w' w.heap.size 53 2 vA (d.P.map ptrow) ∧ Gro w' w.heap.size 3 1 vB (d.O.map irow) ∧ Gro w' w.heap.size 36 5 vC (d.l.map wkrow) ∧ Below w.heap.size w w' := by
  obtain ⟨i0, hi0, hi1, hi2, hi3⟩ := info_parts inf8P
  obtain ⟨j0, hj0, hj1, hj2, hj3⟩ := info_parts inf8I
  obtain ⟨k0, hk0, hk1, hk2, hk3⟩ := info_parts inf8W
  have HA := Lib.hid hA
  have HB := Lib.hid (show Rd 1 w B (d.O.map irow) from hB)
  have HC := Lib.hid hC
  have hPl : d.P.length ≤ 6 := hd.out.six
  have hOl : d.O.length ≤ 6 := by have := hd.out.ol; omega
  have hLl : d.l.length ≤ 8 := hd.out.wh.n
  clear hA hB hC
  go_enter Try.func23, Try.ntmps23
  go_wp2
  refine rg_start (fun w' => Own w' w.heap.size (dsC A B C cA cB cC d)) 18 (by kernel_rfl) rfl ?_
  refine rg_take (fuel := 12) [1, 2, 5, 6, 9, 10] (by kernel_rfl) (by intro _ _ d _ _ h; cases d <;> exact h) rfl (by kernel_rfl) (by kernel_rfl) (by refine Own.drew ?_; exact ((Own.new' _ _ rfl rfl).alloc _).alloc _) ?_
  simp only [pickL, pick1, List.cons_append, List.nil_append]
  iterate 6 (refine wpTake_cons (v := ?_) (Or.inl ⟨by rfl, ?_⟩) ?_; rotate_left; (intro w' hSw; have y0 : w'.cell? ⟨w.heap.size, 0, none⟩ = some (.slice A d.P.length cA) := hSw.c 0; have y1 : w'.cell? ⟨w.heap.size, 1, none⟩ = some (.slice B d.O.length cB) := hSw.c 1; have y2 : w'.cell? ⟨w.heap.size, 11, none⟩ = some (.slice C d.l.length cC) := hSw.c 11; clear hSw; go_simp; (try with_reducible rfl)); (try simp only [Act.put, List.setIfInBounds_toArray, List.set_cons_zero, List.set_cons_succ]))
  refine wpTake_nil ?_
  generalize hW : World.drew _ = W
  have hB : Below w.heap.size w W := by rw [← hW]; (repeat' (first | (with_reducible exact Below.refl _ _) | (with_reducible assumption) | (with_reducible refine Below.drew ?_) | (with_reducible refine below_drewN ?_ _) | (with_reducible refine Below.setCell ?_ ?_ _) | (with_reducible refine Below.alloc ?_ ?_ _) | (refine Below.trans ?_ (Below.mono (by with_reducible assumption) ?_)) | omega | (exact Below.size (by with_reducible assumption)) | (simp; done) | (simp; omega)))
  have o : Own W w.heap.size (dsC A B C cA cB cC d) := by rw [← hW]; exact (((Own.new' _ _ rfl rfl).alloc _).alloc _).drew
  have r : Own W (w.heap.size + 1) zeroDs := by rw [← hW]; exact ((Own.new' _ _ (by simp) rfl).alloc _).drew
  have p : Own W (w.heap.size + 1 + 1) (dsC A B C cA cB cC d) := by rw [← hW]; exact (Own.new' _ _ (by simp) rfl).drew
  clear hW
  refine rg_many (fuel := 11) [0, 4, 8] rfl (by simp) (by kernel_rfl) (by kernel_rfl) ?_
  intro c hc
  rcases (show c = 0 ∨ c = 4 ∨ c = 8 by simpa using hc) with rfl | rfl | rfl
  · intro K hK
    simp only [pick1]
    refine step_empty (K := K) rfl 22 53 2 (w.heap.size + 1 + 1 + 1) rfl (by kernel_rfl) i0 hi0 p.lt ?_
    intro g0 W' G0 hb
    replace o := o.below hb o.lt
    replace p := p.below hb p.lt
    replace r := r.below hb r.lt
    refine hK.out _ _ o ?_
    replace hB := hB.trans (hb.mono hB.size)
    clear hb hK
    (try simp only [Act.put, List.setIfInBounds_toArray, List.set_cons_zero, List.set_cons_succ])
    refine rg_many (fuel := 10) [3, 4, 8] rfl (by simp) (by kernel_rfl) (by kernel_rfl) ?_
    intro c hc
    rcases (show c = 3 ∨ c = 4 ∨ c = 8 by simpa using hc) with rfl | rfl | rfl
    · intro K hK
      simp only [pick1]
      refine step_fill rfl (.tmp 5) (.tmp 7) 22 rfl (w.heap.size + 1 + 1 + 1) 53 i0 _ 2 16 (by kernel_rfl) hi0 hi1 hi2 hi3 rfl (by decide) g0 rfl G0 p.lt A d.P.length cA (d.P.map ptrow) rfl (by rw [List.length_map]) (HA.out.below hB (Nat.le_refl _)) (fun r hr => (by obtain ⟨q, _, rfl⟩ := List.mem_map.1 hr; rfl)) (by unfold maxLen; omega) (by omega) ?_
      intro v0 W' G0 hb
      replace o := o.below hb o.lt
      replace p := p.below hb p.lt
      replace r := r.below hb r.lt
      refine hK.out _ _ o ?_
      replace hB := hB.trans (hb.mono hB.size)
      clear hb hK
      (try simp only [Act.put, List.setIfInBounds_toArray, List.set_cons_zero, List.set_cons_succ])
      refine rg_take (fuel := 9) [12] (by kernel_rfl) (by intro _ _ d _ _ h; cases d <;> exact h) rfl (by kernel_rfl) (by kernel_rfl) o ?_
      simp only [pickL, pick1, List.cons_append, List.nil_append]
      (refine wpTake_cons (v := ?_) (Or.inl ⟨by rfl, ?_⟩) ?_; rotate_left; (intro w' hSw; clear hSw; go_simp; (try with_reducible rfl)); (try simp only [Act.put, List.setIfInBounds_toArray, List.set_cons_zero, List.set_cons_succ]))
      refine wpTake_nil ?_
      refine rg_many (fuel := 8) [4, 8] rfl (by simp) (by kernel_rfl) (by kernel_rfl) ?_
      intro c hc
      rcases (show c = 4 ∨ c = 8 by simpa using hc) with rfl | rfl
      · intro K hK
        simp only [pick1]
        refine step_empty (K := K) rfl 38 3 1 (w.heap.size + 1 + 1 + 1) rfl (by kernel_rfl) j0 hj0 p.lt ?_
        intro g1 W' G1 hb
        replace o := o.below hb o.lt
        replace p := p.below hb p.lt
        replace r := r.below hb r.lt
        refine hK.out _ _ o ?_
        replace hB := hB.trans (hb.mono hB.size)
        replace G0 := G0.below hb (Nat.le_refl _)
        clear hb hK
        (try simp only [Act.put, List.setIfInBounds_toArray, List.set_cons_zero, List.set_cons_succ])
        refine rg_many (fuel := 7) [7, 8] rfl (by simp) (by kernel_rfl) (by kernel_rfl) ?_
        intro c hc
        rcases (show c = 7 ∨ c = 8 by simpa using hc) with rfl | rfl
        · intro K hK
          simp only [pick1]
          refine step_fill rfl (.tmp 9) (.tmp 11) 38 rfl (w.heap.size + 1 + 1 + 1) 3 j0 _ 1 8 (by kernel_rfl) hj0 hj1 hj2 hj3 rfl (by decide) g1 rfl G1 p.lt B d.O.length cB (d.O.map irow) rfl (by rw [List.length_map]) (HB.out.below hB (Nat.le_refl _)) (fun r hr => (by obtain ⟨q, _, rfl⟩ := List.mem_map.1 hr; rfl)) (by unfold maxLen; omega) (by omega) ?_
          intro v1 W' G1 hb
          replace o := o.below hb o.lt
          replace p := p.below hb p.lt
          replace r := r.below hb r.lt
          refine hK.out _ _ o ?_
          replace hB := hB.trans (hb.mono hB.size)
          replace G0 := G0.below hb (Nat.le_refl _)
          clear hb hK
          (try simp only [Act.put, List.setIfInBounds_toArray, List.set_cons_zero, List.set_cons_succ])
          refine rg_many (fuel := 6) [8] rfl (by simp) (by kernel_rfl) (by kernel_rfl) ?_
          intro c hc
          rcases (show c = 8 by simpa using hc) with rfl
          · intro K hK
            simp only [pick1]
            refine step_empty (K := K) rfl 37 36 5 (w.heap.size + 1 + 1 + 1) rfl (by kernel_rfl) k0 hk0 p.lt ?_
            intro g2 W' G2 hb
            replace o := o.below hb o.lt
            replace p := p.below hb p.lt
            replace r := r.below hb r.lt
            refine hK.out _ _ o ?_
            replace hB := hB.trans (hb.mono hB.size)
            replace G0 := G0.below hb (Nat.le_refl _)
            replace G1 := G1.below hb (Nat.le_refl _)
            clear hb hK
            (try simp only [Act.put, List.setIfInBounds_toArray, List.set_cons_zero, List.set_cons_succ])
            refine rg_many (fuel := 5) [11] rfl (by simp) (by kernel_rfl) (by kernel_rfl) ?_
            intro c hc
            rcases (show c = 11 by simpa using hc) with rfl
            · intro K hK
              simp only [pick1]
              refine step_fill rfl (.tmp 13) (.tmp 15) 37 rfl (w.heap.size + 1 + 1 + 1) 36 k0 _ 5 40 (by kernel_rfl) hk0 hk1 hk2 hk3 rfl (by decide) g2 rfl G2 p.lt C d.l.length cC (d.l.map wkrow) rfl (by rw [List.length_map]) (HC.out.below hB (Nat.le_refl _)) (fun r hr => (by obtain ⟨q, _, rfl⟩ := List.mem_map.1 hr; rfl)) (by unfold maxLen; omega) (by omega) ?_
              intro v2 W' G2 hb
              replace o := o.below hb o.lt
              replace p := p.below hb p.lt
              replace r := r.below hb r.lt
              refine hK.out _ _ o ?_
              replace hB := hB.trans (hb.mono hB.size)
              replace G0 := G0.below hb (Nat.le_refl _)
              replace G1 := G1.below hb (Nat.le_refl _)
              clear hb hK
              (try simp only [Act.put, List.setIfInBounds_toArray, List.set_cons_zero, List.set_cons_succ])
              obtain ⟨X0, Y0, rfl, _⟩ := G0.out
              obtain ⟨X1, Y1, rfl, _⟩ := G1.out
              obtain ⟨X2, Y2, rfl, _⟩ := G2.out
              simp only [List.length_map]
              refine rg_one (fuel := 4) 13 rfl (by kernel_rfl) (by kernel_rfl) ?_
              simp only [pick1, wpHead]
              intro K hK
              rw [if_pos (by rfl)]
              obtain ⟨pl, pc, pf⟩ := p
              have p := Own.mk pl pc pf
              go_simp
              refine hK.out _ _ (o.setOther (by simp; omega) _) ?_
              clear hK K pc pf
              (try simp only [Act.put, List.setIfInBounds_toArray, List.set_cons_zero, List.set_cons_succ])
              replace o := o.setOther (a := ⟨w.heap.size + 1 + 1, 0, none⟩) (by show _ ≠ _; simp; omega) (.slice X0 d.P.length Y0)
              replace p := p.set 0 (by simp) (.slice X0 d.P.length Y0)
              replace r := r.setOther (a := ⟨w.heap.size + 1 + 1, 0, none⟩) (by show _ ≠ _; simp) (.slice X0 d.P.length Y0)
              replace hB := hB.setCell (show w.heap.size ≤ (⟨w.heap.size + 1 + 1, 0, none⟩ : Addr).block by show _ ≤ w.heap.size + 1 + 1; omega) (.slice X0 d.P.length Y0)
              replace G0 := G0.setCell (a := ⟨w.heap.size + 1 + 1, 0, none⟩) (by simp) (.slice X0 d.P.length Y0)
              replace G1 := G1.setCell (a := ⟨w.heap.size + 1 + 1, 0, none⟩) (by simp) (.slice X0 d.P.length Y0)
              replace G2 := G2.setCell (a := ⟨w.heap.size + 1 + 1, 0, none⟩) (by simp) (.slice X0 d.P.length Y0)
              generalize World.setCell _ _ _ = W5 at o p r hB G0 G1 G2 ⊢
              refine rg_take (fuel := 3) [14] (by kernel_rfl) (by intro _ _ d _ _ h; cases d <;> exact h) rfl (by kernel_rfl) (by kernel_rfl) o ?_
              simp only [pickL, pick1, List.cons_append, List.nil_append]
              (refine wpTake_cons (v := ?_) (Or.inl ⟨by rfl, ?_⟩) ?_; rotate_left; (intro w' hSw; clear hSw; go_simp; (try with_reducible rfl)); (try simp only [Act.put, List.setIfInBounds_toArray, List.set_cons_zero, List.set_cons_succ]))
              refine wpTake_nil ?_
              refine rg_one (fuel := 2) 15 rfl (by kernel_rfl) (by kernel_rfl) ?_
              simp only [pick1, wpHead]
              intro K hK
              rw [if_pos (by rfl)]
              obtain ⟨pl, pc, pf⟩ := p
              have p := Own.mk pl pc pf
              go_simp
              refine hK.out _ _ (o.setOther (by simp; omega) _) ?_
              clear hK K pc pf
              (try simp only [Act.put, List.setIfInBounds_toArray, List.set_cons_zero, List.set_cons_succ])
              replace o := o.setOther (a := ⟨w.heap.size + 1 + 1, 1, none⟩) (by show _ ≠ _; simp; omega) (.slice X1 d.O.length Y1)
              replace p := p.set 1 (by simp) (.slice X1 d.O.length Y1)
              replace r := r.setOther (a := ⟨w.heap.size + 1 + 1, 1, none⟩) (by show _ ≠ _; simp) (.slice X1 d.O.length Y1)
              replace hB := hB.setCell (show w.heap.size ≤ (⟨w.heap.size + 1 + 1, 1, none⟩ : Addr).block by show _ ≤ w.heap.size + 1 + 1; omega) (.slice X1 d.O.length Y1)
              replace G0 := G0.setCell (a := ⟨w.heap.size + 1 + 1, 1, none⟩) (by simp) (.slice X1 d.O.length Y1)
              replace G1 := G1.setCell (a := ⟨w.heap.size + 1 + 1, 1, none⟩) (by simp) (.slice X1 d.O.length Y1)
              replace G2 := G2.setCell (a := ⟨w.heap.size + 1 + 1, 1, none⟩) (by simp) (.slice X1 d.O.length Y1)
              generalize World.setCell _ _ _ = W6 at o p r hB G0 G1 G2 ⊢
              refine rg_take (fuel := 1) [16] (by kernel_rfl) (by intro _ _ d _ _ h; cases d <;> exact h) rfl (by kernel_rfl) (by kernel_rfl) o ?_
              simp only [pickL, pick1, List.cons_append, List.nil_append]
              (refine wpTake_cons (v := ?_) (Or.inl ⟨by rfl, ?_⟩) ?_; rotate_left; (intro w' hSw; clear hSw; go_simp; (try with_reducible rfl)); (try simp only [Act.put, List.setIfInBounds_toArray, List.set_cons_zero, List.set_cons_succ]))
              refine wpTake_nil ?_
              refine rg_one (fuel := 0) 17 rfl (by kernel_rfl) (by kernel_rfl) ?_
              simp only [pick1, wpHead]
              intro K hK
              rw [if_pos (by rfl)]
              obtain ⟨pl, pc, pf⟩ := p
              have p := Own.mk pl pc pf
              go_simp
              refine hK.out _ _ (o.setOther (by simp; omega) _) ?_
              clear hK K pc pf
              (try simp only [Act.put, List.setIfInBounds_toArray, List.set_cons_zero, List.set_cons_succ])
              replace o := o.setOther (a := ⟨w.heap.size + 1 + 1, 11, none⟩) (by show _ ≠ _; simp; omega) (.slice X2 d.l.length Y2)
              replace p := p.set 11 (by simp) (.slice X2 d.l.length Y2)
              replace r := r.setOther (a := ⟨w.heap.size + 1 + 1, 11, none⟩) (by show _ ≠ _; simp) (.slice X2 d.l.length Y2)
              replace hB := hB.setCell (show w.heap.size ≤ (⟨w.heap.size + 1 + 1, 11, none⟩ : Addr).block by show _ ≤ w.heap.size + 1 + 1; omega) (.slice X2 d.l.length Y2)
              replace G0 := G0.setCell (a := ⟨w.heap.size + 1 + 1, 11, none⟩) (by simp) (.slice X2 d.l.length Y2)
              replace G1 := G1.setCell (a := ⟨w.heap.size + 1 + 1, 11, none⟩) (by simp) (.slice X2 d.l.length Y2)
              replace G2 := G2.setCell (a := ⟨w.heap.size + 1 + 1, 11, none⟩) (by simp) (.slice X2 d.l.length Y2)
              generalize World.setCell _ _ _ = W7 at o p r hB G0 G1 G2 ⊢
              refine rg_done (by kernel_rfl) ?_
              simp only [List.set_cons_zero, List.set_cons_succ] at p
              simp only [List.length_map] at G0 G1 G2
              obtain ⟨pl, pc, pf⟩ := p
              have r0 := Lib.hid r
              obtain ⟨rl, rc, rf⟩ := r
              go_wp2
              refine bodyPost_ret (results_cell1 (B := w.heap.size + 1) (vs := dsC X0 X1 X2 Y0 Y1 Y2 d) rfl rfl (own12 r0.out _ _ _ _ _ _ _ _ _ _ _ _) (by kernel_rfl) (by kernel_rfl)) rfl ?_
              exact ⟨_, _, _, rfl, (gro12 G0 (by omega) _ _ _ _ _ _ _ _ _ _ _ _).base (by omega), (gro12 G1 (by omega) _ _ _ _ _ _ _ _ _ _ _ _).base (by omega), (gro12 G2 (by omega) _ _ _ _ _ _ _ _ _ _ _ _).base (by omega), below12 hB (by omega) _ _ _ _ _ _ _ _ _ _ _ _⟩
        · intro K hK
          simp only [pick1]
          refine step_empty (K := K) rfl 37 36 5 (w.heap.size + 1 + 1 + 1) rfl (by kernel_rfl) k0 hk0 p.lt ?_
          intro g2 W' G2 hb
          replace o := o.below hb o.lt
          replace p := p.below hb p.lt
          replace r := r.below hb r.lt
          refine hK.out _ _ o ?_
          replace hB := hB.trans (hb.mono hB.size)
          replace G0 := G0.below hb (Nat.le_refl _)
          replace G1 := G1.below hb (Nat.le_refl _)
          clear hb hK
          (try simp only [Act.put, List.setIfInBounds_toArray, List.set_cons_zero, List.set_cons_succ])
          refine rg_many (fuel := 6) [7] rfl (by simp) (by kernel_rfl) (by kernel_rfl) ?_
          intro c hc
          rcases (show c = 7 by simpa using hc) with rfl
          · intro K hK
            simp only [pick1]
            refine step_fill rfl (.tmp 9) (.tmp 11) 38 rfl (w.heap.size + 1 + 1 + 1) 3 j0 _ 1 8 (by kernel_rfl) hj0 hj1 hj2 hj3 rfl (by decide) g1 rfl G1 p.lt B d.O.length cB (d.O.map irow) rfl (by rw [List.length_map]) (HB.out.below hB (Nat.le_refl _)) (fun r hr => (by obtain ⟨q, _, rfl⟩ := List.mem_map.1 hr; rfl)) (by unfold maxLen; omega) (by omega) ?_
            intro v1 W' G1 hb
            replace o := o.below hb o.lt
            replace p := p.below hb p.lt
            replace r := r.below hb r.lt
            refine hK.out _ _ o ?_
            replace hB := hB.trans (hb.mono hB.size)
            replace G0 := G0.below hb (Nat.le_refl _)
            replace G2 := G2.below hb (Nat.le_refl _)
            clear hb hK
            (try simp only [Act.put, List.setIfInBounds_toArray, List.set_cons_zero, List.set_cons_succ])
            refine rg_many (fuel := 5) [11] rfl (by simp) (by kernel_rfl) (by kernel_rfl) ?_
            intro c hc
            rcases (show c = 11 by simpa using hc) with rfl
            · intro K hK
              simp only [pick1]
              refine step_fill rfl (.tmp 13) (.tmp 15) 37 rfl (w.heap.size + 1 + 1 + 1) 36 k0 _ 5 40 (by kernel_rfl) hk0 hk1 hk2 hk3 rfl (by decide) g2 rfl G2 p.lt C d.l.length cC (d.l.map wkrow) rfl (by rw [List.length_map]) (HC.out.below hB (Nat.le_refl _)) (fun r hr => (by obtain ⟨q, _, rfl⟩ := List.mem_map.1 hr; rfl)) (by unfold maxLen; omega) (by omega) ?_
              intro v2 W' G2 hb
              replace o := o.below hb o.lt
              replace p := p.below hb p.lt
              replace r := r.below hb r.lt
              refine hK.out _ _ o ?_
              replace hB := hB.trans (hb.mono hB.size)
              replace G0 := G0.below hb (Nat.le_refl _)
              replace G1 := G1.below hb (Nat.le_refl _)
              clear hb hK
              (try simp only [Act.put, List.setIfInBounds_toArray, List.set_cons_zero, List.set_cons_succ])
              obtain ⟨X0, Y0, rfl, _⟩ := G0.out
              obtain ⟨X1, Y1, rfl, _⟩ := G1.out
              obtain ⟨X2, Y2, rfl, _⟩ := G2.out
              simp only [List.length_map]
              refine rg_one (fuel := 4) 13 rfl (by kernel_rfl) (by kernel_rfl) ?_
              simp only [pick1, wpHead]
              intro K hK
              rw [if_pos (by rfl)]
              obtain ⟨pl, pc, pf⟩ := p
              have p := Own.mk pl pc pf
              go_simp
              refine hK.out _ _ (o.setOther (by simp; omega) _) ?_
              clear hK K pc pf
              (try simp only [Act.put, List.setIfInBounds_toArray, List.set_cons_zero, List.set_cons_succ])
              replace o := o.setOther (a := ⟨w.heap.size + 1 + 1, 0, none⟩) (by show _ ≠ _; simp; omega) (.slice X0 d.P.length Y0)
              replace p := p.set 0 (by simp) (.slice X0 d.P.length Y0)
              replace r := r.setOther (a := ⟨w.heap.size + 1 + 1, 0, none⟩) (by show _ ≠ _; simp) (.slice X0 d.P.length Y0)
              replace hB := hB.setCell (show w.heap.size ≤ (⟨w.heap.size + 1 + 1, 0, none⟩ : Addr).block by show _ ≤ w.heap.size + 1 + 1; omega) (.slice X0 d.P.length Y0)
              replace G0 := G0.setCell (a := ⟨w.heap.size + 1 + 1, 0, none⟩) (by simp) (.slice X0 d.P.length Y0)
              replace G1 := G1.setCell (a := ⟨w.heap.size + 1 + 1, 0, none⟩) (by simp) (.slice X0 d.P.length Y0)
              replace G2 := G2.setCell (a := ⟨w.heap.size + 1 + 1, 0, none⟩) (by simp) (.slice X0 d.P.length Y0)
              generalize World.setCell _ _ _ = W5 at o p r hB G0 G1 G2 ⊢
              refine rg_take (fuel := 3) [14] (by kernel_rfl) (by intro _ _ d _ _ h; cases d <;> exact h) rfl (by kernel_rfl) (by kernel_rfl) o ?_
              simp only [pickL, pick1, List.cons_append, List.nil_append]
              (refine wpTake_cons (v := ?_) (Or.inl ⟨by rfl, ?_⟩) ?_; rotate_left; (intro w' hSw; clear hSw; go_simp; (try with_reducible rfl)); (try simp only [Act.put, List.setIfInBounds_toArray, List.set_cons_zero, List.set_cons_succ]))
              refine wpTake_nil ?_
              refine rg_one (fuel := 2) 15 rfl (by kernel_rfl) (by kernel_rfl) ?_
              simp only [pick1, wpHead]
              intro K hK
              rw [if_pos (by rfl)]
              obtain ⟨pl, pc, pf⟩ := p
              have p := Own.mk pl pc pf
              go_simp
              refine hK.out _ _ (o.setOther (by simp; omega) _) ?_
              clear hK K pc pf
              (try simp only [Act.put, List.setIfInBounds_toArray, List.set_cons_zero, List.set_cons_succ])
              replace o := o.setOther (a := ⟨w.heap.size + 1 + 1, 1, none⟩) (by show _ ≠ _; simp; omega) (.slice X1 d.O.length Y1)
              replace p := p.set 1 (by simp) (.slice X1 d.O.length Y1)
              replace r := r.setOther (a := ⟨w.heap.size + 1 + 1, 1, none⟩) (by show _ ≠ _; simp) (.slice X1 d.O.length Y1)
              replace hB := hB.setCell (show w.heap.size ≤ (⟨w.heap.size + 1 + 1, 1, none⟩ : Addr).block by show _ ≤ w.heap.size + 1 + 1; omega) (.slice X1 d.O.length Y1)
              replace G0 := G0.setCell (a := ⟨w.heap.size + 1 + 1, 1, none⟩) (by simp) (.slice X1 d.O.length Y1)
              replace G1 := G1.setCell (a := ⟨w.heap.size + 1 + 1, 1, none⟩) (by simp) (.slice X1 d.O.length Y1)
              replace G2 := G2.setCell (a := ⟨w.heap.size + 1 + 1, 1, none⟩) (by simp) (.slice X1 d.O.length Y1)
              generalize World.setCell _ _ _ = W6 at o p r hB G0 G1 G2 ⊢
              refine rg_take (fuel := 1) [16] (by kernel_rfl) (by intro _ _ d _ _ h; cases d <;> exact h) rfl (by kernel_rfl) (by kernel_rfl) o ?_
              simp only [pickL, pick1, List.cons_append, List.nil_append]
              (refine wpTake_cons (v := ?_) (Or.inl ⟨by rfl, ?_⟩) ?_; rotate_left; (intro w' hSw; clear hSw; go_simp; (try with_reducible rfl)); (try simp only [Act.put, List.setIfInBounds_toArray, List.set_cons_zero, List.set_cons_succ]))
              refine wpTake_nil ?_
              refine rg_one (fuel := 0) 17 rfl (by kernel_rfl) (by kernel_rfl) ?_
              simp only [pick1, wpHead]
              intro K hK
              rw [if_pos (by rfl)]
              obtain ⟨pl, pc, pf⟩ := p
              have p := Own.mk pl pc pf
              go_simp
              refine hK.out _ _ (o.setOther (by simp; omega) _) ?_
              clear hK K pc pf
              (try simp only [Act.put, List.setIfInBounds_toArray, List.set_cons_zero, List.set_cons_succ])
              replace o := o.setOther (a := ⟨w.heap.size + 1 + 1, 11, none⟩) (by show _ ≠ _; simp; omega) (.slice X2 d.l.length Y2)
              replace p := p.set 11 (by simp) (.slice X2 d.l.length Y2)
              replace r := r.setOther (a := ⟨w.heap.size + 1 + 1, 11, none⟩) (by show _ ≠ _; simp) (.slice X2 d.l.length Y2)
              replace hB := hB.setCell (show w.heap.size ≤ (⟨w.heap.size + 1 + 1, 11, none⟩ : Addr).block by show _ ≤ w.heap.size + 1 + 1; omega) (.slice X2 d.l.length Y2)
              replace G0 := G0.setCell (a := ⟨w.heap.size + 1 + 1, 11, none⟩) (by simp) (.slice X2 d.l.length Y2)
              replace G1 := G1.setCell (a := ⟨w.heap.size + 1 + 1, 11, none⟩) (by simp) (.slice X2 d.l.length Y2)
              replace G2 := G2.setCell (a := ⟨w.heap.size + 1 + 1, 11, none⟩) (by simp) (.slice X2 d.l.length Y2)
              generalize World.setCell _ _ _ = W7 at o p r hB G0 G1 G2 ⊢
              refine rg_done (by kernel_rfl) ?_
              simp only [List.set_cons_zero, List.set_cons_succ] at p
              simp only [List.length_map] at G0 G1 G2
              obtain ⟨pl, pc, pf⟩ := p
              have r0 := Lib.hid r
              obtain ⟨rl, rc, rf⟩ := r
              go_wp2
              refine bodyPost_ret (results_cell1 (B := w.heap.size + 1) (vs := dsC X0 X1 X2 Y0 Y1 Y2 d) rfl rfl (own12 r0.out _ _ _ _ _ _ _ _ _ _ _ _) (by kernel_rfl) (by kernel_rfl)) rfl ?_
              exact ⟨_, _, _, rfl, (gro12 G0 (by omega) _ _ _ _ _ _ _ _ _ _ _ _).base (by omega), (gro12 G1 (by omega) _ _ _ _ _ _ _ _ _ _ _ _).base (by omega), (gro12 G2 (by omega) _ _ _ _ _ _ _ _ _ _ _ _).base (by omega), below12 hB (by omega) _ _ _ _ _ _ _ _ _ _ _ _⟩
      · intro K hK
        simp only [pick1]
        refine step_empty (K := K) rfl 37 36 5 (w.heap.size + 1 + 1 + 1) rfl (by kernel_rfl) k0 hk0 p.lt ?_
        intro g2 W' G2 hb
        replace o := o.below hb o.lt
        replace p := p.below hb p.lt
        replace r := r.below hb r.lt
        refine hK.out _ _ o ?_
        replace hB := hB.trans (hb.mono hB.size)
        replace G0 := G0.below hb (Nat.le_refl _)
        clear hb hK
        (try simp only [Act.put, List.setIfInBounds_toArray, List.set_cons_zero, List.set_cons_succ])
        refine rg_many (fuel := 7) [4] rfl (by simp) (by kernel_rfl) (by kernel_rfl) ?_
        intro c hc
        rcases (show c = 4 by simpa using hc) with rfl
        · intro K hK
          simp only [pick1]
          refine step_empty (K := K) rfl 38 3 1 (w.heap.size + 1 + 1 + 1) rfl (by kernel_rfl) j0 hj0 p.lt ?_
          intro g1 W' G1 hb
          replace o := o.below hb o.lt
          replace p := p.below hb p.lt
          replace r := r.below hb r.lt
          refine hK.out _ _ o ?_
          replace hB := hB.trans (hb.mono hB.size)
          replace G0 := G0.below hb (Nat.le_refl _)
          replace G2 := G2.below hb (Nat.le_refl _)
          clear hb hK
          (try simp only [Act.put, List.setIfInBounds_toArray, List.set_cons_zero, List.set_cons_succ])
          refine rg_many (fuel := 6) [7] rfl (by simp) (by kernel_rfl) (by kernel_rfl) ?_
          intro c hc
          rcases (show c = 7 by simpa using hc) with rfl
          · intro K hK
            simp only [pick1]
            refine step_fill rfl (.tmp 9) (.tmp 11) 38 rfl (w.heap.size + 1 + 1 + 1) 3 j0 _ 1 8 (by kernel_rfl) hj0 hj1 hj2 hj3 rfl (by decide) g1 rfl G1 p.lt B d.O.length cB (d.O.map irow) rfl (by rw [List.length_map]) (HB.out.below hB (Nat.le_refl _)) (fun r hr => (by obtain ⟨q, _, rfl⟩ := List.mem_map.1 hr; rfl)) (by unfold maxLen; omega) (by omega) ?_
            intro v1 W' G1 hb
            replace o := o.below hb o.lt
            replace p := p.below hb p.lt
            replace r := r.below hb r.lt
            refine hK.out _ _ o ?_
            replace hB := hB.trans (hb.mono hB.size)
            replace G0 := G0.below hb (Nat.le_refl _)
            replace G2 := G2.below hb (Nat.le_refl _)
            clear hb hK
            (try simp only [Act.put, List.setIfInBounds_toArray, List.set_cons_zero, List.set_cons_succ])
            refine rg_many (fuel := 5) [11] rfl (by simp) (by kernel_rfl) (by kernel_rfl) ?_
            intro c hc
            rcases (show c = 11 by simpa using hc) with rfl
            · intro K hK
              simp only [pick1]
              refine step_fill rfl (.tmp 13) (.tmp 15) 37 rfl (w.heap.size + 1 + 1 + 1) 36 k0 _ 5 40 (by kernel_rfl) hk0 hk1 hk2 hk3 rfl (by decide) g2 rfl G2 p.lt C d.l.length cC (d.l.map wkrow) rfl (by rw [List.length_map]) (HC.out.below hB (Nat.le_refl _)) (fun r hr => (by obtain ⟨q, _, rfl⟩ := List.mem_map.1 hr; rfl)) (by unfold maxLen; omega) (by omega) ?_
              intro v2 W' G2 hb
              replace o := o.below hb o.lt
              replace p := p.below hb p.lt
              replace r := r.below hb r.lt
              refine hK.out _ _ o ?_
              replace hB := hB.trans (hb.mono hB.size)
              replace G0 := G0.below hb (Nat.le_refl _)
              replace G1 := G1.below hb (Nat.le_refl _)
              clear hb hK
              (try simp only [Act.put, List.setIfInBounds_toArray, List.set_cons_zero, List.set_cons_succ])
              obtain ⟨X0, Y0, rfl, _⟩ := G0.out
              obtain ⟨X1, Y1, rfl, _⟩ := G1.out
              obtain ⟨X2, Y2, rfl, _⟩ := G2.out
              simp only [List.length_map]
              refine rg_one (fuel := 4) 13 rfl (by kernel_rfl) (by kernel_rfl) ?_
              simp only [pick1, wpHead]
              intro K hK
              rw [if_pos (by rfl)]
              obtain ⟨pl, pc, pf⟩ := p
              have p := Own.mk pl pc pf
              go_simp
              refine hK.out _ _ (o.setOther (by simp; omega) _) ?_
              clear hK K pc pf
              (try simp only [Act.put, List.setIfInBounds_toArray, List.set_cons_zero, List.set_cons_succ])
              replace o := o.setOther (a := ⟨w.heap.size + 1 + 1, 0, none⟩) (by show _ ≠ _; simp; omega) (.slice X0 d.P.length Y0)
              replace p := p.set 0 (by simp) (.slice X0 d.P.length Y0)
              replace r := r.setOther (a := ⟨w.heap.size + 1 + 1, 0, none⟩) (by show _ ≠ _; simp) (.slice X0 d.P.length Y0)
              replace hB := hB.setCell (show w.heap.size ≤ (⟨w.heap.size + 1 + 1, 0, none⟩ : Addr).block by show _ ≤ w.heap.size + 1 + 1; omega) (.slice X0 d.P.length Y0)
              replace G0 := G0.setCell (a := ⟨w.heap.size + 1 + 1, 0, none⟩) (by simp) (.slice X0 d.P.length Y0)
              replace G1 := G1.setCell (a := ⟨w.heap.size + 1 + 1, 0, none⟩) (by simp) (.slice X0 d.P.length Y0)
              replace G2 := G2.setCell (a := ⟨w.heap.size + 1 + 1, 0, none⟩) (by simp) (.slice X0 d.P.length Y0)
              generalize World.setCell _ _ _ = W5 at o p r hB G0 G1 G2 ⊢
              refine rg_take (fuel := 3) [14] (by kernel_rfl) (by intro _ _ d _ _ h; cases d <;> exact h) rfl (by kernel_rfl) (by kernel_rfl) o ?_
              simp only [pickL, pick1, List.cons_append, List.nil_append]
              (refine wpTake_cons (v := ?_) (Or.inl ⟨by rfl, ?_⟩) ?_; rotate_left; (intro w' hSw; clear hSw; go_simp; (try with_reducible rfl)); (try simp only [Act.put, List.setIfInBounds_toArray, List.set_cons_zero, List.set_cons_succ]))
              refine wpTake_nil ?_
              refine rg_one (fuel := 2) 15 rfl (by kernel_rfl) (by kernel_rfl) ?_
              simp only [pick1, wpHead]
              intro K hK
              rw [if_pos (by rfl)]
              obtain ⟨pl, pc, pf⟩ := p
              have p := Own.mk pl pc pf
              go_simp
              refine hK.out _ _ (o.setOther (by simp; omega) _) ?_
              clear hK K pc pf
              (try simp only [Act.put, List.setIfInBounds_toArray, List.set_cons_zero, List.set_cons_succ])
              replace o := o.setOther (a := ⟨w.heap.size + 1 + 1, 1, none⟩) (by show _ ≠ _; simp; omega) (.slice X1 d.O.length Y1)
              replace p := p.set 1 (by simp) (.slice X1 d.O.length Y1)
              replace r := r.setOther (a := ⟨w.heap.size + 1 + 1, 1, none⟩) (by show _ ≠ _; simp) (.slice X1 d.O.length Y1)
              replace hB := hB.setCell (show w.heap.size ≤ (⟨w.heap.size + 1 + 1, 1, none⟩ : Addr).block by show _ ≤ w.heap.size + 1 + 1; omega) (.slice X1 d.O.length Y1)
              replace G0 := G0.setCell (a := ⟨w.heap.size + 1 + 1, 1, none⟩) (by simp) (.slice X1 d.O.length Y1)
              replace G1 := G1.setCell (a := ⟨w.heap.size + 1 + 1, 1, none⟩) (by simp) (.slice X1 d.O.length Y1)
              replace G2 := G2.setCell (a := ⟨w.heap.size + 1 + 1, 1, none⟩) (by simp) (.slice X1 d.O.length Y1)
              generalize World.setCell _ _ _ = W6 at o p r hB G0 G1 G2 ⊢
              refine rg_take (fuel := 1) [16] (by kernel_rfl) (by intro _ _ d _ _ h; cases d <;> exact h) rfl (by kernel_rfl) (by kernel_rfl) o ?_
              simp only [pickL, pick1, List.cons_append, List.nil_append]
              (refine wpTake_cons (v := ?_) (Or.inl ⟨by rfl, ?_⟩) ?_; rotate_left; (intro w' hSw; clear hSw; go_simp; (try with_reducible rfl)); (try simp only [Act.put, List.setIfInBounds_toArray, List.set_cons_zero, List.set_cons_succ]))
              refine wpTake_nil ?_
              refine rg_one (fuel := 0) 17 rfl (by kernel_rfl) (by kernel_rfl) ?_
              simp only [pick1, wpHead]
              intro K hK
              rw [if_pos (by rfl)]
              obtain ⟨pl, pc, pf⟩ := p
              have p := Own.mk pl pc pf
              go_simp
              refine hK.out _ _ (o.setOther (by simp; omega) _) ?_
              clear hK K pc pf
              (try simp only [Act.put, List.setIfInBounds_toArray, List.set_cons_zero, List.set_cons_succ])
              replace o := o.setOther (a := ⟨w.heap.size + 1 + 1, 11, none⟩) (by show _ ≠ _; simp; omega) (.slice X2 d.l.length Y2)
              replace p := p.set 11 (by simp) (.slice X2 d.l.length Y2)
              replace r := r.setOther (a := ⟨w.heap.size + 1 + 1, 11, none⟩) (by show _ ≠ _; simp) (.slice X2 d.l.length Y2)
              replace hB := hB.setCell (show w.heap.size ≤ (⟨w.heap.size + 1 + 1, 11, none⟩ : Addr).block by show _ ≤ w.heap.size + 1 + 1; omega) (.slice X2 d.l.length Y2)
              replace G0 := G0.setCell (a := ⟨w.heap.size + 1 + 1, 11, none⟩) (by simp) (.slice X2 d.l.length Y2)
              replace G1 := G1.setCell (a := ⟨w.heap.size + 1 + 1, 11, none⟩) (by simp) (.slice X2 d.l.length Y2)
              replace G2 := G2.setCell (a := ⟨w.heap.size + 1 + 1, 11, none⟩) (by simp) (.slice X2 d.l.length Y2)
              generalize World.setCell _ _ _ = W7 at o p r hB G0 G1 G2 ⊢
              refine rg_done (by kernel_rfl) ?_
              simp only [List.set_cons_zero, List.set_cons_succ] at p
              simp only [List.length_map] at G0 G1 G2
              obtain ⟨pl, pc, pf⟩ := p
              have r0 := Lib.hid r
              obtain ⟨rl, rc, rf⟩ := r
              go_wp2
              refine bodyPost_ret (results_cell1 (B := w.heap.size + 1) (vs := dsC X0 X1 X2 Y0 Y1 Y2 d) rfl rfl (own12 r0.out _ _ _ _ _ _ _ _ _ _ _ _) (by kernel_rfl) (by kernel_rfl)) rfl ?_
              exact ⟨_, _, _, rfl, (gro12 G0 (by omega) _ _ _ _ _ _ _ _ _ _ _ _).base (by omega), (gro12 G1 (by omega) _ _ _ _ _ _ _ _ _ _ _ _).base (by omega), (gro12 G2 (by omega) _ _ _ _ _ _ _ _ _ _ _ _).base (by omega), below12 hB (by omega) _ _ _ _ _ _ _ _ _ _ _ _⟩
    · intro K hK
      simp only [pick1]
      refine step_empty (K := K) rfl 38 3 1 (w.heap.size + 1 + 1 + 1) rfl (by kernel_rfl) j0 hj0 p.lt ?_
      intro g1 W' G1 hb
      replace o := o.below hb o.lt
      replace p := p.below hb p.lt
      replace r := r.below hb r.lt
      refine hK.out _ _ o ?_
      replace hB := hB.trans (hb.mono hB.size)
      replace G0 := G0.below hb (Nat.le_refl _)
      clear hb hK
      (try simp only [Act.put, List.setIfInBounds_toArray, List.set_cons_zero, List.set_cons_succ])
      refine rg_many (fuel := 9) [3, 8] rfl (by simp) (by kernel_rfl) (by kernel_rfl) ?_
      intro c hc
      rcases (show c = 3 ∨ c = 8 by simpa using hc) with rfl | rfl
      · intro K hK
        simp only [pick1]
        refine step_fill rfl (.tmp 5) (.tmp 7) 22 rfl (w.heap.size + 1 + 1 + 1) 53 i0 _ 2 16 (by kernel_rfl) hi0 hi1 hi2 hi3 rfl (by decide) g0 rfl G0 p.lt A d.P.length cA (d.P.map ptrow) rfl (by rw [List.length_map]) (HA.out.below hB (Nat.le_refl _)) (fun r hr => (by obtain ⟨q, _, rfl⟩ := List.mem_map.1 hr; rfl)) (by unfold maxLen; omega) (by omega) ?_
        intro v0 W' G0 hb
        replace o := o.below hb o.lt
        replace p := p.below hb p.lt
        replace r := r.below hb r.lt
        refine hK.out _ _ o ?_
        replace hB := hB.trans (hb.mono hB.size)
        replace G1 := G1.below hb (Nat.le_refl _)
        clear hb hK
        (try simp only [Act.put, List.setIfInBounds_toArray, List.set_cons_zero, List.set_cons_succ])
        refine rg_take (fuel := 8) [12] (by kernel_rfl) (by intro _ _ d _ _ h; cases d <;> exact h) rfl (by kernel_rfl) (by kernel_rfl) o ?_
        simp only [pickL, pick1, List.cons_append, List.nil_append]
        (refine wpTake_cons (v := ?_) (Or.inl ⟨by rfl, ?_⟩) ?_; rotate_left; (intro w' hSw; clear hSw; go_simp; (try with_reducible rfl)); (try simp only [Act.put, List.setIfInBounds_toArray, List.set_cons_zero, List.set_cons_succ]))
        refine wpTake_nil ?_
        refine rg_many (fuel := 7) [7, 8] rfl (by simp) (by kernel_rfl) (by kernel_rfl) ?_
        intro c hc
        rcases (show c = 7 ∨ c = 8 by simpa using hc) with rfl | rfl
        · intro K hK
          simp only [pick1]
          refine step_fill rfl (.tmp 9) (.tmp 11) 38 rfl (w.heap.size + 1 + 1 + 1) 3 j0 _ 1 8 (by kernel_rfl) hj0 hj1 hj2 hj3 rfl (by decide) g1 rfl G1 p.lt B d.O.length cB (d.O.map irow) rfl (by rw [List.length_map]) (HB.out.below hB (Nat.le_refl _)) (fun r hr => (by obtain ⟨q, _, rfl⟩ := List.mem_map.1 hr; rfl)) (by unfold maxLen; omega) (by omega) ?_
          intro v1 W' G1 hb
          replace o := o.below hb o.lt
          replace p := p.below hb p.lt
          replace r := r.below hb r.lt
          refine hK.out _ _ o ?_
          replace hB := hB.trans (hb.mono hB.size)
          replace G0 := G0.below hb (Nat.le_refl _)
          clear hb hK
          (try simp only [Act.put, List.setIfInBounds_toArray, List.set_cons_zero, List.set_cons_succ])
          refine rg_many (fuel := 6) [8] rfl (by simp) (by kernel_rfl) (by kernel_rfl) ?_
          intro c hc
          rcases (show c = 8 by simpa using hc) with rfl
          · intro K hK
            simp only [pick1]
            refine step_empty (K := K) rfl 37 36 5 (w.heap.size + 1 + 1 + 1) rfl (by kernel_rfl) k0 hk0 p.lt ?_
            intro g2 W' G2 hb
            replace o := o.below hb o.lt
            replace p := p.below hb p.lt
            replace r := r.below hb r.lt
            refine hK.out _ _ o ?_
            replace hB := hB.trans (hb.mono hB.size)
            replace G0 := G0.below hb (Nat.le_refl _)
            replace G1 := G1.below hb (Nat.le_refl _)
            clear hb hK
            (try simp only [Act.put, List.setIfInBounds_toArray, List.set_cons_zero, List.set_cons_succ])
            refine rg_many (fuel := 5) [11] rfl (by simp) (by kernel_rfl) (by kernel_rfl) ?_
            intro c hc
            rcases (show c = 11 by simpa using hc) with rfl
            · intro K hK
              simp only [pick1]
              refine step_fill rfl (.tmp 13) (.tmp 15) 37 rfl (w.heap.size + 1 + 1 + 1) 36 k0 _ 5 40 (by kernel_rfl) hk0 hk1 hk2 hk3 rfl (by decide) g2 rfl G2 p.lt C d.l.length cC (d.l.map wkrow) rfl (by rw [List.length_map]) (HC.out.below hB (Nat.le_refl _)) (fun r hr => (by obtain ⟨q, _, rfl⟩ := List.mem_map.1 hr; rfl)) (by unfold maxLen; omega) (by omega) ?_
              intro v2 W' G2 hb
              replace o := o.below hb o.lt
              replace p := p.below hb p.lt
              replace r := r.below hb r.lt
              refine hK.out _ _ o ?_
              replace hB := hB.trans (hb.mono hB.size)
              replace G0 := G0.below hb (Nat.le_refl _)
              replace G1 := G1.below hb (Nat.le_refl _)
              clear hb hK
              (try simp only [Act.put, List.setIfInBounds_toArray, List.set_cons_zero, List.set_cons_succ])
              obtain ⟨X0, Y0, rfl, _⟩ := G0.out
              obtain ⟨X1, Y1, rfl, _⟩ := G1.out
              obtain ⟨X2, Y2, rfl, _⟩ := G2.out
              simp only [List.length_map]
              refine rg_one (fuel := 4) 13 rfl (by kernel_rfl) (by kernel_rfl) ?_
              simp only [pick1, wpHead]
              intro K hK
              rw [if_pos (by rfl)]
              obtain ⟨pl, pc, pf⟩ := p
              have p := Own.mk pl pc pf
              go_simp
              refine hK.out _ _ (o.setOther (by simp; omega) _) ?_
              clear hK K pc pf
              (try simp only [Act.put, List.setIfInBounds_toArray, List.set_cons_zero, List.set_cons_succ])
              replace o := o.setOther (a := ⟨w.heap.size + 1 + 1, 0, none⟩) (by show _ ≠ _; simp; omega) (.slice X0 d.P.length Y0)
              replace p := p.set 0 (by simp) (.slice X0 d.P.length Y0)
              replace r := r.setOther (a := ⟨w.heap.size + 1 + 1, 0, none⟩) (by show _ ≠ _; simp) (.slice X0 d.P.length Y0)
              replace hB := hB.setCell (show w.heap.size ≤ (⟨w.heap.size + 1 + 1, 0, none⟩ : Addr).block by show _ ≤ w.heap.size + 1 + 1; omega) (.slice X0 d.P.length Y0)
              replace G0 := G0.setCell (a := ⟨w.heap.size + 1 + 1, 0, none⟩) (by simp) (.slice X0 d.P.length Y0)
              replace G1 := G1.setCell (a := ⟨w.heap.size + 1 + 1, 0, none⟩) (by simp) (.slice X0 d.P.length Y0)
              replace G2 := G2.setCell (a := ⟨w.heap.size + 1 + 1, 0, none⟩) (by simp) (.slice X0 d.P.length Y0)
              generalize World.setCell _ _ _ = W5 at o p r hB G0 G1 G2 ⊢
              refine rg_take (fuel := 3) [14] (by kernel_rfl) (by intro _ _ d _ _ h; cases d <;> exact h) rfl (by kernel_rfl) (by kernel_rfl) o ?_
              simp only [pickL, pick1, List.cons_append, List.nil_append]
              (refine wpTake_cons (v := ?_) (Or.inl ⟨by rfl, ?_⟩) ?_; rotate_left; (intro w' hSw; clear hSw; go_simp; (try with_reducible rfl)); (try simp only [Act.put, List.setIfInBounds_toArray, List.set_cons_zero, List.set_cons_succ]))
              refine wpTake_nil ?_
              refine rg_one (fuel := 2) 15 rfl (by kernel_rfl) (by kernel_rfl) ?_
              simp only [pick1, wpHead]
              intro K hK
              rw [if_pos (by rfl)]
              obtain ⟨pl, pc, pf⟩ := p
              have p := Own.mk pl pc pf
              go_simp
              refine hK.out _ _ (o.setOther (by simp; omega) _) ?_
              clear hK K pc pf
              (try simp only [Act.put, List.setIfInBounds_toArray, List.set_cons_zero, List.set_cons_succ])
              replace o := o.setOther (a := ⟨w.heap.size + 1 + 1, 1, none⟩) (by show _ ≠ _; simp; omega) (.slice X1 d.O.length Y1)
              replace p := p.set 1 (by simp) (.slice X1 d.O.length Y1)
              replace r := r.setOther (a := ⟨w.heap.size + 1 + 1, 1, none⟩) (by show _ ≠ _; simp) (.slice X1 d.O.length Y1)
              replace hB := hB.setCell (show w.heap.size ≤ (⟨w.heap.size + 1 + 1, 1, none⟩ : Addr).block by show _ ≤ w.heap.size + 1 + 1; omega) (.slice X1 d.O.length Y1)
              replace G0 := G0.setCell (a := ⟨w.heap.size + 1 + 1, 1, none⟩) (by simp) (.slice X1 d.O.length Y1)
              replace G1 := G1.setCell (a := ⟨w.heap.size + 1 + 1, 1, none⟩) (by simp) (.slice X1 d.O.length Y1)
              replace G2 := G2.setCell (a := ⟨w.heap.size + 1 + 1, 1, none⟩) (by simp) (.slice X1 d.O.length Y1)
              generalize World.setCell _ _ _ = W6 at o p r hB G0 G1 G2 ⊢
              refine rg_take (fuel := 1) [16] (by kernel_rfl) (by intro _ _ d _ _ h; cases d <;> exact h) rfl (by kernel_rfl) (by kernel_rfl) o ?_
              simp only [pickL, pick1, List.cons_append, List.nil_append]
              (refine wpTake_cons (v := ?_) (Or.inl ⟨by rfl, ?_⟩) ?_; rotate_left; (intro w' hSw; clear hSw; go_simp; (try with_reducible rfl)); (try simp only [Act.put, List.setIfInBounds_toArray, List.set_cons_zero, List.set_cons_succ]))
              refine wpTake_nil ?_
              refine rg_one (fuel := 0) 17 rfl (by kernel_rfl) (by kernel_rfl) ?_
              simp only [pick1, wpHead]
              intro K hK
              rw [if_pos (by rfl)]
              obtain ⟨pl, pc, pf⟩ := p
              have p := Own.mk pl pc pf
              go_simp
              refine hK.out _ _ (o.setOther (by simp; omega) _) ?_
              clear hK K pc pf
              (try simp only [Act.put, List.setIfInBounds_toArray, List.set_cons_zero, List.set_cons_succ])
              replace o := o.setOther (a := ⟨w.heap.size + 1 + 1, 11, none⟩) (by show _ ≠ _; simp; omega) (.slice X2 d.l.length Y2)
              replace p := p.set 11 (by simp) (.slice X2 d.l.length Y2)
              replace r := r.setOther (a := ⟨w.heap.size + 1 + 1, 11, none⟩) (by show _ ≠ _; simp) (.slice X2 d.l.length Y2)
              replace hB := hB.setCell (show w.heap.size ≤ (⟨w.heap.size + 1 + 1, 11, none⟩ : Addr).block by show _ ≤ w.heap.size + 1 + 1; omega) (.slice X2 d.l.length Y2)
              replace G0 := G0.setCell (a := ⟨w.heap.size + 1 + 1, 11, none⟩) (by simp) (.slice X2 d.l.length Y2)
              replace G1 := G1.setCell (a := ⟨w.heap.size + 1 + 1, 11, none⟩) (by simp) (.slice X2 d.l.length Y2)
              replace G2 := G2.setCell (a := ⟨w.heap.size + 1 + 1, 11, none⟩) (by simp) (.slice X2 d.l.length Y2)
              generalize World.setCell _ _ _ = W7 at o p r hB G0 G1 G2 ⊢
              refine rg_done (by kernel_rfl) ?_
              simp only [List.set_cons_zero, List.set_cons_succ] at p
              simp only [List.length_map] at G0 G1 G2
              obtain ⟨pl, pc, pf⟩ := p
              have r0 := Lib.hid r
              obtain ⟨rl, rc, rf⟩ := r
              go_wp2
              refine bodyPost_ret (results_cell1 (B := w.heap.size + 1) (vs := dsC X0 X1 X2 Y0 Y1 Y2 d) rfl rfl (own12 r0.out _ _ _ _ _ _ _ _ _ _ _ _) (by kernel_rfl) (by kernel_rfl)) rfl ?_
              exact ⟨_, _, _, rfl, (gro12 G0 (by omega) _ _ _ _ _ _ _ _ _ _ _ _).base (by omega), (gro12 G1 (by omega) _ _ _ _ _ _ _ _ _ _ _ _).base (by omega), (gro12 G2 (by omega) _ _ _ _ _ _ _ _ _ _ _ _).base (by omega), below12 hB (by omega) _ _ _ _ _ _ _ _ _ _ _ _⟩
        · intro K hK
          simp only [pick1]
          refine step_empty (K := K) rfl 37 36 5 (w.heap.size + 1 + 1 + 1) rfl (by kernel_rfl) k0 hk0 p.lt ?_
          intro g2 W' G2 hb
          replace o := o.below hb o.lt
          replace p := p.below hb p.lt
          replace r := r.below hb r.lt
          refine hK.out _ _ o ?_
          replace hB := hB.trans (hb.mono hB.size)
          replace G0 := G0.below hb (Nat.le_refl _)
          replace G1 := G1.below hb (Nat.le_refl _)
          clear hb hK
          (try simp only [Act.put, List.setIfInBounds_toArray, List.set_cons_zero, List.set_cons_succ])
          refine rg_many (fuel := 6) [7] rfl (by simp) (by kernel_rfl) (by kernel_rfl) ?_
          intro c hc
          rcases (show c = 7 by simpa using hc) with rfl
          · intro K hK
            simp only [pick1]
            refine step_fill rfl (.tmp 9) (.tmp 11) 38 rfl (w.heap.size + 1 + 1 + 1) 3 j0 _ 1 8 (by kernel_rfl) hj0 hj1 hj2 hj3 rfl (by decide) g1 rfl G1 p.lt B d.O.length cB (d.O.map irow) rfl (by rw [List.length_map]) (HB.out.below hB (Nat.le_refl _)) (fun r hr => (by obtain ⟨q, _, rfl⟩ := List.mem_map.1 hr; rfl)) (by unfold maxLen; omega) (by omega) ?_
            intro v1 W' G1 hb
            replace o := o.below hb o.lt
            replace p := p.below hb p.lt
            replace r := r.below hb r.lt
            refine hK.out _ _ o ?_
            replace hB := hB.trans (hb.mono hB.size)
            replace G0 := G0.below hb (Nat.le_refl _)
            replace G2 := G2.below hb (Nat.le_refl _)
            clear hb hK
            (try simp only [Act.put, List.setIfInBounds_toArray, List.set_cons_zero, List.set_cons_succ])
            refine rg_many (fuel := 5) [11] rfl (by simp) (by kernel_rfl) (by kernel_rfl) ?_
            intro c hc
            rcases (show c = 11 by simpa using hc) with rfl
            · intro K hK
              simp only [pick1]
              refine step_fill rfl (.tmp 13) (.tmp 15) 37 rfl (w.heap.size + 1 + 1 + 1) 36 k0 _ 5 40 (by kernel_rfl) hk0 hk1 hk2 hk3 rfl (by decide) g2 rfl G2 p.lt C d.l.length cC (d.l.map wkrow) rfl (by rw [List.length_map]) (HC.out.below hB (Nat.le_refl _)) (fun r hr => (by obtain ⟨q, _, rfl⟩ := List.mem_map.1 hr; rfl)) (by unfold maxLen; omega) (by omega) ?_
              intro v2 W' G2 hb
              replace o := o.below hb o.lt
              replace p := p.below hb p.lt
              replace r := r.below hb r.lt
              refine hK.out _ _ o ?_
              replace hB := hB.trans (hb.mono hB.size)
              replace G0 := G0.below hb (Nat.le_refl _)
              replace G1 := G1.below hb (Nat.le_refl _)
              clear hb hK
              (try simp only [Act.put, List.setIfInBounds_toArray, List.set_cons_zero, List.set_cons_succ])
              obtain ⟨X0, Y0, rfl, _⟩ := G0.out
              obtain ⟨X1, Y1, rfl, _⟩ := G1.out
              obtain ⟨X2, Y2, rfl, _⟩ := G2.out
              simp only [List.length_map]
              refine rg_one (fuel := 4) 13 rfl (by kernel_rfl) (by kernel_rfl) ?_
              simp only [pick1, wpHead]
              intro K hK
              rw [if_pos (by rfl)]
              obtain ⟨pl, pc, pf⟩ := p
              have p := Own.mk pl pc pf
              go_simp
              refine hK.out _ _ (o.setOther (by simp; omega) _) ?_
              clear hK K pc pf
              (try simp only [Act.put, List.setIfInBounds_toArray, List.set_cons_zero, List.set_cons_succ])
              replace o := o.setOther (a := ⟨w.heap.size + 1 + 1, 0, none⟩) (by show _ ≠ _; simp; omega) (.slice X0 d.P.length Y0)
              replace p := p.set 0 (by simp) (.slice X0 d.P.length Y0)
              replace r := r.setOther (a := ⟨w.heap.size + 1 + 1, 0, none⟩) (by show _ ≠ _; simp) (.slice X0 d.P.length Y0)
              replace hB := hB.setCell (show w.heap.size ≤ (⟨w.heap.size + 1 + 1, 0, none⟩ : Addr).block by show _ ≤ w.heap.size + 1 + 1; omega) (.slice X0 d.P.length Y0)
              replace G0 := G0.setCell (a := ⟨w.heap.size + 1 + 1, 0, none⟩) (by simp) (.slice X0 d.P.length Y0)
              replace G1 := G1.setCell (a := ⟨w.heap.size + 1 + 1, 0, none⟩) (by simp) (.slice X0 d.P.length Y0)
              replace G2 := G2.setCell (a := ⟨w.heap.size + 1 + 1, 0, none⟩) (by simp) (.slice X0 d.P.length Y0)
              generalize World.setCell _ _ _ = W5 at o p r hB G0 G1 G2 ⊢
              refine rg_take (fuel := 3) [14] (by kernel_rfl) (by intro _ _ d _ _ h; cases d <;> exact h) rfl (by kernel_rfl) (by kernel_rfl) o ?_
              simp only [pickL, pick1, List.cons_append, List.nil_append]
              (refine wpTake_cons (v := ?_) (Or.inl ⟨by rfl, ?_⟩) ?_; rotate_left; (intro w' hSw; clear hSw; go_simp; (try with_reducible rfl)); (try simp only [Act.put, List.setIfInBounds_toArray, List.set_cons_zero, List.set_cons_succ]))
              refine wpTake_nil ?_
              refine rg_one (fuel := 2) 15 rfl (by kernel_rfl) (by kernel_rfl) ?_
              simp only [pick1, wpHead]
              intro K hK
              rw [if_pos (by rfl)]
              obtain ⟨pl, pc, pf⟩ := p
              have p := Own.mk pl pc pf
              go_simp
              refine hK.out _ _ (o.setOther (by simp; omega) _) ?_
              clear hK K pc pf
              (try simp only [Act.put, List.setIfInBounds_toArray, List.set_cons_zero, List.set_cons_succ])
              replace o := o.setOther (a := ⟨w.heap.size + 1 + 1, 1, none⟩) (by show _ ≠ _; simp; omega) (.slice X1 d.O.length Y1)
              replace p := p.set 1 (by simp) (.slice X1 d.O.length Y1)
              replace r := r.setOther (a := ⟨w.heap.size + 1 + 1, 1, none⟩) (by show _ ≠ _; simp) (.slice X1 d.O.length Y1)
              replace hB := hB.setCell (show w.heap.size ≤ (⟨w.heap.size + 1 + 1, 1, none⟩ : Addr).block by show _ ≤ w.heap.size + 1 + 1; omega) (.slice X1 d.O.length Y1)
              replace G0 := G0.setCell (a := ⟨w.heap.size + 1 + 1, 1, none⟩) (by simp) (.slice X1 d.O.length Y1)
              replace G1 := G1.setCell (a := ⟨w.heap.size + 1 + 1, 1, none⟩) (by simp) (.slice X1 d.O.length Y1)
              replace G2 := G2.setCell (a := ⟨w.heap.size + 1 + 1, 1, none⟩) (by simp) (.slice X1 d.O.length Y1)
              generalize World.setCell _ _ _ = W6 at o p r hB G0 G1 G2 ⊢
              refine rg_take (fuel := 1) [16] (by kernel_rfl) (by intro _ _ d _ _ h; cases d <;> exact h) rfl (by kernel_rfl) (by kernel_rfl) o ?_
              simp only [pickL, pick1, List.cons_append, List.nil_append]
              (refine wpTake_cons (v := ?_) (Or.inl ⟨by rfl, ?_⟩) ?_; rotate_left; (intro w' hSw; clear hSw; go_simp; (try with_reducible rfl)); (try simp only [Act.put, List.setIfInBounds_toArray, List.set_cons_zero, List.set_cons_succ]))
              refine wpTake_nil ?_
              refine rg_one (fuel := 0) 17 rfl (by kernel_rfl) (by kernel_rfl) ?_
              simp only [pick1, wpHead]
              intro K hK
              rw [if_pos (by rfl)]
              obtain ⟨pl, pc, pf⟩ := p
              have p := Own.mk pl pc pf
              go_simp
              refine hK.out _ _ (o.setOther (by simp; omega) _) ?_
              clear hK K pc pf
              (try simp only [Act.put, List.setIfInBounds_toArray, List.set_cons_zero, List.set_cons_succ])
              replace o := o.setOther (a := ⟨w.heap.size + 1 + 1, 11, none⟩) (by show _ ≠ _; simp; omega) (.slice X2 d.l.length Y2)
              replace p := p.set 11 (by simp) (.slice X2 d.l.length Y2)
              replace r := r.setOther (a := ⟨w.heap.size + 1 + 1, 11, none⟩) (by show _ ≠ _; simp) (.slice X2 d.l.length Y2)
              replace hB := hB.setCell (show w.heap.size ≤ (⟨w.heap.size + 1 + 1, 11, none⟩ : Addr).block by show _ ≤ w.heap.size + 1 + 1; omega) (.slice X2 d.l.length Y2)
              replace G0 := G0.setCell (a := ⟨w.heap.size + 1 + 1, 11, none⟩) (by simp) (.slice X2 d.l.length Y2)
              replace G1 := G1.setCell (a := ⟨w.heap.size + 1 + 1, 11, none⟩) (by simp) (.slice X2 d.l.length Y2)
              replace G2 := G2.setCell (a := ⟨w.heap.size + 1 + 1, 11, none⟩) (by simp) (.slice X2 d.l.length Y2)
              generalize World.setCell _ _ _ = W7 at o p r hB G0 G1 G2 ⊢
              refine rg_done (by kernel_rfl) ?_
              simp only [List.set_cons_zero, List.set_cons_succ] at p
              simp only [List.length_map] at G0 G1 G2
              obtain ⟨pl, pc, pf⟩ := p
              have r0 := Lib.hid r
              obtain ⟨rl, rc, rf⟩ := r
              go_wp2
              refine bodyPost_ret (results_cell1 (B := w.heap.size + 1) (vs := dsC X0 X1 X2 Y0 Y1 Y2 d) rfl rfl (own12 r0.out _ _ _ _ _ _ _ _ _ _ _ _) (by kernel_rfl) (by kernel_rfl)) rfl ?_
              exact ⟨_, _, _, rfl, (gro12 G0 (by omega) _ _ _ _ _ _ _ _ _ _ _ _).base (by omega), (gro12 G1 (by omega) _ _ _ _ _ _ _ _ _ _ _ _).base (by omega), (gro12 G2 (by omega) _ _ _ _ _ _ _ _ _ _ _ _).base (by omega), below12 hB (by omega) _ _ _ _ _ _ _ _ _ _ _ _⟩
      · intro K hK
        simp only [pick1]
        refine step_empty (K := K) rfl 37 36 5 (w.heap.size + 1 + 1 + 1) rfl (by kernel_rfl) k0 hk0 p.lt ?_
        intro g2 W' G2 hb
        replace o := o.below hb o.lt
        replace p := p.below hb p.lt
        replace r := r.below hb r.lt
        refine hK.out _ _ o ?_
        replace hB := hB.trans (hb.mono hB.size)
        replace G0 := G0.below hb (Nat.le_refl _)
        replace G1 := G1.below hb (Nat.le_refl _)
        clear hb hK
        (try simp only [Act.put, List.setIfInBounds_toArray, List.set_cons_zero, List.set_cons_succ])
        refine rg_many (fuel := 8) [3] rfl (by simp) (by kernel_rfl) (by kernel_rfl) ?_
        intro c hc
        rcases (show c = 3 by simpa using hc) with rfl
        · intro K hK
          simp only [pick1]
          refine step_fill rfl (.tmp 5) (.tmp 7) 22 rfl (w.heap.size + 1 + 1 + 1) 53 i0 _ 2 16 (by kernel_rfl) hi0 hi1 hi2 hi3 rfl (by decide) g0 rfl G0 p.lt A d.P.length cA (d.P.map ptrow) rfl (by rw [List.length_map]) (HA.out.below hB (Nat.le_refl _)) (fun r hr => (by obtain ⟨q, _, rfl⟩ := List.mem_map.1 hr; rfl)) (by unfold maxLen; omega) (by omega) ?_
          intro v0 W' G0 hb
          replace o := o.below hb o.lt
          replace p := p.below hb p.lt
          replace r := r.below hb r.lt
          refine hK.out _ _ o ?_
          replace hB := hB.trans (hb.mono hB.size)
          replace G1 := G1.below hb (Nat.le_refl _)
          replace G2 := G2.below hb (Nat.le_refl _)
          clear hb hK
          (try simp only [Act.put, List.setIfInBounds_toArray, List.set_cons_zero, List.set_cons_succ])
          refine rg_take (fuel := 7) [12] (by kernel_rfl) (by intro _ _ d _ _ h; cases d <;> exact h) rfl (by kernel_rfl) (by kernel_rfl) o ?_
          simp only [pickL, pick1, List.cons_append, List.nil_append]
          (refine wpTake_cons (v := ?_) (Or.inl ⟨by rfl, ?_⟩) ?_; rotate_left; (intro w' hSw; clear hSw; go_simp; (try with_reducible rfl)); (try simp only [Act.put, List.setIfInBounds_toArray, List.set_cons_zero, List.set_cons_succ]))
          refine wpTake_nil ?_
          refine rg_many (fuel := 6) [7] rfl (by simp) (by kernel_rfl) (by kernel_rfl) ?_
          intro c hc
          rcases (show c = 7 by simpa using hc) with rfl
          · intro K hK
            simp only [pick1]
            refine step_fill rfl (.tmp 9) (.tmp 11) 38 rfl (w.heap.size + 1 + 1 + 1) 3 j0 _ 1 8 (by kernel_rfl) hj0 hj1 hj2 hj3 rfl (by decide) g1 rfl G1 p.lt B d.O.length cB (d.O.map irow) rfl (by rw [List.length_map]) (HB.out.below hB (Nat.le_refl _)) (fun r hr => (by obtain ⟨q, _, rfl⟩ := List.mem_map.1 hr; rfl)) (by unfold maxLen; omega) (by omega) ?_
            intro v1 W' G1 hb
            replace o := o.below hb o.lt
            replace p := p.below hb p.lt
            replace r := r.below hb r.lt
            refine hK.out _ _ o ?_
            replace hB := hB.trans (hb.mono hB.size)
            replace G0 := G0.below hb (Nat.le_refl _)
            replace G2 := G2.below hb (Nat.le_refl _)
            clear hb hK
            (try simp only [Act.put, List.setIfInBounds_toArray, List.set_cons_zero, List.set_cons_succ])
            refine rg_many (fuel := 5) [11] rfl (by simp) (by kernel_rfl) (by kernel_rfl) ?_
            intro c hc
            rcases (show c = 11 by simpa using hc) with rfl
            · intro K hK
              simp only [pick1]
              refine step_fill rfl (.tmp 13) (.tmp 15) 37 rfl (w.heap.size + 1 + 1 + 1) 36 k0 _ 5 40 (by kernel_rfl) hk0 hk1 hk2 hk3 rfl (by decide) g2 rfl G2 p.lt C d.l.length cC (d.l.map wkrow) rfl (by rw [List.length_map]) (HC.out.below hB (Nat.le_refl _)) (fun r hr => (by obtain ⟨q, _, rfl⟩ := List.mem_map.1 hr; rfl)) (by unfold maxLen; omega) (by omega) ?_
              intro v2 W' G2 hb
              replace o := o.below hb o.lt
              replace p := p.below hb p.lt
              replace r := r.below hb r.lt
              refine hK.out _ _ o ?_
              replace hB := hB.trans (hb.mono hB.size)
              replace G0 := G0.below hb (Nat.le_refl _)
              replace G1 := G1.below hb (Nat.le_refl _)
              clear hb hK
              (try simp only [Act.put, List.setIfInBounds_toArray, List.set_cons_zero, List.set_cons_succ])
              obtain ⟨X0, Y0, rfl, _⟩ := G0.out
              obtain ⟨X1, Y1, rfl, _⟩ := G1.out
              obtain ⟨X2, Y2, rfl, _⟩ := G2.out
              simp only [List.length_map]
              refine rg_one (fuel := 4) 13 rfl (by kernel_rfl) (by kernel_rfl) ?_
              simp only [pick1, wpHead]
              intro K hK
              rw [if_pos (by rfl)]
              obtain ⟨pl, pc, pf⟩ := p
              have p := Own.mk pl pc pf
              go_simp
              refine hK.out _ _ (o.setOther (by simp; omega) _) ?_
              clear hK K pc pf
              (try simp only [Act.put, List.setIfInBounds_toArray, List.set_cons_zero, List.set_cons_succ])
              replace o := o.setOther (a := ⟨w.heap.size + 1 + 1, 0, none⟩) (by show _ ≠ _; simp; omega) (.slice X0 d.P.length Y0)
              replace p := p.set 0 (by simp) (.slice X0 d.P.length Y0)
              replace r := r.setOther (a := ⟨w.heap.size + 1 + 1, 0, none⟩) (by show _ ≠ _; simp) (.slice X0 d.P.length Y0)
              replace hB := hB.setCell (show w.heap.size ≤ (⟨w.heap.size + 1 + 1, 0, none⟩ : Addr).block by show _ ≤ w.heap.size + 1 + 1; omega) (.slice X0 d.P.length Y0)
              replace G0 := G0.setCell (a := ⟨w.heap.size + 1 + 1, 0, none⟩) (by simp) (.slice X0 d.P.length Y0)
              replace G1 := G1.setCell (a := ⟨w.heap.size + 1 + 1, 0, none⟩) (by simp) (.slice X0 d.P.length Y0)
              replace G2 := G2.setCell (a := ⟨w.heap.size + 1 + 1, 0, none⟩) (by simp) (.slice X0 d.P.length Y0)
              generalize World.setCell _ _ _ = W5 at o p r hB G0 G1 G2 ⊢
              refine rg_take (fuel := 3) [14] (by kernel_rfl) (by intro _ _ d _ _ h; cases d <;> exact h) rfl (by kernel_rfl) (by kernel_rfl) o ?_
              simp only [pickL, pick1, List.cons_append, List.nil_append]
              (refine wpTake_cons (v := ?_) (Or.inl ⟨by rfl, ?_⟩) ?_; rotate_left; (intro w' hSw; clear hSw; go_simp; (try with_reducible rfl)); (try simp only [Act.put, List.setIfInBounds_toArray, List.set_cons_zero, List.set_cons_succ]))
              refine wpTake_nil ?_
              refine rg_one (fuel := 2) 15 rfl (by kernel_rfl) (by kernel_rfl) ?_
              simp only [pick1, wpHead]
              intro K hK
              rw [if_pos (by rfl)]
              obtain ⟨pl, pc, pf⟩ := p
              have p := Own.mk pl pc pf
              go_simp
              refine hK.out _ _ (o.setOther (by simp; omega) _) ?_
              clear hK K pc pf
              (try simp only [Act.put, List.setIfInBounds_toArray, List.set_cons_zero, List.set_cons_succ])
              replace o := o.setOther (a := ⟨w.heap.size + 1 + 1, 1, none⟩) (by show _ ≠ _; simp; omega) (.slice X1 d.O.length Y1)
              replace p := p.set 1 (by simp) (.slice X1 d.O.length Y1)
              replace r := r.setOther (a := ⟨w.heap.size + 1 + 1, 1, none⟩) (by show _ ≠ _; simp) (.slice X1 d.O.length Y1)
              replace hB := hB.setCell (show w.heap.size ≤ (⟨w.heap.size + 1 + 1, 1, none⟩ : Addr).block by show _ ≤ w.heap.size + 1 + 1; omega) (.slice X1 d.O.length Y1)
              replace G0 := G0.setCell (a := ⟨w.heap.size + 1 + 1, 1, none⟩) (by simp) (.slice X1 d.O.length Y1)
              replace G1 := G1.setCell (a := ⟨w.heap.size + 1 + 1, 1, none⟩) (by simp) (.slice X1 d.O.length Y1)
              replace G2 := G2.setCell (a := ⟨w.heap.size + 1 + 1, 1, none⟩) (by simp) (.slice X1 d.O.length Y1)
              generalize World.setCell _ _ _ = W6 at o p r hB G0 G1 G2 ⊢
              refine rg_take (fuel := 1) [16] (by kernel_rfl) (by intro _ _ d _ _ h; cases d <;> exact h) rfl (by kernel_rfl) (by kernel_rfl) o ?_
              simp only [pickL, pick1, List.cons_append, List.nil_append]
              (refine wpTake_cons (v := ?_) (Or.inl ⟨by rfl, ?_⟩) ?_; rotate_left; (intro w' hSw; clear hSw; go_simp; (try with_reducible rfl)); (try simp only [Act.put, List.setIfInBounds_toArray, List.set_cons_zero, List.set_cons_succ]))
              refine wpTake_nil ?_
              refine rg_one (fuel := 0) 17 rfl (by kernel_rfl) (by kernel_rfl) ?_
              simp only [pick1, wpHead]
              intro K hK
              rw [if_pos (by rfl)]
              obtain ⟨pl, pc, pf⟩ := p
              have p := Own.mk pl pc pf
              go_simp
              refine hK.out _ _ (o.setOther (by simp; omega) _) ?_
              clear hK K pc pf
              (try simp only [Act.put, List.setIfInBounds_toArray, List.set_cons_zero, List.set_cons_succ])
              replace o := o.setOther (a := ⟨w.heap.size + 1 + 1, 11, none⟩) (by show _ ≠ _; simp; omega) (.slice X2 d.l.length Y2)
              replace p := p.set 11 (by simp) (.slice X2 d.l.length Y2)
              replace r := r.setOther (a := ⟨w.heap.size + 1 + 1, 11, none⟩) (by show _ ≠ _; simp) (.slice X2 d.l.length Y2)
              replace hB := hB.setCell (show w.heap.size ≤ (⟨w.heap.size + 1 + 1, 11, none⟩ : Addr).block by show _ ≤ w.heap.size + 1 + 1; omega) (.slice X2 d.l.length Y2)
              replace G0 := G0.setCell (a := ⟨w.heap.size + 1 + 1, 11, none⟩) (by simp) (.slice X2 d.l.length Y2)
              replace G1 := G1.setCell (a := ⟨w.heap.size + 1 + 1, 11, none⟩) (by simp) (.slice X2 d.l.length Y2)
              replace G2 := G2.setCell (a := ⟨w.heap.size + 1 + 1, 11, none⟩) (by simp) (.slice X2 d.l.length Y2)
              generalize World.setCell _ _ _ = W7 at o p r hB G0 G1 G2 ⊢
              refine rg_done (by kernel_rfl) ?_
              simp only [List.set_cons_zero, List.set_cons_succ] at p
              simp only [List.length_map] at G0 G1 G2
              obtain ⟨pl, pc, pf⟩ := p
              have r0 := Lib.hid r
              obtain ⟨rl, rc, rf⟩ := r
              go_wp2
              refine bodyPost_ret (results_cell1 (B := w.heap.size + 1) (vs := dsC X0 X1 X2 Y0 Y1 Y2 d) rfl rfl (own12 r0.out _ _ _ _ _ _ _ _ _ _ _ _) (by kernel_rfl) (by kernel_rfl)) rfl ?_
              exact ⟨_, _, _, rfl, (gro12 G0 (by omega) _ _ _ _ _ _ _ _ _ _ _ _).base (by omega), (gro12 G1 (by omega) _ _ _ _ _ _ _ _ _ _ _ _).base (by omega), (gro12 G2 (by omega) _ _ _ _ _ _ _ _ _ _ _ _).base (by omega), below12 hB (by omega) _ _ _ _ _ _ _ _ _ _ _ _⟩
    · intro K hK
      simp only [pick1]
      refine step_empty (K := K) rfl 37 36 5 (w.heap.size + 1 + 1 + 1) rfl (by kernel_rfl) k0 hk0 p.lt ?_
      intro g2 W' G2 hb
      replace o := o.below hb o.lt
      replace p := p.below hb p.lt
      replace r := r.below hb r.lt
      refine hK.out _ _ o ?_
      replace hB := hB.trans (hb.mono hB.size)
      replace G0 := G0.below hb (Nat.le_refl _)
      clear hb hK
      (try simp only [Act.put, List.setIfInBounds_toArray, List.set_cons_zero, List.set_cons_succ])
      refine rg_many (fuel := 9) [3, 4] rfl (by simp) (by kernel_rfl) (by kernel_rfl) ?_
      intro c hc
      rcases (show c = 3 ∨ c = 4 by simpa using hc) with rfl | rfl
      · intro K hK
        simp only [pick1]
        refine step_fill rfl (.tmp 5) (.tmp 7) 22 rfl (w.heap.size + 1 + 1 + 1) 53 i0 _ 2 16 (by kernel_rfl) hi0 hi1 hi2 hi3 rfl (by decide) g0 rfl G0 p.lt A d.P.length cA (d.P.map ptrow) rfl (by rw [List.length_map]) (HA.out.below hB (Nat.le_refl _)) (fun r hr => (by obtain ⟨q, _, rfl⟩ := List.mem_map.1 hr; rfl)) (by unfold maxLen; omega) (by omega) ?_
        intro v0 W' G0 hb
        replace o := o.below hb o.lt
        replace p := p.below hb p.lt
        replace r := r.below hb r.lt
        refine hK.out _ _ o ?_
        replace hB := hB.trans (hb.mono hB.size)
        replace G2 := G2.below hb (Nat.le_refl _)
        clear hb hK
        (try simp only [Act.put, List.setIfInBounds_toArray, List.set_cons_zero, List.set_cons_succ])
        refine rg_take (fuel := 8) [12] (by kernel_rfl) (by intro _ _ d _ _ h; cases d <;> exact h) rfl (by kernel_rfl) (by kernel_rfl) o ?_
        simp only [pickL, pick1, List.cons_append, List.nil_append]
        (refine wpTake_cons (v := ?_) (Or.inl ⟨by rfl, ?_⟩) ?_; rotate_left; (intro w' hSw; clear hSw; go_simp; (try with_reducible rfl)); (try simp only [Act.put, List.setIfInBounds_toArray, List.set_cons_zero, List.set_cons_succ]))
        refine wpTake_nil ?_
        refine rg_many (fuel := 7) [4] rfl (by simp) (by kernel_rfl) (by kernel_rfl) ?_
        intro c hc
        rcases (show c = 4 by simpa using hc) with rfl
        · intro K hK
          simp only [pick1]
          refine step_empty (K := K) rfl 38 3 1 (w.heap.size + 1 + 1 + 1) rfl (by kernel_rfl) j0 hj0 p.lt ?_
          intro g1 W' G1 hb
          replace o := o.below hb o.lt
          replace p := p.below hb p.lt
          replace r := r.below hb r.lt
          refine hK.out _ _ o ?_
          replace hB := hB.trans (hb.mono hB.size)
          replace G0 := G0.below hb (Nat.le_refl _)
          replace G2 := G2.below hb (Nat.le_refl _)
          clear hb hK
          (try simp only [Act.put, List.setIfInBounds_toArray, List.set_cons_zero, List.set_cons_succ])
          refine rg_many (fuel := 6) [7] rfl (by simp) (by kernel_rfl) (by kernel_rfl) ?_
          intro c hc
          rcases (show c = 7 by simpa using hc) with rfl
          · intro K hK
            simp only [pick1]
            refine step_fill rfl (.tmp 9) (.tmp 11) 38 rfl (w.heap.size + 1 + 1 + 1) 3 j0 _ 1 8 (by kernel_rfl) hj0 hj1 hj2 hj3 rfl (by decide) g1 rfl G1 p.lt B d.O.length cB (d.O.map irow) rfl (by rw [List.length_map]) (HB.out.below hB (Nat.le_refl _)) (fun r hr => (by obtain ⟨q, _, rfl⟩ := List.mem_map.1 hr; rfl)) (by unfold maxLen; omega) (by omega) ?_
            intro v1 W' G1 hb
            replace o := o.below hb o.lt
            replace p := p.below hb p.lt
            replace r := r.below hb r.lt
            refine hK.out _ _ o ?_
            replace hB := hB.trans (hb.mono hB.size)
            replace G0 := G0.below hb (Nat.le_refl _)
            replace G2 := G2.below hb (Nat.le_refl _)
            clear hb hK
            (try simp only [Act.put, List.setIfInBounds_toArray, List.set_cons_zero, List.set_cons_succ])
            refine rg_many (fuel := 5) [11] rfl (by simp) (by kernel_rfl) (by kernel_rfl) ?_
            intro c hc
            rcases (show c = 11 by simpa using hc) with rfl
            · intro K hK
              simp only [pick1]
              refine step_fill rfl (.tmp 13) (.tmp 15) 37 rfl (w.heap.size + 1 + 1 + 1) 36 k0 _ 5 40 (by kernel_rfl) hk0 hk1 hk2 hk3 rfl (by decide) g2 rfl G2 p.lt C d.l.length cC (d.l.map wkrow) rfl (by rw [List.length_map]) (HC.out.below hB (Nat.le_refl _)) (fun r hr => (by obtain ⟨q, _, rfl⟩ := List.mem_map.1 hr; rfl)) (by unfold maxLen; omega) (by omega) ?_
              intro v2 W' G2 hb
              replace o := o.below hb o.lt
              replace p := p.below hb p.lt
              replace r := r.below hb r.lt
              refine hK.out _ _ o ?_
              replace hB := hB.trans (hb.mono hB.size)
              replace G0 := G0.below hb (Nat.le_refl _)
              replace G1 := G1.below hb (Nat.le_refl _)
              clear hb hK
              (try simp only [Act.put, List.setIfInBounds_toArray, List.set_cons_zero, List.set_cons_succ])
              obtain ⟨X0, Y0, rfl, _⟩ := G0.out
              obtain ⟨X1, Y1, rfl, _⟩ := G1.out
              obtain ⟨X2, Y2, rfl, _⟩ := G2.out
              simp only [List.length_map]
              refine rg_one (fuel := 4) 13 rfl (by kernel_rfl) (by kernel_rfl) ?_
              simp only [pick1, wpHead]
              intro K hK
              rw [if_pos (by rfl)]
              obtain ⟨pl, pc, pf⟩ := p
              have p := Own.mk pl pc pf
              go_simp
              refine hK.out _ _ (o.setOther (by simp; omega) _) ?_
              clear hK K pc pf
              (try simp only [Act.put, List.setIfInBounds_toArray, List.set_cons_zero, List.set_cons_succ])
              replace o := o.setOther (a := ⟨w.heap.size + 1 + 1, 0, none⟩) (by show _ ≠ _; simp; omega) (.slice X0 d.P.length Y0)
              replace p := p.set 0 (by simp) (.slice X0 d.P.length Y0)
              replace r := r.setOther (a := ⟨w.heap.size + 1 + 1, 0, none⟩) (by show _ ≠ _; simp) (.slice X0 d.P.length Y0)
              replace hB := hB.setCell (show w.heap.size ≤ (⟨w.heap.size + 1 + 1, 0, none⟩ : Addr).block by show _ ≤ w.heap.size + 1 + 1; omega) (.slice X0 d.P.length Y0)
              replace G0 := G0.setCell (a := ⟨w.heap.size + 1 + 1, 0, none⟩) (by simp) (.slice X0 d.P.length Y0)
              replace G1 := G1.setCell (a := ⟨w.heap.size + 1 + 1, 0, none⟩) (by simp) (.slice X0 d.P.length Y0)
              replace G2 := G2.setCell (a := ⟨w.heap.size + 1 + 1, 0, none⟩) (by simp) (.slice X0 d.P.length Y0)
              generalize World.setCell _ _ _ = W5 at o p r hB G0 G1 G2 ⊢
              refine rg_take (fuel := 3) [14] (by kernel_rfl) (by intro _ _ d _ _ h; cases d <;> exact h) rfl (by kernel_rfl) (by kernel_rfl) o ?_
              simp only [pickL, pick1, List.cons_append, List.nil_append]
              (refine wpTake_cons (v := ?_) (Or.inl ⟨by rfl, ?_⟩) ?_; rotate_left; (intro w' hSw; clear hSw; go_simp; (try with_reducible rfl)); (try simp only [Act.put, List.setIfInBounds_toArray, List.set_cons_zero, List.set_cons_succ]))
              refine wpTake_nil ?_
              refine rg_one (fuel := 2) 15 rfl (by kernel_rfl) (by kernel_rfl) ?_
              simp only [pick1, wpHead]
              intro K hK
              rw [if_pos (by rfl)]
              obtain ⟨pl, pc, pf⟩ := p
              have p := Own.mk pl pc pf
              go_simp
              refine hK.out _ _ (o.setOther (by simp; omega) _) ?_
              clear hK K pc pf
              (try simp only [Act.put, List.setIfInBounds_toArray, List.set_cons_zero, List.set_cons_succ])
              replace o := o.setOther (a := ⟨w.heap.size + 1 + 1, 1, none⟩) (by show _ ≠ _; simp; omega) (.slice X1 d.O.length Y1)
              replace p := p.set 1 (by simp) (.slice X1 d.O.length Y1)
              replace r := r.setOther (a := ⟨w.heap.size + 1 + 1, 1, none⟩) (by show _ ≠ _; simp) (.slice X1 d.O.length Y1)
              replace hB := hB.setCell (show w.heap.size ≤ (⟨w.heap.size + 1 + 1, 1, none⟩ : Addr).block by show _ ≤ w.heap.size + 1 + 1; omega) (.slice X1 d.O.length Y1)
              replace G0 := G0.setCell (a := ⟨w.heap.size + 1 + 1, 1, none⟩) (by simp) (.slice X1 d.O.length Y1)
              replace G1 := G1.setCell (a := ⟨w.heap.size + 1 + 1, 1, none⟩) (by simp) (.slice X1 d.O.length Y1)
              replace G2 := G2.setCell (a := ⟨w.heap.size + 1 + 1, 1, none⟩) (by simp) (.slice X1 d.O.length Y1)
              generalize World.setCell _ _ _ = W6 at o p r hB G0 G1 G2 ⊢
              refine rg_take (fuel := 1) [16] (by kernel_rfl) (by intro _ _ d _ _ h; cases d <;> exact h) rfl (by kernel_rfl) (by kernel_rfl) o ?_
              simp only [pickL, pick1, List.cons_append, List.nil_append]
              (refine wpTake_cons (v := ?_) (Or.inl ⟨by rfl, ?_⟩) ?_; rotate_left; (intro w' hSw; clear hSw; go_simp; (try with_reducible rfl)); (try simp only [Act.put, List.setIfInBounds_toArray, List.set_cons_zero, List.set_cons_succ]))
              refine wpTake_nil ?_
              refine rg_one (fuel := 0) 17 rfl (by kernel_rfl) (by kernel_rfl) ?_
              simp only [pick1, wpHead]
              intro K hK
              rw [if_pos (by rfl)]
              obtain ⟨pl, pc, pf⟩ := p
              have p := Own.mk pl pc pf
              go_simp
              refine hK.out _ _ (o.setOther (by simp; omega) _) ?_
              clear hK K pc pf
              (try simp only [Act.put, List.setIfInBounds_toArray, List.set_cons_zero, List.set_cons_succ])
              replace o := o.setOther (a := ⟨w.heap.size + 1 + 1, 11, none⟩) (by show _ ≠ _; simp; omega) (.slice X2 d.l.length Y2)
              replace p := p.set 11 (by simp) (.slice X2 d.l.length Y2)
              replace r := r.setOther (a := ⟨w.heap.size + 1 + 1, 11, none⟩) (by show _ ≠ _; simp) (.slice X2 d.l.length Y2)
              replace hB := hB.setCell (show w.heap.size ≤ (⟨w.heap.size + 1 + 1, 11, none⟩ : Addr).block by show _ ≤ w.heap.size + 1 + 1; omega) (.slice X2 d.l.length Y2)
              replace G0 := G0.setCell (a := ⟨w.heap.size + 1 + 1, 11, none⟩) (by simp) (.slice X2 d.l.length Y2)
              replace G1 := G1.setCell (a := ⟨w.heap.size + 1 + 1, 11, none⟩) (by simp) (.slice X2 d.l.length Y2)
              replace G2 := G2.setCell (a := ⟨w.heap.size + 1 + 1, 11, none⟩) (by simp) (.slice X2 d.l.length Y2)
              generalize World.setCell _ _ _ = W7 at o p r hB G0 G1 G2 ⊢
              refine rg_done (by kernel_rfl) ?_
              simp only [List.set_cons_zero, List.set_cons_succ] at p
              simp only [List.length_map] at G0 G1 G2
              obtain ⟨pl, pc, pf⟩ := p
              have r0 := Lib.hid r
              obtain ⟨rl, rc, rf⟩ := r
              go_wp2
              refine bodyPost_ret (results_cell1 (B := w.heap.size + 1) (vs := dsC X0 X1 X2 Y0 Y1 Y2 d) rfl rfl (own12 r0.out _ _ _ _ _ _ _ _ _ _ _ _) (by kernel_rfl) (by kernel_rfl)) rfl ?_
              exact ⟨_, _, _, rfl, (gro12 G0 (by omega) _ _ _ _ _ _ _ _ _ _ _ _).base (by omega), (gro12 G1 (by omega) _ _ _ _ _ _ _ _ _ _ _ _).base (by omega), (gro12 G2 (by omega) _ _ _ _ _ _ _ _ _ _ _ _).base (by omega), below12 hB (by omega) _ _ _ _ _ _ _ _ _ _ _ _⟩
      · intro K hK
        simp only [pick1]
        refine step_empty (K := K) rfl 38 3 1 (w.heap.size + 1 + 1 + 1) rfl (by kernel_rfl) j0 hj0 p.lt ?_
        intro g1 W' G1 hb
        replace o := o.below hb o.lt
        replace p := p.below hb p.lt
        replace r := r.below hb r.lt
        refine hK.out _ _ o ?_
        replace hB := hB.trans (hb.mono hB.size)
        replace G0 := G0.below hb (Nat.le_refl _)
        replace G2 := G2.below hb (Nat.le_refl _)
        clear hb hK
        (try simp only [Act.put, List.setIfInBounds_toArray, List.set_cons_zero, List.set_cons_succ])
        refine rg_many (fuel := 8) [3] rfl (by simp) (by kernel_rfl) (by kernel_rfl) ?_
        intro c hc
        rcases (show c = 3 by simpa using hc) with rfl
        · intro K hK
          simp only [pick1]
          refine step_fill rfl (.tmp 5) (.tmp 7) 22 rfl (w.heap.size + 1 + 1 + 1) 53 i0 _ 2 16 (by kernel_rfl) hi0 hi1 hi2 hi3 rfl (by decide) g0 rfl G0 p.lt A d.P.length cA (d.P.map ptrow) rfl (by rw [List.length_map]) (HA.out.below hB (Nat.le_refl _)) (fun r hr => (by obtain ⟨q, _, rfl⟩ := List.mem_map.1 hr; rfl)) (by unfold maxLen; omega) (by omega) ?_
          intro v0 W' G0 hb
          replace o := o.below hb o.lt
          replace p := p.below hb p.lt
          replace r := r.below hb r.lt
          refine hK.out _ _ o ?_
          replace hB := hB.trans (hb.mono hB.size)
          replace G1 := G1.below hb (Nat.le_refl _)
          replace G2 := G2.below hb (Nat.le_refl _)
          clear hb hK
          (try simp only [Act.put, List.setIfInBounds_toArray, List.set_cons_zero, List.set_cons_succ])
          refine rg_take (fuel := 7) [12] (by kernel_rfl) (by intro _ _ d _ _ h; cases d <;> exact h) rfl (by kernel_rfl) (by kernel_rfl) o ?_
          simp only [pickL, pick1, List.cons_append, List.nil_append]
          (refine wpTake_cons (v := ?_) (Or.inl ⟨by rfl, ?_⟩) ?_; rotate_left; (intro w' hSw; clear hSw; go_simp; (try with_reducible rfl)); (try simp only [Act.put, List.setIfInBounds_toArray, List.set_cons_zero, List.set_cons_succ]))
          refine wpTake_nil ?_
          refine rg_many (fuel := 6) [7] rfl (by simp) (by kernel_rfl) (by kernel_rfl) ?_
          intro c hc
          rcases (show c = 7 by simpa using hc) with rfl
          · intro K hK
            simp only [pick1]
            refine step_fill rfl (.tmp 9) (.tmp 11) 38 rfl (w.heap.size + 1 + 1 + 1) 3 j0 _ 1 8 (by kernel_rfl) hj0 hj1 hj2 hj3 rfl (by decide) g1 rfl G1 p.lt B d.O.length cB (d.O.map irow) rfl (by rw [List.length_map]) (HB.out.below hB (Nat.le_refl _)) (fun r hr => (by obtain ⟨q, _, rfl⟩ := List.mem_map.1 hr; rfl)) (by unfold maxLen; omega) (by omega) ?_
            intro v1 W' G1 hb
            replace o := o.below hb o.lt
            replace p := p.below hb p.lt
            replace r := r.below hb r.lt
            refine hK.out _ _ o ?_
            replace hB := hB.trans (hb.mono hB.size)
            replace G0 := G0.below hb (Nat.le_refl _)
            replace G2 := G2.below hb (Nat.le_refl _)
            clear hb hK
            (try simp only [Act.put, List.setIfInBounds_toArray, List.set_cons_zero, List.set_cons_succ])
            refine rg_many (fuel := 5) [11] rfl (by simp) (by kernel_rfl) (by kernel_rfl) ?_
            intro c hc
            rcases (show c = 11 by simpa using hc) with rfl
            · intro K hK
              simp only [pick1]
              refine step_fill rfl (.tmp 13) (.tmp 15) 37 rfl (w.heap.size + 1 + 1 + 1) 36 k0 _ 5 40 (by kernel_rfl) hk0 hk1 hk2 hk3 rfl (by decide) g2 rfl G2 p.lt C d.l.length cC (d.l.map wkrow) rfl (by rw [List.length_map]) (HC.out.below hB (Nat.le_refl _)) (fun r hr => (by obtain ⟨q, _, rfl⟩ := List.mem_map.1 hr; rfl)) (by unfold maxLen; omega) (by omega) ?_
              intro v2 W' G2 hb
              replace o := o.below hb o.lt
              replace p := p.below hb p.lt
              replace r := r.below hb r.lt
              refine hK.out _ _ o ?_
              replace hB := hB.trans (hb.mono hB.size)
              replace G0 := G0.below hb (Nat.le_refl _)
              replace G1 := G1.below hb (Nat.le_refl _)
              clear hb hK
              (try simp only [Act.put, List.setIfInBounds_toArray, List.set_cons_zero, List.set_cons_succ])
              obtain ⟨X0, Y0, rfl, _⟩ := G0.out
              obtain ⟨X1, Y1, rfl, _⟩ := G1.out
              obtain ⟨X2, Y2, rfl, _⟩ := G2.out
              simp only [List.length_map]
              refine rg_one (fuel := 4) 13 rfl (by kernel_rfl) (by kernel_rfl) ?_
              simp only [pick1, wpHead]
              intro K hK
              rw [if_pos (by rfl)]
              obtain ⟨pl, pc, pf⟩ := p
              have p := Own.mk pl pc pf
              go_simp
              refine hK.out _ _ (o.setOther (by simp; omega) _) ?_
              clear hK K pc pf
              (try simp only [Act.put, List.setIfInBounds_toArray, List.set_cons_zero, List.set_cons_succ])
              replace o := o.setOther (a := ⟨w.heap.size + 1 + 1, 0, none⟩) (by show _ ≠ _; simp; omega) (.slice X0 d.P.length Y0)
              replace p := p.set 0 (by simp) (.slice X0 d.P.length Y0)
              replace r := r.setOther (a := ⟨w.heap.size + 1 + 1, 0, none⟩) (by show _ ≠ _; simp) (.slice X0 d.P.length Y0)
              replace hB := hB.setCell (show w.heap.size ≤ (⟨w.heap.size + 1 + 1, 0, none⟩ : Addr).block by show _ ≤ w.heap.size + 1 + 1; omega) (.slice X0 d.P.length Y0)
              replace G0 := G0.setCell (a := ⟨w.heap.size + 1 + 1, 0, none⟩) (by simp) (.slice X0 d.P.length Y0)
              replace G1 := G1.setCell (a := ⟨w.heap.size + 1 + 1, 0, none⟩) (by simp) (.slice X0 d.P.length Y0)
              replace G2 := G2.setCell (a := ⟨w.heap.size + 1 + 1, 0, none⟩) (by simp) (.slice X0 d.P.length Y0)
              generalize World.setCell _ _ _ = W5 at o p r hB G0 G1 G2 ⊢
              refine rg_take (fuel := 3) [14] (by kernel_rfl) (by intro _ _ d _ _ h; cases d <;> exact h) rfl (by kernel_rfl) (by kernel_rfl) o ?_
              simp only [pickL, pick1, List.cons_append, List.nil_append]
              (refine wpTake_cons (v := ?_) (Or.inl ⟨by rfl, ?_⟩) ?_; rotate_left; (intro w' hSw; clear hSw; go_simp; (try with_reducible rfl)); (try simp only [Act.put, List.setIfInBounds_toArray, List.set_cons_zero, List.set_cons_succ]))
              refine wpTake_nil ?_
              refine rg_one (fuel := 2) 15 rfl (by kernel_rfl) (by kernel_rfl) ?_
              simp only [pick1, wpHead]
              intro K hK
              rw [if_pos (by rfl)]
              obtain ⟨pl, pc, pf⟩ := p
              have p := Own.mk pl pc pf
              go_simp
              refine hK.out _ _ (o.setOther (by simp; omega) _) ?_
              clear hK K pc pf
              (try simp only [Act.put, List.setIfInBounds_toArray, List.set_cons_zero, List.set_cons_succ])
              replace o := o.setOther (a := ⟨w.heap.size + 1 + 1, 1, none⟩) (by show _ ≠ _; simp; omega) (.slice X1 d.O.length Y1)
              replace p := p.set 1 (by simp) (.slice X1 d.O.length Y1)
              replace r := r.setOther (a := ⟨w.heap.size + 1 + 1, 1, none⟩) (by show _ ≠ _; simp) (.slice X1 d.O.length Y1)
              replace hB := hB.setCell (show w.heap.size ≤ (⟨w.heap.size + 1 + 1, 1, none⟩ : Addr).block by show _ ≤ w.heap.size + 1 + 1; omega) (.slice X1 d.O.length Y1)
              replace G0 := G0.setCell (a := ⟨w.heap.size + 1 + 1, 1, none⟩) (by simp) (.slice X1 d.O.length Y1)
              replace G1 := G1.setCell (a := ⟨w.heap.size + 1 + 1, 1, none⟩) (by simp) (.slice X1 d.O.length Y1)
              replace G2 := G2.setCell (a := ⟨w.heap.size + 1 + 1, 1, none⟩) (by simp) (.slice X1 d.O.length Y1)
              generalize World.setCell _ _ _ = W6 at o p r hB G0 G1 G2 ⊢
              refine rg_take (fuel := 1) [16] (by kernel_rfl) (by intro _ _ d _ _ h; cases d <;> exact h) rfl (by kernel_rfl) (by kernel_rfl) o ?_
              simp only [pickL, pick1, List.cons_append, List.nil_append]
              (refine wpTake_cons (v := ?_) (Or.inl ⟨by rfl, ?_⟩) ?_; rotate_left; (intro w' hSw; clear hSw; go_simp; (try with_reducible rfl)); (try simp only [Act.put, List.setIfInBounds_toArray, List.set_cons_zero, List.set_cons_succ]))
              refine wpTake_nil ?_
              refine rg_one (fuel := 0) 17 rfl (by kernel_rfl) (by kernel_rfl) ?_
              simp only [pick1, wpHead]
              intro K hK
              rw [if_pos (by rfl)]
              obtain ⟨pl, pc, pf⟩ := p
              have p := Own.mk pl pc pf
              go_simp
              refine hK.out _ _ (o.setOther (by simp; omega) _) ?_
              clear hK K pc pf
              (try simp only [Act.put, List.setIfInBounds_toArray, List.set_cons_zero, List.set_cons_succ])
              replace o := o.setOther (a := ⟨w.heap.size + 1 + 1, 11, none⟩) (by show _ ≠ _; simp; omega) (.slice X2 d.l.length Y2)
              replace p := p.set 11 (by simp) (.slice X2 d.l.length Y2)
              replace r := r.setOther (a := ⟨w.heap.size + 1 + 1, 11, none⟩) (by show _ ≠ _; simp) (.slice X2 d.l.length Y2)
              replace hB := hB.setCell (show w.heap.size ≤ (⟨w.heap.size + 1 + 1, 11, none⟩ : Addr).block by show _ ≤ w.heap.size + 1 + 1; omega) (.slice X2 d.l.length Y2)
              replace G0 := G0.setCell (a := ⟨w.heap.size + 1 + 1, 11, none⟩) (by simp) (.slice X2 d.l.length Y2)
              replace G1 := G1.setCell (a := ⟨w.heap.size + 1 + 1, 11, none⟩) (by simp) (.slice X2 d.l.length Y2)
              replace G2 := G2.setCell (a := ⟨w.heap.size + 1 + 1, 11, none⟩) (by simp) (.slice X2 d.l.length Y2)
              generalize World.setCell _ _ _ = W7 at o p r hB G0 G1 G2 ⊢
              refine rg_done (by kernel_rfl) ?_
              simp only [List.set_cons_zero, List.set_cons_succ] at p
              simp only [List.length_map] at G0 G1 G2
              obtain ⟨pl, pc, pf⟩ := p
              have r0 := Lib.hid r
              obtain ⟨rl, rc, rf⟩ := r
              go_wp2
              refine bodyPost_ret (results_cell1 (B := w.heap.size + 1) (vs := dsC X0 X1 X2 Y0 Y1 Y2 d) rfl rfl (own12 r0.out _ _ _ _ _ _ _ _ _ _ _ _) (by kernel_rfl) (by kernel_rfl)) rfl ?_
              exact ⟨_, _, _, rfl, (gro12 G0 (by omega) _ _ _ _ _ _ _ _ _ _ _ _).base (by omega), (gro12 G1 (by omega) _ _ _ _ _ _ _ _ _ _ _ _).base (by omega), (gro12 G2 (by omega) _ _ _ _ _ _ _ _ _ _ _ _).base (by omega), below12 hB (by omega) _ _ _ _ _ _ _ _ _ _ _ _⟩
  · intro K hK
    simp only [pick1]
    refine step_empty (K := K) rfl 38 3 1 (w.heap.size + 1 + 1 + 1) rfl (by kernel_rfl) j0 hj0 p.lt ?_
    intro g1 W' G1 hb
    replace o := o.below hb o.lt
    replace p := p.below hb p.lt
    replace r := r.below hb r.lt
    refine hK.out _ _ o ?_
    replace hB := hB.trans (hb.mono hB.size)
    clear hb hK
    (try simp only [Act.put, List.setIfInBounds_toArray, List.set_cons_zero, List.set_cons_succ])
    refine rg_many (fuel := 10) [0, 8] rfl (by simp) (by kernel_rfl) (by kernel_rfl) ?_
    intro c hc
    rcases (show c = 0 ∨ c = 8 by simpa using hc) with rfl | rfl
    · intro K hK
      simp only [pick1]
      refine step_empty (K := K) rfl 22 53 2 (w.heap.size + 1 + 1 + 1) rfl (by kernel_rfl) i0 hi0 p.lt ?_
      intro g0 W' G0 hb
      replace o := o.below hb o.lt
      replace p := p.below hb p.lt
      replace r := r.below hb r.lt
      refine hK.out _ _ o ?_
      replace hB := hB.trans (hb.mono hB.size)
      replace G1 := G1.below hb (Nat.le_refl _)
      clear hb hK
      (try simp only [Act.put, List.setIfInBounds_toArray, List.set_cons_zero, List.set_cons_succ])
      refine rg_many (fuel := 9) [3, 8] rfl (by simp) (by kernel_rfl) (by kernel_rfl) ?_
      intro c hc
      rcases (show c = 3 ∨ c = 8 by simpa using hc) with rfl | rfl
      · intro K hK
        simp only [pick1]
        refine step_fill rfl (.tmp 5) (.tmp 7) 22 rfl (w.heap.size + 1 + 1 + 1) 53 i0 _ 2 16 (by kernel_rfl) hi0 hi1 hi2 hi3 rfl (by decide) g0 rfl G0 p.lt A d.P.length cA (d.P.map ptrow) rfl (by rw [List.length_map]) (HA.out.below hB (Nat.le_refl _)) (fun r hr => (by obtain ⟨q, _, rfl⟩ := List.mem_map.1 hr; rfl)) (by unfold maxLen; omega) (by omega) ?_
        intro v0 W' G0 hb
        replace o := o.below hb o.lt
        replace p := p.below hb p.lt
        replace r := r.below hb r.lt
        refine hK.out _ _ o ?_
        replace hB := hB.trans (hb.mono hB.size)
        replace G1 := G1.below hb (Nat.le_refl _)
        clear hb hK
        (try simp only [Act.put, List.setIfInBounds_toArray, List.set_cons_zero, List.set_cons_succ])
        refine rg_take (fuel := 8) [12] (by kernel_rfl) (by intro _ _ d _ _ h; cases d <;> exact h) rfl (by kernel_rfl) (by kernel_rfl) o ?_
        simp only [pickL, pick1, List.cons_append, List.nil_append]
        (refine wpTake_cons (v := ?_) (Or.inl ⟨by rfl, ?_⟩) ?_; rotate_left; (intro w' hSw; clear hSw; go_simp; (try with_reducible rfl)); (try simp only [Act.put, List.setIfInBounds_toArray, List.set_cons_zero, List.set_cons_succ]))
        refine wpTake_nil ?_
        refine rg_many (fuel := 7) [7, 8] rfl (by simp) (by kernel_rfl) (by kernel_rfl) ?_
        intro c hc
        rcases (show c = 7 ∨ c = 8 by simpa using hc) with rfl | rfl
        · intro K hK
          simp only [pick1]
          refine step_fill rfl (.tmp 9) (.tmp 11) 38 rfl (w.heap.size + 1 + 1 + 1) 3 j0 _ 1 8 (by kernel_rfl) hj0 hj1 hj2 hj3 rfl (by decide) g1 rfl G1 p.lt B d.O.length cB (d.O.map irow) rfl (by rw [List.length_map]) (HB.out.below hB (Nat.le_refl _)) (fun r hr => (by obtain ⟨q, _, rfl⟩ := List.mem_map.1 hr; rfl)) (by unfold maxLen; omega) (by omega) ?_
          intro v1 W' G1 hb
          replace o := o.below hb o.lt
          replace p := p.below hb p.lt
          replace r := r.below hb r.lt
          refine hK.out _ _ o ?_
          replace hB := hB.trans (hb.mono hB.size)
          replace G0 := G0.below hb (Nat.le_refl _)
          clear hb hK
          (try simp only [Act.put, List.setIfInBounds_toArray, List.set_cons_zero, List.set_cons_succ])
          refine rg_many (fuel := 6) [8] rfl (by simp) (by kernel_rfl) (by kernel_rfl) ?_
          intro c hc
          rcases (show c = 8 by simpa using hc) with rfl
          · intro K hK
            simp only [pick1]
            refine step_empty (K := K) rfl 37 36 5 (w.heap.size + 1 + 1 + 1) rfl (by kernel_rfl) k0 hk0 p.lt ?_
            intro g2 W' G2 hb
            replace o := o.below hb o.lt
            replace p := p.below hb p.lt
            replace r := r.below hb r.lt
            refine hK.out _ _ o ?_
            replace hB := hB.trans (hb.mono hB.size)
            replace G0 := G0.below hb (Nat.le_refl _)
            replace G1 := G1.below hb (Nat.le_refl _)
            clear hb hK
            (try simp only [Act.put, List.setIfInBounds_toArray, List.set_cons_zero, List.set_cons_succ])
            refine rg_many (fuel := 5) [11] rfl (by simp) (by kernel_rfl) (by kernel_rfl) ?_
            intro c hc
            rcases (show c = 11 by simpa using hc) with rfl
            · intro K hK
              simp only [pick1]
              refine step_fill rfl (.tmp 13) (.tmp 15) 37 rfl (w.heap.size + 1 + 1 + 1) 36 k0 _ 5 40 (by kernel_rfl) hk0 hk1 hk2 hk3 rfl (by decide) g2 rfl G2 p.lt C d.l.length cC (d.l.map wkrow) rfl (by rw [List.length_map]) (HC.out.below hB (Nat.le_refl _)) (fun r hr => (by obtain ⟨q, _, rfl⟩ := List.mem_map.1 hr; rfl)) (by unfold maxLen; omega) (by omega) ?_
              intro v2 W' G2 hb
              replace o := o.below hb o.lt
              replace p := p.below hb p.lt
              replace r := r.below hb r.lt
              refine hK.out _ _ o ?_
              replace hB := hB.trans (hb.mono hB.size)
              replace G0 := G0.below hb (Nat.le_refl _)
              replace G1 := G1.below hb (Nat.le_refl _)
              clear hb hK
              (try simp only [Act.put, List.setIfInBounds_toArray, List.set_cons_zero, List.set_cons_succ])
              obtain ⟨X0, Y0, rfl, _⟩ := G0.out
              obtain ⟨X1, Y1, rfl, _⟩ := G1.out
              obtain ⟨X2, Y2, rfl, _⟩ := G2.out
              simp only [List.length_map]
              refine rg_one (fuel := 4) 13 rfl (by kernel_rfl) (by kernel_rfl) ?_
              simp only [pick1, wpHead]
              intro K hK
              rw [if_pos (by rfl)]
              obtain ⟨pl, pc, pf⟩ := p
              have p := Own.mk pl pc pf
              go_simp
              refine hK.out _ _ (o.setOther (by simp; omega) _) ?_
              clear hK K pc pf
              (try simp only [Act.put, List.setIfInBounds_toArray, List.set_cons_zero, List.set_cons_succ])
              replace o := o.setOther (a := ⟨w.heap.size + 1 + 1, 0, none⟩) (by show _ ≠ _; simp; omega) (.slice X0 d.P.length Y0)
              replace p := p.set 0 (by simp) (.slice X0 d.P.length Y0)
              replace r := r.setOther (a := ⟨w.heap.size + 1 + 1, 0, none⟩) (by show _ ≠ _; simp) (.slice X0 d.P.length Y0)
              replace hB := hB.setCell (show w.heap.size ≤ (⟨w.heap.size + 1 + 1, 0, none⟩ : Addr).block by show _ ≤ w.heap.size + 1 + 1; omega) (.slice X0 d.P.length Y0)
              replace G0 := G0.setCell (a := ⟨w.heap.size + 1 + 1, 0, none⟩) (by simp) (.slice X0 d.P.length Y0)
              replace G1 := G1.setCell (a := ⟨w.heap.size + 1 + 1, 0, none⟩) (by simp) (.slice X0 d.P.length Y0)
              replace G2 := G2.setCell (a := ⟨w.heap.size + 1 + 1, 0, none⟩) (by simp) (.slice X0 d.P.length Y0)
              generalize World.setCell _ _ _ = W5 at o p r hB G0 G1 G2 ⊢
              refine rg_take (fuel := 3) [14] (by kernel_rfl) (by intro _ _ d _ _ h; cases d <;> exact h) rfl (by kernel_rfl) (by kernel_rfl) o ?_
              simp only [pickL, pick1, List.cons_append, List.nil_append]
              (refine wpTake_cons (v := ?_) (Or.inl ⟨by rfl, ?_⟩) ?_; rotate_left; (intro w' hSw; clear hSw; go_simp; (try with_reducible rfl)); (try simp only [Act.put, List.setIfInBounds_toArray, List.set_cons_zero, List.set_cons_succ]))
              refine wpTake_nil ?_
              refine rg_one (fuel := 2) 15 rfl (by kernel_rfl) (by kernel_rfl) ?_
              simp only [pick1, wpHead]
              intro K hK
              rw [if_pos (by rfl)]
              obtain ⟨pl, pc, pf⟩ := p
              have p := Own.mk pl pc pf
              go_simp
              refine hK.out _ _ (o.setOther (by simp; omega) _) ?_
              clear hK K pc pf
              (try simp only [Act.put, List.setIfInBounds_toArray, List.set_cons_zero, List.set_cons_succ])
              replace o := o.setOther (a := ⟨w.heap.size + 1 + 1, 1, none⟩) (by show _ ≠ _; simp; omega) (.slice X1 d.O.length Y1)
              replace p := p.set 1 (by simp) (.slice X1 d.O.length Y1)
              replace r := r.setOther (a := ⟨w.heap.size + 1 + 1, 1, none⟩) (by show _ ≠ _; simp) (.slice X1 d.O.length Y1)
              replace hB := hB.setCell (show w.heap.size ≤ (⟨w.heap.size + 1 + 1, 1, none⟩ : Addr).block by show _ ≤ w.heap.size + 1 + 1; omega) (.slice X1 d.O.length Y1)
              replace G0 := G0.setCell (a := ⟨w.heap.size + 1 + 1, 1, none⟩) (by simp) (.slice X1 d.O.length Y1)
              replace G1 := G1.setCell (a := ⟨w.heap.size + 1 + 1, 1, none⟩) (by simp) (.slice X1 d.O.length Y1)
              replace G2 := G2.setCell (a := ⟨w.heap.size + 1 + 1, 1, none⟩) (by simp) (.slice X1 d.O.length Y1)
              generalize World.setCell _ _ _ = W6 at o p r hB G0 G1 G2 ⊢
              refine rg_take (fuel := 1) [16] (by kernel_rfl) (by intro _ _ d _ _ h; cases d <;> exact h) rfl (by kernel_rfl) (by kernel_rfl) o ?_
              simp only [pickL, pick1, List.cons_append, List.nil_append]
              (refine wpTake_cons (v := ?_) (Or.inl ⟨by rfl, ?_⟩) ?_; rotate_left; (intro w' hSw; clear hSw; go_simp; (try with_reducible rfl)); (try simp only [Act.put, List.setIfInBounds_toArray, List.set_cons_zero, List.set_cons_succ]))
              refine wpTake_nil ?_
              refine rg_one (fuel := 0) 17 rfl (by kernel_rfl) (by kernel_rfl) ?_
              simp only [pick1, wpHead]
              intro K hK
              rw [if_pos (by rfl)]
              obtain ⟨pl, pc, pf⟩ := p
              have p := Own.mk pl pc pf
              go_simp
              refine hK.out _ _ (o.setOther (by simp; omega) _) ?_
              clear hK K pc pf
              (try simp only [Act.put, List.setIfInBounds_toArray, List.set_cons_zero, List.set_cons_succ])
              replace o := o.setOther (a := ⟨w.heap.size + 1 + 1, 11, none⟩) (by show _ ≠ _; simp; omega) (.slice X2 d.l.length Y2)
              replace p := p.set 11 (by simp) (.slice X2 d.l.length Y2)
              replace r := r.setOther (a := ⟨w.heap.size + 1 + 1, 11, none⟩) (by show _ ≠ _; simp) (.slice X2 d.l.length Y2)
              replace hB := hB.setCell (show w.heap.size ≤ (⟨w.heap.size + 1 + 1, 11, none⟩ : Addr).block by show _ ≤ w.heap.size + 1 + 1; omega) (.slice X2 d.l.length Y2)
              replace G0 := G0.setCell (a := ⟨w.heap.size + 1 + 1, 11, none⟩) (by simp) (.slice X2 d.l.length Y2)
              replace G1 := G1.setCell (a := ⟨w.heap.size + 1 + 1, 11, none⟩) (by simp) (.slice X2 d.l.length Y2)
              replace G2 := G2.setCell (a := ⟨w.heap.size + 1 + 1, 11, none⟩) (by simp) (.slice X2 d.l.length Y2)
              generalize World.setCell _ _ _ = W7 at o p r hB G0 G1 G2 ⊢
              refine rg_done (by kernel_rfl) ?_
              simp only [List.set_cons_zero, List.set_cons_succ] at p
              simp only [List.length_map] at G0 G1 G2
              obtain ⟨pl, pc, pf⟩ := p
              have r0 := Lib.hid r
              obtain ⟨rl, rc, rf⟩ := r
              go_wp2
              refine bodyPost_ret (results_cell1 (B := w.heap.size + 1) (vs := dsC X0 X1 X2 Y0 Y1 Y2 d) rfl rfl (own12 r0.out _ _ _ _ _ _ _ _ _ _ _ _) (by kernel_rfl) (by kernel_rfl)) rfl ?_
              exact ⟨_, _, _, rfl, (gro12 G0 (by omega) _ _ _ _ _ _ _ _ _ _ _ _).base (by omega), (gro12 G1 (by omega) _ _ _ _ _ _ _ _ _ _ _ _).base (by omega), (gro12 G2 (by omega) _ _ _ _ _ _ _ _ _ _ _ _).base (by omega), below12 hB (by omega) _ _ _ _ _ _ _ _ _ _ _ _⟩
        · intro K hK
          simp only [pick1]
          refine step_empty (K := K) rfl 37 36 5 (w.heap.size + 1 + 1 + 1) rfl (by kernel_rfl) k0 hk0 p.lt ?_
          intro g2 W' G2 hb
          replace o := o.below hb o.lt
          replace p := p.below hb p.lt
          replace r := r.below hb r.lt
          refine hK.out _ _ o ?_
          replace hB := hB.trans (hb.mono hB.size)
          replace G0 := G0.below hb (Nat.le_refl _)
          replace G1 := G1.below hb (Nat.le_refl _)
          clear hb hK
          (try simp only [Act.put, List.setIfInBounds_toArray, List.set_cons_zero, List.set_cons_succ])
          refine rg_many (fuel := 6) [7] rfl (by simp) (by kernel_rfl) (by kernel_rfl) ?_
          intro c hc
          rcases (show c = 7 by simpa using hc) with rfl
          · intro K hK
            simp only [pick1]
            refine step_fill rfl (.tmp 9) (.tmp 11) 38 rfl (w.heap.size + 1 + 1 + 1) 3 j0 _ 1 8 (by kernel_rfl) hj0 hj1 hj2 hj3 rfl (by decide) g1 rfl G1 p.lt B d.O.length cB (d.O.map irow) rfl (by rw [List.length_map]) (HB.out.below hB (Nat.le_refl _)) (fun r hr => (by obtain ⟨q, _, rfl⟩ := List.mem_map.1 hr; rfl)) (by unfold maxLen; omega) (by omega) ?_
            intro v1 W' G1 hb
            replace o := o.below hb o.lt
            replace p := p.below hb p.lt
            replace r := r.below hb r.lt
            refine hK.out _ _ o ?_
            replace hB := hB.trans (hb.mono hB.size)
            replace G0 := G0.below hb (Nat.le_refl _)
            replace G2 := G2.below hb (Nat.le_refl _)
            clear hb hK
            (try simp only [Act.put, List.setIfInBounds_toArray, List.set_cons_zero, List.set_cons_succ])
            refine rg_many (fuel := 5) [11] rfl (by simp) (by kernel_rfl) (by kernel_rfl) ?_
            intro c hc
            rcases (show c = 11 by simpa using hc) with rfl
            · intro K hK
              simp only [pick1]
              refine step_fill rfl (.tmp 13) (.tmp 15) 37 rfl (w.heap.size + 1 + 1 + 1) 36 k0 _ 5 40 (by kernel_rfl) hk0 hk1 hk2 hk3 rfl (by decide) g2 rfl G2 p.lt C d.l.length cC (d.l.map wkrow) rfl (by rw [List.length_map]) (HC.out.below hB (Nat.le_refl _)) (fun r hr => (by obtain ⟨q, _, rfl⟩ := List.mem_map.1 hr; rfl)) (by unfold maxLen; omega) (by omega) ?_
              intro v2 W' G2 hb
              replace o := o.below hb o.lt
              replace p := p.below hb p.lt
              replace r := r.below hb r.lt
              refine hK.out _ _ o ?_
              replace hB := hB.trans (hb.mono hB.size)
              replace G0 := G0.below hb (Nat.le_refl _)
              replace G1 := G1.below hb (Nat.le_refl _)
              clear hb hK
              (try simp only [Act.put, List.setIfInBounds_toArray, List.set_cons_zero, List.set_cons_succ])
              obtain ⟨X0, Y0, rfl, _⟩ := G0.out
              obtain ⟨X1, Y1, rfl, _⟩ := G1.out
              obtain ⟨X2, Y2, rfl, _⟩ := G2.out
              simp only [List.length_map]
              refine rg_one (fuel := 4) 13 rfl (by kernel_rfl) (by kernel_rfl) ?_
              simp only [pick1, wpHead]
              intro K hK
              rw [if_pos (by rfl)]
              obtain ⟨pl, pc, pf⟩ := p
              have p := Own.mk pl pc pf
              go_simp
              refine hK.out _ _ (o.setOther (by simp; omega) _) ?_
              clear hK K pc pf
              (try simp only [Act.put, List.setIfInBounds_toArray, List.set_cons_zero, List.set_cons_succ])
              replace o := o.setOther (a := ⟨w.heap.size + 1 + 1, 0, none⟩) (by show _ ≠ _; simp; omega) (.slice X0 d.P.length Y0)
              replace p := p.set 0 (by simp) (.slice X0 d.P.length Y0)
              replace r := r.setOther (a := ⟨w.heap.size + 1 + 1, 0, none⟩) (by show _ ≠ _; simp) (.slice X0 d.P.length Y0)
              replace hB := hB.setCell (show w.heap.size ≤ (⟨w.heap.size + 1 + 1, 0, none⟩ : Addr).block by show _ ≤ w.heap.size + 1 + 1; omega) (.slice X0 d.P.length Y0)
              replace G0 := G0.setCell (a := ⟨w.heap.size + 1 + 1, 0, none⟩) (by simp) (.slice X0 d.P.length Y0)
              replace G1 := G1.setCell (a := ⟨w.heap.size + 1 + 1, 0, none⟩) (by simp) (.slice X0 d.P.length Y0)
              replace G2 := G2.setCell (a := ⟨w.heap.size + 1 + 1, 0, none⟩) (by simp) (.slice X0 d.P.length Y0)
              generalize World.setCell _ _ _ = W5 at o p r hB G0 G1 G2 ⊢
              refine rg_take (fuel := 3) [14] (by kernel_rfl) (by intro _ _ d _ _ h; cases d <;> exact h) rfl (by kernel_rfl) (by kernel_rfl) o ?_
              simp only [pickL, pick1, List.cons_append, List.nil_append]
              (refine wpTake_cons (v := ?_) (Or.inl ⟨by rfl, ?_⟩) ?_; rotate_left; (intro w' hSw; clear hSw; go_simp; (try with_reducible rfl)); (try simp only [Act.put, List.setIfInBounds_toArray, List.set_cons_zero, List.set_cons_succ]))
              refine wpTake_nil ?_
              refine rg_one (fuel := 2) 15 rfl (by kernel_rfl) (by kernel_rfl) ?_
              simp only [pick1, wpHead]
              intro K hK
              rw [if_pos (by rfl)]
              obtain ⟨pl, pc, pf⟩ := p
              have p := Own.mk pl pc pf
              go_simp
              refine hK.out _ _ (o.setOther (by simp; omega) _) ?_
              clear hK K pc pf
              (try simp only [Act.put, List.setIfInBounds_toArray, List.set_cons_zero, List.set_cons_succ])
              replace o := o.setOther (a := ⟨w.heap.size + 1 + 1, 1, none⟩) (by show _ ≠ _; simp; omega) (.slice X1 d.O.length Y1)
              replace p := p.set 1 (by simp) (.slice X1 d.O.length Y1)
              replace r := r.setOther (a := ⟨w.heap.size + 1 + 1, 1, none⟩) (by show _ ≠ _; simp) (.slice X1 d.O.length Y1)
              replace hB := hB.setCell (show w.heap.size ≤ (⟨w.heap.size + 1 + 1, 1, none⟩ : Addr).block by show _ ≤ w.heap.size + 1 + 1; omega) (.slice X1 d.O.length Y1)
              replace G0 := G0.setCell (a := ⟨w.heap.size + 1 + 1, 1, none⟩) (by simp) (.slice X1 d.O.length Y1)
              replace G1 := G1.setCell (a := ⟨w.heap.size + 1 + 1, 1, none⟩) (by simp) (.slice X1 d.O.length Y1)
              replace G2 := G2.setCell (a := ⟨w.heap.size + 1 + 1, 1, none⟩) (by simp) (.slice X1 d.O.length Y1)
              generalize World.setCell _ _ _ = W6 at o p r hB G0 G1 G2 ⊢
              refine rg_take (fuel := 1) [16] (by kernel_rfl) (by intro _ _ d _ _ h; cases d <;> exact h) rfl (by kernel_rfl) (by kernel_rfl) o ?_
              simp only [pickL, pick1, List.cons_append, List.nil_append]
              (refine wpTake_cons (v := ?_) (Or.inl ⟨by rfl, ?_⟩) ?_; rotate_left; (intro w' hSw; clear hSw; go_simp; (try with_reducible rfl)); (try simp only [Act.put, List.setIfInBounds_toArray, List.set_cons_zero, List.set_cons_succ]))
              refine wpTake_nil ?_
              refine rg_one (fuel := 0) 17 rfl (by kernel_rfl) (by kernel_rfl) ?_
              simp only [pick1, wpHead]
              intro K hK
              rw [if_pos (by rfl)]
              obtain ⟨pl, pc, pf⟩ := p
              have p := Own.mk pl pc pf
              go_simp
              refine hK.out _ _ (o.setOther (by simp; omega) _) ?_
              clear hK K pc pf
              (try simp only [Act.put, List.setIfInBounds_toArray, List.set_cons_zero, List.set_cons_succ])
              replace o := o.setOther (a := ⟨w.heap.size + 1 + 1, 11, none⟩) (by show _ ≠ _; simp; omega) (.slice X2 d.l.length Y2)
              replace p := p.set 11 (by simp) (.slice X2 d.l.length Y2)
              replace r := r.setOther (a := ⟨w.heap.size + 1 + 1, 11, none⟩) (by show _ ≠ _; simp) (.slice X2 d.l.length Y2)
              replace hB := hB.setCell (show w.heap.size ≤ (⟨w.heap.size + 1 + 1, 11, none⟩ : Addr).block by show _ ≤ w.heap.size + 1 + 1; omega) (.slice X2 d.l.length Y2)
              replace G0 := G0.setCell (a := ⟨w.heap.size + 1 + 1, 11, none⟩) (by simp) (.slice X2 d.l.length Y2)
              replace G1 := G1.setCell (a := ⟨w.heap.size + 1 + 1, 11, none⟩) (by simp) (.slice X2 d.l.length Y2)
              replace G2 := G2.setCell (a := ⟨w.heap.size + 1 + 1, 11, none⟩) (by simp) (.slice X2 d.l.length Y2)
              generalize World.setCell _ _ _ = W7 at o p r hB G0 G1 G2 ⊢
              refine rg_done (by kernel_rfl) ?_
              simp only [List.set_cons_zero, List.set_cons_succ] at p
              simp only [List.length_map] at G0 G1 G2
              obtain ⟨pl, pc, pf⟩ := p
              have r0 := Lib.hid r
              obtain ⟨rl, rc, rf⟩ := r
              go_wp2
              refine bodyPost_ret (results_cell1 (B := w.heap.size + 1) (vs := dsC X0 X1 X2 Y0 Y1 Y2 d) rfl rfl (own12 r0.out _ _ _ _ _ _ _ _ _ _ _ _) (by kernel_rfl) (by kernel_rfl)) rfl ?_
              exact ⟨_, _, _, rfl, (gro12 G0 (by omega) _ _ _ _ _ _ _ _ _ _ _ _).base (by omega), (gro12 G1 (by omega) _ _ _ _ _ _ _ _ _ _ _ _).base (by omega), (gro12 G2 (by omega) _ _ _ _ _ _ _ _ _ _ _ _).base (by omega), below12 hB (by omega) _ _ _ _ _ _ _ _ _ _ _ _⟩
      · intro K hK
        simp only [pick1]
        refine step_empty (K := K) rfl 37 36 5 (w.heap.size + 1 + 1 + 1) rfl (by kernel_rfl) k0 hk0 p.lt ?_
        intro g2 W' G2 hb
        replace o := o.below hb o.lt
        replace p := p.below hb p.lt
        replace r := r.below hb r.lt
        refine hK.out _ _ o ?_
        replace hB := hB.trans (hb.mono hB.size)
        replace G0 := G0.below hb (Nat.le_refl _)
        replace G1 := G1.below hb (Nat.le_refl _)
        clear hb hK
        (try simp only [Act.put, List.setIfInBounds_toArray, List.set_cons_zero, List.set_cons_succ])
        refine rg_many (fuel := 8) [3] rfl (by simp) (by kernel_rfl) (by kernel_rfl) ?_
        intro c hc
        rcases (show c = 3 by simpa using hc) with rfl
        · intro K hK
          simp only [pick1]
          refine step_fill rfl (.tmp 5) (.tmp 7) 22 rfl (w.heap.size + 1 + 1 + 1) 53 i0 _ 2 16 (by kernel_rfl) hi0 hi1 hi2 hi3 rfl (by decide) g0 rfl G0 p.lt A d.P.length cA (d.P.map ptrow) rfl (by rw [List.length_map]) (HA.out.below hB (Nat.le_refl _)) (fun r hr => (by obtain ⟨q, _, rfl⟩ := List.mem_map.1 hr; rfl)) (by unfold maxLen; omega) (by omega) ?_
          intro v0 W' G0 hb
          replace o := o.below hb o.lt
          replace p := p.below hb p.lt
          replace r := r.below hb r.lt
          refine hK.out _ _ o ?_
          replace hB := hB.trans (hb.mono hB.size)
          replace G1 := G1.below hb (Nat.le_refl _)
          replace G2 := G2.below hb (Nat.le_refl _)
          clear hb hK
          (try simp only [Act.put, List.setIfInBounds_toArray, List.set_cons_zero, List.set_cons_succ])
          refine rg_take (fuel := 7) [12] (by kernel_rfl) (by intro _ _ d _ _ h; cases d <;> exact h) rfl (by kernel_rfl) (by kernel_rfl) o ?_
          simp only [pickL, pick1, List.cons_append, List.nil_append]
          (refine wpTake_cons (v := ?_) (Or.inl ⟨by rfl, ?_⟩) ?_; rotate_left; (intro w' hSw; clear hSw; go_simp; (try with_reducible rfl)); (try simp only [Act.put, List.setIfInBounds_toArray, List.set_cons_zero, List.set_cons_succ]))
          refine wpTake_nil ?_
          refine rg_many (fuel := 6) [7] rfl (by simp) (by kernel_rfl) (by kernel_rfl) ?_
          intro c hc
          rcases (show c = 7 by simpa using hc) with rfl
          · intro K hK
            simp only [pick1]
            refine step_fill rfl (.tmp 9) (.tmp 11) 38 rfl (w.heap.size + 1 + 1 + 1) 3 j0 _ 1 8 (by kernel_rfl) hj0 hj1 hj2 hj3 rfl (by decide) g1 rfl G1 p.lt B d.O.length cB (d.O.map irow) rfl (by rw [List.length_map]) (HB.out.below hB (Nat.le_refl _)) (fun r hr => (by obtain ⟨q, _, rfl⟩ := List.mem_map.1 hr; rfl)) (by unfold maxLen; omega) (by omega) ?_
            intro v1 W' G1 hb
            replace o := o.below hb o.lt
            replace p := p.below hb p.lt
            replace r := r.below hb r.lt
            refine hK.out _ _ o ?_
            replace hB := hB.trans (hb.mono hB.size)
            replace G0 := G0.below hb (Nat.le_refl _)
            replace G2 := G2.below hb (Nat.le_refl _)
            clear hb hK
            (try simp only [Act.put, List.setIfInBounds_toArray, List.set_cons_zero, List.set_cons_succ])
            refine rg_many (fuel := 5) [11] rfl (by simp) (by kernel_rfl) (by kernel_rfl) ?_
            intro c hc
            rcases (show c = 11 by simpa using hc) with rfl
            · intro K hK
              simp only [pick1]
              refine step_fill rfl (.tmp 13) (.tmp 15) 37 rfl (w.heap.size + 1 + 1 + 1) 36 k0 _ 5 40 (by kernel_rfl) hk0 hk1 hk2 hk3 rfl (by decide) g2 rfl G2 p.lt C d.l.length cC (d.l.map wkrow) rfl (by rw [List.length_map]) (HC.out.below hB (Nat.le_refl _)) (fun r hr => (by obtain ⟨q, _, rfl⟩ := List.mem_map.1 hr; rfl)) (by unfold maxLen; omega) (by omega) ?_
              intro v2 W' G2 hb
              replace o := o.below hb o.lt
              replace p := p.below hb p.lt
              replace r := r.below hb r.lt
              refine hK.out _ _ o ?_
              replace hB := hB.trans (hb.mono hB.size)
              replace G0 := G0.below hb (Nat.le_refl _)
              replace G1 := G1.below hb (Nat.le_refl _)
              clear hb hK
              (try simp only [Act.put, List.setIfInBounds_toArray, List.set_cons_zero, List.set_cons_succ])
              obtain ⟨X0, Y0, rfl, _⟩ := G0.out
              obtain ⟨X1, Y1, rfl, _⟩ := G1.out
              obtain ⟨X2, Y2, rfl, _⟩ := G2.out
              simp only [List.length_map]
              refine rg_one (fuel := 4) 13 rfl (by kernel_rfl) (by kernel_rfl) ?_
              simp only [pick1, wpHead]
              intro K hK
              rw [if_pos (by rfl)]
              obtain ⟨pl, pc, pf⟩ := p
              have p := Own.mk pl pc pf
              go_simp
              refine hK.out _ _ (o.setOther (by simp; omega) _) ?_
              clear hK K pc pf
              (try simp only [Act.put, List.setIfInBounds_toArray, List.set_cons_zero, List.set_cons_succ])
              replace o := o.setOther (a := ⟨w.heap.size + 1 + 1, 0, none⟩) (by show _ ≠ _; simp; omega) (.slice X0 d.P.length Y0)
              replace p := p.set 0 (by simp) (.slice X0 d.P.length Y0)
              replace r := r.setOther (a := ⟨w.heap.size + 1 + 1, 0, none⟩) (by show _ ≠ _; simp) (.slice X0 d.P.length Y0)
              replace hB := hB.setCell (show w.heap.size ≤ (⟨w.heap.size + 1 + 1, 0, none⟩ : Addr).block by show _ ≤ w.heap.size + 1 + 1; omega) (.slice X0 d.P.length Y0)
              replace G0 := G0.setCell (a := ⟨w.heap.size + 1 + 1, 0, none⟩) (by simp) (.slice X0 d.P.length Y0)
              replace G1 := G1.setCell (a := ⟨w.heap.size + 1 + 1, 0, none⟩) (by simp) (.slice X0 d.P.length Y0)
              replace G2 := G2.setCell (a := ⟨w.heap.size + 1 + 1, 0, none⟩) (by simp) (.slice X0 d.P.length Y0)
              generalize World.setCell _ _ _ = W5 at o p r hB G0 G1 G2 ⊢
              refine rg_take (fuel := 3) [14] (by kernel_rfl) (by intro _ _ d _ _ h; cases d <;> exact h) rfl (by kernel_rfl) (by kernel_rfl) o ?_
              simp only [pickL, pick1, List.cons_append, List.nil_append]
              (refine wpTake_cons (v := ?_) (Or.inl ⟨by rfl, ?_⟩) ?_; rotate_left; (intro w' hSw; clear hSw; go_simp; (try with_reducible rfl)); (try simp only [Act.put, List.setIfInBounds_toArray, List.set_cons_zero, List.set_cons_succ]))
              refine wpTake_nil ?_
              refine rg_one (fuel := 2) 15 rfl (by kernel_rfl) (by kernel_rfl) ?_
              simp only [pick1, wpHead]
              intro K hK
              rw [if_pos (by rfl)]
              obtain ⟨pl, pc, pf⟩ := p
              have p := Own.mk pl pc pf
              go_simp
              refine hK.out _ _ (o.setOther (by simp; omega) _) ?_
              clear hK K pc pf
              (try simp only [Act.put, List.setIfInBounds_toArray, List.set_cons_zero, List.set_cons_succ])
              replace o := o.setOther (a := ⟨w.heap.size + 1 + 1, 1, none⟩) (by show _ ≠ _; simp; omega) (.slice X1 d.O.length Y1)
              replace p := p.set 1 (by simp) (.slice X1 d.O.length Y1)
              replace r := r.setOther (a := ⟨w.heap.size + 1 + 1, 1, none⟩) (by show _ ≠ _; simp) (.slice X1 d.O.length Y1)
              replace hB := hB.setCell (show w.heap.size ≤ (⟨w.heap.size + 1 + 1, 1, none⟩ : Addr).block by show _ ≤ w.heap.size + 1 + 1; omega) (.slice X1 d.O.length Y1)
              replace G0 := G0.setCell (a := ⟨w.heap.size + 1 + 1, 1, none⟩) (by simp) (.slice X1 d.O.length Y1)
              replace G1 := G1.setCell (a := ⟨w.heap.size + 1 + 1, 1, none⟩) (by simp) (.slice X1 d.O.length Y1)
              replace G2 := G2.setCell (a := ⟨w.heap.size + 1 + 1, 1, none⟩) (by simp) (.slice X1 d.O.length Y1)
              generalize World.setCell _ _ _ = W6 at o p r hB G0 G1 G2 ⊢
              refine rg_take (fuel := 1) [16] (by kernel_rfl) (by intro _ _ d _ _ h; cases d <;> exact h) rfl (by kernel_rfl) (by kernel_rfl) o ?_
              simp only [pickL, pick1, List.cons_append, List.nil_append]
              (refine wpTake_cons (v := ?_) (Or.inl ⟨by rfl, ?_⟩) ?_; rotate_left; (intro w' hSw; clear hSw; go_simp; (try with_reducible rfl)); (try simp only [Act.put, List.setIfInBounds_toArray, List.set_cons_zero, List.set_cons_succ]))
              refine wpTake_nil ?_
              refine rg_one (fuel := 0) 17 rfl (by kernel_rfl) (by kernel_rfl) ?_
              simp only [pick1, wpHead]
              intro K hK
              rw [if_pos (by rfl)]
              obtain ⟨pl, pc, pf⟩ := p
              have p := Own.mk pl pc pf
              go_simp
              refine hK.out _ _ (o.setOther (by simp; omega) _) ?_
              clear hK K pc pf
              (try simp only [Act.put, List.setIfInBounds_toArray, List.set_cons_zero, List.set_cons_succ])
              replace o := o.setOther (a := ⟨w.heap.size + 1 + 1, 11, none⟩) (by show _ ≠ _; simp; omega) (.slice X2 d.l.length Y2)
              replace p := p.set 11 (by simp) (.slice X2 d.l.length Y2)
              replace r := r.setOther (a := ⟨w.heap.size + 1 + 1, 11, none⟩) (by show _ ≠ _; simp) (.slice X2 d.l.length Y2)
              replace hB := hB.setCell (show w.heap.size ≤ (⟨w.heap.size + 1 + 1, 11, none⟩ : Addr).block by show _ ≤ w.heap.size + 1 + 1; omega) (.slice X2 d.l.length Y2)
              replace G0 := G0.setCell (a := ⟨w.heap.size + 1 + 1, 11, none⟩) (by simp) (.slice X2 d.l.length Y2)
              replace G1 := G1.setCell (a := ⟨w.heap.size + 1 + 1, 11, none⟩) (by simp) (.slice X2 d.l.length Y2)
              replace G2 := G2.setCell (a := ⟨w.heap.size + 1 + 1, 11, none⟩) (by simp) (.slice X2 d.l.length Y2)
              generalize World.setCell _ _ _ = W7 at o p r hB G0 G1 G2 ⊢
              refine rg_done (by kernel_rfl) ?_
              simp only [List.set_cons_zero, List.set_cons_succ] at p
              simp only [List.length_map] at G0 G1 G2
              obtain ⟨pl, pc, pf⟩ := p
              have r0 := Lib.hid r
              obtain ⟨rl, rc, rf⟩ := r
              go_wp2
              refine bodyPost_ret (results_cell1 (B := w.heap.size + 1) (vs := dsC X0 X1 X2 Y0 Y1 Y2 d) rfl rfl (own12 r0.out _ _ _ _ _ _ _ _ _ _ _ _) (by kernel_rfl) (by kernel_rfl)) rfl ?_
              exact ⟨_, _, _, rfl, (gro12 G0 (by omega) _ _ _ _ _ _ _ _ _ _ _ _).base (by omega), (gro12 G1 (by omega) _ _ _ _ _ _ _ _ _ _ _ _).base (by omega), (gro12 G2 (by omega) _ _ _ _ _ _ _ _ _ _ _ _).base (by omega), below12 hB (by omega) _ _ _ _ _ _ _ _ _ _ _ _⟩
    · intro K hK
      simp only [pick1]
      refine step_empty (K := K) rfl 37 36 5 (w.heap.size + 1 + 1 + 1) rfl (by kernel_rfl) k0 hk0 p.lt ?_
      intro g2 W' G2 hb
      replace o := o.below hb o.lt
      replace p := p.below hb p.lt
      replace r := r.below hb r.lt
      refine hK.out _ _ o ?_
      replace hB := hB.trans (hb.mono hB.size)
      replace G1 := G1.below hb (Nat.le_refl _)
      clear hb hK
      (try simp only [Act.put, List.setIfInBounds_toArray, List.set_cons_zero, List.set_cons_succ])
      refine rg_many (fuel := 9) [0] rfl (by simp) (by kernel_rfl) (by kernel_rfl) ?_
      intro c hc
      rcases (show c = 0 by simpa using hc) with rfl
      · intro K hK
        simp only [pick1]
        refine step_empty (K := K) rfl 22 53 2 (w.heap.size + 1 + 1 + 1) rfl (by kernel_rfl) i0 hi0 p.lt ?_
        intro g0 W' G0 hb
        replace o := o.below hb o.lt
        replace p := p.below hb p.lt
        replace r := r.below hb r.lt
        refine hK.out _ _ o ?_
        replace hB := hB.trans (hb.mono hB.size)
        replace G1 := G1.below hb (Nat.le_refl _)
        replace G2 := G2.below hb (Nat.le_refl _)
        clear hb hK
        (try simp only [Act.put, List.setIfInBounds_toArray, List.set_cons_zero, List.set_cons_succ])
        refine rg_many (fuel := 8) [3] rfl (by simp) (by kernel_rfl) (by kernel_rfl) ?_
        intro c hc
        rcases (show c = 3 by simpa using hc) with rfl
        · intro K hK
          simp only [pick1]
          refine step_fill rfl (.tmp 5) (.tmp 7) 22 rfl (w.heap.size + 1 + 1 + 1) 53 i0 _ 2 16 (by kernel_rfl) hi0 hi1 hi2 hi3 rfl (by decide) g0 rfl G0 p.lt A d.P.length cA (d.P.map ptrow) rfl (by rw [List.length_map]) (HA.out.below hB (Nat.le_refl _)) (fun r hr => (by obtain ⟨q, _, rfl⟩ := List.mem_map.1 hr; rfl)) (by unfold maxLen; omega) (by omega) ?_
          intro v0 W' G0 hb
          replace o := o.below hb o.lt
          replace p := p.below hb p.lt
          replace r := r.below hb r.lt
          refine hK.out _ _ o ?_
          replace hB := hB.trans (hb.mono hB.size)
          replace G1 := G1.below hb (Nat.le_refl _)
          replace G2 := G2.below hb (Nat.le_refl _)
          clear hb hK
          (try simp only [Act.put, List.setIfInBounds_toArray, List.set_cons_zero, List.set_cons_succ])
          refine rg_take (fuel := 7) [12] (by kernel_rfl) (by intro _ _ d _ _ h; cases d <;> exact h) rfl (by kernel_rfl) (by kernel_rfl) o ?_
          simp only [pickL, pick1, List.cons_append, List.nil_append]
          (refine wpTake_cons (v := ?_) (Or.inl ⟨by rfl, ?_⟩) ?_; rotate_left; (intro w' hSw; clear hSw; go_simp; (try with_reducible rfl)); (try simp only [Act.put, List.setIfInBounds_toArray, List.set_cons_zero, List.set_cons_succ]))
          refine wpTake_nil ?_
          refine rg_many (fuel := 6) [7] rfl (by simp) (by kernel_rfl) (by kernel_rfl) ?_
          intro c hc
          rcases (show c = 7 by simpa using hc) with rfl
          · intro K hK
            simp only [pick1]
            refine step_fill rfl (.tmp 9) (.tmp 11) 38 rfl (w.heap.size + 1 + 1 + 1) 3 j0 _ 1 8 (by kernel_rfl) hj0 hj1 hj2 hj3 rfl (by decide) g1 rfl G1 p.lt B d.O.length cB (d.O.map irow) rfl (by rw [List.length_map]) (HB.out.below hB (Nat.le_refl _)) (fun r hr => (by obtain ⟨q, _, rfl⟩ := List.mem_map.1 hr; rfl)) (by unfold maxLen; omega) (by omega) ?_
            intro v1 W' G1 hb
            replace o := o.below hb o.lt
            replace p := p.below hb p.lt
            replace r := r.below hb r.lt
            refine hK.out _ _ o ?_
            replace hB := hB.trans (hb.mono hB.size)
            replace G0 := G0.below hb (Nat.le_refl _)
            replace G2 := G2.below hb (Nat.le_refl _)
            clear hb hK
            (try simp only [Act.put, List.setIfInBounds_toArray, List.set_cons_zero, List.set_cons_succ])
            refine rg_many (fuel := 5) [11] rfl (by simp) (by kernel_rfl) (by kernel_rfl) ?_
            intro c hc
            rcases (show c = 11 by simpa using hc) with rfl
            · intro K hK
              simp only [pick1]
              refine step_fill rfl (.tmp 13) (.tmp 15) 37 rfl (w.heap.size + 1 + 1 + 1) 36 k0 _ 5 40 (by kernel_rfl) hk0 hk1 hk2 hk3 rfl (by decide) g2 rfl G2 p.lt C d.l.length cC (d.l.map wkrow) rfl (by rw [List.length_map]) (HC.out.below hB (Nat.le_refl _)) (fun r hr => (by obtain ⟨q, _, rfl⟩ := List.mem_map.1 hr; rfl)) (by unfold maxLen; omega) (by omega) ?_
              intro v2 W' G2 hb
              replace o := o.below hb o.lt
              replace p := p.below hb p.lt
              replace r := r.below hb r.lt
              refine hK.out _ _ o ?_
              replace hB := hB.trans (hb.mono hB.size)
              replace G0 := G0.below hb (Nat.le_refl _)
              replace G1 := G1.below hb (Nat.le_refl _)
              clear hb hK
              (try simp only [Act.put, List.setIfInBounds_toArray, List.set_cons_zero, List.set_cons_succ])
              obtain ⟨X0, Y0, rfl, _⟩ := G0.out
              obtain ⟨X1, Y1, rfl, _⟩ := G1.out
              obtain ⟨X2, Y2, rfl, _⟩ := G2.out
              simp only [List.length_map]
              refine rg_one (fuel := 4) 13 rfl (by kernel_rfl) (by kernel_rfl) ?_
              simp only [pick1, wpHead]
              intro K hK
              rw [if_pos (by rfl)]
              obtain ⟨pl, pc, pf⟩ := p
              have p := Own.mk pl pc pf
              go_simp
              refine hK.out _ _ (o.setOther (by simp; omega) _) ?_
              clear hK K pc pf
              (try simp only [Act.put, List.setIfInBounds_toArray, List.set_cons_zero, List.set_cons_succ])
              replace o := o.setOther (a := ⟨w.heap.size + 1 + 1, 0, none⟩) (by show _ ≠ _; simp; omega) (.slice X0 d.P.length Y0)
              replace p := p.set 0 (by simp) (.slice X0 d.P.length Y0)
              replace r := r.setOther (a := ⟨w.heap.size + 1 + 1, 0, none⟩) (by show _ ≠ _; simp) (.slice X0 d.P.length Y0)
              replace hB := hB.setCell (show w.heap.size ≤ (⟨w.heap.size + 1 + 1, 0, none⟩ : Addr).block by show _ ≤ w.heap.size + 1 + 1; omega) (.slice X0 d.P.length Y0)
              replace G0 := G0.setCell (a := ⟨w.heap.size + 1 + 1, 0, none⟩) (by simp) (.slice X0 d.P.length Y0)
              replace G1 := G1.setCell (a := ⟨w.heap.size + 1 + 1, 0, none⟩) (by simp) (.slice X0 d.P.length Y0)
              replace G2 := G2.setCell (a := ⟨w.heap.size + 1 + 1, 0, none⟩) (by simp) (.slice X0 d.P.length Y0)
              generalize World.setCell _ _ _ = W5 at o p r hB G0 G1 G2 ⊢
              refine rg_take (fuel := 3) [14] (by kernel_rfl) (by intro _ _ d _ _ h; cases d <;> exact h) rfl (by kernel_rfl) (by kernel_rfl) o ?_
              simp only [pickL, pick1, List.cons_append, List.nil_append]
              (refine wpTake_cons (v := ?_) (Or.inl ⟨by rfl, ?_⟩) ?_; rotate_left; (intro w' hSw; clear hSw; go_simp; (try with_reducible rfl)); (try simp only [Act.put, List.setIfInBounds_toArray, List.set_cons_zero, List.set_cons_succ]))
              refine wpTake_nil ?_
              refine rg_one (fuel := 2) 15 rfl (by kernel_rfl) (by kernel_rfl) ?_
              simp only [pick1, wpHead]
              intro K hK
              rw [if_pos (by rfl)]
              obtain ⟨pl, pc, pf⟩ := p
              have p := Own.mk pl pc pf
              go_simp
              refine hK.out _ _ (o.setOther (by simp; omega) _) ?_
              clear hK K pc pf
              (try simp only [Act.put, List.setIfInBounds_toArray, List.set_cons_zero, List.set_cons_succ])
              replace o := o.setOther (a := ⟨w.heap.size + 1 + 1, 1, none⟩) (by show _ ≠ _; simp; omega) (.slice X1 d.O.length Y1)
              replace p := p.set 1 (by simp) (.slice X1 d.O.length Y1)
              replace r := r.setOther (a := ⟨w.heap.size + 1 + 1, 1, none⟩) (by show _ ≠ _; simp) (.slice X1 d.O.length Y1)
              replace hB := hB.setCell (show w.heap.size ≤ (⟨w.heap.size + 1 + 1, 1, none⟩ : Addr).block by show _ ≤ w.heap.size + 1 + 1; omega) (.slice X1 d.O.length Y1)
              replace G0 := G0.setCell (a := ⟨w.heap.size + 1 + 1, 1, none⟩) (by simp) (.slice X1 d.O.length Y1)
              replace G1 := G1.setCell (a := ⟨w.heap.size + 1 + 1, 1, none⟩) (by simp) (.slice X1 d.O.length Y1)
              replace G2 := G2.setCell (a := ⟨w.heap.size + 1 + 1, 1, none⟩) (by simp) (.slice X1 d.O.length Y1)
              generalize World.setCell _ _ _ = W6 at o p r hB G0 G1 G2 ⊢
              refine rg_take (fuel := 1) [16] (by kernel_rfl) (by intro _ _ d _ _ h; cases d <;> exact h) rfl (by kernel_rfl) (by kernel_rfl) o ?_
              simp only [pickL, pick1, List.cons_append, List.nil_append]
              (refine wpTake_cons (v := ?_) (Or.inl ⟨by rfl, ?_⟩) ?_; rotate_left; (intro w' hSw; clear hSw; go_simp; (try with_reducible rfl)); (try simp only [Act.put, List.setIfInBounds_toArray, List.set_cons_zero, List.set_cons_succ]))
              refine wpTake_nil ?_
              refine rg_one (fuel := 0) 17 rfl (by kernel_rfl) (by kernel_rfl) ?_
              simp only [pick1, wpHead]
              intro K hK
              rw [if_pos (by rfl)]
              obtain ⟨pl, pc, pf⟩ := p
              have p := Own.mk pl pc pf
              go_simp
              refine hK.out _ _ (o.setOther (by simp; omega) _) ?_
              clear hK K pc pf
              (try simp only [Act.put, List.setIfInBounds_toArray, List.set_cons_zero, List.set_cons_succ])
              replace o := o.setOther (a := ⟨w.heap.size + 1 + 1, 11, none⟩) (by show _ ≠ _; simp; omega) (.slice X2 d.l.length Y2)
              replace p := p.set 11 (by simp) (.slice X2 d.l.length Y2)
              replace r := r.setOther (a := ⟨w.heap.size + 1 + 1, 11, none⟩) (by show _ ≠ _; simp) (.slice X2 d.l.length Y2)
              replace hB := hB.setCell (show w.heap.size ≤ (⟨w.heap.size + 1 + 1, 11, none⟩ : Addr).block by show _ ≤ w.heap.size + 1 + 1; omega) (.slice X2 d.l.length Y2)
              replace G0 := G0.setCell (a := ⟨w.heap.size + 1 + 1, 11, none⟩) (by simp) (.slice X2 d.l.length Y2)
              replace G1 := G1.setCell (a := ⟨w.heap.size + 1 + 1, 11, none⟩) (by simp) (.slice X2 d.l.length Y2)
              replace G2 := G2.setCell (a := ⟨w.heap.size + 1 + 1, 11, none⟩) (by simp) (.slice X2 d.l.length Y2)
              generalize World.setCell _ _ _ = W7 at o p r hB G0 G1 G2 ⊢
              refine rg_done (by kernel_rfl) ?_
              simp only [List.set_cons_zero, List.set_cons_succ] at p
              simp only [List.length_map] at G0 G1 G2
              obtain ⟨pl, pc, pf⟩ := p
              have r0 := Lib.hid r
              obtain ⟨rl, rc, rf⟩ := r
              go_wp2
              refine bodyPost_ret (results_cell1 (B := w.heap.size + 1) (vs := dsC X0 X1 X2 Y0 Y1 Y2 d) rfl rfl (own12 r0.out _ _ _ _ _ _ _ _ _ _ _ _) (by kernel_rfl) (by kernel_rfl)) rfl ?_
              exact ⟨_, _, _, rfl, (gro12 G0 (by omega) _ _ _ _ _ _ _ _ _ _ _ _).base (by omega), (gro12 G1 (by omega) _ _ _ _ _ _ _ _ _ _ _ _).base (by omega), (gro12 G2 (by omega) _ _ _ _ _ _ _ _ _ _ _ _).base (by omega), below12 hB (by omega) _ _ _ _ _ _ _ _ _ _ _ _⟩
  · intro K hK
    simp only [pick1]
    refine step_empty (K := K) rfl 37 36 5 (w.heap.size + 1 + 1 + 1) rfl (by kernel_rfl) k0 hk0 p.lt ?_
    intro g2 W' G2 hb
    replace o := o.below hb o.lt
    replace p := p.below hb p.lt
    replace r := r.below hb r.lt
    refine hK.out _ _ o ?_
    replace hB := hB.trans (hb.mono hB.size)
    clear hb hK
    (try simp only [Act.put, List.setIfInBounds_toArray, List.set_cons_zero, List.set_cons_succ])
    refine rg_many (fuel := 10) [0, 4] rfl (by simp) (by kernel_rfl) (by kernel_rfl) ?_
    intro c hc
    rcases (show c = 0 ∨ c = 4 by simpa using hc) with rfl | rfl
    · intro K hK
      simp only [pick1]
      refine step_empty (K := K) rfl 22 53 2 (w.heap.size + 1 + 1 + 1) rfl (by kernel_rfl) i0 hi0 p.lt ?_
      intro g0 W' G0 hb
      replace o := o.below hb o.lt
      replace p := p.below hb p.lt
      replace r := r.below hb r.lt
      refine hK.out _ _ o ?_
      replace hB := hB.trans (hb.mono hB.size)
      replace G2 := G2.below hb (Nat.le_refl _)
      clear hb hK
      (try simp only [Act.put, List.setIfInBounds_toArray, List.set_cons_zero, List.set_cons_succ])
      refine rg_many (fuel := 9) [3, 4] rfl (by simp) (by kernel_rfl) (by kernel_rfl) ?_
      intro c hc
      rcases (show c = 3 ∨ c = 4 by simpa using hc) with rfl | rfl
      · intro K hK
        simp only [pick1]
        refine step_fill rfl (.tmp 5) (.tmp 7) 22 rfl (w.heap.size + 1 + 1 + 1) 53 i0 _ 2 16 (by kernel_rfl) hi0 hi1 hi2 hi3 rfl (by decide) g0 rfl G0 p.lt A d.P.length cA (d.P.map ptrow) rfl (by rw [List.length_map]) (HA.out.below hB (Nat.le_refl _)) (fun r hr => (by obtain ⟨q, _, rfl⟩ := List.mem_map.1 hr; rfl)) (by unfold maxLen; omega) (by omega) ?_
        intro v0 W' G0 hb
        replace o := o.below hb o.lt
        replace p := p.below hb p.lt
        replace r := r.below hb r.lt
        refine hK.out _ _ o ?_
        replace hB := hB.trans (hb.mono hB.size)
        replace G2 := G2.below hb (Nat.le_refl _)
        clear hb hK
        (try simp only [Act.put, List.setIfInBounds_toArray, List.set_cons_zero, List.set_cons_succ])
        refine rg_take (fuel := 8) [12] (by kernel_rfl) (by intro _ _ d _ _ h; cases d <;> exact h) rfl (by kernel_rfl) (by kernel_rfl) o ?_
        simp only [pickL, pick1, List.cons_append, List.nil_append]
        (refine wpTake_cons (v := ?_) (Or.inl ⟨by rfl, ?_⟩) ?_; rotate_left; (intro w' hSw; clear hSw; go_simp; (try with_reducible rfl)); (try simp only [Act.put, List.setIfInBounds_toArray, List.set_cons_zero, List.set_cons_succ]))
        refine wpTake_nil ?_
        refine rg_many (fuel := 7) [4] rfl (by simp) (by kernel_rfl) (by kernel_rfl) ?_
        intro c hc
        rcases (show c = 4 by simpa using hc) with rfl
        · intro K hK
          simp only [pick1]
          refine step_empty (K := K) rfl 38 3 1 (w.heap.size + 1 + 1 + 1) rfl (by kernel_rfl) j0 hj0 p.lt ?_
          intro g1 W' G1 hb
          replace o := o.below hb o.lt
          replace p := p.below hb p.lt
          replace r := r.below hb r.lt
          refine hK.out _ _ o ?_
          replace hB := hB.trans (hb.mono hB.size)
          replace G0 := G0.below hb (Nat.le_refl _)
          replace G2 := G2.below hb (Nat.le_refl _)
          clear hb hK
          (try simp only [Act.put, List.setIfInBounds_toArray, List.set_cons_zero, List.set_cons_succ])
          refine rg_many (fuel := 6) [7] rfl (by simp) (by kernel_rfl) (by kernel_rfl) ?_
          intro c hc
          rcases (show c = 7 by simpa using hc) with rfl
          · intro K hK
            simp only [pick1]
            refine step_fill rfl (.tmp 9) (.tmp 11) 38 rfl (w.heap.size + 1 + 1 + 1) 3 j0 _ 1 8 (by kernel_rfl) hj0 hj1 hj2 hj3 rfl (by decide) g1 rfl G1 p.lt B d.O.length cB (d.O.map irow) rfl (by rw [List.length_map]) (HB.out.below hB (Nat.le_refl _)) (fun r hr => (by obtain ⟨q, _, rfl⟩ := List.mem_map.1 hr; rfl)) (by unfold maxLen; omega) (by omega) ?_
            intro v1 W' G1 hb
            replace o := o.below hb o.lt
            replace p := p.below hb p.lt
            replace r := r.below hb r.lt
            refine hK.out _ _ o ?_
            replace hB := hB.trans (hb.mono hB.size)
            replace G0 := G0.below hb (Nat.le_refl _)
            replace G2 := G2.below hb (Nat.le_refl _)
            clear hb hK
            (try simp only [Act.put, List.setIfInBounds_toArray, List.set_cons_zero, List.set_cons_succ])
            refine rg_many (fuel := 5) [11] rfl (by simp) (by kernel_rfl) (by kernel_rfl) ?_
            intro c hc
            rcases (show c = 11 by simpa using hc) with rfl
            · intro K hK
              simp only [pick1]
              refine step_fill rfl (.tmp 13) (.tmp 15) 37 rfl (w.heap.size + 1 + 1 + 1) 36 k0 _ 5 40 (by kernel_rfl) hk0 hk1 hk2 hk3 rfl (by decide) g2 rfl G2 p.lt C d.l.length cC (d.l.map wkrow) rfl (by rw [List.length_map]) (HC.out.below hB (Nat.le_refl _)) (fun r hr => (by obtain ⟨q, _, rfl⟩ := List.mem_map.1 hr; rfl)) (by unfold maxLen; omega) (by omega) ?_
              intro v2 W' G2 hb
              replace o := o.below hb o.lt
              replace p := p.below hb p.lt
              replace r := r.below hb r.lt
              refine hK.out _ _ o ?_
              replace hB := hB.trans (hb.mono hB.size)
              replace G0 := G0.below hb (Nat.le_refl _)
              replace G1 := G1.below hb (Nat.le_refl _)
              clear hb hK
              (try simp only [Act.put, List.setIfInBounds_toArray, List.set_cons_zero, List.set_cons_succ])
              obtain ⟨X0, Y0, rfl, _⟩ := G0.out
              obtain ⟨X1, Y1, rfl, _⟩ := G1.out
              obtain ⟨X2, Y2, rfl, _⟩ := G2.out
              simp only [List.length_map]
              refine rg_one (fuel := 4) 13 rfl (by kernel_rfl) (by kernel_rfl) ?_
              simp only [pick1, wpHead]
              intro K hK
              rw [if_pos (by rfl)]
              obtain ⟨pl, pc, pf⟩ := p
              have p := Own.mk pl pc pf
              go_simp
              refine hK.out _ _ (o.setOther (by simp; omega) _) ?_
              clear hK K pc pf
              (try simp only [Act.put, List.setIfInBounds_toArray, List.set_cons_zero, List.set_cons_succ])
              replace o := o.setOther (a := ⟨w.heap.size + 1 + 1, 0, none⟩) (by show _ ≠ _; simp; omega) (.slice X0 d.P.length Y0)
              replace p := p.set 0 (by simp) (.slice X0 d.P.length Y0)
              replace r := r.setOther (a := ⟨w.heap.size + 1 + 1, 0, none⟩) (by show _ ≠ _; simp) (.slice X0 d.P.length Y0)
              replace hB := hB.setCell (show w.heap.size ≤ (⟨w.heap.size + 1 + 1, 0, none⟩ : Addr).block by show _ ≤ w.heap.size + 1 + 1; omega) (.slice X0 d.P.length Y0)
              replace G0 := G0.setCell (a := ⟨w.heap.size + 1 + 1, 0, none⟩) (by simp) (.slice X0 d.P.length Y0)
              replace G1 := G1.setCell (a := ⟨w.heap.size + 1 + 1, 0, none⟩) (by simp) (.slice X0 d.P.length Y0)
              replace G2 := G2.setCell (a := ⟨w.heap.size + 1 + 1, 0, none⟩) (by simp) (.slice X0 d.P.length Y0)
              generalize World.setCell _ _ _ = W5 at o p r hB G0 G1 G2 ⊢
              refine rg_take (fuel := 3) [14] (by kernel_rfl) (by intro _ _ d _ _ h; cases d <;> exact h) rfl (by kernel_rfl) (by kernel_rfl) o ?_
              simp only [pickL, pick1, List.cons_append, List.nil_append]
              (refine wpTake_cons (v := ?_) (Or.inl ⟨by rfl, ?_⟩) ?_; rotate_left; (intro w' hSw; clear hSw; go_simp; (try with_reducible rfl)); (try simp only [Act.put, List.setIfInBounds_toArray, List.set_cons_zero, List.set_cons_succ]))
              refine wpTake_nil ?_
              refine rg_one (fuel := 2) 15 rfl (by kernel_rfl) (by kernel_rfl) ?_
              simp only [pick1, wpHead]
              intro K hK
              rw [if_pos (by rfl)]
              obtain ⟨pl, pc, pf⟩ := p
              have p := Own.mk pl pc pf
              go_simp
              refine hK.out _ _ (o.setOther (by simp; omega) _) ?_
              clear hK K pc pf
              (try simp only [Act.put, List.setIfInBounds_toArray, List.set_cons_zero, List.set_cons_succ])
              replace o := o.setOther (a := ⟨w.heap.size + 1 + 1, 1, none⟩) (by show _ ≠ _; simp; omega) (.slice X1 d.O.length Y1)
              replace p := p.set 1 (by simp) (.slice X1 d.O.length Y1)
              replace r := r.setOther (a := ⟨w.heap.size + 1 + 1, 1, none⟩) (by show _ ≠ _; simp) (.slice X1 d.O.length Y1)
              replace hB := hB.setCell (show w.heap.size ≤ (⟨w.heap.size + 1 + 1, 1, none⟩ : Addr).block by show _ ≤ w.heap.size + 1 + 1; omega) (.slice X1 d.O.length Y1)
              replace G0 := G0.setCell (a := ⟨w.heap.size + 1 + 1, 1, none⟩) (by simp) (.slice X1 d.O.length Y1)
              replace G1 := G1.setCell (a := ⟨w.heap.size + 1 + 1, 1, none⟩) (by simp) (.slice X1 d.O.length Y1)
              replace G2 := G2.setCell (a := ⟨w.heap.size + 1 + 1, 1, none⟩) (by simp) (.slice X1 d.O.length Y1)
              generalize World.setCell _ _ _ = W6 at o p r hB G0 G1 G2 ⊢
              refine rg_take (fuel := 1) [16] (by kernel_rfl) (by intro _ _ d _ _ h; cases d <;> exact h) rfl (by kernel_rfl) (by kernel_rfl) o ?_
              simp only [pickL, pick1, List.cons_append, List.nil_append]
              (refine wpTake_cons (v := ?_) (Or.inl ⟨by rfl, ?_⟩) ?_; rotate_left; (intro w' hSw; clear hSw; go_simp; (try with_reducible rfl)); (try simp only [Act.put, List.setIfInBounds_toArray, List.set_cons_zero, List.set_cons_succ]))
              refine wpTake_nil ?_
              refine rg_one (fuel := 0) 17 rfl (by kernel_rfl) (by kernel_rfl) ?_
              simp only [pick1, wpHead]
              intro K hK
              rw [if_pos (by rfl)]
              obtain ⟨pl, pc, pf⟩ := p
              have p := Own.mk pl pc pf
              go_simp
              refine hK.out _ _ (o.setOther (by simp; omega) _) ?_
              clear hK K pc pf
              (try simp only [Act.put, List.setIfInBounds_toArray, List.set_cons_zero, List.set_cons_succ])
              replace o := o.setOther (a := ⟨w.heap.size + 1 + 1, 11, none⟩) (by show _ ≠ _; simp; omega) (.slice X2 d.l.length Y2)
              replace p := p.set 11 (by simp) (.slice X2 d.l.length Y2)
              replace r := r.setOther (a := ⟨w.heap.size + 1 + 1, 11, none⟩) (by show _ ≠ _; simp) (.slice X2 d.l.length Y2)
              replace hB := hB.setCell (show w.heap.size ≤ (⟨w.heap.size + 1 + 1, 11, none⟩ : Addr).block by show _ ≤ w.heap.size + 1 + 1; omega) (.slice X2 d.l.length Y2)
              replace G0 := G0.setCell (a := ⟨w.heap.size + 1 + 1, 11, none⟩) (by simp) (.slice X2 d.l.length Y2)
              replace G1 := G1.setCell (a := ⟨w.heap.size + 1 + 1, 11, none⟩) (by simp) (.slice X2 d.l.length Y2)
              replace G2 := G2.setCell (a := ⟨w.heap.size + 1 + 1, 11, none⟩) (by simp) (.slice X2 d.l.length Y2)
              generalize World.setCell _ _ _ = W7 at o p r hB G0 G1 G2 ⊢
              refine rg_done (by kernel_rfl) ?_
              simp only [List.set_cons_zero, List.set_cons_succ] at p
              simp only [List.length_map] at G0 G1 G2
              obtain ⟨pl, pc, pf⟩ := p
              have r0 := Lib.hid r
              obtain ⟨rl, rc, rf⟩ := r
              go_wp2
              refine bodyPost_ret (results_cell1 (B := w.heap.size + 1) (vs := dsC X0 X1 X2 Y0 Y1 Y2 d) rfl rfl (own12 r0.out _ _ _ _ _ _ _ _ _ _ _ _) (by kernel_rfl) (by kernel_rfl)) rfl ?_
              exact ⟨_, _, _, rfl, (gro12 G0 (by omega) _ _ _ _ _ _ _ _ _ _ _ _).base (by omega), (gro12 G1 (by omega) _ _ _ _ _ _ _ _ _ _ _ _).base (by omega), (gro12 G2 (by omega) _ _ _ _ _ _ _ _ _ _ _ _).base (by omega), below12 hB (by omega) _ _ _ _ _ _ _ _ _ _ _ _⟩
      · intro K hK
        simp only [pick1]
        refine step_empty (K := K) rfl 38 3 1 (w.heap.size + 1 + 1 + 1) rfl (by kernel_rfl) j0 hj0 p.lt ?_
        intro g1 W' G1 hb
        replace o := o.below hb o.lt
        replace p := p.below hb p.lt
        replace r := r.below hb r.lt
        refine hK.out _ _ o ?_
        replace hB := hB.trans (hb.mono hB.size)
        replace G0 := G0.below hb (Nat.le_refl _)
        replace G2 := G2.below hb (Nat.le_refl _)
        clear hb hK
        (try simp only [Act.put, List.setIfInBounds_toArray, List.set_cons_zero, List.set_cons_succ])
        refine rg_many (fuel := 8) [3] rfl (by simp) (by kernel_rfl) (by kernel_rfl) ?_
        intro c hc
        rcases (show c = 3 by simpa using hc) with rfl
        · intro K hK
          simp only [pick1]
          refine step_fill rfl (.tmp 5) (.tmp 7) 22 rfl (w.heap.size + 1 + 1 + 1) 53 i0 _ 2 16 (by kernel_rfl) hi0 hi1 hi2 hi3 rfl (by decide) g0 rfl G0 p.lt A d.P.length cA (d.P.map ptrow) rfl (by rw [List.length_map]) (HA.out.below hB (Nat.le_refl _)) (fun r hr => (by obtain ⟨q, _, rfl⟩ := List.mem_map.1 hr; rfl)) (by unfold maxLen; omega) (by omega) ?_
          intro v0 W' G0 hb
          replace o := o.below hb o.lt
          replace p := p.below hb p.lt
          replace r := r.below hb r.lt
          refine hK.out _ _ o ?_
          replace hB := hB.trans (hb.mono hB.size)
          replace G1 := G1.below hb (Nat.le_refl _)
          replace G2 := G2.below hb (Nat.le_refl _)
          clear hb hK
          (try simp only [Act.put, List.setIfInBounds_toArray, List.set_cons_zero, List.set_cons_succ])
          refine rg_take (fuel := 7) [12] (by kernel_rfl) (by intro _ _ d _ _ h; cases d <;> exact h) rfl (by kernel_rfl) (by kernel_rfl) o ?_
          simp only [pickL, pick1, List.cons_append, List.nil_append]
          (refine wpTake_cons (v := ?_) (Or.inl ⟨by rfl, ?_⟩) ?_; rotate_left; (intro w' hSw; clear hSw; go_simp; (try with_reducible rfl)); (try simp only [Act.put, List.setIfInBounds_toArray, List.set_cons_zero, List.set_cons_succ]))
          refine wpTake_nil ?_
          refine rg_many (fuel := 6) [7] rfl (by simp) (by kernel_rfl) (by kernel_rfl) ?_
          intro c hc
          rcases (show c = 7 by simpa using hc) with rfl
          · intro K hK
            simp only [pick1]
            refine step_fill rfl (.tmp 9) (.tmp 11) 38 rfl (w.heap.size + 1 + 1 + 1) 3 j0 _ 1 8 (by kernel_rfl) hj0 hj1 hj2 hj3 rfl (by decide) g1 rfl G1 p.lt B d.O.length cB (d.O.map irow) rfl (by rw [List.length_map]) (HB.out.below hB (Nat.le_refl _)) (fun r hr => (by obtain ⟨q, _, rfl⟩ := List.mem_map.1 hr; rfl)) (by unfold maxLen; omega) (by omega) ?_
            intro v1 W' G1 hb
            replace o := o.below hb o.lt
            replace p := p.below hb p.lt
            replace r := r.below hb r.lt
            refine hK.out _ _ o ?_
            replace hB := hB.trans (hb.mono hB.size)
            replace G0 := G0.below hb (Nat.le_refl _)
            replace G2 := G2.below hb (Nat.le_refl _)
            clear hb hK
            (try simp only [Act.put, List.setIfInBounds_toArray, List.set_cons_zero, List.set_cons_succ])
            refine rg_many (fuel := 5) [11] rfl (by simp) (by kernel_rfl) (by kernel_rfl) ?_
            intro c hc
            rcases (show c = 11 by simpa using hc) with rfl
            · intro K hK
              simp only [pick1]
              refine step_fill rfl (.tmp 13) (.tmp 15) 37 rfl (w.heap.size + 1 + 1 + 1) 36 k0 _ 5 40 (by kernel_rfl) hk0 hk1 hk2 hk3 rfl (by decide) g2 rfl G2 p.lt C d.l.length cC (d.l.map wkrow) rfl (by rw [List.length_map]) (HC.out.below hB (Nat.le_refl _)) (fun r hr => (by obtain ⟨q, _, rfl⟩ := List.mem_map.1 hr; rfl)) (by unfold maxLen; omega) (by omega) ?_
              intro v2 W' G2 hb
              replace o := o.below hb o.lt
              replace p := p.below hb p.lt
              replace r := r.below hb r.lt
              refine hK.out _ _ o ?_
              replace hB := hB.trans (hb.mono hB.size)
              replace G0 := G0.below hb (Nat.le_refl _)
              replace G1 := G1.below hb (Nat.le_refl _)
              clear hb hK
              (try simp only [Act.put, List.setIfInBounds_toArray, List.set_cons_zero, List.set_cons_succ])
              obtain ⟨X0, Y0, rfl, _⟩ := G0.out
              obtain ⟨X1, Y1, rfl, _⟩ := G1.out
              obtain ⟨X2, Y2, rfl, _⟩ := G2.out
              simp only [List.length_map]
              refine rg_one (fuel := 4) 13 rfl (by kernel_rfl) (by kernel_rfl) ?_
              simp only [pick1, wpHead]
              intro K hK
              rw [if_pos (by rfl)]
              obtain ⟨pl, pc, pf⟩ := p
              have p := Own.mk pl pc pf
              go_simp
              refine hK.out _ _ (o.setOther (by simp; omega) _) ?_
              clear hK K pc pf
              (try simp only [Act.put, List.setIfInBounds_toArray, List.set_cons_zero, List.set_cons_succ])
              replace o := o.setOther (a := ⟨w.heap.size + 1 + 1, 0, none⟩) (by show _ ≠ _; simp; omega) (.slice X0 d.P.length Y0)
              replace p := p.set 0 (by simp) (.slice X0 d.P.length Y0)
              replace r := r.setOther (a := ⟨w.heap.size + 1 + 1, 0, none⟩) (by show _ ≠ _; simp) (.slice X0 d.P.length Y0)
              replace hB := hB.setCell (show w.heap.size ≤ (⟨w.heap.size + 1 + 1, 0, none⟩ : Addr).block by show _ ≤ w.heap.size + 1 + 1; omega) (.slice X0 d.P.length Y0)
              replace G0 := G0.setCell (a := ⟨w.heap.size + 1 + 1, 0, none⟩) (by simp) (.slice X0 d.P.length Y0)
              replace G1 := G1.setCell (a := ⟨w.heap.size + 1 + 1, 0, none⟩) (by simp) (.slice X0 d.P.length Y0)
              replace G2 := G2.setCell (a := ⟨w.heap.size + 1 + 1, 0, none⟩) (by simp) (.slice X0 d.P.length Y0)
              generalize World.setCell _ _ _ = W5 at o p r hB G0 G1 G2 ⊢
              refine rg_take (fuel := 3) [14] (by kernel_rfl) (by intro _ _ d _ _ h; cases d <;> exact h) rfl (by kernel_rfl) (by kernel_rfl) o ?_
              simp only [pickL, pick1, List.cons_append, List.nil_append]
              (refine wpTake_cons (v := ?_) (Or.inl ⟨by rfl, ?_⟩) ?_; rotate_left; (intro w' hSw; clear hSw; go_simp; (try with_reducible rfl)); (try simp only [Act.put, List.setIfInBounds_toArray, List.set_cons_zero, List.set_cons_succ]))
              refine wpTake_nil ?_
              refine rg_one (fuel := 2) 15 rfl (by kernel_rfl) (by kernel_rfl) ?_
              simp only [pick1, wpHead]
              intro K hK
              rw [if_pos (by rfl)]
              obtain ⟨pl, pc, pf⟩ := p
              have p := Own.mk pl pc pf
              go_simp
              refine hK.out _ _ (o.setOther (by simp; omega) _) ?_
              clear hK K pc pf
              (try simp only [Act.put, List.setIfInBounds_toArray, List.set_cons_zero, List.set_cons_succ])
              replace o := o.setOther (a := ⟨w.heap.size + 1 + 1, 1, none⟩) (by show _ ≠ _; simp; omega) (.slice X1 d.O.length Y1)
              replace p := p.set 1 (by simp) (.slice X1 d.O.length Y1)
              replace r := r.setOther (a := ⟨w.heap.size + 1 + 1, 1, none⟩) (by show _ ≠ _; simp) (.slice X1 d.O.length Y1)
              replace hB := hB.setCell (show w.heap.size ≤ (⟨w.heap.size + 1 + 1, 1, none⟩ : Addr).block by show _ ≤ w.heap.size + 1 + 1; omega) (.slice X1 d.O.length Y1)
              replace G0 := G0.setCell (a := ⟨w.heap.size + 1 + 1, 1, none⟩) (by simp) (.slice X1 d.O.length Y1)
              replace G1 := G1.setCell (a := ⟨w.heap.size + 1 + 1, 1, none⟩) (by simp) (.slice X1 d.O.length Y1)
              replace G2 := G2.setCell (a := ⟨w.heap.size + 1 + 1, 1, none⟩) (by simp) (.slice X1 d.O.length Y1)
              generalize World.setCell _ _ _ = W6 at o p r hB G0 G1 G2 ⊢
              refine rg_take (fuel := 1) [16] (by kernel_rfl) (by intro _ _ d _ _ h; cases d <;> exact h) rfl (by kernel_rfl) (by kernel_rfl) o ?_
              simp only [pickL, pick1, List.cons_append, List.nil_append]
              (refine wpTake_cons (v := ?_) (Or.inl ⟨by rfl, ?_⟩) ?_; rotate_left; (intro w' hSw; clear hSw; go_simp; (try with_reducible rfl)); (try simp only [Act.put, List.setIfInBounds_toArray, List.set_cons_zero, List.set_cons_succ]))
              refine wpTake_nil ?_
              refine rg_one (fuel := 0) 17 rfl (by kernel_rfl) (by kernel_rfl) ?_
              simp only [pick1, wpHead]
              intro K hK
              rw [if_pos (by rfl)]
              obtain ⟨pl, pc, pf⟩ := p
              have p := Own.mk pl pc pf
              go_simp
              refine hK.out _ _ (o.setOther (by simp; omega) _) ?_
              clear hK K pc pf
              (try simp only [Act.put, List.setIfInBounds_toArray, List.set_cons_zero, List.set_cons_succ])
              replace o := o.setOther (a := ⟨w.heap.size + 1 + 1, 11, none⟩) (by show _ ≠ _; simp; omega) (.slice X2 d.l.length Y2)
              replace p := p.set 11 (by simp) (.slice X2 d.l.length Y2)
              replace r := r.setOther (a := ⟨w.heap.size + 1 + 1, 11, none⟩) (by show _ ≠ _; simp) (.slice X2 d.l.length Y2)
              replace hB := hB.setCell (show w.heap.size ≤ (⟨w.heap.size + 1 + 1, 11, none⟩ : Addr).block by show _ ≤ w.heap.size + 1 + 1; omega) (.slice X2 d.l.length Y2)
              replace G0 := G0.setCell (a := ⟨w.heap.size + 1 + 1, 11, none⟩) (by simp) (.slice X2 d.l.length Y2)
              replace G1 := G1.setCell (a := ⟨w.heap.size + 1 + 1, 11, none⟩) (by simp) (.slice X2 d.l.length Y2)
              replace G2 := G2.setCell (a := ⟨w.heap.size + 1 + 1, 11, none⟩) (by simp) (.slice X2 d.l.length Y2)
              generalize World.setCell _ _ _ = W7 at o p r hB G0 G1 G2 ⊢
              refine rg_done (by kernel_rfl) ?_
              simp only [List.set_cons_zero, List.set_cons_succ] at p
              simp only [List.length_map] at G0 G1 G2
              obtain ⟨pl, pc, pf⟩ := p
              have r0 := Lib.hid r
              obtain ⟨rl, rc, rf⟩ := r
              go_wp2
              refine bodyPost_ret (results_cell1 (B := w.heap.size + 1) (vs := dsC X0 X1 X2 Y0 Y1 Y2 d) rfl rfl (own12 r0.out _ _ _ _ _ _ _ _ _ _ _ _) (by kernel_rfl) (by kernel_rfl)) rfl ?_
              exact ⟨_, _, _, rfl, (gro12 G0 (by omega) _ _ _ _ _ _ _ _ _ _ _ _).base (by omega), (gro12 G1 (by omega) _ _ _ _ _ _ _ _ _ _ _ _).base (by omega), (gro12 G2 (by omega) _ _ _ _ _ _ _ _ _ _ _ _).base (by omega), below12 hB (by omega) _ _ _ _ _ _ _ _ _ _ _ _⟩
    · intro K hK
      simp only [pick1]
      refine step_empty (K := K) rfl 38 3 1 (w.heap.size + 1 + 1 + 1) rfl (by kernel_rfl) j0 hj0 p.lt ?_
      intro g1 W' G1 hb
      replace o := o.below hb o.lt
      replace p := p.below hb p.lt
      replace r := r.below hb r.lt
      refine hK.out _ _ o ?_
      replace hB := hB.trans (hb.mono hB.size)
      replace G2 := G2.below hb (Nat.le_refl _)
      clear hb hK
      (try simp only [Act.put, List.setIfInBounds_toArray, List.set_cons_zero, List.set_cons_succ])
      refine rg_many (fuel := 9) [0] rfl (by simp) (by kernel_rfl) (by kernel_rfl) ?_
      intro c hc
      rcases (show c = 0 by simpa using hc) with rfl
      · intro K hK
        simp only [pick1]
        refine step_empty (K := K) rfl 22 53 2 (w.heap.size + 1 + 1 + 1) rfl (by kernel_rfl) i0 hi0 p.lt ?_
        intro g0 W' G0 hb
        replace o := o.below hb o.lt
        replace p := p.below hb p.lt
        replace r := r.below hb r.lt
        refine hK.out _ _ o ?_
        replace hB := hB.trans (hb.mono hB.size)
        replace G1 := G1.below hb (Nat.le_refl _)
        replace G2 := G2.below hb (Nat.le_refl _)
        clear hb hK
        (try simp only [Act.put, List.setIfInBounds_toArray, List.set_cons_zero, List.set_cons_succ])
        refine rg_many (fuel := 8) [3] rfl (by simp) (by kernel_rfl) (by kernel_rfl) ?_
        intro c hc
        rcases (show c = 3 by simpa using hc) with rfl
        · intro K hK
          simp only [pick1]
          refine step_fill rfl (.tmp 5) (.tmp 7) 22 rfl (w.heap.size + 1 + 1 + 1) 53 i0 _ 2 16 (by kernel_rfl) hi0 hi1 hi2 hi3 rfl (by decide) g0 rfl G0 p.lt A d.P.length cA (d.P.map ptrow) rfl (by rw [List.length_map]) (HA.out.below hB (Nat.le_refl _)) (fun r hr => (by obtain ⟨q, _, rfl⟩ := List.mem_map.1 hr; rfl)) (by unfold maxLen; omega) (by omega) ?_
          intro v0 W' G0 hb
          replace o := o.below hb o.lt
          replace p := p.below hb p.lt
          replace r := r.below hb r.lt
          refine hK.out _ _ o ?_
          replace hB := hB.trans (hb.mono hB.size)
          replace G1 := G1.below hb (Nat.le_refl _)
          replace G2 := G2.below hb (Nat.le_refl _)
          clear hb hK
          (try simp only [Act.put, List.setIfInBounds_toArray, List.set_cons_zero, List.set_cons_succ])
          refine rg_take (fuel := 7) [12] (by kernel_rfl) (by intro _ _ d _ _ h; cases d <;> exact h) rfl (by kernel_rfl) (by kernel_rfl) o ?_
          simp only [pickL, pick1, List.cons_append, List.nil_append]
          (refine wpTake_cons (v := ?_) (Or.inl ⟨by rfl, ?_⟩) ?_; rotate_left; (intro w' hSw; clear hSw; go_simp; (try with_reducible rfl)); (try simp only [Act.put, List.setIfInBounds_toArray, List.set_cons_zero, List.set_cons_succ]))
          refine wpTake_nil ?_
          refine rg_many (fuel := 6) [7] rfl (by simp) (by kernel_rfl) (by kernel_rfl) ?_
          intro c hc
          rcases (show c = 7 by simpa using hc) with rfl
          · intro K hK
            simp only [pick1]
            refine step_fill rfl (.tmp 9) (.tmp 11) 38 rfl (w.heap.size + 1 + 1 + 1) 3 j0 _ 1 8 (by kernel_rfl) hj0 hj1 hj2 hj3 rfl (by decide) g1 rfl G1 p.lt B d.O.length cB (d.O.map irow) rfl (by rw [List.length_map]) (HB.out.below hB (Nat.le_refl _)) (fun r hr => (by obtain ⟨q, _, rfl⟩ := List.mem_map.1 hr; rfl)) (by unfold maxLen; omega) (by omega) ?_
            intro v1 W' G1 hb
            replace o := o.below hb o.lt
            replace p := p.below hb p.lt
            replace r := r.below hb r.lt
            refine hK.out _ _ o ?_
            replace hB := hB.trans (hb.mono hB.size)
            replace G0 := G0.below hb (Nat.le_refl _)
            replace G2 := G2.below hb (Nat.le_refl _)
            clear hb hK
            (try simp only [Act.put, List.setIfInBounds_toArray, List.set_cons_zero, List.set_cons_succ])
            refine rg_many (fuel := 5) [11] rfl (by simp) (by kernel_rfl) (by kernel_rfl) ?_
            intro c hc
            rcases (show c = 11 by simpa using hc) with rfl
            · intro K hK
              simp only [pick1]
              refine step_fill rfl (.tmp 13) (.tmp 15) 37 rfl (w.heap.size + 1 + 1 + 1) 36 k0 _ 5 40 (by kernel_rfl) hk0 hk1 hk2 hk3 rfl (by decide) g2 rfl G2 p.lt C d.l.length cC (d.l.map wkrow) rfl (by rw [List.length_map]) (HC.out.below hB (Nat.le_refl _)) (fun r hr => (by obtain ⟨q, _, rfl⟩ := List.mem_map.1 hr; rfl)) (by unfold maxLen; omega) (by omega) ?_
              intro v2 W' G2 hb
              replace o := o.below hb o.lt
              replace p := p.below hb p.lt
              replace r := r.below hb r.lt
              refine hK.out _ _ o ?_
              replace hB := hB.trans (hb.mono hB.size)
              replace G0 := G0.below hb (Nat.le_refl _)
              replace G1 := G1.below hb (Nat.le_refl _)
              clear hb hK
              (try simp only [Act.put, List.setIfInBounds_toArray, List.set_cons_zero, List.set_cons_succ])
              obtain ⟨X0, Y0, rfl, _⟩ := G0.out
              obtain ⟨X1, Y1, rfl, _⟩ := G1.out
              obtain ⟨X2, Y2, rfl, _⟩ := G2.out
              simp only [List.length_map]
              refine rg_one (fuel := 4) 13 rfl (by kernel_rfl) (by kernel_rfl) ?_
              simp only [pick1, wpHead]
              intro K hK
              rw [if_pos (by rfl)]
              obtain ⟨pl, pc, pf⟩ := p
              have p := Own.mk pl pc pf
              go_simp
              refine hK.out _ _ (o.setOther (by simp; omega) _) ?_
              clear hK K pc pf
              (try simp only [Act.put, List.setIfInBounds_toArray, List.set_cons_zero, List.set_cons_succ])
              replace o := o.setOther (a := ⟨w.heap.size + 1 + 1, 0, none⟩) (by show _ ≠ _; simp; omega) (.slice X0 d.P.length Y0)
              replace p := p.set 0 (by simp) (.slice X0 d.P.length Y0)
              replace r := r.setOther (a := ⟨w.heap.size + 1 + 1, 0, none⟩) (by show _ ≠ _; simp) (.slice X0 d.P.length Y0)
              replace hB := hB.setCell (show w.heap.size ≤ (⟨w.heap.size + 1 + 1, 0, none⟩ : Addr).block by show _ ≤ w.heap.size + 1 + 1; omega) (.slice X0 d.P.length Y0)
              replace G0 := G0.setCell (a := ⟨w.heap.size + 1 + 1, 0, none⟩) (by simp) (.slice X0 d.P.length Y0)
              replace G1 := G1.setCell (a := ⟨w.heap.size + 1 + 1, 0, none⟩) (by simp) (.slice X0 d.P.length Y0)
              replace G2 := G2.setCell (a := ⟨w.heap.size + 1 + 1, 0, none⟩) (by simp) (.slice X0 d.P.length Y0)
              generalize World.setCell _ _ _ = W5 at o p r hB G0 G1 G2 ⊢
              refine rg_take (fuel := 3) [14] (by kernel_rfl) (by intro _ _ d _ _ h; cases d <;> exact h) rfl (by kernel_rfl) (by kernel_rfl) o ?_
              simp only [pickL, pick1, List.cons_append, List.nil_append]
              (refine wpTake_cons (v := ?_) (Or.inl ⟨by rfl, ?_⟩) ?_; rotate_left; (intro w' hSw; clear hSw; go_simp; (try with_reducible rfl)); (try simp only [Act.put, List.setIfInBounds_toArray, List.set_cons_zero, List.set_cons_succ]))
              refine wpTake_nil ?_
              refine rg_one (fuel := 2) 15 rfl (by kernel_rfl) (by kernel_rfl) ?_
              simp only [pick1, wpHead]
              intro K hK
              rw [if_pos (by rfl)]
              obtain ⟨pl, pc, pf⟩ := p
              have p := Own.mk pl pc pf
              go_simp
              refine hK.out _ _ (o.setOther (by simp; omega) _) ?_
              clear hK K pc pf
              (try simp only [Act.put, List.setIfInBounds_toArray, List.set_cons_zero, List.set_cons_succ])
              replace o := o.setOther (a := ⟨w.heap.size + 1 + 1, 1, none⟩) (by show _ ≠ _; simp; omega) (.slice X1 d.O.length Y1)
              replace p := p.set 1 (by simp) (.slice X1 d.O.length Y1)
              replace r := r.setOther (a := ⟨w.heap.size + 1 + 1, 1, none⟩) (by show _ ≠ _; simp) (.slice X1 d.O.length Y1)
              replace hB := hB.setCell (show w.heap.size ≤ (⟨w.heap.size + 1 + 1, 1, none⟩ : Addr).block by show _ ≤ w.heap.size + 1 + 1; omega) (.slice X1 d.O.length Y1)
              replace G0 := G0.setCell (a := ⟨w.heap.size + 1 + 1, 1, none⟩) (by simp) (.slice X1 d.O.length Y1)
              replace G1 := G1.setCell (a := ⟨w.heap.size + 1 + 1, 1, none⟩) (by simp) (.slice X1 d.O.length Y1)
              replace G2 := G2.setCell (a := ⟨w.heap.size + 1 + 1, 1, none⟩) (by simp) (.slice X1 d.O.length Y1)
              generalize World.setCell _ _ _ = W6 at o p r hB G0 G1 G2 ⊢
              refine rg_take (fuel := 1) [16] (by kernel_rfl) (by intro _ _ d _ _ h; cases d <;> exact h) rfl (by kernel_rfl) (by kernel_rfl) o ?_
              simp only [pickL, pick1, List.cons_append, List.nil_append]
              (refine wpTake_cons (v := ?_) (Or.inl ⟨by rfl, ?_⟩) ?_; rotate_left; (intro w' hSw; clear hSw; go_simp; (try with_reducible rfl)); (try simp only [Act.put, List.setIfInBounds_toArray, List.set_cons_zero, List.set_cons_succ]))
              refine wpTake_nil ?_
              refine rg_one (fuel := 0) 17 rfl (by kernel_rfl) (by kernel_rfl) ?_
              simp only [pick1, wpHead]
              intro K hK
              rw [if_pos (by rfl)]
              obtain ⟨pl, pc, pf⟩ := p
              have p := Own.mk pl pc pf
              go_simp
              refine hK.out _ _ (o.setOther (by simp; omega) _) ?_
              clear hK K pc pf
              (try simp only [Act.put, List.setIfInBounds_toArray, List.set_cons_zero, List.set_cons_succ])
              replace o := o.setOther (a := ⟨w.heap.size + 1 + 1, 11, none⟩) (by show _ ≠ _; simp; omega) (.slice X2 d.l.length Y2)
              replace p := p.set 11 (by simp) (.slice X2 d.l.length Y2)
              replace r := r.setOther (a := ⟨w.heap.size + 1 + 1, 11, none⟩) (by show _ ≠ _; simp) (.slice X2 d.l.length Y2)
              replace hB := hB.setCell (show w.heap.size ≤ (⟨w.heap.size + 1 + 1, 11, none⟩ : Addr).block by show _ ≤ w.heap.size + 1 + 1; omega) (.slice X2 d.l.length Y2)
              replace G0 := G0.setCell (a := ⟨w.heap.size + 1 + 1, 11, none⟩) (by simp) (.slice X2 d.l.length Y2)
              replace G1 := G1.setCell (a := ⟨w.heap.size + 1 + 1, 11, none⟩) (by simp) (.slice X2 d.l.length Y2)
              replace G2 := G2.setCell (a := ⟨w.heap.size + 1 + 1, 11, none⟩) (by simp) (.slice X2 d.l.length Y2)
              generalize World.setCell _ _ _ = W7 at o p r hB G0 G1 G2 ⊢
              refine rg_done (by kernel_rfl) ?_
              simp only [List.set_cons_zero, List.set_cons_succ] at p
              simp only [List.length_map] at G0 G1 G2
              obtain ⟨pl, pc, pf⟩ := p
              have r0 := Lib.hid r
              obtain ⟨rl, rc, rf⟩ := r
              go_wp2
              refine bodyPost_ret (results_cell1 (B := w.heap.size + 1) (vs := dsC X0 X1 X2 Y0 Y1 Y2 d) rfl rfl (own12 r0.out _ _ _ _ _ _ _ _ _ _ _ _) (by kernel_rfl) (by kernel_rfl)) rfl ?_
              exact ⟨_, _, _, rfl, (gro12 G0 (by omega) _ _ _ _ _ _ _ _ _ _ _ _).base (by omega), (gro12 G1 (by omega) _ _ _ _ _ _ _ _ _ _ _ _).base (by omega), (gro12 G2 (by omega) _ _ _ _ _ _ _ _ _ _ _ _).base (by omega), below12 hB (by omega) _ _ _ _ _ _ _ _ _ _ _ _⟩
end Go.Proofs.Ytgmhelclofnpkaa
namespace Go.Proofs.Ytgmhelclofnpkaa
open Go.RowKit Go.Maps

theorem dsV_d0 (A B C : Option Addr) (cA cB cC : Nat) (d : Ds) : dsV A B C cA cB cC (Dp.d0 d) = dsV A B C cA cB cC d := by
  simp [Dp.d0]
theorem dFewest0W (d : Ds) (A B C : Option Addr) (cA cB cC : Nat) (w : World) (hd : Hid (Dp.Ok d)) (hA : Rd 2 w A (d.P.map ptrow)) (hB : RdI w B (List.replicate d.O.length 0)) (hC : Rd 5 w C (d.l.map wkrow)) :
    Calls Try.prog 24 #[dsV A B C cA cB cC d] w fun e w' => ∃ (n er : Int), e = .returned (.tuple #[.int .i64 n, .int .i64 er]) ∧ Hid (Dp.FwN (Dp.d0 d) (fun _ => true) n er) ∧ Below w.heap.size w w' := by
  have h := dFewestW (Dp.d0 d) A B C cA cB cC w (Lib.hid (Dp.d0_ok hd.out)) hA hB hC
  rw [dsV_d0] at h
  exact h
theorem dWalks0W (d : Ds) (A B C : Option Addr) (cA cB cC : Nat) (w : World) (hd : Hid (Dp.Ok d)) (hA : Rd 2 w A (d.P.map ptrow)) (hB : RdI w B (List.replicate d.O.length 0)) (hC : Rd 5 w C (d.l.map wkrow)) :
    Calls Try.prog 25 #[dsV A B C cA cB cC d] w fun e w' => ∃ (n er : Int), e = .returned (.tuple #[.int .i64 n, .int .i64 er]) ∧ Hid (Dp.FwN (Dp.d0 d) (fun s => decide (s.1 = 0)) n er) ∧ Below w.heap.size w w' := by
  have h := dWalksW (Dp.d0 d) A B C cA cB cC w (Lib.hid (Dp.d0_ok hd.out)) hA hB hC
  rw [dsV_d0] at h
  exact h
theorem fill_row {O : List Int} {k : Nat} {x : Int} (h : O[k]? = some x) : ((List.replicate k 0 ++ O.drop k).map irow).set k ((irow x).set 0 (.int .i64 0)) = (List.replicate (k + 1) 0 ++ O.drop (k + 1)).map irow := by
  obtain ⟨hk, rfl⟩ := List.getElem?_eq_some_iff.1 h
  rw [List.drop_eq_getElem_cons hk, List.map_append, List.map_cons, List.set_append_right _ _ (by simp), List.length_map, List.length_replicate, Nat.sub_self, List.set_cons_zero, List.replicate_succ', List.map_append, List.map_append, List.append_assoc]
  rfl
theorem fill_at {O : List Int} {k : Nat} {x : Int} (h : O[k]? = some x) : ((List.replicate k 0 ++ O.drop k).map irow)[k]? = some (irow x) := by
  obtain ⟨hk, rfl⟩ := List.getElem?_eq_some_iff.1 h
  rw [List.getElem?_map, List.getElem?_append_right (by simp), List.length_replicate, Nat.sub_self, List.drop_eq_getElem_cons hk]
  rfl
set_option maxRecDepth 100000 in
set_option maxHeartbeats 16000000 in
theorem firmW (d : Ds) (A B C : Option Addr) (cA cB cC : Nat) (w : World) (hA : Rd 2 w A (d.P.map ptrow)) (hB : RdI w B d.O) (hC : Rd 5 w C (d.l.map wkrow)) (hl : d.P.length ≤ 9223372036854775807 ∧ d.O.length ≤ 9223372036854775807 ∧ d.l.length ≤ 9223372036854775807) :
    Calls Try.prog 6 #[dsV A B C cA cB cC d] w fun e w' => e = .returned (.bool true) ∧ Below w.heap.size w w' := by
  have HA := Lib.hid hA
  have HB := Lib.hid hB
  have HC := Lib.hid hC
  have HL := Lib.hid hl
  have o0 : Own (w.alloc (.cells #[.slice A d.P.length cA, .slice B d.O.length cB, .int .i64 d.u, .int .i64 d.h.full, .int .i64 d.h.read, .int .i64 d.h.slip, .int .i64 d.h.skew, .int .i64 d.h.circ, .int .i64 d.h.lo, .int .i64 d.h.hi, .int .i64 d.h.wrong, .slice C d.l.length cC] 56)) w.heap.size (dsC A B C cA cB cC d) := Own.new' _ _ rfl rfl
  have oB : Below w.heap.size w (w.alloc (.cells #[.slice A d.P.length cA, .slice B d.O.length cB, .int .i64 d.u, .int .i64 d.h.full, .int .i64 d.h.read, .int .i64 d.h.slip, .int .i64 d.h.skew, .int .i64 d.h.circ, .int .i64 d.h.lo, .int .i64 d.h.hi, .int .i64 d.h.wrong, .slice C d.l.length cC] 56)) := by (repeat' (first | (with_reducible exact Below.refl _ _) | (with_reducible assumption) | (with_reducible refine Below.drew ?_) | (with_reducible refine below_drewN ?_ _) | (with_reducible refine Below.setCell ?_ ?_ _) | (with_reducible refine Below.alloc ?_ ?_ _) | (refine Below.trans ?_ (Below.mono (by with_reducible assumption) ?_)) | omega | (exact Below.size (by with_reducible assumption)) | (simp; done) | (simp; omega)))
  have O0 := Lib.hid o0
  clear hA hB hC hl
  obtain ⟨l0, c0, f0⟩ := o0
  obtain ⟨v, h4⟩ : ∃ v, Dp.d8V d = v := ⟨_, rfl⟩
  have R4 := Lib.hid h4
  clear h4
  go_enter Try.func6, Try.ntmps6
  go_wp2_with fail
  refine (far08W d A B C cA cB cC _ (HA.out.below oB (Nat.le_refl _)) (show RdI _ B d.O from HB.out.below oB (Nat.le_refl _)) (HC.out.below oB (Nat.le_refl _)) HL.out).mono ?_
  rintro e w1 ⟨fv, rfl, hfar, hb1⟩
  have o1 := O0.out.below hb1 O0.out.lt
  have hB1 := oB.trans (hb1.mono oB.size)
  clear O0 l0 c0 f0 hb1 oB
  have O1 := Lib.hid o1
  rcases hfar.out with rfl | ⟨rfl, hfr⟩
  · clear hfar
    go_wp2_with fail
    refine (disputedW _).mono ?_
    rintro e w2 ⟨rfl, hb2⟩
    go_wp2
    go_ret
    exact ⟨rfl, hB1.trans (hb2.mono hB1.size)⟩
  have HFR := Lib.hid hfr
  clear hfar hfr
  obtain ⟨l0, c0, f0⟩ := o1
  go_wp2_with fail
  refine (cIB R4.out (d8CheckW d A B C cA cB cC _ (HA.out.below hB1 (Nat.le_refl _)) (show RdI _ B d.O from HB.out.below hB1 (Nat.le_refl _)) (HC.out.below hB1 (Nat.le_refl _)) HL.out)).mono ?_
  rintro e w2 ⟨rfl, hb2⟩
  have o2 := O1.out.below hb2 O1.out.lt
  have hB2 := hB1.trans (hb2.mono hB1.size)
  clear O1 l0 c0 f0 hb2 hB1
  by_cases h4 : v = 0
  case neg =>
    have hne : (v != 0) = true := by simpa using h4
    go_wp2_with fail
    refine (disputedW _).mono ?_
    rintro e w2 ⟨rfl, hb2⟩
    go_wp2
    go_ret
    exact ⟨rfl, hB2.trans (hb2.mono hB2.size)⟩
  subst h4
  have HD := Lib.hid (Dp.d8_ok R4.out)
  clear HFR R4
  have HP3 : Hid (3 ≤ d.P.length) := by
    show 3 ≤ d.P.length
    have := HD.out.ok
    unfold Pl.ok at this
    simp only [Bool.and_eq_true, btw_iff] at this
    omega
  have O2 := Lib.hid o2
  obtain ⟨l0, c0, f0⟩ := o2
  go_wp2_with fail
  refine (d8CopyW d A B C cA cB cC _ HD (HA.out.below hB2 (Nat.le_refl _)) (show RdI _ B d.O from HB.out.below hB2 (Nat.le_refl _)) (HC.out.below hB2 (Nat.le_refl _))).mono ?_
  rintro e w3 ⟨vA, vB, vC, rfl, G0, G1, G2, hb3⟩
  have o3 := O2.out.below hb3 O2.out.lt
  have hB3 := hB2.trans (hb3.mono hB2.size)
  have hbase : w.heap.size < w2.heap.size := O2.out.lt
  have hb23 := hb3.size
  clear O2 l0 c0 f0 hb3 hB2
  obtain ⟨g1, c1', rfl⟩ := G1.some (by rw [List.length_map]; have := HP3.out; have := HD.out.ol; omega)
  obtain ⟨A0, c0', rfl, _⟩ := G0.out
  obtain ⟨A2, c2', rfl, _⟩ := G2.out
  simp only [List.length_map] at G0 G1 G2
  simp only [List.length_map]
  have hg1 := G1.lt
  have q7 := Own.new' (w := w3) (b := w3.heap.size) #[.slice A0 d.P.length c0', .slice (some ⟨g1, 0, none⟩) d.O.length c1', .int .i64 d.u, .int .i64 d.h.full, .int .i64 d.h.read, .int .i64 d.h.slip, .int .i64 d.h.skew, .int .i64 d.h.circ, .int .i64 d.h.lo, .int .i64 d.h.hi, .int .i64 d.h.wrong, .slice A2 d.l.length c2'] 56 rfl rfl
  have s0 := o3.alloc (.cells #[.slice A0 d.P.length c0', .slice (some ⟨g1, 0, none⟩) d.O.length c1', .int .i64 d.u, .int .i64 d.h.full, .int .i64 d.h.read, .int .i64 d.h.slip, .int .i64 d.h.skew, .int .i64 d.h.circ, .int .i64 d.h.lo, .int .i64 d.h.hi, .int .i64 d.h.wrong, .slice A2 d.l.length c2'] 56)
  have F0 := G0.alloc (.cells #[.slice A0 d.P.length c0', .slice (some ⟨g1, 0, none⟩) d.O.length c1', .int .i64 d.u, .int .i64 d.h.full, .int .i64 d.h.read, .int .i64 d.h.slip, .int .i64 d.h.skew, .int .i64 d.h.circ, .int .i64 d.h.lo, .int .i64 d.h.hi, .int .i64 d.h.wrong, .slice A2 d.l.length c2'] 56)
  have F1 := G1.alloc (.cells #[.slice A0 d.P.length c0', .slice (some ⟨g1, 0, none⟩) d.O.length c1', .int .i64 d.u, .int .i64 d.h.full, .int .i64 d.h.read, .int .i64 d.h.slip, .int .i64 d.h.skew, .int .i64 d.h.circ, .int .i64 d.h.lo, .int .i64 d.h.hi, .int .i64 d.h.wrong, .slice A2 d.l.length c2'] 56)
  have F2 := G2.alloc (.cells #[.slice A0 d.P.length c0', .slice (some ⟨g1, 0, none⟩) d.O.length c1', .int .i64 d.u, .int .i64 d.h.full, .int .i64 d.h.read, .int .i64 d.h.slip, .int .i64 d.h.skew, .int .i64 d.h.circ, .int .i64 d.h.lo, .int .i64 d.h.hi, .int .i64 d.h.wrong, .slice A2 d.l.length c2'] 56)
  have hB4 := hB3.alloc hB3.size (.cells #[.slice A0 d.P.length c0', .slice (some ⟨g1, 0, none⟩) d.O.length c1', .int .i64 d.u, .int .i64 d.h.full, .int .i64 d.h.read, .int .i64 d.h.slip, .int .i64 d.h.skew, .int .i64 d.h.circ, .int .i64 d.h.lo, .int .i64 d.h.hi, .int .i64 d.h.wrong, .slice A2 d.l.length c2'] 56)
  obtain ⟨l0, c0, f0⟩ := o3
  clear G0 G1 G2
  go_wp2
  go_loopg [4] d.O.length (fun K y wr => ∃ k : Nat, K + k = d.O.length ∧ y = .int .i64 k ∧ Own wr w.heap.size (dsC A B C cA cB cC d) ∧ Own wr w3.heap.size (dsC A0 (some ⟨g1, 0, none⟩) A2 c0' c1' c2' d) ∧ Gro wr w2.heap.size 53 2 (.slice A0 d.P.length c0') (d.P.map ptrow) ∧ Gro wr w2.heap.size 3 1 (.slice (some ⟨g1, 0, none⟩) d.O.length c1') ((List.replicate k 0 ++ d.O.drop k).map irow) ∧ Gro wr w2.heap.size 36 5 (.slice A2 d.l.length c2') (d.l.map wkrow) ∧ Below w.heap.size w wr)
  case atStart => exact ⟨0, by omega, rfl, s0, q7, F0, (by simpa using F1), F2, hB4⟩
  case round =>
    clear s0 q7 F0 F1 F2 hB4 hB3 l0 c0 f0
    obtain ⟨k, hk, rfl, s0, q7, F0, F1, F2, hBr⟩ := hrel
    have S0 := Lib.hid s0
    have Q7 := Lib.hid q7
    obtain ⟨l0, c0, f0⟩ := s0
    obtain ⟨l7, c7, f7⟩ := q7
    by_cases hlt : k < d.O.length
    · obtain ⟨x, hx⟩ : ∃ g, Hid (d.O[k]? = some g) := ⟨d.O[k], by simp [Hid, hlt]⟩
      have HROW := Lib.hid (fill_at hx.out)
      have z0 : wr.cell? ⟨g1, k, none⟩ = some (.int .i64 x) := by simpa using F1.cell HROW.out (c := 0) rfl
      have zf := fun j => F1.free j
      go_wp2
      have hne0 := F0.apart F1 (by decide)
      have hne2 := F2.apart F1 (by decide)
      have F1' := F1.set HROW.out (c := 0) (by omega) (.int .i64 0)
      rw [fill_row hx.out, Nat.mul_one, Nat.add_zero] at F1'
      have F0' := F0.setRow (j := k) hne0 (.int .i64 0)
      have F2' := F2.setRow (j := k) hne2 (.int .i64 0)
      have t0 := S0.out.setOther (a := ⟨g1, k, none⟩) (by show g1 ≠ _; omega) (.int .i64 0)
      have t7 := Q7.out.setOther (a := ⟨g1, k, none⟩) (by show g1 ≠ _; omega) (.int .i64 0)
      have hB' : Below w.heap.size w (wr.setCell ⟨g1, k, none⟩ (.int .i64 0)) := by (repeat' (first | (with_reducible exact Below.refl _ _) | (with_reducible assumption) | (with_reducible refine Below.drew ?_) | (with_reducible refine below_drewN ?_ _) | (with_reducible refine Below.setCell ?_ ?_ _) | (with_reducible refine Below.alloc ?_ ?_ _) | (refine Below.trans ?_ (Below.mono (by with_reducible assumption) ?_)) | omega | (exact Below.size (by with_reducible assumption)) | (simp; done) | (simp; omega)))
      clear S0 Q7 z0 zf hne0 hne2 F0 F1 F2 l0 c0 f0 l7 c7 f7
      have hO6 : d.O.length ≤ 6 := by have := HD.out.six; have := HD.out.ol; omega
      go_wp2
      go_roundg (d.O.length - (k + 1))
      case measure => omega
      case rel => exact ⟨k + 1, by omega, (by rw [IntWalk.wrap64_in _ (by omega)]; rfl), t0, t7, F0', F1', F2', hB'⟩
    · have hkn : k = d.O.length := by omega
      subst hkn
      rw [List.drop_eq_nil_of_le (Nat.le_refl _), List.append_nil] at F1
      obtain ⟨_, _, e0, R0⟩ := F0.out
      simp only [List.length_map, Value.slice.injEq] at e0
      obtain ⟨rfl, _, rfl⟩ := e0
      obtain ⟨_, _, e1, R1⟩ := F1.out
      simp only [List.length_map, List.length_replicate, Value.slice.injEq] at e1
      obtain ⟨rfl, _, rfl⟩ := e1
      obtain ⟨_, _, e2, R2⟩ := F2.out
      simp only [List.length_map, Value.slice.injEq] at e2
      obtain ⟨rfl, _, rfl⟩ := e2
      have K0 := Lib.hid R0
      have K1 := Lib.hid (show RdI wr (some ⟨g1, 0, none⟩) (List.replicate d.O.length 0) from R1)
      have K2 := Lib.hid R2
      have HB4 := hBr
      clear F0 F1 F2 R0 R1 R2 hBr hk hlt
      have har := Dp.area_bd HD.out.ok
      obtain ⟨a, haa⟩ : ∃ a, Pl.area d.P = a := ⟨_, rfl⟩
      rw [haa] at har
      have HCT := Lib.hid (fun W (q : Rd 2 W A (d.P.map ptrow)) => cTup (show (if Pl.ok d.P = true then Pl.area d.P else 0) = a by rw [HD.out.ok]; exact haa) (show (if Pl.ok d.P = true then (0 : Int) else 20) = 0 by rw [HD.out.ok]; rfl) (ctwW A d.P.length cA d.P W q rfl (by have := HD.out.six; omega)))
      go_wp2_with fail
      refine (HCT.out _ (HA.out.below HB4 (Nat.le_refl _))).mono ?_
      rintro e w6 ⟨rfl, hb6⟩
      have o6 := S0.out.below hb6 S0.out.lt
      have p6 := Q7.out.below hb6 Q7.out.lt
      have hB6 := HB4.trans (hb6.mono HB4.size)
      have J0 := Lib.hid (K0.out.below hb6 (Nat.le_refl _))
      have J1 := Lib.hid (show RdI w6 (some ⟨g1, 0, none⟩) (List.replicate d.O.length 0) from K1.out.below hb6 (Nat.le_refl _))
      have J2 := Lib.hid (K2.out.below hb6 (Nat.le_refl _))
      clear S0 Q7 K0 K1 K2 HB4 hb6 HCT l0 c0 f0 l7 c7 f7
      obtain ⟨q, hq⟩ : ∃ q, (max a (-a)).tdiv d.u = q := ⟨_, rfl⟩
      have hqa : Dp.ar d d.P = q := by unfold Dp.ar; rw [haa]; exact hq
      have hqb := Dp.ar_bd HD.out.un HD.out.ok
      rw [hqa] at hqb
      have HQA := Lib.hid hqa
      have hu := HD.out.un
      have hwn : IntKind.i64.wrap (-a) = -a := IntWalk.i64_in _ (by omega)
      have hwq : IntKind.i64.wrap ((max a (-a)).tdiv d.u) = q := by rw [hq]; exact IntWalk.i64_in _ (by omega)
      have hu0 : (d.u == 0) = false := by simp; omega
      have O6 := Lib.hid o6
      have P6 := Lib.hid p6
      obtain ⟨l0, c0, f0⟩ := o6
      obtain ⟨l7, c7, f7⟩ := p6
      clear haa hqa hq
      go_wp2_with fail
      refine (dFewest0W d A0 (some ⟨g1, 0, none⟩) A2 c0' c1' c2' _ HD J0.out J1.out J2.out).mono ?_
      rintro e w7 ⟨n1, e1, rfl, hF1, hb7⟩
      have o7 := O6.out.below hb7 O6.out.lt
      have p7 := P6.out.below hb7 P6.out.lt
      have hB7 := hB6.trans (hb7.mono hB6.size)
      have K0 := Lib.hid (J0.out.below hb7 (Nat.le_refl _))
      have K1 := Lib.hid (show RdI w7 (some ⟨g1, 0, none⟩) (List.replicate d.O.length 0) from J1.out.below hb7 (Nat.le_refl _))
      have K2 := Lib.hid (J2.out.below hb7 (Nat.le_refl _))
      clear O6 P6 J0 J1 J2 hb7 hB6 l0 c0 f0 l7 c7 f7
      have O7 := Lib.hid o7
      obtain ⟨l0, c0, f0⟩ := o7
      obtain ⟨l7, c7, f7⟩ := p7
      go_wp2_with fail
      refine (dWalks0W d A0 (some ⟨g1, 0, none⟩) A2 c0' c1' c2' _ HD K0.out K1.out K2.out).mono ?_
      rintro e w8 ⟨n2, e2, rfl, hF2, hb8⟩
      have o8 := O7.out.below hb8 O7.out.lt
      have hB8 := hB7.trans (hb8.mono hB7.size)
      clear O7 K0 K1 K2 hb8 hB7 l0 c0 f0 l7 c7 f7
      have O8 := Lib.hid o8
      by_cases hgs : Dp.guess d q
      · have HG := Lib.hid (show Dp.guess d (Dp.ar d d.P) by rw [HQA.out]; exact hgs)
        obtain ⟨m, hm⟩ : ∃ m, Dp.minW d = m := ⟨_, rfl⟩
        obtain ⟨rfl, rfl⟩ := Dp.firm_yes HD.out HG.out (fun _ => rfl) hF1.out
        obtain ⟨rfl, rfl⟩ := Dp.firm_yes HD.out HG.out (Dp.firm_P1 d) hF2.out
        rw [hm]
        have hmW : Wl.fewS (Wl.hOne d.h q) d.l (Sh.allP q q (-d.h.skew) d.h.skew) = m := by rw [← hm]; unfold Dp.minW; rw [HQA.out]
        have hV1 : WhV (Wl.hOne d.h q) d.l := Wl.hOne_v HD.out.wh hgs
        have HMW := Lib.hid (fun W (k : Rd 5 W C (d.l.map wkrow)) => wFewestW (Wl.hOne d.h q) C d.l d.l.length cC W k (Lib.hid rfl) (Lib.hid hV1))
        rw [show Sh.allP (Wl.hOne d.h q).lo (Wl.hOne d.h q).hi (-(Wl.hOne d.h q).skew) (Wl.hOne d.h q).skew = Sh.allP q q (-d.h.skew) d.h.skew from rfl, hmW] at HMW
        obtain ⟨hg1', hg2'⟩ : d.h.lo ≤ q ∧ q ≤ d.h.hi := hgs
        clear hF1 hF2 hmW hm
        obtain ⟨l0, c0, f0⟩ := o8
        go_wp2_with fail
        refine (HMW.out _ (HC.out.below (hB8.alloc hB8.size _) (Nat.le_refl _))).mono ?_
        rintro e w9 ⟨rfl, hb9⟩
        have hB9 := (hB8.alloc hB8.size _).trans (hb9.mono (hB8.alloc hB8.size _).size)
        clear hb9 l0 c0 f0
        go_wp2_with fail
        refine (disputedW _).mono ?_
        rintro e w10 ⟨rfl, hb10⟩
        go_wp2
        go_ret
        exact ⟨rfl, hB9.trans (hb10.mono hB9.size)⟩
      · have HG : ¬Dp.guess d (Dp.ar d d.P) := by rw [HQA.out]; exact hgs
        obtain rfl := Dp.firm_no HG hF1.out
        obtain rfl := Dp.firm_no HG hF2.out
        clear hF1 hF2
        obtain ⟨l0, c0, f0⟩ := o8
        by_cases hql : q < d.h.lo
        · go_wp2_with fail
          refine (disputedW _).mono ?_
          rintro e w9 ⟨rfl, hb9⟩
          go_wp2
          go_ret
          exact ⟨rfl, hB8.trans (hb9.mono hB8.size)⟩
        · have hqh : d.h.hi < q := by
            unfold Dp.guess at hgs; omega
          go_wp2_with fail
          refine (disputedW _).mono ?_
          rintro e w9 ⟨rfl, hb9⟩
          go_wp2
          go_ret
          exact ⟨rfl, hB8.trans (hb9.mono hB8.size)⟩
end Go.Proofs.Ytgmhelclofnpkaa
